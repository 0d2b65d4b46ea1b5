/- Package records: must, a reader's number and text, which give up where there is none. A region that draws its order and in which one call gives up: each operation met once. Package records: what Read calls: Placed, the first text of a key, the closure that is laid aside. Package records: the closure that Read lays aside. Package records: what stands while Read runs. A region that draws its order, of which some operations write, and in which one call gives up: each operation that may come ahead of it met once. Package records: a reader that is read from inside a region that draws its order. -/
import Derived.Test.YtfglgeoookbppaaGreatDoorPa29
import Derived.Test.YtfglgeoookbppaaGreatDoorPa16
import Derived.Test.YtfglgeoookbppaaGreatDoorPa22
import Derived.Test.YtfglgeoookbppaaGreatDoorPa10

namespace Go.Proofs.YtfglgeoookbppaaGreatDoor
open Go.RowKit Go.Shelf

set_option maxRecDepth 100000 in
set_option maxHeartbeats 400000 in
theorem rvMust_yes (w : World) :
  Calls Tryz.prog 37 #[.bool true] w fun e w' => e = .returned (.tuple #[]) ∧ w = w' := by
 go_enter Tryz.func37, Tryz.ntmps37
 go_wp2
 exact ⟨rfl, Value.tuple #[], by kernel_rfl, rfl, rfl⟩
set_option maxRecDepth 100000 in
set_option maxHeartbeats 400000 in
theorem rvMust_no (w : World) :
  Calls Tryz.prog 37 #[.bool false] w fun e w' => e = .panicked [{ v := .iface 73 (.agg #[]), recovered := false }] ∧ w = w' := by
 go_enter Tryz.func37, Tryz.ntmps37
 go_wp2
 exact ⟨rfl, rfl, rfl⟩
/-- What reading does. -/
def RvRd (w : World) (base r : Nat) (o : Option (Value × List UInt8)) (e : Ending) (w' : World) : Prop := Keeps w w' [r] ∧ match o with
 | some (v, t) => e = .returned v ∧ Rd w' base r t
 | none => e = .panicked [{ v := .iface 73 (.agg #[]), recovered := false }]
set_option maxRecDepth 100000 in
set_option maxHeartbeats 1000000 in
theorem rvNum_any (w : World) (base r k : Nat) (l : List UInt8) (h : Rd w base r l) (hk1 : 1 ≤ k) (hk8 : k ≤ 8) :
  Calls Tryz.prog 40 #[.agg #[.pointer (some ⟨r, 0, none⟩)], .int .i64 k] w (RvRd w base r ((rdN k l).map fun (n, t) => (.int .i64 (wrap64 (n : Nat)), t))) := by
 have ka : Keeps w (w.alloc (.cells #[.pointer (some ⟨r, 0, none⟩)] 80)) [] := Keeps.alloc _ _
 have HA := Lib.hid ka
 have HN := Lib.hid (rdNumber_is _ base r k l (h.keep ka (by simp)) hk1 hk8)
 clear ka h
 obtain ⟨o, ho⟩ : ∃ o, rdN k l = o := ⟨_, rfl⟩
 rw [ho] at HN ⊢
 clear ho
 go_enter Tryz.func40, Tryz.ntmps40
 go_wp2_with fail
 refine HN.out.mono ?_
 cases o with
 | none =>
  rintro e w2 ⟨hk2, rfl, hrd2⟩
  have H2 := Lib.hid (And.intro (HA.out.weaken (T := [r]) (by simp)) hk2)
  clear hk2 hrd2
  go_wp2_with (go_at_call 37; refine (rvMust_no _).mono ?_; rintro e w' ⟨rfl, rfl⟩)
  exact ⟨rfl, H2.out.1.trans H2.out.2 (by simp), rfl⟩
 | some p =>
  obtain ⟨n, t⟩ := p
  rintro e w2 ⟨hk2, rfl, hrd2⟩
  have H2 := Lib.hid (And.intro (And.intro (HA.out.weaken (T := [r]) (by simp)) hk2) hrd2)
  clear hk2 hrd2
  go_wp2_with (go_at_call 37; refine (rvMust_yes _).mono ?_; rintro e w' ⟨rfl, rfl⟩)
  go_ret
  exact ⟨H2.out.1.1.trans H2.out.1.2 (by simp), rfl, H2.out.2⟩
set_option maxRecDepth 100000 in
set_option maxHeartbeats 1000000 in
theorem rvTxt_any (w : World) (base r : Nat) (l : List UInt8) (h : Rd w base r l) :
  Calls Tryz.prog 41 #[.agg #[.pointer (some ⟨r, 0, none⟩)]] w (RvRd w base r ((rdTx l).map fun (s, t) => (strV s, t))) := by
 have ka : Keeps w (w.alloc (.cells #[.pointer (some ⟨r, 0, none⟩)] 80)) [] := Keeps.alloc _ _
 have HA := Lib.hid ka
 have HN := Lib.hid (rdText_is _ base r l (h.keep ka (by simp)))
 clear ka h
 obtain ⟨o, ho⟩ : ∃ o, rdTx l = o := ⟨_, rfl⟩
 rw [ho] at HN ⊢
 clear ho
 go_enter Tryz.func41, Tryz.ntmps41
 go_wp2_with fail
 refine HN.out.mono ?_
 cases o with
 | none =>
  rintro e w2 ⟨hk2, rfl, hrd2⟩
  have H2 := Lib.hid (And.intro (HA.out.weaken (T := [r]) (by simp)) hk2)
  clear hk2 hrd2
  go_wp2_with (go_at_call 37; refine (rvMust_no _).mono ?_; rintro e w' ⟨rfl, rfl⟩)
  exact ⟨rfl, H2.out.1.trans H2.out.2 (by simp), rfl⟩
 | some p =>
  obtain ⟨s, t⟩ := p
  rintro e w2 ⟨hk2, rfl, hrd2⟩
  have H2 := Lib.hid (And.intro (And.intro (HA.out.weaken (T := [r]) (by simp)) hk2) hrd2)
  clear hk2 hrd2
  go_wp2_with (go_at_call 37; refine (rvMust_yes _).mono ?_; rintro e w' ⟨rfl, rfl⟩)
  go_ret
  exact ⟨H2.out.1.1.trans H2.out.1.2 (by simp), rfl, H2.out.2⟩
end Go.Proofs.YtfglgeoookbppaaGreatDoor

namespace Go.Proofs.YtfglgeoookbppaaGreatDoor
open Go.RowKit

section
variable (P : Program) (ops : Array Oper) (a0 : Act) (Q : Exit → Act → World → Prop)
/-- The call gives up, and what is asked then stands whatever the region has brought up. -/
structure opDies (a : Act) (o : Oper) (W : World) : Prop where
 out : Region.wanted o (yielded ops a.tmps) = true ∧ ∃ f args W', (execOp a.eval o).run P W = .ok (.enter f args) W' ∧
  Calls P f args W' (fun e w'' => ∃ ch, e = .panicked ch ∧ ∀ a' : Act, a'.defers = a0.defers → (∀ t, (∀ (k : Nat) (o : Oper), ops[k]? = some o → o.dst ≠ some t) → a'.tmps[t]? = a0.tmps[t]?) → Q (.panic ch) a' w'')
end
theorem off_all {ops : Array Oper} {t : Tmp} (h : (ops.all fun o => o.dst != some t) = true) : ∀ (k : Nat) (o : Oper), ops[k]? = some o → o.dst ≠ some t := fun k o ho => by
 have := Array.all_eq_true_iff_forall_mem.1 h o (Array.mem_of_getElem? ho)
 simpa using this
section
variable {P : Program} {R : World → World → Prop} {w0 : World} {ops : Array Oper} {vals : Tmp → Value}
theorem opDies_congr {a0 a a' : Act} {o : Oper} {Q : Exit → Act → World → Prop} {W : World} (hsel : ∀ cs b, o.op ≠ .select cs b) (h : ∀ t ∈ o.looksAt ops, a.tmps[t]? = a'.tmps[t]?) (hh : opDies P ops a0 Q a o W) : opDies P ops a0 Q a' o W := by
 have he : execOp a.eval o = execOp a'.eval o := execOp_congr o hsel fun x hx => by
  cases x with
  | tmp t =>
   have := h t (List.mem_append_left _ (List.mem_filterMap.2 ⟨.tmp t, by simpa using hx, rfl⟩))
   simp [Act.eval, this]
  | _ => rfl
 have hy : Region.wanted o (yielded ops a.tmps) = Region.wanted o (yielded ops a'.tmps) := by
  unfold Region.wanted
  cases hg : o.guard with
  | none => rfl
  | some gw =>
   obtain ⟨g, want⟩ := gw
   have : yielded ops a.tmps g = yielded ops a'.tmps g := by
    unfold yielded
    cases ht : (ops[g]?).bind (·.dst) with
    | none => rfl
    | some t =>
     have := h t (List.mem_append_right _ (by simp [hg, ht]))
     simp [this]
   simp only [this]
 obtain ⟨hh⟩ := hh
 rw [he, hy] at hh
 exact ⟨hh⟩

theorem loose_dies_sound {n n0 : Nat} {osp : Oper} {a0 : Act} {c : Nat → Option Value} {rd : Nat → List Tmp} {φ : Nat → List Value → Value → World → Prop} {E : Nat → List Ent} {Q : Exit → Act → World → Prop} (htr : ∀ x y z, R x y → R y z → R x z) (hrf : ∀ x, R x x)
  (hB : looseB n ops = true) (hch : Region.chainB .any ops n0 = true) (hosp : ops[n0]? = some osp) (hn : a0.tmps.size = n) (e0 : E 0 = [])
  (hs : ∀ k o, ops[k]? = some o → E (k + 1) = addEnt o.dst (c k) (rd k) (φ k) (E k) ∧ (∀ t ∈ rd k, waitsB ops o t = true) ∧ (k < n0 → ∀ W vals, R w0 W → knows R w0 vals (o.looksAt ops) W (E k) → opOk P R ops (fill vals (E k) a0) o (entOf (c k) (φ k ((rd k).map vals))) W))
  (hq : ∀ W vals, R w0 W → knows R w0 vals (osp.looksAt ops) W (E n0) → opDies P ops a0 Q (fill vals (E n0) a0) osp W) :
  ∀ (fuel : Nat) (listed : Array Bool) (a : Act) (W : World), unlisted listed ≤ fuel → (∀ t, n0 ≤ t → t < ops.size → listed.getD t true = false) → LooseInv R w0 ops a0 c rd φ listed a W → wpAny P .any ops Q fuel listed a W := by
 obtain ⟨b0, b1, b2, b3, b4⟩ := looseB_spec hB
 have hs1 := fun k o ho => (hs k o ho).1
 have hrd := fun k o ho => (hs k o ho).2.1
 have hn0 : n0 < ops.size := (Array.getElem?_eq_some_iff.1 hosp).1
 intro fuel
 induction fuel with
 | zero =>
  intro listed a W hu htl hI
  have := (unlisted_set (htl n0 (Nat.le_refl _) hn0)).1
  omega
 | succ fuel ih =>
  intro listed a W hu htl hI
  refine ⟨fun hr => ?_, fun i hi => ?_⟩
  ·exfalso
   have hall : ∀ m k, k < m → k < n0 → listed.getD k false = true := by
    intro m
    induction m with
    | zero => intro k h; omega
    | succ m ih =>
     intro k hk hks
     cases hl : listed.getD k false with
     | true => rfl
     | false =>
      exfalso
      have ho : ops[k]? = some (ops[k]'(by omega)) := Array.getElem?_eq_getElem (by omega)
      have hl' : listed.getD k true = false := by
       have : k < listed.size := by rw [hI.lsize]; omega
       simpa [this] using hl
      have : k ∈ Region.ready .any ops listed := mem_ready.2 ⟨hl', _, ho, fun e he hb => by
       have hlt := b3 k _ ho e he hb
       exact ih e.on (by omega) (by omega)⟩
      rw [hr] at this
      cases this
   have : n0 ∈ Region.ready .any ops listed := mem_ready.2 ⟨htl n0 (Nat.le_refl _) hn0, _, hosp, fun e he hb => by
    have hlt := b3 n0 _ hosp e he hb
    exact hall (e.on + 1) e.on (by omega) hlt⟩
   rw [hr] at this
   cases this
  obtain ⟨hl, o, ho, hall⟩ := mem_ready.1 hi
  have hile : i ≤ n0 := by
   rcases Nat.lt_or_ge n0 i with h | h
   ·exfalso
    have hi' : i < ops.size := (Array.getElem?_eq_some_iff.1 ho).1
    have h1 := List.all_eq_true.1 hch i (List.mem_range.2 hi')
    simp only [Bool.or_eq_true, decide_eq_true_eq] at h1
    rcases h1 with h1 | h1
    ·omega
    ·obtain ⟨o', ho', e, he, hb, hon⟩ := Region.waitsFor_spec h1
     have : o' = o := Option.some.inj (ho'.symm.trans ho)
     subst this
     have h2 := hall e he hb
     rw [hon, getD_both (htl (i - 1) (by omega) (by omega))] at h2
     cases h2
   ·exact h
  have hfrm : ∀ (E' : List Ent), E' = E i → (∀ t ∈ o.looksAt ops, (fill (fun t => a.tmps.getD t undef) E' a0).tmps[t]? = a.tmps[t]?) := fun E' hE' t ht => by
   subst hE'
   by_cases hd : ∃ (k : Nat) (o' : Oper), ops[k]? = some o' ∧ o'.dst = some t
   ·obtain ⟨k, o', ho', hd⟩ := hd
    rcases b4 i o t k o' ho ht ho' hd with ⟨hk, e, he, hb, hon⟩ | ⟨hk, e, he, hb, hon⟩
    case inr =>
     rw [fill_far a0 e0 hs1 t i (by omega) (fun j o2 hj ho2 hdd => by have := b2 j k o2 o' t ho2 ho' hdd hd; omega)]
     refine (hI.off t (fun k2 o2 ho2 hdd => ?_)).symm
     obtain rfl := b2 k2 k o2 o' t ho2 ho' hdd hd
     cases hlk : listed.getD k2 false with
     | false => rfl
     | true =>
      have := hI.dep k2 o' ho' hlk e he hb
      rw [hon] at this
      have hil : listed.getD i false = false := by
       have hi := (unlisted_set hl).2
       simpa [hi] using hl
      rw [hil] at this
      cases this
    rw [fill_near a0 hs1 b2 t (by rw [hn]; exact b1 k o' t ho' hd) k o' ho' hd i (by omega) hk]
    obtain ⟨v, hv, W0, _, _, h3⟩ := hI.on k o' t ho' hd (hon ▸ hall e he hb)
    rw [hv]
    cases hc : c k with
    | none => simp [hv]
    | some u => simp [entOf, hc] at h3; simp [h3]
   ·rw [fill_far a0 e0 hs1 t i (by omega) (fun j o' _ ho' hdd => hd ⟨j, o', ho', hdd⟩)]
    exact (hI.off t (fun k o' ho' hdd => absurd ⟨k, o', ho', hdd⟩ hd)).symm
  by_cases hin0 : i = n0
  ·subst hin0
   obtain rfl : osp = o := Option.some.inj (hosp.symm.trans ho)
   have hd := opDies_congr (a' := a) (Region.noSelect_spec b0 i osp · · ho) (hfrm _ rfl) (hq W (fun t => a.tmps.getD t undef) hI.world (knows_table e0 hs1 (osp.looksAt ops) i (by omega) (fun j o' t hj ho' hd ht hc => by
   obtain ⟨_, e, he, hb, hon⟩ := (b4 i osp t j o' ho ht ho' hd).resolve_right (fun h => absurd h.1 (by omega))
   obtain ⟨v, hv, W0, h1, h2, h3⟩ := hI.on j o' t ho' hd (hon ▸ hall e he hb)
   refine ⟨W0, h1, h2, ?_⟩
   have : a.tmps.getD t undef = v := by simp [hv]
   show φ j _ (a.tmps.getD t undef) W0
   rw [this]
   simpa [entOf, hc] using h3)))
   obtain ⟨hwt, f, args, W', hrun, hcalls⟩ := hd.out
   unfold wpOp
   simp only [ho, hwt, if_true]
   left
   unfold Oper.wp
   rw [hrun]
   exact hcalls.mono fun e w'' ⟨ch, he, hQ⟩ => by
    subst he
    refine hQ a hI.defers fun t hnt => hI.off t fun k o ho hdd => absurd hdd (hnt k o ho)
  have hin : i < n0 := by omega
  have hus := (unlisted_set hl).1
  have hi' : i < ops.size := (Array.getElem?_eq_some_iff.1 ho).1
  have hop := (hs i o ho).2.2 hin W (fun t => a.tmps.getD t undef) hI.world (knows_table e0 hs1 (o.looksAt ops) i (by omega) (fun j o' t hj ho' hd ht hc => by
   obtain ⟨_, e, he, hb, hon⟩ := (b4 i o t j o' ho ht ho' hd).resolve_right (fun h => absurd h.1 (by omega))
   obtain ⟨v, hv, W0, h1, h2, h3⟩ := hI.on j o' t ho' hd (hon ▸ hall e he hb)
   refine ⟨W0, h1, h2, ?_⟩
   have : a.tmps.getD t undef = v := by simp [hv]
   show φ j _ (a.tmps.getD t undef) W0
   rw [this]
   simpa [entOf, hc] using h3))
  have hop := opOk_congr (a' := a) (Region.noSelect_spec b0 i o · · ho) (hfrm _ rfl) hop
  have next : ∀ v W', R W W' → entOf (c i) (φ i ((rd i).map fun t => a.tmps.getD t undef)) v W' → wpAny P .any ops Q fuel (listed.setIfInBounds i true) (a.put o.dst v) W' := fun v W' hR hv =>
   ih _ _ _ (by omega) (fun t ht ht' => by rw [getD_set_ne true (by omega)]; exact htl t ht ht') (looseInv_next htr hrf hB hrd hn hI ho hl hall v hR hv)
  unfold wpOp
  simp only [ho]
  replace hop := hop.out
  split
  ·rename_i hw
   simp only [hw, if_true] at hop
   left
   unfold Oper.wp
   generalize (execOp a.eval o).run P W = r at *
   cases r with
   | ok x w' =>
    cases x <;> simp only [looseUpon] at hop <;> simp only [Oper.upon]
    ·exact next _ _ hop.1 hop.2
    ·exact next _ _ hop.1 hop.2
    ·exact hop.2.mono fun e w'' ⟨v, he, hR, hv⟩ => by subst he; exact next _ _ (htr _ _ _ hop.1 hR) hv
    ·exact hop.2.mono fun v w'' ⟨hR, hv⟩ => next _ _ (htr _ _ _ hop.1 hR) hv
   | halt x w' => simp only [looseUpon] at hop
  ·rename_i hw
   simp only [hw] at hop
   exact next _ _ (hrf _) hop


theorem wp_region_dies {id : Nat} {Q : Exit → Act → World → Prop} {a : Act} {w : World} {l : List Oper} (n n0 : Nat) (osp : Oper) (hosp : l[n0]? = some osp) (hm : P.follows .mixedOrders = true) (hn : a.tmps.size = n)
  (hB : (looseB n l.toArray && Region.chainB .any l.toArray n0) = true)
  (h : wpLoose P KeepsAll w l.toArray a (fun env => ∀ W vals, Keeps w W [] → knows KeepsAll w vals (osp.looksAt l.toArray) W env → opDies P l.toArray a Q (fill vals env a) osp W) (l.take n0) []) : (Code.region id l.toArray true).wp P Q a w := by
 simp only [Bool.and_eq_true] at hB
 have hlt : n0 < l.length := (List.getElem?_eq_some_iff.1 hosp).1
 obtain ⟨E, c, rd, φ, e0, hs, hq⟩ := wpLoose_table_more n0 l (by omega) h
 refine wp_region_any hm (loose_dies_sound (w0 := w) (n0 := n0) (osp := osp) (fun _ _ _ h k => h.trans k (by simp)) (fun _ => Keeps.refl _ _) hB.1 hB.2 (by simpa using hosp) hn e0 (fun k o ho => hs k o (by simpa using ho)) hq _ _ _ _ ?_ (fun t ht ht' => ?_) ⟨Keeps.drew _, rfl, rfl, by simp, fun _ _ => rfl, fun k o d ho _ hk => ?_, fun k o ho _ hk => ?_, fun k o ho hk => ?_⟩)
 ·unfold unlisted
  simp
 ·simp only [List.size_toArray] at ht'
  simp [ht']
 all_goals
  exfalso
  by_cases h' : k < l.length <;> simp [h'] at hk
end
end Go.Proofs.YtfglgeoookbppaaGreatDoor

namespace Go.Proofs.YtfglgeoookbppaaGreatDoor
open Go.RowKit Go.Shelf

theorem rvField (T : ByteArray) (i1 i2 i3 : FuncId) (pl : Bool) (w : World) : (Instr.field 55 (.agg #[.string T, .func (.func i1) #[] #[], .func (.func i2) #[] #[], .func (.func i3) #[] #[], .bool pl]) 4).run Tryz.prog w = .ok (.bool pl) w := by kernel_rfl
set_option maxRecDepth 100000 in
set_option maxHeartbeats 1000000 in
theorem rvPlaced_any (w : World) (k : Int) (hi : rcIs k = true) : Calls Tryz.prog 45 #[.int .i64 k] w (TruePost w (rcPlaced k)) := by
 obtain ⟨T, i1, i2, i3, pl, K⟩ := rcK hi
 have HT := Lib.hid K.pl
 have HO := Lib.hid K.of
 have hb12 : -9223372036854775808 ≤ k ∧ k ≤ 9223372036854775807 := by
  unfold rcIs at hi
  rw [inN_iff] at hi
  omega
 have HB := Lib.hid hb12
 have hfd := rvField T i1 i2 i3 pl
 clear K hi hb12
 go_enter Tryz.func45, Tryz.ntmps45
 go_wp2_with fail
 refine (rcKinds_any _).mono ?_
 rintro e w1 ⟨b, rfl, hb, hk⟩
 have hlk := hb.look k HB.out.1 HB.out.2 false
 rw [HO.out, if_neg (by simp)] at hlk
 have HK := Lib.hid hk
 clear hb hk
 go_wp2_with fail
 go_ret
 exact ⟨by rw [HT.out]; rfl, HK.out⟩
set_option maxRecDepth 100000 in
set_option maxHeartbeats 1000000 in
theorem rvIsText_any (w : World) (k n : Int) (f : Nat) (s : ByteArray) : Calls Tryz.prog 44 #[.agg #[.int .i64 k, .int .i64 n, .float .f64 f, .string s]] w (TruePost w (k == 3)) := by
 have hsf := @run_store_float Tryz.prog
 obtain ⟨q, hq⟩ : ∃ q, (k == 3) = q := ⟨_, rfl⟩
 rw [hq]
 go_enter Tryz.func44, Tryz.ntmps44
 go_wp2_with fail
 go_ret
 exact ⟨rfl, Keeps.alloc _ _⟩
theorem rcCl_nil : rcCl [] = [] := rfl
theorem rcCl_cons (p : KP) (l : List KP) : rcCl (p :: l) = if (p.k == 3) = true then p.s else rcCl l := by
 unfold rcCl
 rw [List.find?_cons]
 cases p.k == 3 <;> rfl
set_option maxRecDepth 100000 in
set_option maxHeartbeats 1000000 in
theorem rvIndex_any (w : World) (A : Option Addr) (c : Nat) (l : List KP) (hL : Lies w w.heap.size A (kFlat l)) (hl : l.length ≤ 1000) :
  Calls Tryz.prog 43 #[.slice A l.length c, .func (.func 44) #[] #[]] w fun e w' => Keeps w w' [] ∧
   ((∃ j, ∃ h : j < l.length, e = .returned (.int .i64 j) ∧ rcCl l = l[j].s) ∨ (e = .returned (.int .i64 (-1)) ∧ rcCl l = [])) := by
 go_enter Tryz.func43, Tryz.ntmps43
 go_wp2_with fail
 go_loopw [8] (fun i wr => ∃ j : Nat, j ≤ l.length ∧ i = .int .i64 j ∧ Hid (rcCl l = rcCl (l.drop j) ∧ Keeps w wr [])) (fun i _ => l.length - (intOf i).toNat)
 case atStart => exact ⟨0, by omega, rfl, Lib.hid ⟨rfl, Keeps.refl _ _⟩⟩
 case round =>
  obtain ⟨j, hj, rfl, HJ⟩ := hrel
  by_cases hjl : j < l.length
  ·obtain ⟨b, o, rfl, hb, hc⟩ := kpAt hL (Nat.le_refl _) hjl
   have HD := Lib.hid (show rcCl l = if (l[j].k == 3) = true then l[j].s else rcCl (l.drop (j + 1)) by rw [HJ.out.1, List.drop_eq_getElem_cons hjl, rcCl_cons])
   obtain ⟨p, hpd⟩ : ∃ p, p = l[j] := ⟨_, rfl⟩
   have HPD := Lib.hid hpd
   rw [← hpd] at hc HD
   obtain ⟨c0, c1, c2, c3⟩ := hc wr HJ.out.2
   have HL := Lib.hid hL
   clear hc hpd hL
   obtain ⟨k, n, f, s⟩ := p
   simp only [strV] at c0 c1 c2 c3 HD
   obtain ⟨q, hq⟩ : ∃ q, (k == 3) = q := ⟨_, rfl⟩
   rw [hq] at HD
   have HC := Lib.hid (fun w => rvIsText_any w k n f ⟨s.toArray⟩)
   rw [hq] at HC
   clear hq
   go_wp2_with fail
   refine (HC.out _).mono ?_
   rintro e w3 ⟨rfl, hk3⟩
   have HK := Lib.hid (HJ.out.2.then_ hk3)
   clear hk3 c0 c1 c2 c3 HC
   cases q with
   | true =>
    go_wp2_with fail
    go_ret
    exact ⟨HK.out, .inl ⟨j, hjl, rfl, by rw [HD.out, ← HPD.out]; rfl⟩⟩
   | false =>
    go_wp2_with fail
    exact ⟨⟨j + 1, by omega, by go_num, Lib.hid ⟨by rw [HD.out]; rfl, HK.out⟩⟩, by simp [intOf]; omega⟩
  ·obtain rfl : j = l.length := by omega
   clear hL
   go_wp2_with fail
   go_ret
   refine ⟨HJ.out.2, .inr ⟨rfl, ?_⟩⟩
   rw [HJ.out.1, List.drop_length, rcCl_nil]
theorem rvIndex2_any (w : World) (A : Option Addr) (c : Nat) (l : List KP) (hL : Lies w w.heap.size A (kFlat l)) (hl : l.length ≤ 1000) :
  Calls Tryz.prog 43 #[.slice A l.length c, .func (.func 44) #[] #[]] w fun e w' => Keeps w w' [] ∧ ∃ i : Int, e = .returned (.int .i64 i) ∧
   ((∃ j, ∃ h : j < l.length, i = (j : Int) ∧ rcCl l = l[j].s) ∨ (i = -1 ∧ rcCl l = [])) :=
 (rvIndex_any w A c l hL hl).mono fun e w' ⟨h1, h2⟩ => ⟨h1, by
  rcases h2 with ⟨j, hj, he, hc⟩ | ⟨he, hc⟩
  ·exact ⟨(j : Int), he, .inl ⟨j, hj, rfl, hc⟩⟩
  ·exact ⟨-1, he, .inr ⟨rfl, hc⟩⟩⟩
abbrev rwZC : Array Value := #[.int .i64 0, .string ⟨#[]⟩, .int .i64 0, .int .i64 0, .string ⟨#[]⟩, .string ⟨#[]⟩, .int .i64 0, .bool false, .int .i64 0]
abbrev rwSet (W : World) (b : Nat) (v0 v1 v2 v3 v4 v5 v6 v7 v8 : Value) : World := ((((((((W.setCell ⟨b, 0, none⟩ v0).setCell ⟨b, 1, none⟩ v1).setCell ⟨b, 2, none⟩ v2).setCell ⟨b, 3, none⟩ v3).setCell ⟨b, 4, none⟩ v4).setCell ⟨b, 5, none⟩ v5).setCell ⟨b, 6, none⟩ v6).setCell ⟨b, 7, none⟩ v7).setCell ⟨b, 8, none⟩ v8
theorem rw_store {W : World} {b : Nat} {cs : Array Value} (h : Row W b 25 cs) (i : Nat) (v : Value) {W' : World} (hW : W.setCell ⟨b, i, none⟩ v = W') {ds : Array Value} (hd : cs.setIfInBounds i v = ds) : Row W' b 25 ds ∧ Keeps W W' [b] := by
 subst hW hd
 exact ⟨h.store i v, Keeps.setCell _ _ _⟩
theorem rwFill9 {W : World} {b : Nat} {u0 u1 u2 u3 u4 u5 u6 u7 u8 : Value} (h : Row W b 25 #[u0, u1, u2, u3, u4, u5, u6, u7, u8]) (v0 v1 v2 v3 v4 v5 v6 v7 v8 : Value) :
  Row (rwSet W b v0 v1 v2 v3 v4 v5 v6 v7 v8) b 25 #[v0, v1, v2, v3, v4, v5, v6, v7, v8] ∧ Keeps W (rwSet W b v0 v1 v2 v3 v4 v5 v6 v7 v8) [b] := by
 unfold rwSet
 obtain ⟨W0, e0⟩ : ∃ W', W.setCell ⟨b, 0, none⟩ v0 = W' := ⟨_, rfl⟩
 obtain ⟨h0, k0⟩ := rw_store h 0 v0 e0 (ds := #[v0, u1, u2, u3, u4, u5, u6, u7, u8]) rfl
 rw [e0]
 obtain ⟨W1, e1⟩ : ∃ W', W0.setCell ⟨b, 1, none⟩ v1 = W' := ⟨_, rfl⟩
 obtain ⟨h1, k1⟩ := rw_store h0 1 v1 e1 (ds := #[v0, v1, u2, u3, u4, u5, u6, u7, u8]) rfl
 rw [e1]
 obtain ⟨W2, e2⟩ : ∃ W', W1.setCell ⟨b, 2, none⟩ v2 = W' := ⟨_, rfl⟩
 obtain ⟨h2, k2⟩ := rw_store h1 2 v2 e2 (ds := #[v0, v1, v2, u3, u4, u5, u6, u7, u8]) rfl
 rw [e2]
 obtain ⟨W3, e3⟩ : ∃ W', W2.setCell ⟨b, 3, none⟩ v3 = W' := ⟨_, rfl⟩
 obtain ⟨h3, k3⟩ := rw_store h2 3 v3 e3 (ds := #[v0, v1, v2, v3, u4, u5, u6, u7, u8]) rfl
 rw [e3]
 obtain ⟨W4, e4⟩ : ∃ W', W3.setCell ⟨b, 4, none⟩ v4 = W' := ⟨_, rfl⟩
 obtain ⟨h4, k4⟩ := rw_store h3 4 v4 e4 (ds := #[v0, v1, v2, v3, v4, u5, u6, u7, u8]) rfl
 rw [e4]
 obtain ⟨W5, e5⟩ : ∃ W', W4.setCell ⟨b, 5, none⟩ v5 = W' := ⟨_, rfl⟩
 obtain ⟨h5, k5⟩ := rw_store h4 5 v5 e5 (ds := #[v0, v1, v2, v3, v4, v5, u6, u7, u8]) rfl
 rw [e5]
 obtain ⟨W6, e6⟩ : ∃ W', W5.setCell ⟨b, 6, none⟩ v6 = W' := ⟨_, rfl⟩
 obtain ⟨h6, k6⟩ := rw_store h5 6 v6 e6 (ds := #[v0, v1, v2, v3, v4, v5, v6, u7, u8]) rfl
 rw [e6]
 obtain ⟨W7, e7⟩ : ∃ W', W6.setCell ⟨b, 7, none⟩ v7 = W' := ⟨_, rfl⟩
 obtain ⟨h7, k7⟩ := rw_store h6 7 v7 e7 (ds := #[v0, v1, v2, v3, v4, v5, v6, v7, u8]) rfl
 rw [e7]
 obtain ⟨W8, e8⟩ : ∃ W', W7.setCell ⟨b, 8, none⟩ v8 = W' := ⟨_, rfl⟩
 obtain ⟨h8, k8⟩ := rw_store h7 8 v8 e8 (ds := #[v0, v1, v2, v3, v4, v5, v6, v7, v8]) rfl
 rw [e8]
 have kk : ∀ {x y z : World}, Keeps x y [b] → Keeps y z [b] → Keeps x z [b] := fun h k => h.trans k (fun _ hx _ => hx)
 exact ⟨h8, kk k0 (kk k1 (kk k2 (kk k3 (kk k4 (kk k5 (kk k6 (kk k7 k8)))))))⟩
end Go.Proofs.YtfglgeoookbppaaGreatDoor

namespace Go.Proofs.YtfglgeoookbppaaGreatDoor
open Go.RowKit Go.Shelf

set_option maxRecDepth 100000 in
set_option maxHeartbeats 1000000 in
theorem rvCatch_idle (p q o : Addr) (w : World) :
  CallsD Tryz.prog 36 #[.pointer (some p), .pointer (some q), .pointer (some o)] .returning w fun e u' w' => e = .returned (.tuple #[]) ∧ u' = .returning ∧ w' = w := by
 refine callsD_of_wpS Tryz.func36 rfl fun c₀ cs hu => ?_
 apply wpS_seq
 apply wpS_region
 simp [wpOpsS, go_sem, recoverD, hu, Tryz.ntmps36, Exit.thenS]
 refine wpS_of_wp ?_
 go_wp2
 cases c₀
 simp_all [bodyPostS, results, Tryz.results36]

set_option maxRecDepth 100000 in
set_option maxHeartbeats 2000000 in
theorem rvCatch_stop (b1 b2 b3 : Nat) (w : World) (u0 u1 u2 u3 u4 u5 u6 u7 u8 v2 v3 : Value) (h1 : Row w b1 25 #[u0, u1, u2, u3, u4, u5, u6, u7, u8]) (h2 : Row w b2 2 #[v2]) (h3 : Row w b3 29 #[v3]) :
  CallsD Tryz.prog 36 #[.pointer (some ⟨b1, 0, none⟩), .pointer (some ⟨b2, 0, none⟩), .pointer (some ⟨b3, 0, none⟩)] (.panicking [{ v := .iface 73 (.agg #[]), recovered := false }]) w fun e u' w' =>
   e = .returned (.tuple #[]) ∧ u' = .panicking [{ v := .iface 73 (.agg #[]), recovered := true }] ∧ Row w' b1 25 rwZC ∧ Row w' b2 2 #[.int .i64 0] ∧ Row w' b3 29 #[.int .i64 290] ∧ Keeps w w' [b1, b2, b3] := by
 refine callsD_of_wpS Tryz.func36 rfl fun c₀ cs hu => ?_
 apply wpS_seq
 apply wpS_region
 simp [wpOpsS, go_sem, recoverD, hu, Tryz.ntmps36, Exit.thenS]
 refine wpS_of_wp ?_
 have hta : ∀ W : World, (Instr.typeAssert (.iface 73 (.agg #[])) 20 73 true).run Tryz.prog W = .ok (.tuple #[.agg #[], .bool true]) W := fun W => by kernel_rfl
 have n12 : b1 ≠ b2 := h1.ne_type h2 (by decide)
 have n13 : b1 ≠ b3 := h1.ne_type h3 (by decide)
 have n23 : b2 ≠ b3 := h2.ne_type h3 (by decide)
 have a1 := h1.alloc (.cells #[] 73)
 have a2 := h2.alloc (.cells #[] 73)
 have a3 := h3.alloc (.cells #[] 73)
 obtain ⟨Wa, hWa⟩ : ∃ Wa, w.alloc (.cells #[] 73) = Wa := ⟨_, rfl⟩
 have ka : Keeps w Wa [] := by rw [← hWa]; exact Keeps.alloc _ _
 rw [hWa] at a1 a2 a3
 obtain ⟨W9, hW9⟩ : ∃ W9, rwSet Wa b1 (.int .i64 0) (.string ⟨#[]⟩) (.int .i64 0) (.int .i64 0) (.string ⟨#[]⟩) (.string ⟨#[]⟩) (.int .i64 0) (.bool false) (.int .i64 0) = W9 := ⟨_, rfl⟩
 obtain ⟨q1, k9⟩ := rwFill9 a1 (.int .i64 0) (.string ⟨#[]⟩) (.int .i64 0) (.int .i64 0) (.string ⟨#[]⟩) (.string ⟨#[]⟩) (.int .i64 0) (.bool false) (.int .i64 0)
 rw [hW9] at q1 k9
 unfold rwSet at hW9
 have q2 := a2.keep k9 (by simpa using n12.symm)
 have q3 := a3.keep k9 (by simpa using n13.symm)
 have x0 := a1.cell 0
 have x1 := a1.cell 1
 have x2 := a1.cell 2
 have x3 := a1.cell 3
 have x4 := a1.cell 4
 have x5 := a1.cell 5
 have x6 := a1.cell 6
 have x7 := a1.cell 7
 have x8 := a1.cell 8
 simp only [List.getElem?_toArray, List.getElem?_cons_zero, List.getElem?_cons_succ] at x0 x1 x2 x3 x4 x5 x6 x7 x8
 have g0 := a1.frozen 0
 have g1 := a1.frozen 1
 have g2 := a1.frozen 2
 have g3 := a1.frozen 3
 have g4 := a1.frozen 4
 have g5 := a1.frozen 5
 have g6 := a1.frozen 6
 have g7 := a1.frozen 7
 have g8 := a1.frozen 8
 have HH := Lib.hid (And.intro q1 (And.intro q2 (And.intro q3 (And.intro ((ka.weaken (T := [b1]) (by simp)).trans k9 (fun _ h _ => h)) (And.intro n12 (And.intro n13 n23))))))
 have c2 := q2.cell 0
 have f2 := q2.frozen 0
 have r3 := q3.far (p := ⟨b2, 0, none⟩) n23.symm (.int .i64 0)
 have c3 := r3.cell 0
 have f3 := r3.frozen 0
 simp only [List.getElem?_toArray, List.getElem?_cons_zero] at c2 c3
 have H3 := Lib.hid r3
 clear a1 a2 a3 ka q1 q2 q3 k9 r3 n12 n13 n23 h1 h2 h3
 rw [show (#[Value.pointer (some ⟨b1, 0, none⟩), Value.pointer (some ⟨b2, 0, none⟩), Value.pointer (some ⟨b3, 0, none⟩)] ++ ((Array.replicate 10 undef).setIfInBounds 3 (Value.iface 73 (Value.agg #[]))) : Array Value) = #[Value.pointer (some ⟨b1, 0, none⟩), Value.pointer (some ⟨b2, 0, none⟩), Value.pointer (some ⟨b3, 0, none⟩), undef, undef, undef, Value.iface 73 (Value.agg #[]), undef, undef, undef, undef, undef, undef] from rfl]
 go_wp2
 have w2 := HH.out.2.1.store 0 (.int .i64 0)
 have z2 := w2.far (p := ⟨b3, 0, none⟩) HH.out.2.2.2.2.2.2 (.int .i64 290)
 have z3 := H3.out.store 0 (.int .i64 290)
 have z1 := ((HH.out.1.far (p := ⟨b2, 0, none⟩) HH.out.2.2.2.2.1 (.int .i64 0)).far (p := ⟨b3, 0, none⟩) HH.out.2.2.2.2.2.1 (.int .i64 290))
 have hk : Keeps w ((W9.setCell ⟨b2, 0, none⟩ (.int .i64 0)).setCell ⟨b3, 0, none⟩ (.int .i64 290)) [b1, b2, b3] :=
  ((HH.out.2.2.2.1.weaken (T := [b1, b2, b3]) (by simp)).trans (Keeps.setCell _ _ _) (by simp)).trans (Keeps.setCell _ _ _) (by simp)
 simp [bodyPostS, results, Tryz.results36]
 exact ⟨by simpa using z1, by simpa using z2, by simpa using z3, hk⟩
end Go.Proofs.YtfglgeoookbppaaGreatDoor

namespace Go.Proofs.YtfglgeoookbppaaGreatDoor
open Go.RowKit Go.Shelf

theorem conv_by3 (w : World) (l : List UInt8) (hl : l.length ≤ 140737488351232) : ∃ cap w', (convert 9 39 (.string ⟨l.toArray⟩)).run Tryz.prog w = .ok (.slice (some ⟨w.heap.size, 0, none⟩) l.length cap) w' ∧ Bytes w' w'.heap.size (.slice (some ⟨w.heap.size, 0, none⟩) l.length cap) l ∧ Keeps w w' [] := by
 refine ⟨_, _, Lib.run_convert_string_bytes w _ _ _ ⟨l.toArray⟩ undString undBytes undByte, ⟨_, _, rfl, grownCap_ge _ _ _ _, (fun h => by cases h), grownCap_le_maxLen w _ _ _ (show l.length ≤ maxLen by unfold maxLen; omega), hl, fun _ => ⟨_, _, rfl, by rw [Lib.bytesWorld_size]; omega, fun j u hu => ?_⟩⟩, ⟨rfl, rfl, rfl, by rw [Lib.bytesWorld_size]; omega, fun k hk _ => Lib.bytesWorld_at_old w _ _ k hk⟩⟩
 have hj : j < l.length := by
  have := (List.getElem?_eq_some_iff.1 hu).1
  simpa using this
 rw [Nat.zero_add, Lib.bytesWorld_cell w 5 ⟨l.toArray⟩ j (show j < l.length from hj), ← hu]
 simp [byteV, List.getD_eq_getElem?_getD, List.getElem?_eq_getElem hj]
/-- The three results' cells, and that nothing else that lay was changed. -/
structure RvSt (w W : World) (B : Nat) (cs : Array Value) (p e : Value) : Prop where
 k : Keeps w W []
 r1 : Row W B 25 cs
 r2 : Row W (B + 1) 2 #[p]
 r3 : Row W (B + 1 + 1) 29 #[e]
 hB : w.heap.size ≤ B
 sz : cs.size = 9
theorem array9 {cs : Array Value} (h : cs.size = 9) : ∃ u0 u1 u2 u3 u4 u5 u6 u7 u8, cs = #[u0, u1, u2, u3, u4, u5, u6, u7, u8] := by
 obtain ⟨l⟩ := cs
 simp only [List.size_toArray] at h
 match l, h with
 | [a0, a1, a2, a3, a4, a5, a6, a7, a8], _ => exact ⟨a0, a1, a2, a3, a4, a5, a6, a7, a8, rfl⟩
section
variable {w W W' : World} {B : Nat} {cs : Array Value} {p e : Value}
theorem RvSt.go (h : RvSt w W B cs p e) (hk : Keeps W W' []) : RvSt w W' B cs p e := ⟨h.k.then_ hk, h.r1.keeps hk, h.r2.keeps hk, h.r3.keeps hk, h.hB, h.sz⟩
theorem RvSt.goR {r : Nat} (h : RvSt w W B cs p e) (hk : Keeps W W' [r]) (hr : B + 1 + 1 < r) : RvSt w W' B cs p e :=
 ⟨h.k.trans hk (fun x hx hlt => by have := h.hB; simp at hx; omega), h.r1.keep hk (by simp; omega), h.r2.keep hk (by simp; omega), h.r3.keep hk (by simp; omega), h.hB, h.sz⟩
theorem RvSt.err (h : RvSt w W B cs p e) (v : Value) : RvSt w (W.setCell ⟨B + 1 + 1, 0, none⟩ v) B cs p v ∧ Keeps W (W.setCell ⟨B + 1 + 1, 0, none⟩ v) [B + 1 + 1] := by
 have hk : Keeps W (W.setCell ⟨B + 1 + 1, 0, none⟩ v) [B + 1 + 1] := Keeps.setCell _ _ _
 exact ⟨⟨h.k.trans hk (fun x hx hlt => by have := h.hB; simp at hx; omega), h.r1.keep hk (by simp; omega), h.r2.keep hk (by simp), by simpa using h.r3.store 0 v, h.hB, h.sz⟩, hk⟩
theorem RvSt.place (h : RvSt w W B cs p e) (v : Value) : RvSt w (W.setCell ⟨B + 1, 0, none⟩ v) B cs v e ∧ Keeps W (W.setCell ⟨B + 1, 0, none⟩ v) [B + 1] := by
 have hk : Keeps W (W.setCell ⟨B + 1, 0, none⟩ v) [B + 1] := Keeps.setCell _ _ _
 exact ⟨⟨h.k.trans hk (fun x hx hlt => by have := h.hB; simp at hx; omega), h.r1.keep hk (by simp), by simpa using h.r2.store 0 v, h.r3.keep hk (by simp), h.hB, h.sz⟩, hk⟩
theorem RvSt.cell (h : RvSt w W B cs p e) (i : Nat) (v : Value) : RvSt w (W.setCell ⟨B, i, none⟩ v) B (cs.setIfInBounds i v) p e ∧ Keeps W (W.setCell ⟨B, i, none⟩ v) [B] := by
 have hk : Keeps W (W.setCell ⟨B, i, none⟩ v) [B] := Keeps.setCell _ _ _
 exact ⟨⟨h.k.trans hk (fun x hx hlt => by have := h.hB; simp at hx; omega), h.r1.store i v, h.r2.keep hk (by simp), h.r3.keep hk (by simp; omega), h.hB, by simp [h.sz]⟩, hk⟩
theorem RvSt.row (h : RvSt w W B cs p e) (v0 v1 v2 v3 v4 v5 v6 v7 v8 : Value) : RvSt w (rwSet W B v0 v1 v2 v3 v4 v5 v6 v7 v8) B #[v0, v1, v2, v3, v4, v5, v6, v7, v8] p e ∧ Keeps W (rwSet W B v0 v1 v2 v3 v4 v5 v6 v7 v8) [B] := by
 obtain ⟨u0, u1, u2, u3, u4, u5, u6, u7, u8, rfl⟩ := array9 h.sz
 obtain ⟨q1, hk⟩ := rwFill9 h.r1 v0 v1 v2 v3 v4 v5 v6 v7 v8
 exact ⟨⟨h.k.trans hk (fun x hx hlt => by have := h.hB; simp at hx; omega), q1, h.r2.keep hk (by simp), h.r3.keep hk (by simp; omega), h.hB, rfl⟩, hk⟩
end
abbrev rvDefer (B : Nat) : Deferred := { target := Target.fn (Fn.func 36) #[.pointer (some ⟨B, 0, none⟩), .pointer (some ⟨B + 1, 0, none⟩), .pointer (some ⟨B + 1 + 1, 0, none⟩)], args := #[] }
/-- What Read answers. -/
def RvPost (w : World) (T K V : List UInt8) (e : Ending) (w' : World) : Prop := Keeps w w' [] ∧
 ((∃ x p, RvIs T K V x p ∧ e = .returned (.tuple #[rwV x, .int .i64 p, .int .i64 0])) ∨ ((∀ x p, ¬ RvIs T K V x p) ∧ e = .returned (.tuple #[rwV rwZ, .int .i64 0, .int .i64 290])))
set_option maxRecDepth 100000 in
theorem rvRead_dies {T K V : List UInt8} {w : World} (W : World) (t : Array Value) (B : Nat) {cs : Array Value} {p e : Value} (st : RvSt w W B cs p e) (hno : ∀ x q, ¬ RvIs T K V x q) (h6 : t.getD 6 undef = .pointer (some ⟨B, 0, none⟩)) (h7 : t.getD 7 undef = .pointer (some ⟨B + 1, 0, none⟩)) (h8 : t.getD 8 undef = .pointer (some ⟨B + 1 + 1, 0, none⟩)) :
  bodyPostD Tryz.prog Tryz.f16 (RvPost w T K V) (Exit.panic [{ v := .iface 73 (.agg #[]), recovered := false }]) { tmps := t, defers := [rvDefer B] } W := by
 obtain ⟨u0, u1, u2, u3, u4, u5, u6, u7, u8, rfl⟩ := array9 st.sz
 refine leaves_cons (f := 36) (args := #[.pointer (some ⟨B, 0, none⟩), .pointer (some ⟨B + 1, 0, none⟩), .pointer (some ⟨B + 1 + 1, 0, none⟩)]) (by simp) (by simp [go_sem]) ?_
 refine (rvCatch_stop B (B + 1) (B + 1 + 1) W _ _ _ _ _ _ _ _ _ _ _ st.r1 st.r2 st.r3).mono ?_
 rintro e u' w'' ⟨rfl, rfl, q1, q2, q3, hk⟩
 have x0 := q1.cell 0
 have x1 := q1.cell 1
 have x2 := q1.cell 2
 have x3 := q1.cell 3
 have x4 := q1.cell 4
 have x5 := q1.cell 5
 have x6 := q1.cell 6
 have x7 := q1.cell 7
 have x8 := q1.cell 8
 have c2 := q2.cell 0
 have c3 := q3.cell 0
 simp only [List.getElem?_toArray, List.getElem?_cons_zero, List.getElem?_cons_succ] at x0 x1 x2 x3 x4 x5 x6 x7 x8 c2 c3
 rw [Array.getD_eq_getD_getElem?] at h6 h7 h8
 simp [Leaves, settle, results, Tryz.results16, go_sem, h6, h7, h8, x0, x1, x2, x3, x4, x5, x6, x7, x8, c2, c3]
 exact ⟨st.k.trans hk (fun x hx hlt => by have := st.hB; simp at hx; omega), .inr ⟨hno, rfl⟩⟩
set_option maxRecDepth 100000 in
theorem rvRead_ends {T K V : List UInt8} {w : World} (W : World) (t : Array Value) (B : Nat) {x : Rw} {p : Int} (st : RvSt w W B #[.int .i64 x.k, .string ⟨x.c.toArray⟩, .int .i64 x.seq, .int .i64 x.id, .string ⟨x.t.toArray⟩, .string ⟨x.b.toArray⟩, .int .i64 x.q, .bool x.r, .int .i64 x.s] (.int .i64 p) (.int .i64 0)) (his : RvIs T K V x p) (h6 : t.getD 6 undef = .pointer (some ⟨B, 0, none⟩)) (h7 : t.getD 7 undef = .pointer (some ⟨B + 1, 0, none⟩)) (h8 : t.getD 8 undef = .pointer (some ⟨B + 1 + 1, 0, none⟩)) :
  bodyPostD Tryz.prog Tryz.f16 (RvPost w T K V) Exit.ret { tmps := t, defers := [rvDefer B] } W := by
 obtain ⟨k, c, seq, id, t', b, q, r, s⟩ := x
 have q1 := st.r1
 have q2 := st.r2
 have q3 := st.r3
 have x0 := q1.cell 0
 have x1 := q1.cell 1
 have x2 := q1.cell 2
 have x3 := q1.cell 3
 have x4 := q1.cell 4
 have x5 := q1.cell 5
 have x6 := q1.cell 6
 have x7 := q1.cell 7
 have x8 := q1.cell 8
 have c2 := q2.cell 0
 have c3 := q3.cell 0
 simp only [List.getElem?_toArray, List.getElem?_cons_zero, List.getElem?_cons_succ] at x0 x1 x2 x3 x4 x5 x6 x7 x8 c2 c3
 rw [Array.getD_eq_getD_getElem?] at h6 h7 h8
 refine leaves_cons (f := 36) (args := #[.pointer (some ⟨B, 0, none⟩), .pointer (some ⟨B + 1, 0, none⟩), .pointer (some ⟨B + 1 + 1, 0, none⟩)]) (by simp) (by simp [go_sem]) ?_
 refine (rvCatch_idle _ _ _ W).mono ?_
 rintro e u' w'' ⟨rfl, rfl, rfl⟩
 simp [Leaves, settle, results, Tryz.results16, go_sem, h6, h7, h8, x0, x1, x2, x3, x4, x5, x6, x7, x8, c2, c3]
 exact ⟨st.k, .inl ⟨_, p, his, rfl⟩⟩
end Go.Proofs.YtfglgeoookbppaaGreatDoor

namespace Go.Proofs.YtfglgeoookbppaaGreatDoor
open Go.RowKit

section
variable (P : Program) (Ws : List Wr) (C : World → World → Prop) (A : Nat → World → World → Prop) (w0 : World) (ops : Array Oper) (n0 : Nat)
def wpLooseD (a0 : Act) (Q : List Ent → Prop) : List Oper → List Ent → Prop
 | [], _ => True
 | o :: rest, env => (env.length = n0 ∧ Q env ∧ wpLooseD a0 Q rest (addEnt o.dst none [] (fun _ _ _ => True) env)) ∨
   ((env.length ≠ n0 ∧ (descB ops n0).contains env.length = true) ∧ wpLooseD a0 Q rest (addEnt o.dst none [] (fun _ _ _ => True) env)) ∨
   (env.length ≠ n0 ∧ ∃ c rd φ, (∀ t ∈ rd, waitsB ops o t = true) ∧ (∀ W vals, PreK Ws C A env.length w0 W → knowsK Ws C A w0 vals env.length (o.looksAt ops ++ rd) W env → opOk P (StpK Ws C A env.length) ops (fill vals env a0) o (entOf c (φ (rd.map vals))) W) ∧ wpLooseD a0 Q rest (addEnt o.dst c rd φ env))
end
section
variable {P : Program} {Ws : List Wr} {C : World → World → Prop} {A : Nat → World → World → Prop} {w0 : World} {ops : Array Oper} {n0 : Nat}
theorem wpLooseD_table {a0 : Act} {Q : List Ent → Prop} : ∀ (l : List Oper) (env : List Ent), wpLooseD P Ws C A w0 ops n0 a0 Q l env →
  ∃ (E : Nat → List Ent) (c : Nat → Option Value) (rd : Nat → List Tmp) (φ : Nat → List Value → Value → World → Prop), E 0 = env ∧ (∀ k, k ≤ l.length → (E k).length = env.length + k) ∧
   (∀ k o, l[k]? = some o → E (k + 1) = addEnt o.dst (c k) (rd k) (φ k) (E k) ∧ (∀ t ∈ rd k, waitsB ops o t = true) ∧ (env.length + k = n0 → Q (E k) ∧ rd k = []) ∧ (env.length + k ≠ n0 → (descB ops n0).contains (env.length + k) = false → ∀ W vals, PreK Ws C A (env.length + k) w0 W → knowsK Ws C A w0 vals (env.length + k) (o.looksAt ops ++ rd k) W (E k) → opOk P (StpK Ws C A (env.length + k)) ops (fill vals (E k) a0) o (entOf (c k) (φ k ((rd k).map vals))) W))
 | [], env, _ => ⟨fun _ => env, fun _ => none, fun _ => [], fun _ _ _ _ => True, rfl, fun k hk => by simp at hk; simp [hk], fun k o ho => by simp at ho⟩
 | o :: rest, env, h => by
  have main : ∀ (c0 : Option Value) (rd0 : List Tmp) (φ0 : List Value → Value → World → Prop), (∀ t ∈ rd0, waitsB ops o t = true) → (env.length = n0 → Q env ∧ rd0 = []) → (env.length ≠ n0 → (descB ops n0).contains env.length = false → ∀ W vals, PreK Ws C A env.length w0 W → knowsK Ws C A w0 vals env.length (o.looksAt ops ++ rd0) W env → opOk P (StpK Ws C A env.length) ops (fill vals env a0) o (entOf c0 (φ0 (rd0.map vals))) W) → wpLooseD P Ws C A w0 ops n0 a0 Q rest (addEnt o.dst c0 rd0 φ0 env) →
   ∃ (E : Nat → List Ent) (c : Nat → Option Value) (rd : Nat → List Tmp) (φ : Nat → List Value → Value → World → Prop), E 0 = env ∧ (∀ k, k ≤ (o :: rest).length → (E k).length = env.length + k) ∧
   (∀ k o', (o :: rest)[k]? = some o' → E (k + 1) = addEnt o'.dst (c k) (rd k) (φ k) (E k) ∧ (∀ t ∈ rd k, waitsB ops o' t = true) ∧ (env.length + k = n0 → Q (E k) ∧ rd k = []) ∧ (env.length + k ≠ n0 → (descB ops n0).contains (env.length + k) = false → ∀ W vals, PreK Ws C A (env.length + k) w0 W → knowsK Ws C A w0 vals (env.length + k) (o'.looksAt ops ++ rd k) W (E k) → opOk P (StpK Ws C A (env.length + k)) ops (fill vals (E k) a0) o' (entOf (c k) (φ k ((rd k).map vals))) W)) := by
   intro c0 rd0 φ0 h0 h1 h2 h3
   obtain ⟨E, c', rd', φ', e0, hl, hs⟩ := wpLooseD_table rest _ h3
   have hadd : (addEnt o.dst c0 rd0 φ0 env).length = env.length + 1 := by simp [addEnt]
   rw [hadd] at hl hs
   refine ⟨fun | 0 => env | k + 1 => E k, fun | 0 => c0 | k + 1 => c' k, fun | 0 => rd0 | k + 1 => rd' k, fun | 0 => φ0 | k + 1 => φ' k, rfl, ?_, ?_⟩
   ·intro k hk
    cases k with
    | zero => rfl
    | succ k =>
     have := hl k (by simpa using hk)
     show (E k).length = _
     omega
   ·intro k o' ho'
    cases k with
    | zero =>
     simp only [List.getElem?_cons_zero, Option.some.injEq] at ho'
     subst ho'
     exact ⟨e0, h0, h1, h2⟩
    | succ k =>
     have h4 := hs k o' (by simpa using ho')
     rw [show env.length + 1 + k = env.length + (k + 1) by omega] at h4
     exact h4
  rcases h with ⟨h1, h2, h3⟩ | ⟨⟨h1, h2⟩, h3⟩ | ⟨h1, c, rd, φ, h2, h4, h3⟩
  ·exact main none [] _ (fun _ h => nomatch h) (fun _ => ⟨h2, rfl⟩) (fun h => absurd h1 h) h3
  ·exact main none [] _ (fun _ h => nomatch h) (fun h => absurd h h1) (fun _ h => by rw [h2] at h; cases h) h3
  ·exact main c rd φ h2 (fun h => absurd h h1) (fun _ _ => h4) h3
theorem loose_dies_soundK {n : Nat} {osp : Oper} {rdn : List Tmp} {a0 : Act} {c : Nat → Option Value} {rd : Nat → List Tmp} {φ : Nat → List Value → Value → World → Prop} {E : Nat → List Ent} {Q : Exit → Act → World → Prop} (hF : FitK C A) (hwr : wrB ops Ws = true)
  (hB : looseB n ops = true) (hosp : ops[n0]? = some osp) (hn : a0.tmps.size = n) (e0 : E 0 = [])
  (hlen : ∀ k, k ≤ ops.size → (E k).length = k)
  (hs : ∀ k o, ops[k]? = some o → E (k + 1) = addEnt o.dst (c k) (rd k) (φ k) (E k) ∧ (∀ t ∈ rd k, waitsB ops o t = true) ∧ (k ≠ n0 → (descB ops n0).contains k = false → ∀ W vals, PreK Ws C A k w0 W → knowsK Ws C A w0 vals k (o.looksAt ops ++ rd k) W (E k) → opOk P (StpK Ws C A k) ops (fill vals (E k) a0) o (entOf (c k) (φ k ((rd k).map vals))) W))
  (hrdn : rdn.all (waitsB ops osp) = true)
  (hq : ∀ W vals, PreK Ws C A n0 w0 W → knowsK Ws C A w0 vals n0 (osp.looksAt ops ++ rdn) W (E n0) → opDies P ops a0 Q (fill vals (E n0) a0) osp W) :
  ∀ (fuel : Nat) (listed : Array Bool) (a : Act) (W : World), unlisted listed ≤ fuel → listed.getD n0 true = false → LooseInvK Ws C A w0 ops a0 c rd φ listed a W → wpAny P .any ops Q fuel listed a W := by
 obtain ⟨b0, b1, b2, b3, b4⟩ := looseB_spec hB
 have hs1 := fun k o ho => (hs k o ho).1
 have hrd := fun k o ho => (hs k o ho).2.1
 have hn0 : n0 < ops.size := (Array.getElem?_eq_some_iff.1 hosp).1
 intro fuel
 induction fuel with
 | zero =>
  intro listed a W hu htl hI
  have := (unlisted_set htl).1
  omega
 | succ fuel ih =>
  intro listed a W hu htl hI
  refine ⟨fun hr => ?_, fun i hi => ?_⟩
  ·exfalso
   have hall : ∀ m k, k < m → k < ops.size → listed.getD k false = true := by
    intro m
    induction m with
    | zero => intro k h; omega
    | succ m ih =>
     intro k hk hks
     cases hl : listed.getD k false with
     | true => rfl
     | false =>
      exfalso
      have ho : ops[k]? = some (ops[k]'(by omega)) := Array.getElem?_eq_getElem (by omega)
      have hl' : listed.getD k true = false := by
       have : k < listed.size := by rw [hI.lsize]; omega
       simpa [this] using hl
      have : k ∈ Region.ready .any ops listed := mem_ready.2 ⟨hl', _, ho, fun e he hb => by
       have hlt := b3 k _ ho e he hb
       exact ih e.on (by omega) (by omega)⟩
      rw [hr] at this
      cases this
   have h1 := hall (n0 + 1) n0 (by omega) hn0
   have h2 := getD_both htl
   rw [h1] at h2
   cases h2
  obtain ⟨hl, o, ho, hall⟩ := mem_ready.1 hi
  have hil : listed.getD i false = false := getD_both hl
  have hn0l : listed.getD n0 false = false := getD_both htl
  have unl : ∀ x ∈ Ws, x.k = i ∨ i ∈ x.pre → listed.getD x.k false = false := by
   rintro x hx (hc | hc)
   ·rw [hc]; exact hil
   ·cases hlx : listed.getD x.k false with
    | false => rfl
    | true =>
     have := descB_spec hI.dep i x.k (wrB_pre hwr hx hc).1 hlx
     rw [hil] at this
     cases this
  have hkn : ∀ rs : List Tmp, (∀ j o' t, j < i → ops[j]? = some o' → o'.dst = some t → t ∈ rs → ∃ e ∈ o.after, Region.binds .any e = true ∧ e.on = j) → knowsK Ws C A w0 (fun t => a.tmps.getD t undef) i rs W (E i) := fun rs hrs =>
   knowsK_table e0 hlen hs1 rs i (Nat.le_of_lt (Array.getElem?_eq_some_iff.1 ho).1) (fun j o' t hj ho' hd ht hc => by
    obtain ⟨e, he, hb, hon⟩ := hrs j o' t hj ho' hd ht
    obtain ⟨v, hv, W0, h1, h2, h4, h3⟩ := hI.on j o' t ho' hd (hon ▸ hall e he hb)
    refine ⟨W0, h1, ⟨h2, fun x hx hc => h4 x hx (by
     rcases hc with hc | hc | hc
     ·exact .inl hc
     ·exact .inr (.inl hc)
     ·exact .inr (.inr (unl x hx hc)))⟩, ?_⟩
    have : a.tmps.getD t undef = v := by simp [hv]
    show φ j _ (a.tmps.getD t undef) W0
    rw [this]
    simpa [entOf, hc] using h3)
  have hlook : ∀ j o' t, j < i → ops[j]? = some o' → o'.dst = some t → t ∈ o.looksAt ops → ∃ e ∈ o.after, Region.binds .any e = true ∧ e.on = j := fun j o' t hj ho' hd ht => by
   obtain ⟨_, e, he, hb, hon⟩ := (b4 i o t j o' ho ht ho' hd).resolve_right (fun h => absurd h.1 (by omega))
   exact ⟨e, he, hb, hon⟩
  have hfrm : ∀ t ∈ o.looksAt ops, (fill (fun t => a.tmps.getD t undef) (E i) a0).tmps[t]? = a.tmps[t]? := fun t ht => by
   by_cases hd : ∃ (k : Nat) (o' : Oper), ops[k]? = some o' ∧ o'.dst = some t
   ·obtain ⟨k, o', ho', hd⟩ := hd
    rcases b4 i o t k o' ho ht ho' hd with ⟨hk, e, he, hb, hon⟩ | ⟨hk, e, he, hb, hon⟩
    case inr =>
     rw [fill_far a0 e0 hs1 t i (Nat.le_of_lt (Array.getElem?_eq_some_iff.1 ho).1) (fun j o2 hj ho2 hdd => by have := b2 j k o2 o' t ho2 ho' hdd hd; omega)]
     refine (hI.off t (fun k2 o2 ho2 hdd => ?_)).symm
     obtain rfl := b2 k2 k o2 o' t ho2 ho' hdd hd
     cases hlk : listed.getD k2 false with
     | false => rfl
     | true =>
      have := hI.dep k2 o' ho' hlk e he hb
      rw [hon] at this
      rw [hil] at this
      cases this
    rw [fill_near a0 hs1 b2 t (by rw [hn]; exact b1 k o' t ho' hd) k o' ho' hd i (Nat.le_of_lt (Array.getElem?_eq_some_iff.1 ho).1) hk]
    obtain ⟨v, hv, W0, _, _, _, h3⟩ := hI.on k o' t ho' hd (hon ▸ hall e he hb)
    rw [hv]
    cases hc : c k with
    | none => simp [hv]
    | some u => simp [entOf, hc] at h3; simp [h3]
   ·rw [fill_far a0 e0 hs1 t i (Nat.le_of_lt (Array.getElem?_eq_some_iff.1 ho).1) (fun j o' _ ho' hdd => hd ⟨j, o', ho', hdd⟩)]
    exact (hI.off t (fun k o' ho' hdd => absurd ⟨k, o', ho', hdd⟩ hd)).symm
  by_cases hin0 : i = n0
  ·subst hin0
   obtain rfl : osp = o := Option.some.inj (hosp.symm.trans ho)
   have hd := opDies_congr (a' := a) (Region.noSelect_spec b0 i osp · · ho) hfrm (hq W (fun t => a.tmps.getD t undef) ⟨hI.world, fun x hx hc => hI.worldA x hx (unl x hx hc)⟩ (hkn _ (fun j o' t hj ho' hd ht => by
   rcases List.mem_append.1 ht with ht | ht
   ·exact hlook j o' t hj ho' hd ht
   ·exact waitsB_spec (List.all_eq_true.1 hrdn t ht) ho' hd)))
   obtain ⟨hwt, f, args, W', hrun, hcalls⟩ := hd.out
   unfold wpOp
   simp only [ho, hwt, if_true]
   left
   unfold Oper.wp
   rw [hrun]
   exact hcalls.mono fun e w'' ⟨ch, he, hQ⟩ => by
    subst he
    refine hQ a hI.defers fun t hnt => hI.off t fun k o ho hdd => absurd hdd (hnt k o ho)
  have hisz : i < listed.size := (unlisted_set hl).2
  have hset : (listed.setIfInBounds i true).getD i false = true := by simp [hisz]
  have hnd : (descB ops n0).contains i = false := by
   cases hcc : (descB ops n0).contains i with
   | false => rfl
   | true =>
    exfalso
    have hm : i ∈ descB ops n0 := List.contains_iff_mem.1 hcc
    have hmono : ∀ m, listed.getD m false = true → (listed.setIfInBounds i true).getD m false = true := by
     intro m hm
     by_cases hmi : i = m
     ·subst hmi
      rw [hil] at hm
      cases hm
     ·rw [getD_set_ne _ hmi]; exact hm
    have := descB_spec (listed := listed.setIfInBounds i true) (fun k o' ho' hk e he hb => by
     by_cases hki : i = k
     ·subst hki
      rw [ho] at ho'
      injection ho' with ho'
      subst ho'
      exact hmono _ (hall e he hb)
     ·rw [getD_set_ne _ hki] at hk
      exact hmono _ (hI.dep k o' ho' hk e he hb)) n0 i hm hset
    rw [getD_set_ne _ hin0, hn0l] at this
    cases this
  have hus := (unlisted_set hl).1
  have hop := (hs i o ho).2.2 hin0 hnd W (fun t => a.tmps.getD t undef) ⟨hI.world, fun x hx hc => hI.worldA x hx (unl x hx hc)⟩ (hkn _ (fun j o' t hj ho' hd ht => by
   rcases List.mem_append.1 ht with ht | ht
   ·exact hlook j o' t hj ho' hd ht
   ·exact waitsB_spec (hrd i o ho t ht) ho' hd))
  have hop := opOk_congr (a' := a) (Region.noSelect_spec b0 i o · · ho) hfrm hop
  have next : ∀ v W', StpK Ws C A i W W' → entOf (c i) (φ i ((rd i).map fun t => a.tmps.getD t undef)) v W' → wpAny P .any ops Q fuel (listed.setIfInBounds i true) (a.put o.dst v) W' := fun v W' hR hv =>
   ih _ _ _ (by omega) (by rw [getD_set_ne true hin0]; exact htl) (looseInvK_next hF hwr hB hrd hn hI ho hl hall v hR hv)
  have tr : ∀ x y z, StpK Ws C A i x y → StpK Ws C A i y z → StpK Ws C A i x z := fun x y z h k => ⟨hF.ct _ _ _ h.c k.c, fun u hu hne => hF.at_ _ _ _ _ (h.a u hu hne) (k.a u hu hne)⟩
  unfold wpOp
  simp only [ho]
  replace hop := hop.out
  split
  ·rename_i hw
   simp only [hw, if_true] at hop
   left
   unfold Oper.wp
   generalize (execOp a.eval o).run P W = r at *
   cases r with
   | ok x w' =>
    cases x <;> simp only [looseUpon] at hop <;> simp only [Oper.upon]
    ·exact next _ _ hop.1 hop.2
    ·exact next _ _ hop.1 hop.2
    ·exact hop.2.mono fun e w'' ⟨v, he, hR, hv⟩ => by subst he; exact next _ _ (tr _ _ _ hop.1 hR) hv
    ·exact hop.2.mono fun v w'' ⟨hR, hv⟩ => next _ _ (tr _ _ _ hop.1 hR) hv
   | halt x w' => simp only [looseUpon] at hop
  ·rename_i hw
   simp only [hw] at hop
   exact next _ _ ⟨hF.cr _, fun _ _ _ => hF.ar _ _⟩ hop

theorem wp_region_writersD {id : Nat} {Q : Exit → Act → World → Prop} {a : Act} {w : World} {l : List Oper} (Ws : List Wr) (C : World → World → Prop) (A : Nat → World → World → Prop) (n n0 : Nat) (rdn : List Tmp) (osp : Oper) (hosp : l[n0]? = some osp) (hF : LightK Ws C A) (hm : P.follows .mixedOrders = true) (hn : a.tmps.size = n)
  (hB : (looseB n l.toArray && wrB l.toArray Ws && rdn.all (waitsB l.toArray osp)) = true)
  (h : wpLooseD P Ws C A w l.toArray n0 a (fun env => ∀ W vals, PreK Ws C A n0 w W → knowsK Ws C A w vals n0 (osp.looksAt l.toArray ++ rdn) W env → opDies P l.toArray a Q (fill vals env a) osp W) l []) : (Code.region id l.toArray true).wp P Q a w := by
 simp only [Bool.and_eq_true] at hB
 have hlt : n0 < l.length := (List.getElem?_eq_some_iff.1 hosp).1
 obtain ⟨E, c, rd, φ, e0, hlen, hs⟩ := wpLooseD_table l [] h
 simp only [List.length_nil, Nat.zero_add] at hlen hs
 have hq := (hs n0 osp hosp).2.2.1 rfl
 refine wp_region_any hm (loose_dies_soundK (w0 := w) (n0 := n0) (osp := osp) hF.fit hB.1.2 hB.1.1 (by simpa using hosp) hn e0 (fun k hk => hlen k (by simpa using hk)) (fun k o ho => ⟨(hs k o (by simpa using ho)).1, (hs k o (by simpa using ho)).2.1, (hs k o (by simpa using ho)).2.2.2⟩) hB.2 hq.1 _ _ _ _ ?_ ?_ ⟨hF.c (Keeps.drew _), fun x _ _ => hF.a (Keeps.drew _), rfl, rfl, by simp, fun _ _ => rfl, fun k o d ho _ hk => ?_, fun k o ho _ hk => ?_, fun k o ho hk => ?_⟩)
 ·unfold unlisted
  simp
 ·simp [hlt]
 all_goals
  exfalso
  by_cases h' : k < l.length <;> simp [h'] at hk
end
section
variable {P : Program} {Ws : List Wr} {C : World → World → Prop} {A : Nat → World → World → Prop} {w0 : World} {ops : Array Oper} {n0 : Nat} {a0 : Act} {Q : List Ent → Prop} {o : Oper} {rest : List Oper} {env : List Ent}
theorem loosed_nil : wpLooseD P Ws C A w0 ops n0 a0 Q [] env := trivial
theorem loosed_dies (he : env.length = n0) (h : Q env) (hk : wpLooseD P Ws C A w0 ops n0 a0 Q rest (addEnt o.dst none [] (fun _ _ _ => True) env)) : wpLooseD P Ws C A w0 ops n0 a0 Q (o :: rest) env := .inl ⟨he, h, hk⟩
theorem loosed_skip (k : Nat) (he : env.length = k) (hne : k ≠ n0) (hd : (descB ops n0).contains k = true) (hk : wpLooseD P Ws C A w0 ops n0 a0 Q rest (addEnt o.dst none [] (fun _ _ _ => True) env)) : wpLooseD P Ws C A w0 ops n0 a0 Q (o :: rest) env := by
 subst he
 exact .inr (.inl ⟨⟨hne, hd⟩, hk⟩)
theorem loosed_is (k : Nat) (v : Value) (he : env.length = k) (hne : k ≠ n0) (h : ∀ W vals, PreK Ws C A k w0 W → knowsK Ws C A w0 vals k (o.looksAt ops) W env → opOk P (StpK Ws C A k) ops (fill vals env a0) o (fun u _ => u = v) W)
  (hk : wpLooseD P Ws C A w0 ops n0 a0 Q rest (addEnt o.dst (some v) [] (fun _ _ _ => True) env)) : wpLooseD P Ws C A w0 ops n0 a0 Q (o :: rest) env := by
 subst he
 exact .inr (.inr ⟨hne, some v, [], _, (fun _ h => nomatch h), fun W vals hW hkn => h W vals hW (by rwa [List.append_nil] at hkn), hk⟩)
theorem loosed_has (k : Nat) (φ : Value → World → Prop) (he : env.length = k) (hne : k ≠ n0) (h : ∀ W vals, PreK Ws C A k w0 W → knowsK Ws C A w0 vals k (o.looksAt ops) W env → ∀ φ' : Value → World → Prop, Hid (∀ u w, φ u w → φ' u w) → opOk P (StpK Ws C A k) ops (fill vals env a0) o φ' W)
  (hk : wpLooseD P Ws C A w0 ops n0 a0 Q rest (addEnt o.dst none [] (fun _ => φ) env)) : wpLooseD P Ws C A w0 ops n0 a0 Q (o :: rest) env := by
 subst he
 exact .inr (.inr ⟨hne, none, [], fun _ => φ, (fun _ h => nomatch h), fun W vals hW hkn => h W vals hW (by rwa [List.append_nil] at hkn) φ (Lib.hid fun _ _ h => h), hk⟩)
theorem loosed_had (k : Nat) (rd : List Tmp) (φ : List Value → Value → World → Prop) (he : env.length = k) (hne : k ≠ n0) (hrd : rd.all (waitsB ops o) = true) (h : ∀ W vals, PreK Ws C A k w0 W → knowsK Ws C A w0 vals k (o.looksAt ops ++ rd) W env → ∀ φ' : Value → World → Prop, Hid (∀ u w, φ (rd.map vals) u w → φ' u w) → opOk P (StpK Ws C A k) ops (fill vals env a0) o φ' W)
  (hk : wpLooseD P Ws C A w0 ops n0 a0 Q rest (addEnt o.dst none rd φ env)) : wpLooseD P Ws C A w0 ops n0 a0 Q (o :: rest) env := by
 subst he
 exact .inr (.inr ⟨hne, none, rd, φ, fun t ht => List.all_eq_true.1 hrd t ht, fun W vals hW hkn => h W vals hW hkn _ (Lib.hid fun _ _ h => h), hk⟩)
end
end Go.Proofs.YtfglgeoookbppaaGreatDoor

namespace Go.Proofs.YtfglgeoookbppaaGreatDoor
open Go.RowKit Go.Shelf

section
variable {w w' : World} {base r k : Nat} {l t s : List UInt8} {n : Nat}
theorem rvNum_some (h : Rd w base r l) (e : rdN k l = some (n, t)) (hk1 : 1 ≤ k) (hk8 : k ≤ 8) {k' : Int} (hk' : k' = k) :
  Calls Tryz.prog 40 #[.agg #[.pointer (some ⟨r, 0, none⟩)], .int .i64 k'] w fun e w' => Keeps w w' [r] ∧ e = .returned (.int .i64 (wrap64 (n : Nat))) ∧ Rd w' base r t := by
 subst hk'
 have := rvNum_any w base r k l h hk1 hk8
 rw [e] at this
 exact this.mono fun e w' ⟨h1, h2, h3⟩ => ⟨h1, h2, h3⟩
theorem rvNum_none (h : Rd w base r l) (e : rdN k l = none) (hk1 : 1 ≤ k) (hk8 : k ≤ 8) {k' : Int} (hk' : k' = k) :
  Calls Tryz.prog 40 #[.agg #[.pointer (some ⟨r, 0, none⟩)], .int .i64 k'] w fun e w' => Keeps w w' [r] ∧ e = .panicked [{ v := .iface 73 (.agg #[]), recovered := false }] := by
 subst hk'
 have := rvNum_any w base r k l h hk1 hk8
 rw [e] at this
 exact this.mono fun e w' ⟨h1, h2⟩ => ⟨h1, h2⟩
theorem rvTxt_some (h : Rd w base r l) (e : rdTx l = some (s, t)) :
  Calls Tryz.prog 41 #[.agg #[.pointer (some ⟨r, 0, none⟩)]] w fun e w' => Keeps w w' [r] ∧ e = .returned (strV s) ∧ Rd w' base r t := by
 have := rvTxt_any w base r l h
 rw [e] at this
 exact this.mono fun e w' ⟨h1, h2, h3⟩ => ⟨h1, h2, h3⟩
theorem rvTxt_none (h : Rd w base r l) (e : rdTx l = none) :
  Calls Tryz.prog 41 #[.agg #[.pointer (some ⟨r, 0, none⟩)]] w fun e w' => Keeps w w' [r] ∧ e = .panicked [{ v := .iface 73 (.agg #[]), recovered := false }] := by
 have := rvTxt_any w base r l h
 rw [e] at this
 exact this.mono fun e w' ⟨h1, h2⟩ => ⟨h1, h2⟩
theorem Rd.len {base' : Nat} {l' : List UInt8} (h : Rd w base r l) (h' : Rd w base' r l') : l.length = l'.length := by
 obtain ⟨A, c, h1, _⟩ := h
 obtain ⟨A', c', h2, _⟩ := h'
 have e1 := h1.cell 0
 have e2 := h2.cell 0
 simp only [List.getElem?_toArray, List.getElem?_cons_zero] at e1 e2
 rw [e1] at e2
 injection e2 with e2
 injection e2
end
/-- What none but one operation changes: what the reader has left when that one is met. -/
def rdA (base r : Nat) (Le : List UInt8) (Ls : Nat → List UInt8) : Nat → World → World → Prop := fun k w w' => (Rd w base r (Ls k) → Rd w' base r (Ls k)) ∧ (Rd w base r Le → Rd w' base r Le)
def rdC (r : Nat) : World → World → Prop := fun w w' => Keeps w w' [r]
def rdLs (V V1 V2 V3 V4 : List UInt8) (k : Nat) : List UInt8 := if k = 2 then V else if k = 4 then V1 else if k = 6 then V2 else if k = 8 then V3 else V4
section
variable {Ws : List Wr} {base r : Nat} {Le : List UInt8} {Ls : Nat → List UInt8}
theorem rdLight : LightK Ws (rdC r) (rdA base r Le Ls) := by
 refine ⟨⟨fun x => Keeps.refl _ _, fun x y z h k => Keeps.trans (T := [r]) h k (fun _ hx _ => hx), fun i x => ⟨id, id⟩, fun i x y z h k => ⟨fun q => k.1 (h.1 q), fun q => k.2 (h.2 q)⟩⟩, fun h => Keeps.weaken h (by simp), fun h => ⟨fun q => q.keep h (by simp), fun q => q.keep h (by simp)⟩⟩
theorem rdStp {k : Nat} {W W' : World} (h : Rd W base r (Ls k)) (hk : Keeps W W' [r]) (hl : ∀ x ∈ Ws, x.k ≠ k → (Ls x.k).length ≠ (Ls k).length) (he : Le.length ≠ (Ls k).length) : StpK Ws (rdC r) (rdA base r Le Ls) k W W' :=
 ⟨hk, fun x hx hne => ⟨fun q => absurd (q.len h) (hl x hx hne), fun q => absurd (q.len h) he⟩⟩
end
section
variable {w : World} {base r : Nat} {l t : List UInt8} {n : Nat}
theorem rvNum1_some (h : Rd w base r l) (e : rdN 1 l = some (n, t)) :
  Calls Tryz.prog 40 #[.agg #[.pointer (some ⟨r, 0, none⟩)], .int .i64 1] w fun e w' => Keeps w w' [r] ∧ e = .returned (.int .i64 (n : Nat)) ∧ Rd w' base r t := by
 have h1 := (rdN_sound e).2.1
 have e2 : wrap64 (n : Int) = n := IntWalk.wrap64_in _ (by omega)
 have := rvNum_some (k' := 1) h e (by omega) (by omega) rfl
 rwa [e2] at this
end
theorem Rd.row {w : World} {base r : Nat} {l : List UInt8} (h : Rd w base r l) : ∃ x, Row w r 123 #[x, .bool true] := by
 obtain ⟨A', c', q1, _⟩ := h
 exact ⟨_, q1⟩
theorem own_other {w w' : World} {b0 g : Nat} {v : Value} {l : List KP} {t : TypeId} {cs : Array Value} (ho : OwnedP w b0 v l) (hg : Row w g t cs) (hne : 63 ≠ t) (hk : Keeps w w' [g]) : OwnedP w' b0 v l :=
 ownP_keep ho hk (fun x hx => by
  have := ownP_ne ho hg hne
  rw [hx] at this
  simpa using this)
theorem own_goR {w w' : World} {b0 base r : Nat} {v : Value} {l : List KP} {V : List UInt8} (ho : OwnedP w b0 v l) (hr : Rd w base r V) (hk : Keeps w w' [r]) : OwnedP w' b0 v l := by
 obtain ⟨x, h⟩ := hr.row
 exact own_other ho h (by decide) hk
theorem own_lies {w : World} {b0 n c : Nat} {A : Option Addr} {l : List KP} (ho : OwnedP w b0 (.slice A n c) l) : Lies w w.heap.size A (kFlat l) := by
 obtain ⟨A', c', e', hL⟩ := ownP_slice ho
 injection e' with e1 e2 e3
 rw [e1]
 exact hL
theorem rvErr_len {l : List KP} (h : kErr l = 0) : 0 < l.length ∧ l.length ≤ 4 := by
 unfold kErr at h
 split at h
 ·split at h
  ·omega
  ·omega
 ·omega
/-- No other row than the one that is read. -/
theorem rv_other {T K V : List UInt8} {kd : Int} {l : List KP} {d : RvD} {cc : List UInt8} {p : Int} {f : Bool} (hk : rcIs kd = true) (ht : rcTree kd = T) (hl : kPar K = some l) (hd : Nonempty (RvAll V d)) (hc : rcCl l = cc) (hp : rcAt kd l = p)
  (hf : rcFits ⟨kd, cc, wrap64 (d.seq : Int), wrap64 (d.id : Int), d.t, d.b, (d.q : Int), d.r, (d.s : Int)⟩ p = f)
  (hbad : d.left ≠ [] ∨ f = false ∨ kRaw (rcKeyL ⟨kd, cc, wrap64 (d.seq : Int), wrap64 (d.id : Int), d.t, d.b, (d.q : Int), d.r, (d.s : Int)⟩ p) ≠ K) : ∀ x q, ¬ RvIs T K V x q := fun x q h => by
 obtain ⟨hd⟩ := hd
 obtain ⟨h1, h2, h3⟩ := rv_meets hk ht hl hd h
 rw [hc] at h2
 rw [hp] at h3
 subst h2 h3
 rcases hbad with hb | hb | hb
 ·exact hb h1
 ·rw [h.fits] at hf
  rw [← hf] at hb
  cases hb
 ·exact hb h.key
theorem rv_found {T K V : List UInt8} {kd : Int} {d : RvD} {cc : List UInt8} {p : Int} (ht : rcTree kd = T) (hd : Nonempty (RvAll V d)) (hf : rcFits ⟨kd, cc, wrap64 (d.seq : Int), wrap64 (d.id : Int), d.t, d.b, (d.q : Int), d.r, (d.s : Int)⟩ p = true) (hl : d.left = [])
  (hK : kRaw (rcKeyL ⟨kd, cc, wrap64 (d.seq : Int), wrap64 (d.id : Int), d.t, d.b, (d.q : Int), d.r, (d.s : Int)⟩ p) = K) : RvIs T K V ⟨kd, cc, wrap64 (d.seq : Int), wrap64 (d.id : Int), d.t, d.b, (d.q : Int), d.r, (d.s : Int)⟩ p := by
 obtain ⟨hd⟩ := hd
 exact rv_sound ht hd ⟨rfl, rfl, rfl, rfl, rfl, rfl, rfl, rfl⟩ hl hf hK
theorem rcAt_yes {k : Int} {l : List KP} (h : rcPlaced k = true) (hl : l.length - 1 < l.length) : rcAt k l = (l[l.length - 1]).n := by
 unfold rcAt
 rw [if_pos h, List.getLast?_eq_getElem?, List.getElem?_eq_getElem hl]
 rfl
theorem rcAt_no {k : Int} {l : List KP} (h : rcPlaced k = false) : rcAt k l = 0 := by
 unfold rcAt
 rw [h]
 rfl
theorem kPs_small : ∀ (f : Nat) (s : List UInt8) (l : List KP), kPs f s = some l → ∀ p ∈ l, p.s.length ≤ s.length
 | 0, s, l, h => by cases h
 | f + 1, [], l, h => by
  injection h with h
  subst h
  intro p hp
  cases hp
 | f + 1, b :: s, l, h => by
  rw [kPs] at h
  split at h
  ·split at h
   ·cases h
   ·rename_i p t hr
    obtain ⟨g1, g2, _⟩ := kRd_len hr
    rcases ht : kPs f t with _ | l'
    ·rw [ht] at h; cases h
    ·rw [ht] at h
     injection h with h
     subst h
     intro q hq
     rcases List.mem_cons.1 hq with rfl | hq
     ·simp only [List.length_cons]; omega
     ·have := kPs_small f t l' ht q hq
      simp only [List.length_cons]; omega
  ·cases h
theorem rcCl_small {K : List UInt8} {l : List KP} (h : kPar K = some l) : (rcCl l).length ≤ K.length := by
 unfold rcCl
 split
 ·rename_i p hp
  exact kPs_small _ _ _ h p (List.mem_of_find?_eq_some hp)
 ·exact Nat.zero_le _
theorem rv_none {T K V : List UInt8} (h : rvDec V = none) : ∀ x q, ¬ RvIs T K V x q := fun x q hh => by
 have := rvDec_val (rcFits_ok hh.fits) hh.t hh.b
 rw [hh.val, h] at this
 cases this
end Go.Proofs.YtfglgeoookbppaaGreatDoor
