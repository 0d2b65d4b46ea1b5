/- A region that draws its order, inside a fence (a round of a range over a function): each operation met once. Bytes as a string; bytes held against each other. Package keys (layer 18): the small ones. Plain mathematics of binary floating point: the rungs of the double format, what they are worth, that what a word is worth is written as that word, and how words stand to each other. No program is named here. Plain mathematics of binary floating point: a number that the double format has is written as itself; twice and half of one. No program is named here. Plain mathematics of binary floating point: twice and half of a number. No program is named here. Plain mathematics of binary floating point: whole numbers as words, and back. No program is named here. Plain mathematics of binary floating point: a number brought to where its digits are whole, by halves and doubles. No program is named here. Plain mathematics of layer 18: how the bits of numbers stand. No program is named here. Package keys: whole. Plain mathematics for the walks: the sum of bytes (layer 1) as a function on natural numbers, and small facts on bits. No program is named here. Plain mathematics: a number and its bytes, the higher ones first. No program is named here. -/
import Derived.Test.YtfglgeoookbppaaGreatDoorPa0
import Derived.OrdersIn
import Derived.OwnWalkIn
import Derived.Laws.BytesArg
import Derived.Laws.Cells
import Ieee.Arith
import Derived.RowKit
import Derived.Laws.BitsAllLaws
import Derived.Below

namespace Go.Proofs.YtfglgeoookbppaaGreatDoor

theorem callsIn_of {F : Fence} (hF : F.plain = Fence.wide) {k : Nat} {P : Program} {f : FuncId} {args : Array Value} {w : World} {S : Ending → World → Prop} (h : Calls P f args w S) : CallsIn F k P f args w S := by
 have h1 : CallsIn F.plain k P f args w S := by rw [hF]; exact callsIn_wide.2 h
 exact h1
theorem calls_of {F : Fence} (hF : F.plain = Fence.wide) {k : Nat} {P : Program} {f : FuncId} {args : Array Value} {w : World} {S : Ending → World → Prop} (h : CallsIn F k P f args w S) : Calls P f args w S := by
 have h1 : CallsIn F.plain k P f args w S := h
 rw [hF] at h1
 exact callsIn_wide.1 h1
theorem rowsIn_of {F : Fence} (hF : F.plain = Fence.wide) {k : Nat} {P : Program} {row : String} {args : Array Value} {w : World} {S : Value → World → Prop} (h : Rows P row args w S) : RowsIn F k P row args w S := by
 have h1 : RowsIn F.plain k P row args w S := by
  rw [hF]
  exact fun c cs _ => let ⟨v, w', r, s⟩ := h c cs; ⟨v, w', r, stepsIn_wide.2 s⟩
 exact h1
def deferless (ops : Array Oper) : Bool := ops.all fun o => match o.op with | .defer _ => false | _ => true
theorem deferless_spec {ops : Array Oper} (h : deferless ops = true) {i : Nat} {o : Oper} (ho : ops[i]? = some o) (c : Call) : o.op ≠ .defer c := by
 intro heq
 have := Array.all_eq_true_iff_forall_mem.1 h o (Array.mem_of_getElem? ho)
 simp [heq] at this

section
variable {P : Program} {R : World → World → Prop} {w0 : World} {ops : Array Oper} {vals : Tmp → Value}
theorem looseIn_sound {F : Fence} {m n : Nat} (hF : F.plain = Fence.wide) (hnd : deferless ops = true) {a0 : Act} {c : Nat → Option Value} {rd : Nat → List Tmp} {φ : Nat → List Value → Value → World → Prop} {E : Nat → List Ent} {Q : Exit → Act → World → Prop} (htr : ∀ x y z, R x y → R y z → R x z) (hrf : ∀ x, R x x)
  (hB : looseB n ops = true) (hn : a0.tmps.size = n) (e0 : E 0 = [])
  (hs : ∀ k o, ops[k]? = some o → E (k + 1) = addEnt o.dst (c k) (rd k) (φ k) (E k) ∧ (∀ t ∈ rd k, waitsB ops o t = true) ∧ ∀ W vals, R w0 W → knows R w0 vals (o.looksAt ops) W (E k) → opOk P R ops (fill vals (E k) a0) o (entOf (c k) (φ k ((rd k).map vals))) W)
  (hq : ∀ W vals, R w0 W → knowsAll R w0 vals W (E ops.size) → Q .normal (fill vals (E ops.size) a0) W) :
  ∀ (fuel : Nat) (listed : Array Bool) (a : Act) (W : World), unlisted listed ≤ fuel → LooseInv R w0 ops a0 c rd φ listed a W → wpAnyIn F m P .any ops Q fuel listed a W := by
 obtain ⟨b0, b1, b2, b3, b4⟩ := looseB_spec hB
 have hs1 := fun k o ho => (hs k o ho).1
 have hrd := fun k o ho => (hs k o ho).2.1
 have fin : ∀ (listed : Array Bool) (a : Act) (W : World), LooseInv R w0 ops a0 c rd φ listed a W → Region.ready .any ops listed = [] → Q .normal a W := by
  intro listed a W hI hr
  have hall : ∀ m k, k < m → k < ops.size → listed.getD k false = true := by
   intro m
   induction m with
   | zero => intro k h; omega
   | succ m ih =>
    intro k hk hks
    cases hl : listed.getD k false with
    | true => rfl
    | false =>
     exfalso
     have ho : ops[k]? = some ops[k] := Array.getElem?_eq_getElem hks
     have hl' : listed.getD k true = false := by
      have : k < listed.size := by rw [hI.lsize]; exact hks
      simpa [this] using hl
     have : k ∈ Region.ready .any ops listed := mem_ready.2 ⟨hl', _, ho, fun e he hb => by
      have hlt := b3 k _ ho e he hb
      exact ih e.on (by omega) (by omega)⟩
     rw [hr] at this
     cases this
  have hq := hq W (fun t => a.tmps.getD t undef) hI.world (knowsAll_table e0 hs1 ops.size (Nat.le_refl _) (fun j o t hj ho hd hc => by
   obtain ⟨v, hv, W0, h1, h2, h3⟩ := hI.on j o t ho hd (hall (j + 1) j (by omega) hj)
   refine ⟨W0, h1, h2, ?_⟩
   have : a.tmps.getD t undef = v := by simp [hv]
   show φ j _ (a.tmps.getD t undef) W0
   rw [this]
   simpa [entOf, hc] using h3) (fun j o hj ho hd hc => by
   obtain ⟨u, W0, h1, h2, h3⟩ := hI.onn j o ho hd (hall (j + 1) j (by omega) hj)
   exact ⟨u, W0, h1, h2, by simpa [entOf, hc] using h3⟩))
  have hea : fill (fun t => a.tmps.getD t undef) (E ops.size) a0 = a := by
   obtain ⟨s1, s2⟩ := fill_size (vals := fun t => a.tmps.getD t undef) (E ops.size) a0
   have ht : (fill (fun t => a.tmps.getD t undef) (E ops.size) a0).tmps = a.tmps := by
    refine Array.ext_getElem? fun t => ?_
    by_cases hd : ∃ (k : Nat) (o : Oper), ops[k]? = some o ∧ o.dst = some t
    ·obtain ⟨k, o, ho, hd⟩ := hd
     have hk := (Array.getElem?_eq_some_iff.1 ho).1
     rw [fill_near a0 hs1 b2 t (by rw [hn]; exact b1 k o t ho hd) k o ho hd ops.size (Nat.le_refl _) hk]
     obtain ⟨v, hv, W0, _, _, h3⟩ := hI.on k o t ho hd (hall (k + 1) k (by omega) hk)
     rw [hv]
     cases hc : c k with
     | none => simp [hv]
     | some u => simp [entOf, hc] at h3; simp [h3]
    ·rw [fill_far a0 e0 hs1 t ops.size (Nat.le_refl _) (fun j o _ ho hdd => hd ⟨j, o, ho, hdd⟩)]
     exact (hI.off t (fun k o ho hdd => absurd ⟨k, o, ho, hdd⟩ hd)).symm
   have hd' : (fill (fun t => a.tmps.getD t undef) (E ops.size) a0).defers = a.defers := by rw [s2, hI.defers]
   generalize fill (fun t => a.tmps.getD t undef) (E ops.size) a0 = b at *
   obtain ⟨bt, bd⟩ := b
   obtain ⟨at_, ad⟩ := a
   simp only at ht hd'
   rw [ht, hd']
  rwa [hea] at hq
 intro fuel
 induction fuel with
 | zero =>
  intro listed a W hu hI
  have hr : Region.ready .any ops listed = [] := by
   cases h : Region.ready .any ops listed with
   | nil => rfl
   | cons i l =>
    have hm : i ∈ Region.ready .any ops listed := by rw [h]; exact List.mem_cons_self
    have := (unlisted_set (mem_ready.1 hm).1).1
    omega
  exact ⟨hr, fin listed a W hI hr⟩
 | succ fuel ih =>
  intro listed a W hu hI
  refine ⟨fin listed a W hI, fun i hi => ?_⟩
  obtain ⟨hl, o, ho, hall⟩ := mem_ready.1 hi
  have hus := (unlisted_set hl).1
  have hi' : i < ops.size := (Array.getElem?_eq_some_iff.1 ho).1
  have hop := (hs i o ho).2.2 W (fun t => a.tmps.getD t undef) hI.world (knows_table e0 hs1 (o.looksAt ops) i (by omega) (fun j o' t hj ho' hd ht hc => by
   obtain ⟨_, e, he, hb, hon⟩ := (b4 i o t j o' ho ht ho' hd).resolve_right (fun h => absurd h.1 (by omega))
   obtain ⟨v, hv, W0, h1, h2, h3⟩ := hI.on j o' t ho' hd (hon ▸ hall e he hb)
   refine ⟨W0, h1, h2, ?_⟩
   have : a.tmps.getD t undef = v := by simp [hv]
   show φ j _ (a.tmps.getD t undef) W0
   rw [this]
   simpa [entOf, hc] using h3))
  have hop := opOk_congr (a' := a) (Region.noSelect_spec b0 i o · · ho) (fun t ht => by
   by_cases hd : ∃ (k : Nat) (o' : Oper), ops[k]? = some o' ∧ o'.dst = some t
   ·obtain ⟨k, o', ho', hd⟩ := hd
    rcases b4 i o t k o' ho ht ho' hd with ⟨hk, e, he, hb, hon⟩ | ⟨hk, e, he, hb, hon⟩
    case inr =>
     rw [fill_far a0 e0 hs1 t i (by omega) (fun j o2 hj ho2 hdd => by have := b2 j k o2 o' t ho2 ho' hdd hd; omega)]
     refine (hI.off t (fun k2 o2 ho2 hdd => ?_)).symm
     obtain rfl := b2 k2 k o2 o' t ho2 ho' hdd hd
     cases hlk : listed.getD k2 false with
     | false => rfl
     | true =>
      have := hI.dep k2 o' ho' hlk e he hb
      rw [hon] at this
      have hil : listed.getD i false = false := by
       have hi := (unlisted_set hl).2
       simpa [hi] using hl
      rw [hil] at this
      cases this
    rw [fill_near a0 hs1 b2 t (by rw [hn]; exact b1 k o' t ho' hd) k o' ho' hd i (by omega) hk]
    obtain ⟨v, hv, W0, _, _, h3⟩ := hI.on k o' t ho' hd (hon ▸ hall e he hb)
    rw [hv]
    cases hc : c k with
    | none => simp [hv]
    | some u => simp [entOf, hc] at h3; simp [h3]
   ·rw [fill_far a0 e0 hs1 t i (by omega) (fun j o' _ ho' hdd => hd ⟨j, o', ho', hdd⟩)]
    exact (hI.off t (fun k o' ho' hdd => absurd ⟨k, o', ho', hdd⟩ hd)).symm) hop
  have next : ∀ v W', R W W' → entOf (c i) (φ i ((rd i).map fun t => a.tmps.getD t undef)) v W' → wpAnyIn F m P .any ops Q fuel (listed.setIfInBounds i true) (a.put o.dst v) W' := fun v W' hR hv =>
   ih _ _ _ (by omega) (looseInv_next htr hrf hB hrd hn hI ho hl hall v hR hv)
  have hfn : ∀ f, F.fn f := fun f => by
   have : F.plain.fn f := by rw [hF]; trivial
   exact this
  have hdp : ¬ (F.depth.isSome = true) := by
   have : F.plain.depth = none := by rw [hF]; rfl
   rw [Fence.plain_depth] at this
   simp [this]
  have hse : o.semAt F.round a.eval = execOp a.eval o := Oper.semAt_plain F a.eval o (deferless_spec hnd ho)
  have hcalls : ∀ {k : Nat} {f : FuncId} {args : Array Value} {w : World} {S : Ending → World → Prop}, Calls P f args w S → CallsIn F k P f args w S := fun h => callsIn_of hF h
  unfold wpOpIn
  simp only [ho]
  replace hop := hop.out
  split
  ·rename_i hw
   simp only [hw, if_true] at hop
   refine ⟨fun f _ => hfn f, ?_⟩
   rw [hse]
   generalize (execOp a.eval o).run P W = r at *
   cases r with
   | ok x w' =>
    cases x <;> simp only [looseUpon] at hop <;> simp only [Oper.uponIn]
    ·exact next _ _ hop.1 hop.2
    ·exact next _ _ hop.1 hop.2
    ·exact ⟨fun h => absurd h hdp, hcalls (hop.2.mono fun e w'' ⟨v, he, hR, hv⟩ => by subst he; exact next _ _ (htr _ _ _ hop.1 hR) hv)⟩
    ·exact ⟨fun h => absurd h hdp, rowsIn_of hF (hop.2.mono fun v w'' ⟨hR, hv⟩ => next _ _ (htr _ _ _ hop.1 hR) hv)⟩
   | halt x w' => simp only [looseUpon] at hop
  ·rename_i hw
   simp only [hw] at hop
   exact ⟨fun f _ => hfn f, next _ _ (hrf _) hop⟩

/-- **Each operation met once serves every order**, inside a fence as well. -/
theorem wpIn_region_keeps {F : Fence} {m : Nat} {id : Nat} {Q : Exit → Act → World → Prop} {a : Act} {w : World} {l : List Oper} (hF : F.plain = Fence.wide) (n : Nat) (hm : P.follows .mixedOrders = true) (hn : a.tmps.size = n) (hB : looseB n l.toArray = true) (hnd : deferless l.toArray = true)
  (h : wpLoose P KeepsAll w l.toArray a (fun env => ∀ W vals, Keeps w W [] → knowsAll KeepsAll w vals W env → Q .normal (fill vals env a) W) l []) : (Code.region id l.toArray true).wpIn F m P Q a w := by
 obtain ⟨E, c, rd, φ, e0, hs, hq⟩ := wpLoose_table l [] h
 refine wpIn_region_any hm (looseIn_sound (w0 := w) hF hnd (fun _ _ _ h k => h.trans k (by simp)) (fun _ => Keeps.refl _ _) hB hn e0 (fun k o ho => hs k o (by simpa using ho)) (by simpa using hq) _ _ _ _ (by unfold unlisted; simp) ⟨Keeps.drew _, rfl, rfl, by simp, fun _ _ => rfl, fun k o d ho _ hk => ?_, fun k o ho _ hk => ?_, fun k o ho hk => ?_⟩) <;>
 ·exfalso
  by_cases h' : k < l.length <;> simp [h'] at hk
end
end Go.Proofs.YtfglgeoookbppaaGreatDoor

namespace Go.Proofs.YtfglgeoookbppaaGreatDoor
open Go.RowKit

/-- Bytes as a string's value. -/
def strV (l : List UInt8) : Value := .string ⟨l.toArray⟩
theorem strV_inj {a b : List UInt8} : (⟨a.toArray⟩ : ByteArray) = ⟨b.toArray⟩ ↔ a = b := by
 constructor
 ·intro h
  injection h with h
  injection h
 ·rintro rfl; rfl
theorem undString : Tryz.prog.underlying 9 = some .string := by kernel_rfl
theorem undByte : Tryz.prog.underlying 5 = some (.int .u8) := by kernel_rfl

set_option maxRecDepth 100000 in
theorem conv_str (w : World) (B : Nat) (A : Option Addr) (c : Nat) (l : List UInt8) (h : Lies w B A (l.map byteV)) :
  (convert 39 9 (.slice A l.length c)).run Tryz.prog w = .ok (.string ⟨l.toArray⟩) w := by
 rcases A with _ | ad
 ·have hl : l = [] := by
   rcases l with _ | ⟨x, l⟩
   ·rfl
   ·obtain ⟨b, o, e, _⟩ := h (by simp)
    cases e
  subst hl
  exact run_convert_bytes_nil w _ _ undBytes undByte _ _ _ undString
 ·by_cases hl : l = []
  ·subst hl
   simp only [List.length_nil]
   rw [run_convert_bytes_string w _ _ _ _ _ _ undBytes undByte undString]
   rw [run_bytesToString w ad 0 c [] (by simpa using run_loadCells_list (P := Tryz.prog) w ad [] (fun j v hj => by simp at hj))]
   rfl
  ·obtain ⟨b, o, e, _, hc⟩ := h (by simpa using List.length_pos_iff.2 hl)
   injection e with e
   subst e
   have := run_convert_bytes_arg (P := Tryz.prog) w 39 5 undBytes undByte b o l.length c (l.map fun b => (b.toNat : Int)) (by simp)
    (fun i hi => by
     rw [hc i (.int .u8 ((l[i]).toNat : Int)) (by simp [hi, byteV])]
     simp [List.getD, hi]) _ undString
   rw [this]
   congr 3
   unfold strOfNums
   congr 1
   rw [List.map_map]
   congr 1
   refine (List.map_congr_left (g := id) ?_).trans (List.map_id _)
   intro y _
   simp

section
variable (w : World)
/-- append of bytes onto bytes of the call's own. -/
theorem run_append_bytes (base : Nat) (v u : Value) (l1 l2 : List UInt8) (ty : TypeId) (hown : Owned w base v l1) (hb : Bytes w w.heap.size u l2) (hlen : l1.length + l2.length ≤ 140737488355328) (hbase : base ≤ w.heap.size) :
  ∃ A c w', (Builtin.append_ #[39, 39] ty #[v, u]).run Tryz.prog w = .ok (.slice A (l1 ++ l2).length c) w' ∧ Owned w' base (.slice A (l1 ++ l2).length c) (l1 ++ l2) ∧ Keeps w w' v.ownBlock.toList ∧
   ((Value.slice A (l1 ++ l2).length c).ownBlock = v.ownBlock ∨ (Value.slice A (l1 ++ l2).length c).ownBlock = some w.heap.size) := by
 obtain ⟨i0, hi, hz0, hz1, hz2⟩ := info_parts infoByte
 obtain ⟨A, c, rfl, hc, hnil, hcm, hl2, hL⟩ := hb
 obtain ⟨v', w', hrun, h2, h3, h4⟩ := run_append_lies' (P := Tryz.prog) w base 39 ty 5 i0 (.int .u8 0) 1 undBytes hi hz0 hz1 hz2 rfl v l1.length (l1.map byteV) hown w.heap.size A l2.length c (l2.map byteV) (by simp) hL (byteV_one l2) (by simp [maxLen]; omega) (by omega) hbase
 have h5 : (l1 ++ l2).length = l1.length + l2.length := List.length_append
 have h6 : Owned w' base v' (l1 ++ l2) := by unfold Owned; rw [h5, List.map_append]; exact h2
 obtain ⟨A', c', rfl, _, _⟩ := own_slice h6
 exact ⟨A', c', w', hrun, h6, Keeps.of_grown h3, h4⟩

theorem wpList_append_bytes {ops : Array Oper} {rest : List Oper} {o : Oper} {a : Act} {Q : Exit → Act → World → Prop} (hgd : o.guard = none) (s x : Operand)
  (ho : o.op = .call { callee := .builtin .append, args := #[s, x], argTypes := #[39, 39] })
  (base : Nat) (v u : Value) (l1 l2 : List UInt8) (hs : a.eval s = v) (hx : a.eval x = u) (hown : Owned w base v l1) (hb : Bytes w w.heap.size u l2) (hlen : l1.length + l2.length ≤ 140737488355328) (hbase : base ≤ w.heap.size)
  (h : ∀ A c w' l, Hid (l = l1 ++ l2) → (l.length ≤ l1.length + l2.length ∧ l1.length + l2.length ≤ l.length) → Owned w' base (.slice A l.length c) l → Keeps w w' v.ownBlock.toList → ((Value.slice A l.length c).ownBlock = v.ownBlock ∨ (Value.slice A l.length c).ownBlock = some w.heap.size) →
   wpList Tryz.prog ops Q rest (a.put o.dst (.slice A l.length c)) w') : wpList Tryz.prog ops Q (o :: rest) a w := by
 refine wpList_plain hgd fun K hK => ?_
 obtain ⟨A, c, w', hrun, h2, h3, h4⟩ := run_append_bytes w base v u l1 l2 o.type hown hb hlen hbase
 unfold Oper.wp execOp
 simp only [ho, resolve, invoke, builtin, Sem.run_bind, Sem.run_pure, Result.andThen_ok, List.map_toArray, List.map_cons, List.map_nil, hs, hx, hrun]
 exact hK _ _ (h A c w' _ (Lib.hid rfl) ⟨by simp, by simp⟩ h2 h3 h4)

theorem step_append_bytes {ops : Array Oper} {o : Oper} {a : Act} {K : Act → World → Prop} {Q : Exit → Act → World → Prop} {E : Prop} (hgd : o.guard = none) (s x : Operand)
  (ho : o.op = .call { callee := .builtin .append, args := #[s, x], argTypes := #[39, 39] })
  (base : Nat) (v u : Value) (l1 l2 : List UInt8) (hs : a.eval s = v) (hx : a.eval x = u) (hown : Owned w base v l1) (hb : Bytes w w.heap.size u l2) (hlen : l1.length + l2.length ≤ 140737488355328) (hbase : base ≤ w.heap.size)
  (h : ∀ A c w' l, Hid (l = l1 ++ l2) → (l.length ≤ l1.length + l2.length ∧ l1.length + l2.length ≤ l.length) → Owned w' base (.slice A l.length c) l → Keeps w w' v.ownBlock.toList → ((Value.slice A l.length c).ownBlock = v.ownBlock ∨ (Value.slice A l.length c).ownBlock = some w.heap.size) →
   K (a.put o.dst (.slice A l.length c)) w') :
  if Region.wanted o (yielded ops a.tmps) = true then Oper.wp Tryz.prog o a w K Q else E := by
 have hw : Region.wanted o (yielded ops a.tmps) = true := by simp [Region.wanted, hgd]
 rw [if_pos hw]
 obtain ⟨A, c, w', hrun, h2, h3, h4⟩ := run_append_bytes w base v u l1 l2 o.type hown hb hlen hbase
 unfold Oper.wp execOp
 simp only [ho, resolve, invoke, builtin, Sem.run_bind, Sem.run_pure, Result.andThen_ok, List.map_toArray, List.map_cons, List.map_nil, hs, hx, hrun]
 exact h A c w' _ (Lib.hid rfl) ⟨by simp, by simp⟩ h2 h3 h4
end
end Go.Proofs.YtfglgeoookbppaaGreatDoor

namespace Go.Proofs.YtfglgeoookbppaaGreatDoor
open Go.RowKit

set_option maxRecDepth 100000 in
set_option maxHeartbeats 400000 in
theorem kMust_yes (w : World) :
  Calls Tryz.prog 85 #[.bool true] w fun e w' => e = .returned (.tuple #[]) ∧ w = w' := by
 go_enter Tryz.func85, Tryz.ntmps85
 go_wp2
 exact ⟨rfl, Value.tuple #[], by kernel_rfl, rfl, rfl⟩

set_option maxRecDepth 100000 in
set_option maxHeartbeats 400000 in
theorem kMust_no (w : World) :
  Calls Tryz.prog 85 #[.bool false] w fun e w' => e = .panicked [{ v := .iface 110 (.agg #[]), recovered := false }] ∧ w = w' := by
 go_enter Tryz.func85, Tryz.ntmps85
 go_wp2
 exact ⟨rfl, rfl, rfl⟩
end Go.Proofs.YtfglgeoookbppaaGreatDoor

namespace Go.Proofs.YtfglgeoookbppaaGreatDoor
open Ieee

/-- Rungs to a binade; the rung of infinity; what the sign adds. -/
def fB : Nat := 4503599627370496
def fInf : Nat := 9218868437227405312
def fS : Nat := 9223372036854775808
theorem d_binade : double.binade = fB := by decide
theorem d_inf : double.infRung = fInf := by decide +kernel
theorem d_sign : double.signWeight = fS := by decide
theorem d_least : double.leastPlace = -1074 := by decide

/-- What a rung is worth, in units of the least place; its digits and their place. -/
def rMag (r : Nat) : Nat := if r < fB then r else fB + r % fB
def rUp (r : Nat) : Nat := if r < fB then 0 else r / fB - 1
def rVal (r : Nat) : Nat := rMag r * 2 ^ rUp r

/-- A finite word is a number of its rung's digits. -/
theorem read_num (w : Nat) (h : w % fS < fInf) : double.read w = .number (w / fS % 2 == 1) (rMag (w % fS)) (-1074 + (rUp (w % fS) : Nat)) := by
 unfold Format.read
 simp only [d_binade, d_inf, d_sign, d_least]
 unfold rMag rUp
 by_cases hb : w % fS < fB
 ·simp only [hb, if_true]; simp
 ·simp only [hb, if_false, h, if_true]
theorem read_inf (w : Nat) (h : w % fS = fInf) : double.read w = .infinity (w / fS % 2 == 1) := by
 unfold Format.read
 simp only [d_binade, d_inf, d_sign, d_least, h]
 rw [if_neg (by decide), if_neg (by decide), if_pos trivial]
theorem read_nan (w : Nat) (h : fInf < w % fS) : double.read w = .nan (w / fS % 2 == 1) (w % fS - fInf) := by
 unfold Format.read
 simp only [d_binade, d_inf, d_sign, d_least]
 rw [if_neg (by unfold fB; unfold fInf at h; omega), if_neg (by omega), if_neg (by omega)]

theorem rMag_lt (r : Nat) : rMag r < 2 * fB := by
 unfold rMag
 split
 ·omega
 ·have : r % fB < fB := Nat.mod_lt _ (by decide)
  omega
theorem rVal_low {r : Nat} (h : r < fB) : rVal r = r := by simp [rVal, rMag, rUp, h]
theorem rVal_high {r : Nat} (h : fB ≤ r) : rVal r = (fB + r % fB) * 2 ^ (r / fB - 1) := by simp [rVal, rMag, rUp, Nat.not_lt.2 h]

/-- A rung above is worth more. -/
theorem rVal_succ (r : Nat) : rVal r < rVal (r + 1) := by
 have hB : 0 < fB := by decide
 by_cases h : r + 1 < fB
 ·rw [rVal_low h, rVal_low (by omega)]; omega
 ·by_cases h2 : r < fB
  ·obtain rfl : r = fB - 1 := by omega
   rw [rVal_low (by omega), rVal_high (by omega)]
   decide
  ·rw [rVal_high (by omega), rVal_high (by omega)]
   have e1 := Nat.div_add_mod r fB
   have m1 : r % fB < fB := Nat.mod_lt _ hB
   by_cases hc : r % fB + 1 = fB
   ·have d2 : (r + 1) / fB = r / fB + 1 := by
     rw [show r + 1 = fB * (r / fB + 1) by rw [Nat.mul_add, Nat.mul_one]; omega, Nat.mul_div_cancel_left _ hB]
    have m2 : (r + 1) % fB = 0 := by
     rw [show r + 1 = fB * (r / fB + 1) by rw [Nat.mul_add, Nat.mul_one]; omega, Nat.mul_mod_right]
    rw [d2, m2]
    have hk : r / fB ≥ 1 := Nat.div_pos (by omega) hB
    obtain ⟨k, hk⟩ : ∃ k, r / fB = k + 1 := ⟨r / fB - 1, by omega⟩
    rw [hk, Nat.add_sub_cancel, Nat.add_sub_cancel, Nat.pow_succ]
    have hp : 0 < 2 ^ k := Nat.pow_pos (by omega)
    rw [show (fB + 0) * (2 ^ k * 2) = (2 * fB) * 2 ^ k by rw [Nat.add_zero, Nat.mul_comm (2 ^ k) 2, ← Nat.mul_assoc, Nat.mul_comm fB 2]]
    exact Nat.mul_lt_mul_of_pos_right (by omega) hp
   ·have d2 : (r + 1) / fB = r / fB := by
     apply Nat.div_eq_of_lt_le
     ·rw [Nat.mul_comm]; omega
     ·rw [Nat.add_mul, Nat.one_mul, Nat.mul_comm]; omega
    have m2 : (r + 1) % fB = r % fB + 1 := by
     have e2 := Nat.div_add_mod (r + 1) fB
     rw [d2] at e2
     omega
    rw [d2, m2]
    exact Nat.mul_lt_mul_of_pos_right (by omega) (Nat.pow_pos (by omega))
theorem rVal_lt {r s : Nat} (h : r < s) : rVal r < rVal s := by
 induction s with
 | zero => omega
 | succ s ih =>
  rcases Nat.lt_or_ge r s with h1 | h1
  ·exact Nat.lt_trans (ih h1) (rVal_succ s)
  ·obtain rfl : r = s := by omega
   exact rVal_succ r
theorem rVal_inj {r s : Nat} (h : rVal r = rVal s) : r = s := by
 rcases Nat.lt_trichotomy r s with h1 | h1 | h1
 ·have := rVal_lt h1; omega
 ·exact h1
 ·have := rVal_lt h1; omega
theorem rVal_compare (r s : Nat) : compare (rVal r : Int) (rVal s : Int) = compare (r : Int) (s : Int) := by
 rcases Nat.lt_trichotomy r s with h | h | h
 ·have := rVal_lt h
  rw [Int.compare_eq_lt.2 (by omega), Int.compare_eq_lt.2 (by omega)]
 ·subst h; rw [Int.compare_eq_eq.2 rfl, Int.compare_eq_eq.2 rfl]
 ·have := rVal_lt h
  rw [Int.compare_eq_gt.2 (by omega), Int.compare_eq_gt.2 (by omega)]

/-- How a word stands: its rung with its sign. -/
def fNeg (w : Nat) : Bool := w / fS % 2 == 1
def fKey (w : Nat) : Int := if fNeg w then -((w % fS : Nat) : Int) else ((w % fS : Nat) : Int)
def fNum (w : Nat) : Bool := decide (w % fS ≤ fInf)

theorem compare_scale (a b p : Int) (hp : 0 < p) : compare (a * p) (b * p) = compare a b := by
 rcases Int.lt_trichotomy a b with h | h | h
 ·rw [Int.compare_eq_lt.2 h, Int.compare_eq_lt.2 (Int.mul_lt_mul_of_pos_right h hp)]
 ·subst h; rw [Int.compare_eq_eq.2 rfl, Int.compare_eq_eq.2 rfl]
 ·rw [Int.compare_eq_gt.2 h, Int.compare_eq_gt.2 (Int.mul_lt_mul_of_pos_right h hp)]
def sgn (n : Bool) (m : Nat) : Int := if n then -(m : Int) else (m : Int)
theorem signed_eq (n : Bool) (m u : Nat) : signed n m u = sgn n (m * 2 ^ u) := by
 unfold signed sgn
 rw [Nat.shiftLeft_eq]
theorem sgn_mul (n : Bool) (m p : Nat) : sgn n (m * p) = sgn n m * (p : Int) := by
 unfold sgn
 cases n
 ·simp
 ·simp [Int.neg_mul]
theorem rVal_pos {r : Nat} : rVal r = 0 ↔ r = 0 := by
 have h0 : rVal 0 = 0 := by decide
 constructor
 ·intro h
  exact rVal_inj (h.trans h0.symm)
 ·intro h; subst h; exact h0
theorem sgn_compare (a b : Bool) (r s : Nat) : compare (sgn a (rVal r)) (sgn b (rVal s)) = compare (sgn a r) (sgn b s) := by
 have hr := @rVal_pos r
 have hs := @rVal_pos s
 cases a <;> cases b <;> simp only [sgn, if_true, if_false, Bool.false_eq_true]
 ·exact rVal_compare r s
 ·by_cases h : r = 0 ∧ s = 0
  ·rw [Int.compare_eq_eq.2 (by omega), Int.compare_eq_eq.2 (by omega)]
  ·rw [Int.compare_eq_gt.2 (by omega), Int.compare_eq_gt.2 (by omega)]
 ·by_cases h : r = 0 ∧ s = 0
  ·rw [Int.compare_eq_eq.2 (by omega), Int.compare_eq_eq.2 (by omega)]
  ·rw [Int.compare_eq_lt.2 (by omega), Int.compare_eq_lt.2 (by omega)]
 ·rcases Nat.lt_trichotomy r s with h | h | h
  ·have := rVal_lt h
   rw [Int.compare_eq_gt.2 (by omega), Int.compare_eq_gt.2 (by omega)]
  ·subst h; rw [Int.compare_eq_eq.2 rfl, Int.compare_eq_eq.2 rfl]
  ·have := rVal_lt h
   rw [Int.compare_eq_lt.2 (by omega), Int.compare_eq_lt.2 (by omega)]

theorem order_key (x y : Nat) (hx : x % fS ≤ fInf) (hy : y % fS ≤ fInf) : double.order x y = some (compare (fKey x) (fKey y)) := by
 have kx : fKey x = sgn (fNeg x) (x % fS) := rfl
 have ky : fKey y = sgn (fNeg y) (y % fS) := rfl
 unfold Format.order
 rw [kx, ky]
 rcases Nat.lt_or_ge (x % fS) fInf with h1 | h1 <;> rcases Nat.lt_or_ge (y % fS) fInf with h2 | h2
 ·rw [read_num x h1, read_num y h2]
  simp only [Datum.order]
  rw [← sgn_compare]
  congr 1
  generalize hu : rUp (x % fS) = u
  generalize hv : rUp (y % fS) = v
  have e1 : rVal (x % fS) = rMag (x % fS) * 2 ^ (u - min u v) * 2 ^ min u v := by
   rw [Nat.mul_assoc, ← Nat.pow_add, show u - min u v + min u v = u by omega, rVal, hu]
  have e2 : rVal (y % fS) = rMag (y % fS) * 2 ^ (v - min u v) * 2 ^ min u v := by
   rw [Nat.mul_assoc, ← Nat.pow_add, show v - min u v + min u v = v by omega, rVal, hv]
  have hp : (0 : Int) < ((2 ^ min u v : Nat) : Int) := by
   have : 0 < 2 ^ min u v := Nat.pow_pos (by omega)
   omega
  rw [e1, e2, sgn_mul _ _ (2 ^ min u v), sgn_mul _ _ (2 ^ min u v), compare_scale _ _ _ hp, signed_eq, signed_eq]
  have t1 : ((-1074 + (u : Int)) - min (-1074 + (u : Int)) (-1074 + (v : Int))).toNat = u - min u v := by omega
  have t2 : ((-1074 + (v : Int)) - min (-1074 + (u : Int)) (-1074 + (v : Int))).toNat = v - min u v := by omega
  rw [t1, t2]
  rfl
 ·have h2' : y % fS = fInf := by omega
  rw [read_num x h1, read_inf y h2', h2']
  simp only [Datum.order]
  change some (if fNeg y then Ordering.gt else Ordering.lt) = _
  cases fNeg y
  ·cases fNeg x <;> simp only [sgn, if_true, if_false, Bool.false_eq_true] <;> rw [Int.compare_eq_lt.2 (by unfold fInf at *; omega)]
  ·cases fNeg x <;> simp only [sgn, if_true, if_false, Bool.false_eq_true] <;> rw [Int.compare_eq_gt.2 (by unfold fInf at *; omega)]
 ·have h1' : x % fS = fInf := by omega
  rw [read_inf x h1', read_num y h2, h1']
  simp only [Datum.order]
  change some (if fNeg x then Ordering.lt else Ordering.gt) = _
  cases fNeg x
  ·cases fNeg y <;> simp only [sgn, if_true, if_false, Bool.false_eq_true] <;> rw [Int.compare_eq_gt.2 (by unfold fInf at *; omega)]
  ·cases fNeg y <;> simp only [sgn, if_true, if_false, Bool.false_eq_true] <;> rw [Int.compare_eq_lt.2 (by unfold fInf at *; omega)]
 ·have h1' : x % fS = fInf := by omega
  have h2' : y % fS = fInf := by omega
  rw [read_inf x h1', read_inf y h2', h1', h2']
  simp only [Datum.order]
  change some (compare (fNeg y).toNat (fNeg x).toNat) = _
  cases fNeg x <;> cases fNeg y <;> decide +kernel
theorem order_nan (x y : Nat) (h : fInf < x % fS ∨ fInf < y % fS) : double.order x y = none := by
 unfold Format.order
 rcases h with h | h
 ·rw [read_nan x h]; rfl
 ·rw [read_nan y h]
  rcases Nat.lt_trichotomy (x % fS) fInf with h1 | h1 | h1
  ·rw [read_num x h1]; rfl
  ·rw [read_inf x h1]; rfl
  ·rw [read_nan x h1]; rfl
end Go.Proofs.YtfglgeoookbppaaGreatDoor

namespace Go.Proofs.YtfglgeoookbppaaGreatDoor
open Ieee

theorem log2_shift (n k : Nat) (h : n ≠ 0) : (n * 2 ^ k).log2 = n.log2 + k := by
 induction k with
 | zero => simp
 | succ k ih =>
  rw [Nat.pow_succ, ← Nat.mul_assoc, Nat.mul_comm _ 2, Nat.log2_two_mul (by have : 0 < 2 ^ k := Nat.pow_pos (by omega); exact Nat.mul_ne_zero h (by omega)), ih]
  omega
theorem rMag_log {r : Nat} (h : fB ≤ r) : (rMag r).log2 = 52 := by
 unfold rMag
 rw [if_neg (by omega)]
 have hm : r % fB < fB := Nat.mod_lt _ (by decide)
 have hB : fB = 2 ^ 52 := by decide
 apply Nat.le_antisymm
 ·have : fB + r % fB < 2 ^ 53 := by
   have : (2 : Nat) ^ 53 = 2 * fB := by decide
   omega
  have := (Nat.log2_lt (by rw [hB]; omega)).2 this
  omega
 ·exact (Nat.le_log2 (by rw [hB]; omega)).2 (by rw [← hB]; omega)
theorem rMag_log_low {r : Nat} (h : r < fB) (h0 : r ≠ 0) : (rMag r).log2 ≤ 51 := by
 unfold rMag
 rw [if_pos h]
 have hB : fB = 2 ^ 52 := by decide
 have := (Nat.log2_lt h0).2 (show r < 2 ^ 52 by omega)
 omega
theorem rung_parts (r : Nat) : rUp r * fB + rMag r = r := by
 unfold rUp rMag
 split
 ·omega
 ·rename_i h
  have e := Nat.div_add_mod r fB
  obtain ⟨k, hk⟩ : ∃ k, r / fB = k + 1 := ⟨r / fB - 1, by have : 0 < r / fB := Nat.div_pos (by omega) (by decide); omega⟩
  rw [hk] at e ⊢
  rw [Nat.add_sub_cancel]
  rw [Nat.mul_add, Nat.mul_one, Nat.mul_comm] at e
  omega
theorem cut_exact (neg : Bool) (n m d : Nat) (h : n = m * 2 ^ d) (hm : m ≠ 0) : Toward.even.cut neg n d = m := by
 have hp : 0 < 2 ^ d := Nat.pow_pos (by omega)
 have hl : n.log2 = m.log2 + d := by rw [h, log2_shift _ _ hm]
 unfold Toward.cut
 have hg : (1 <<< min d (n.log2 + 2) : Nat) = 2 ^ d := by
  rw [show min d (n.log2 + 2) = d by omega, Nat.shiftLeft_eq, Nat.one_mul]
 simp only [hg]
 rw [h, Nat.mul_div_cancel _ hp, Nat.mul_mod_left]
 have : ¬ 2 ^ d < 2 * 0 := by omega
 have h2 : (2 ^ d == 2 * 0) = false := by simp
 simp [h2]

theorem nearest_exact (neg : Bool) (mag r : Nat) (place : Int) (h0 : mag ≠ 0) (hr : r < fInf) (h : mag * 2 ^ (place + 1074).toNat = rVal r * 2 ^ (-1074 - place).toNat) :
  double.nearest neg mag place = double.word neg r := by
 obtain ⟨a, ha⟩ : ∃ a, (place + 1074).toNat = a := ⟨_, rfl⟩
 obtain ⟨b, hb⟩ : ∃ b, (-1074 - place).toNat = b := ⟨_, rfl⟩
 rw [ha, hb] at h
 have hpl : place = (a : Int) - b - 1074 := by omega
 have hM0 : rMag r ≠ 0 := fun hz => by
  have hp : 0 < 2 ^ a := Nat.pow_pos (by omega)
  have : mag * 2 ^ a = 0 := by rw [h, rVal, hz, Nat.zero_mul, Nat.zero_mul]
  rcases Nat.mul_eq_zero.1 this with h1 | h1
  ·exact h0 h1
  ·omega
 have h' : mag * 2 ^ a = rMag r * 2 ^ (rUp r + b) := by rw [h, rVal, Nat.mul_assoc, ← Nat.pow_add]
 have hlog : mag.log2 + a = (rMag r).log2 + (rUp r + b) := by
  rw [← log2_shift mag a h0, h', log2_shift _ _ hM0]
 have hlast : max (place + (mag.log2 : Int) - 52) (-1074) = (rUp r : Int) - 1074 := by
  by_cases hb' : r < fB
  ·have hu : rUp r = 0 := by simp [rUp, hb']
   have hr0 : r ≠ 0 := fun hz => by subst hz; exact hM0 (by decide)
   have := rMag_log_low hb' hr0
   omega
  ·have := rMag_log (r := r) (by omega)
   omega
 unfold Format.nearest
 rw [if_neg h0]
 have hfb : double.fractionBits = 52 := rfl
 simp only [d_least, d_binade, d_inf, hfb]
 rw [show (((52 : Nat) : Int)) = 52 from rfl, hlast]
 have hk : Toward.even.cut neg (mag <<< (place - ((rUp r : Int) - 1074)).toNat) (((rUp r : Int) - 1074) - place).toNat = rMag r := by
  apply cut_exact _ _ _ _ _ hM0
  rw [Nat.shiftLeft_eq]
  rcases Nat.lt_or_ge a (rUp r + b) with hlt | hge
  ·rw [show (place - ((rUp r : Int) - 1074)).toNat = 0 by omega, show (((rUp r : Int) - 1074) - place).toNat = rUp r + b - a by omega, Nat.pow_zero, Nat.mul_one]
   have hp : 0 < 2 ^ a := Nat.pow_pos (by omega)
   apply Nat.eq_of_mul_eq_mul_right hp
   rw [h', Nat.mul_assoc, ← Nat.pow_add, show rUp r + b - a + a = rUp r + b by omega]
  ·rw [show (place - ((rUp r : Int) - 1074)).toNat = a - (rUp r + b) by omega, show (((rUp r : Int) - 1074) - place).toNat = 0 by omega, Nat.pow_zero, Nat.mul_one]
   have hp : 0 < 2 ^ (rUp r + b) := Nat.pow_pos (by omega)
   apply Nat.eq_of_mul_eq_mul_right hp
   rw [Nat.mul_assoc, ← Nat.pow_add, show a - (rUp r + b) + (rUp r + b) = a by omega, h']
 rw [hk, show (((rUp r : Int) - 1074) - -1074).toNat = rUp r by omega, rung_parts r, Nat.min_eq_left (by omega)]
end Go.Proofs.YtfglgeoookbppaaGreatDoor

namespace Go.Proofs.YtfglgeoookbppaaGreatDoor
open Ieee

/-- The rung of twice as much. -/
def dbl (r : Nat) : Nat := if r < fB then 2 * r else r + fB
theorem rVal_dbl (r : Nat) : rVal (dbl r) = 2 * rVal r := by
 have hB : 0 < fB := by decide
 unfold dbl
 split
 ·rename_i h
  rw [rVal_low h]
  by_cases h2 : 2 * r < fB
  ·exact rVal_low h2
  ·have h3 : 2 * r / fB = 1 := Nat.div_eq_of_lt_le (by omega) (by omega)
   have h4 : 2 * r % fB = 2 * r - fB := by rw [Nat.mod_eq_sub_mod (by omega), Nat.mod_eq_of_lt (by omega)]
   rw [rVal_high (by omega), h3, h4, Nat.sub_self, Nat.pow_zero, Nat.mul_one]
   omega
 ·rename_i h
  have h3 : (r + fB) / fB = r / fB + 1 := Nat.add_div_right _ hB
  have h4 : (r + fB) % fB = r % fB := Nat.add_mod_right _ _
  obtain ⟨k, hk⟩ : ∃ k, r / fB = k + 1 := ⟨r / fB - 1, by have : 0 < r / fB := Nat.div_pos (by omega) hB; omega⟩
  rw [rVal_high (by omega), rVal_high (by omega), h3, h4, hk, Nat.add_sub_cancel, Nat.add_sub_cancel, Nat.pow_succ, Nat.mul_comm (2 ^ k) 2, ← Nat.mul_assoc, Nat.mul_comm _ 2, Nat.mul_assoc]
def fTwo : Nat := 4611686018427387904
def fHalf : Nat := 4602678819172646912
theorem word_parts (n : Bool) (r : Nat) (h : r < fS) : (double.word n r) % fS = r ∧ fNeg (double.word n r) = n := by
 unfold Format.word fNeg
 rw [d_sign]
 have hS : 0 < fS := by decide
 cases n
 ·simp only [Bool.false_eq_true, if_false]
  exact ⟨Nat.mod_eq_of_lt h, by rw [Nat.div_eq_of_lt h]; rfl⟩
 ·simp only [if_true]
  refine ⟨by rw [Nat.add_mod_left, Nat.mod_eq_of_lt h], ?_⟩
  rw [show fS + r = r + fS * 1 by omega, Nat.add_mul_div_left _ _ hS, Nat.div_eq_of_lt h]; rfl
theorem read_two : double.read fTwo = .number false fB (-1074 + 1023) := by decide +kernel
theorem read_half : double.read fHalf = .number false fB (-1074 + 1021) := by decide +kernel

theorem mul_scale (K : Nat) (hK : K = 1074) (x r2 : Nat) (c : Nat) (p q : Nat) (hc : double.read c = .number false fB (-1074 + (q : Int))) (hx : x % fS < fInf) (h2 : r2 < fInf) (hpq : p = q + 52) (hv : rVal (x % fS) * 2 ^ p = rVal r2 * 2 ^ K) :
  double.mul x c = some (double.word (fNeg x) r2) := by
 unfold Format.mul
 rw [read_num x hx, hc]
 simp only [Datum.product, Option.map_some]
 change some (double.nearest ((fNeg x) ^^ false) (rMag (x % fS) * fB) (-1074 + (rUp (x % fS) : Int) + (-1074 + (q : Int)))) = _
 rw [Bool.xor_false]
 congr 1
 have hB : fB = 2 ^ 52 := by decide
 by_cases h0 : rMag (x % fS) = 0
 ·have hr2 : r2 = 0 := by
   have h1 : rVal r2 * 2 ^ K = 0 := by rw [← hv, rVal, h0, Nat.zero_mul, Nat.zero_mul]
   have h3 : 0 < 2 ^ K := Nat.pow_pos (by omega)
   rcases Nat.mul_eq_zero.1 h1 with h4 | h4
   ·exact rVal_pos.1 h4
   ·exact absurd h4 (Nat.ne_of_gt h3)
  subst hr2
  unfold Format.nearest
  rw [if_pos (by rw [h0, Nat.zero_mul])]
 ·apply nearest_exact _ _ _ _ (Nat.mul_ne_zero h0 (by decide)) h2
  have e1 : (-1074 + (rUp (x % fS) : Int) + (-1074 + (q : Int)) + 1074).toNat = rUp (x % fS) + q - K := by omega
  have e2 : (-1074 - (-1074 + (rUp (x % fS) : Int) + (-1074 + (q : Int)))).toNat = K - (rUp (x % fS) + q) := by omega
  rw [e1, e2]
  rw [rVal, Nat.mul_assoc, ← Nat.pow_add] at hv
  generalize rUp (x % fS) = u at *
  generalize rMag (x % fS) = m at *
  generalize rVal r2 = v at *
  rw [hB, Nat.mul_assoc, ← Nat.pow_add]
  rcases Nat.lt_or_ge (u + q) K with hlt | hge
  ·rw [show u + q - K = 0 by omega, Nat.add_zero]
   have hp : 0 < 2 ^ (u + q) := Nat.pow_pos (by omega)
   apply Nat.eq_of_mul_eq_mul_right hp
   rw [Nat.mul_assoc, ← Nat.pow_add, Nat.mul_assoc, ← Nat.pow_add, show 52 + (u + q) = u + p by omega, show K - (u + q) + (u + q) = K by omega, hv]
  ·rw [show K - (u + q) = 0 by omega, Nat.pow_zero, Nat.mul_one]
   have hp : 0 < 2 ^ K := Nat.pow_pos (by omega)
   apply Nat.eq_of_mul_eq_mul_right hp
   rw [Nat.mul_assoc, ← Nat.pow_add, show 52 + (u + q - K) + K = u + p by omega, hv]
/-- Twice a number. -/
theorem mul_two (x : Nat) (hx : x % fS < fInf) (h2 : dbl (x % fS) < fInf) : double.mul x fTwo = some (double.word (fNeg x) (dbl (x % fS))) := by
 obtain ⟨K, hK⟩ : ∃ K, K = 1074 := ⟨_, rfl⟩
 refine mul_scale K hK x _ fTwo (K + 1) 1023 read_two hx h2 (by omega) ?_
 rw [rVal_dbl, Nat.pow_succ, Nat.mul_comm (2 ^ K) 2, ← Nat.mul_assoc, Nat.mul_comm _ 2]
/-- Half of a number that is twice another one. -/
theorem mul_half (x r : Nat) (hx : x % fS < fInf) (h : x % fS = dbl r) : double.mul x fHalf = some (double.word (fNeg x) r) := by
 have hr : r < fInf := by
  unfold dbl at h
  split at h <;> unfold fInf at * <;> unfold fB at * <;> omega
 obtain ⟨K, hK⟩ : ∃ K, K = 1073 := ⟨_, rfl⟩
 refine mul_scale (K + 1) (by omega) x r fHalf K 1021 read_half hx hr (by omega) ?_
 rw [h, rVal_dbl, Nat.pow_succ, Nat.mul_comm (2 ^ K) 2, ← Nat.mul_assoc, Nat.mul_comm _ 2]
end Go.Proofs.YtfglgeoookbppaaGreatDoor

namespace Go.Proofs.YtfglgeoookbppaaGreatDoor
open Ieee

/-- The rung of a whole number. -/
def intRung (m : Nat) : Nat := if m = 0 then 0 else (1022 + m.log2) * fB + m * 2 ^ (52 - m.log2)
theorem intRung_parts {m : Nat} (h0 : m ≠ 0) (hm : m < 2 * fB) : m.log2 ≤ 52 ∧ fB ≤ m * 2 ^ (52 - m.log2) ∧ m * 2 ^ (52 - m.log2) < 2 * fB := by
 have hB : fB = 2 ^ 52 := by decide
 have h2 : 2 * fB = 2 ^ 53 := by decide
 have hl : m.log2 < 53 := (Nat.log2_lt h0).2 (by rw [← h2]; exact hm)
 have lo : 2 ^ m.log2 ≤ m := Nat.log2_self_le h0
 have hi : m < 2 ^ (m.log2 + 1) := Nat.lt_log2_self
 generalize m.log2 = k at *
 refine ⟨by omega, ?_, ?_⟩
 ·rw [hB, show 52 = k + (52 - k) by omega, Nat.pow_add]
  rw [show k + (52 - k) - k = 52 - k by omega]
  exact Nat.mul_le_mul_right _ lo
 ·rw [h2, show 53 = (k + 1) + (52 - k) by omega, Nat.pow_add]
  exact Nat.mul_lt_mul_of_pos_right hi (Nat.pow_pos (by omega))
theorem intRung_val {m : Nat} (hm : m < 2 * fB) (K : Nat) (hK : K = 1074) : rVal (intRung m) = m * 2 ^ K ∧ intRung m < fInf := by
 by_cases h0 : m = 0
 ·subst h0
  exact ⟨by rw [Nat.zero_mul]; decide, by decide⟩
 ·obtain ⟨h1, h2, h3⟩ := intRung_parts h0 hm
  unfold intRung
  rw [if_neg h0]
  obtain ⟨g, hg⟩ : ∃ g, m * 2 ^ (52 - m.log2) = fB + g := ⟨m * 2 ^ (52 - m.log2) - fB, by omega⟩
  have hgl : g < fB := by omega
  have hge : fB ≤ (1022 + m.log2) * fB + (fB + g) := by omega
  have hd : ((1022 + m.log2) * fB + (fB + g)) / fB = 1023 + m.log2 := by
   rw [show (1022 + m.log2) * fB + (fB + g) = g + fB * (1023 + m.log2) by rw [show 1023 + m.log2 = (1022 + m.log2) + 1 by omega, Nat.mul_add, Nat.mul_comm fB (1022 + m.log2)]; omega,
    Nat.add_mul_div_left _ _ (by decide), Nat.div_eq_of_lt hgl, Nat.zero_add]
  have hmod : ((1022 + m.log2) * fB + (fB + g)) % fB = g := by
   rw [show (1022 + m.log2) * fB + (fB + g) = g + fB * (1023 + m.log2) by rw [show 1023 + m.log2 = (1022 + m.log2) + 1 by omega, Nat.mul_add, Nat.mul_comm fB (1022 + m.log2)]; omega,
    Nat.add_mul_mod_self_left, Nat.mod_eq_of_lt hgl]
  constructor
  ·rw [hg, rVal_high hge, hd, hmod, ← hg, Nat.mul_assoc, ← Nat.pow_add, show 52 - m.log2 + (1023 + m.log2 - 1) = K by omega]
  ·rw [hg]
   have : (1022 + m.log2) * fB ≤ 1074 * fB := Nat.mul_le_mul_right _ (by omega)
   unfold fInf
   unfold fB at *
   omega
theorem nearest_int {m : Nat} (hm : m < 2 * fB) (neg : Bool) : double.nearest neg m 0 = double.word neg (intRung m) := by
 by_cases h0 : m = 0
 ·subst h0
  unfold Format.nearest intRung
  rw [if_pos rfl, if_pos rfl]
 ·obtain ⟨K, hK⟩ : ∃ K, K = 1074 := ⟨_, rfl⟩
  obtain ⟨h1, h2⟩ := intRung_val hm K hK
  refine nearest_exact _ _ _ _ h0 h2 ?_
  rw [h1, show ((0 : Int) + 1074).toNat = K by omega, show ((-1074 : Int) - 0).toNat = 0 by omega, Nat.pow_zero, Nat.mul_one]

theorem cut_zero (neg : Bool) (n m d : Nat) (h : n = m * 2 ^ d) : Toward.zero.cut neg n d = m := by
 have hp : 0 < 2 ^ d := Nat.pow_pos (by omega)
 unfold Toward.cut
 by_cases hm : m = 0
 ·subst hm
  rw [Nat.zero_mul] at h
  subst h
  simp
 ·have hl : n.log2 = m.log2 + d := by rw [h, log2_shift _ _ hm]
  have hg : (1 <<< min d (n.log2 + 2) : Nat) = 2 ^ d := by
   rw [show min d (n.log2 + 2) = d by omega, Nat.shiftLeft_eq, Nat.one_mul]
  simp only [hg]
  rw [h, Nat.mul_div_cancel _ hp]
  rfl
/-- A word that is worth a whole number, as that number. -/
theorem toInt_word (w m : Nat) (hw : w < fInf) (K : Nat) (hK : K = 1074) (hv : rVal w = m * 2 ^ K) : (double.read w).toInt .zero = some (m : Int) := by
 have hS : fInf < fS := by decide
 have h1 : w % fS = w := Nat.mod_eq_of_lt (by omega)
 rw [read_num w (by omega), h1, show w / fS = 0 from Nat.div_eq_of_lt (by omega)]
 unfold Datum.toInt Datum.integral
 simp only
 have hk : Toward.zero.cut (0 % 2 == 1) (rMag w <<< (-1074 + (rUp w : Int)).toNat) (-(-1074 + (rUp w : Int))).toNat = m := by
  apply cut_zero
  rw [Nat.shiftLeft_eq]
  unfold rVal at hv
  generalize rUp w = u at *
  generalize rMag w = g at *
  rcases Nat.lt_or_ge u K with hlt | hge
  ·rw [show (-1074 + (u : Int)).toNat = 0 by omega, show (-(-1074 + (u : Int))).toNat = K - u by omega, Nat.pow_zero, Nat.mul_one]
   have hp : 0 < 2 ^ u := Nat.pow_pos (by omega)
   apply Nat.eq_of_mul_eq_mul_right hp
   rw [hv, Nat.mul_assoc, ← Nat.pow_add, show K - u + u = K by omega]
  ·rw [show (-1074 + (u : Int)).toNat = u - K by omega, show (-(-1074 + (u : Int))).toNat = 0 by omega, Nat.pow_zero, Nat.mul_one]
   have hp : 0 < 2 ^ K := Nat.pow_pos (by omega)
   apply Nat.eq_of_mul_eq_mul_right hp
   rw [Nat.mul_assoc, ← Nat.pow_add, show u - K + K = u by omega, hv]
 rw [hk]
 simp [signed]
end Go.Proofs.YtfglgeoookbppaaGreatDoor

namespace Go.Proofs.YtfglgeoookbppaaGreatDoor
open Ieee

/-- The rungs of 2^52 and of 2^53. -/
def r52 : Nat := 4841369599423283200
def r53 : Nat := 4845873199050653696
theorem r52_eq : r52 = 1075 * fB ∧ r53 = 1076 * fB := by decide
theorem rVal_at (K : Nat) (hK : K = 1074) (t : Nat) (ht : t < fB) : rVal (1075 * fB + t) = (fB + t) * 2 ^ K := by
 have hB : 0 < fB := by decide
 have hge : fB ≤ 1075 * fB + t := by have : fB ≤ 1075 * fB := Nat.le_mul_of_pos_left _ (by omega); omega
 have hd : (1075 * fB + t) / fB = 1075 := by
  rw [show 1075 * fB + t = t + fB * 1075 by rw [Nat.mul_comm]; omega, Nat.add_mul_div_left _ _ hB, Nat.div_eq_of_lt ht]
 have hm : (1075 * fB + t) % fB = t := by
  rw [show 1075 * fB + t = t + fB * 1075 by rw [Nat.mul_comm]; omega, Nat.add_mul_mod_self_left, Nat.mod_eq_of_lt ht]
 rw [rVal_high hge, hd, hm, show 1075 - 1 = K by omega]
/-- Twice, so many times. -/
def dblN : Nat → Nat → Nat
 | 0, r => r
 | k + 1, r => dbl (dblN k r)
theorem rVal_dblN (k r : Nat) : rVal (dblN k r) = rVal r * 2 ^ k := by
 induction k with
 | zero => simp [dblN]
 | succ k ih => rw [dblN, rVal_dbl, ih, Nat.pow_succ, Nat.mul_comm 2, Nat.mul_assoc]
/-- A rung's number is below another one's just if the rung is. -/
theorem rVal_lt_iff (r s : Nat) : rVal r < rVal s ↔ r < s := by
 constructor
 ·intro h
  rcases Nat.lt_or_ge r s with h1 | h1
  ·exact h1
  ·rcases Nat.eq_or_lt_of_le h1 with h2 | h2
   ·subst h2; omega
   ·have := rVal_lt h2; omega
 ·exact rVal_lt
/-- A subnormal number, doubled at most 1074 times, stays below 2^52. -/
theorem dblN_low (K : Nat) (hK : K = 1074) (r k : Nat) (hr : r < fB) (hk : k ≤ K) : dblN k r < r52 := by
 rw [← rVal_lt_iff, rVal_dblN, r52_eq.1, show 1075 * fB = 1075 * fB + 0 from rfl, rVal_at K hK 0 (by decide), rVal_low hr, Nat.add_zero]
 have h1 : 2 ^ k ≤ 2 ^ K := Nat.pow_le_pow_right (by omega) hk
 have h2 : 0 < 2 ^ K := Nat.pow_pos (by omega)
 exact Nat.lt_of_le_of_lt (Nat.mul_le_mul_left _ h1) (Nat.mul_lt_mul_of_pos_right hr h2)
theorem dblN_last (K : Nat) (hK : K = 1074) (r : Nat) (hr : r < fB) : (double.read (dblN K r)).toInt .zero = some (r : Int) := by
 have h := dblN_low K hK r K hr (Nat.le_refl _)
 exact toInt_word _ r (Nat.lt_trans h (by decide)) K hK (by rw [rVal_dblN, rVal_low hr])
/-- A normal number: its binade and its fraction; halved and doubled it keeps the fraction. -/
theorem norm_parts {r : Nat} (h1 : fB ≤ r) (h2 : r < fInf) : 1 ≤ r / fB ∧ r / fB ≤ 2046 ∧ r % fB < fB ∧ r = (r / fB) * fB + r % fB := by
 have hB : 0 < fB := by decide
 refine ⟨Nat.div_pos h1 hB, ?_, Nat.mod_lt _ hB, ?_⟩
 ·have : r / fB < 2047 := (Nat.div_lt_iff_lt_mul hB).2 (by unfold fInf fB at *; omega)
  omega
 ·have := Nat.div_add_mod r fB
  rw [Nat.mul_comm] at this
  exact this.symm
theorem dbl_norm (E t : Nat) (h : 1 ≤ E) : dbl (E * fB + t) = (E + 1) * fB + t := by
 unfold dbl
 have : fB ≤ E * fB := Nat.le_mul_of_pos_left _ h
 rw [if_neg (by omega), Nat.add_mul, Nat.one_mul]
 omega
theorem toInt_norm (t : Nat) (ht : t < fB) : (double.read (1075 * fB + t)).toInt .zero = some ((fB + t : Nat) : Int) := by
 obtain ⟨K, hK⟩ : ∃ K, K = 1074 := ⟨_, rfl⟩
 refine toInt_word _ (fB + t) ?_ K hK (rVal_at K hK t ht)
 unfold fInf fB at *
 omega
end Go.Proofs.YtfglgeoookbppaaGreatDoor

namespace Go.Proofs.YtfglgeoookbppaaGreatDoor
open Ieee

/-- A number's bits as a key has them (of no number one word, of -0 those of 0), and these in order. -/
def kBits (w : Nat) : Nat := if fInf < w % fS then 9221120237041090560 else if w % fS = 0 then 0 else w
def kOrd (n : Nat) : Nat := if fS ≤ n then 18446744073709551615 - n else n + fS
theorem word_cases {w : Nat} (h : w < 18446744073709551616) : (w < fS ∧ fNeg w = false ∧ w % fS = w) ∨ (fS ≤ w ∧ fNeg w = true ∧ w = fS + w % fS) := by
 unfold fNeg
 rcases Nat.lt_or_ge w fS with h1 | h1
 ·refine .inl ⟨h1, by rw [Nat.div_eq_of_lt h1]; rfl, Nat.mod_eq_of_lt h1⟩
 ·have hd : w / fS = 1 := Nat.div_eq_of_lt_le (by omega) (by unfold fS at *; omega)
  have hm : w % fS = w - fS := by rw [Nat.mod_eq_sub_mod h1, Nat.mod_eq_of_lt (by unfold fS at *; omega)]
  exact .inr ⟨h1, by rw [hd]; rfl, by omega⟩
theorem kOrd_key {w : Nat} (h : w < 18446744073709551616) (hn : w % fS ≤ fInf) : ((kOrd (kBits w) : Nat) : Int) = (if fKey w < 0 then (fS : Int) - 1 + fKey w else (fS : Int) + fKey w) := by
 unfold kBits
 rw [if_neg (by omega)]
 have hS : fInf < fS := by decide
 rcases word_cases h with ⟨h1, h2, h3⟩ | ⟨h1, h2, h3⟩
 ·have hk : fKey w = (w : Int) := by unfold fKey; rw [h2, h3]; rfl
  rw [hk, if_neg (show ¬ ((w : Nat) : Int) < 0 by omega)]
  by_cases h0 : w % fS = 0
  ·rw [if_pos h0]
   unfold kOrd
   rw [if_neg (by unfold fS; omega)]
   omega
  ·rw [if_neg h0]
   unfold kOrd
   rw [if_neg (by omega)]
   omega
 ·have hk : fKey w = -((w % fS : Nat) : Int) := by unfold fKey; rw [h2]; rfl
  rw [hk]
  by_cases h0 : w % fS = 0
  ·rw [if_pos h0, h0]
   unfold kOrd
   rw [if_neg (by unfold fS; omega)]
   simp
  ·rw [if_neg h0, if_pos (show -((w % fS : Nat) : Int) < 0 by omega)]
   unfold kOrd
   rw [if_pos h1]
   unfold fS at *
   omega
theorem kOrd_nan {w : Nat} (hn : fInf < w % fS) : kOrd (kBits w) = 18444492273895866368 := by
 unfold kBits
 rw [if_pos hn]
 decide
theorem fKey_le {w : Nat} (hn : w % fS ≤ fInf) : fKey w ≤ (fInf : Int) ∧ -(fInf : Int) ≤ fKey w := by
 unfold fKey
 split <;> omega
/-- Numbers' bits in order stand as the numbers do. -/
theorem kOrd_lt {x y : Nat} (hx : x < 18446744073709551616) (hy : y < 18446744073709551616) (nx : x % fS ≤ fInf) (ny : y % fS ≤ fInf) : kOrd (kBits x) < kOrd (kBits y) ↔ fKey x < fKey y := by
 have h1 := kOrd_key hx nx
 have h2 := kOrd_key hy ny
 split at h1 <;> split at h2 <;> omega
theorem kOrd_eq {x y : Nat} (hx : x < 18446744073709551616) (hy : y < 18446744073709551616) (nx : x % fS ≤ fInf) (ny : y % fS ≤ fInf) : kOrd (kBits x) = kOrd (kBits y) ↔ fKey x = fKey y := by
 have h1 := kOrd_lt hx hy nx ny
 have h2 := kOrd_lt hy hx ny nx
 omega
/-- No number stands behind all. -/
theorem kOrd_nan_lt {x y : Nat} (hx : x < 18446744073709551616) (nx : x % fS ≤ fInf) (ny : fInf < y % fS) : kOrd (kBits x) < kOrd (kBits y) := by
 have h1 := kOrd_key hx nx
 have h2 := kOrd_nan ny
 have h3 := fKey_le nx
 unfold fInf fS at *
 split at h1 <;> omega
end Go.Proofs.YtfglgeoookbppaaGreatDoor

namespace Go.Proofs.YtfglgeoookbppaaGreatDoor
open Go.RowKit Ieee

/-- A number's word with that of -0 as that of 0. -/
def wholeW (x : Nat) : Nat := if double.order x 0 = some .eq then 0 else x

set_option maxRecDepth 100000 in
set_option maxHeartbeats 400000 in
theorem kWhole_any (x : Nat) (w : World) :
  Calls Tryz.prog 140 #[.float .f64 x] w fun e w' => e = .returned (.float .f64 (wholeW x)) ∧ w = w' := by
 by_cases h : (FloatKind.f64.format.order x 0 == some Ordering.eq) = true
 ·have hw : wholeW x = 0 := if_pos (beq_iff_eq.1 h)
  go_enter Tryz.func140, Tryz.ntmps140
  go_wp2
  go_ret
  exact ⟨by rw [hw]; rfl, rfl⟩
 ·have hw : wholeW x = x := if_neg fun h2 => h (beq_iff_eq.2 h2)
  go_enter Tryz.func140, Tryz.ntmps140
  go_wp2
  go_ret
  exact ⟨by rw [hw]; rfl, rfl⟩
end Go.Proofs.YtfglgeoookbppaaGreatDoor

namespace Go.Proofs.YtfglgeoookbppaaGreatDoor
open Go.RowKit

/-- One halving. -/
def crcOne (m : Nat) : Nat := if m % 2 = 1 then (m / 2) ^^^ 3988292384 else m / 2
def crcR : Nat → Nat → Nat
 | 0, m => m
 | k + 1, m => crcOne (crcR k m)
def crcWord (b : Nat) : Nat := crcR 8 b
def crcStep (s b : Nat) : Nat := crcWord ((s % 256) ^^^ b) ^^^ (s / 256)
def crcRun (s : Nat) (l : List UInt8) : Nat := l.foldl (fun s b => crcStep s b.toNat) s
def crcSum (l : List UInt8) : Nat := 4294967295 - crcRun 4294967295 l

theorem crcOne_lt (m : Nat) (h : m < 4294967296) : crcOne m < 4294967296 := by
 unfold crcOne
 split
 ·exact Nat.xor_lt_two_pow (n := 32) (by omega) (by omega)
 ·omega
theorem crcR_lt (k m : Nat) (h : m < 4294967296) : crcR k m < 4294967296 := by
 induction k with
 | zero => exact h
 | succ k ih => exact crcOne_lt _ ih
theorem crcWord_lt (b : Nat) (h : b < 256) : crcWord b < 4294967296 := crcR_lt 8 b (by omega)
theorem crcStep_lt (s b : Nat) (hs : s < 4294967296) (hb : b < 256) : crcStep s b < 4294967296 := by
 unfold crcStep
 exact Nat.xor_lt_two_pow (n := 32) (crcWord_lt _ (Nat.xor_lt_two_pow (n := 8) (by omega) (by omega))) (by omega)
theorem crcRun_lt (l : List UInt8) : ∀ (s : Nat), s < 4294967296 → crcRun s l < 4294967296 := by
 induction l with
 | nil => exact fun s h => h
 | cons b l ih => exact fun s h => ih _ (crcStep_lt _ _ h b.toNat_lt)
theorem crcRun_append (s : Nat) (a b : List UInt8) : crcRun s (a ++ b) = crcRun (crcRun s a) b := by simp [crcRun]
theorem crcRun_snoc (s : Nat) (a : List UInt8) (b : UInt8) : crcRun s (a ++ [b]) = crcStep (crcRun s a) b.toNat := by simp [crcRun]
theorem crcRun_nil (s : Nat) : crcRun s [] = s := rfl
theorem crcSum_lt (l : List UInt8) : crcSum l < 4294967296 := by unfold crcSum; omega

/-- Odd, as the program asks it. -/
theorem and_one32 (m : Nat) (h : m < 4294967296) : bits BinOp.and IntKind.u32 (m : Int) 1 = ((m % 2 : Nat) : Int) := by
 have := u32_and_nat m 1 h (by omega)
 rw [show ((1 : Nat) : Int) = 1 from rfl] at this
 rw [this, Nat.and_one_is_mod]
theorem xor_poly32 (m : Nat) (h : m < 4294967296) : bits BinOp.xor IntKind.u32 ((m : Int) / 2) 3988292384 = ((m / 2 ^^^ 3988292384 : Nat) : Int) := by
 have := u32_xor_nat (m / 2) 3988292384 (by omega) (by omega)
 rw [show ((3988292384 : Nat) : Int) = 3988292384 from rfl] at this
 rw [← this]; rfl
theorem crcOne_odd (m : Nat) (h : m < 4294967296) (ho : (bits BinOp.and IntKind.u32 (m : Int) 1 == 1) = true) : bits BinOp.xor IntKind.u32 ((m : Int) / 2) 3988292384 = (crcOne m : Int) := by
 rw [and_one32 m h] at ho
 have : m % 2 = 1 := by have := (beq_iff_eq.1 ho); omega
 rw [xor_poly32 m h, crcOne, if_pos this]
theorem crcOne_even (m : Nat) (h : m < 4294967296) (ho : (bits BinOp.and IntKind.u32 (m : Int) 1 == 1) = false) : (m : Int) / 2 = (crcOne m : Int) := by
 rw [and_one32 m h] at ho
 have : m % 2 ≠ 1 := by have := (beq_eq_false_iff_ne.1 ho); omega
 rw [crcOne, if_neg this]; omega
theorem crcIdx (s x : Nat) (hx : x < 256) : bits BinOp.xor IntKind.u8 (IntKind.u8.wrap (s : Int)) (x : Int) = ((s % 256 ^^^ x : Nat) : Int) := by
 have h := u8_xor_nat (s % 256) x (by omega) hx
 rw [← h, IntKind.wrap_u8]; rfl
theorem crcIdx' (s x : Nat) (hx : x < 256) : bits BinOp.xor IntKind.u8 ((s : Int) % 256) (x : Int) = ((s % 256 ^^^ x : Nat) : Int) := by
 have h := u8_xor_nat (s % 256) x (by omega) hx
 rw [← h]; rfl
theorem crcNext (s x : Nat) (hs : s < 4294967296) (hx : x < 256) : bits BinOp.xor IntKind.u32 ((crcWord (s % 256 ^^^ x) : Nat) : Int) ((s : Int) / 256) = ((crcStep s x : Nat) : Int) := by
 have hi : s % 256 ^^^ x < 256 := Nat.xor_lt_two_pow (n := 8) (by omega) (by omega)
 have h := u32_xor_nat (crcWord (s % 256 ^^^ x)) (s / 256) (crcWord_lt _ hi) (by omega)
 rw [crcStep, ← h]; rfl
theorem xor_ones32 (s : Nat) (h : s < 4294967296) : 4294967295 ^^^ s = 4294967295 - s := by
 have h1 : (BitVec.allOnes 32 ^^^ BitVec.ofNat 32 s).toNat = 4294967295 - s := by
  rw [BitVec.allOnes_xor, BitVec.toNat_not, BitVec.toNat_ofNat, Nat.mod_eq_of_lt (by omega)]
 rw [BitVec.toNat_xor, BitVec.toNat_allOnes, BitVec.toNat_ofNat, Nat.mod_eq_of_lt (by omega)] at h1
 exact h1
theorem not32 (s : Nat) (h : s < 4294967296) : bits BinOp.xor IntKind.u32 IntKind.u32.max (s : Int) = ((4294967295 - s : Nat) : Int) := by
 have := u32_xor_nat 4294967295 s (by omega) h
 rw [xor_ones32 s h] at this
 rw [← this]; rfl

/-- A number out of its bytes, the higher ones first. -/
def beN (l : List UInt8) : Nat := l.foldl (fun n b => n * 256 + b.toNat) 0
theorem beN_snoc (l : List UInt8) (b : UInt8) : beN (l ++ [b]) = beN l * 256 + b.toNat := by simp [beN]
theorem beN_lt (l : List UInt8) : beN l < 256 ^ l.length := by
 rw [← List.reverse_reverse l]
 induction l.reverse with
 | nil => simp [beN]
 | cons b l ih =>
  have hb : b.toNat < 256 := b.toNat_lt
  rw [List.reverse_cons, beN_snoc]
  simp only [List.length_append, List.length_reverse, List.length_cons, List.length_nil] at *
  rw [Nat.pow_succ]; omega
theorem or_byte (n b : Nat) (hb : b < 256) : (n * 256 ||| b) = n * 256 + b := by
 have h := Nat.two_pow_add_eq_or_of_lt (i := 8) (b := b) (by omega) n
 rw [show (2 : Nat) ^ 8 = 256 from rfl, Nat.mul_comm] at h
 exact h.symm
theorem be_step (n b : Nat) (hn : n < 72057594037927936) (hb : b < 256) : bits BinOp.or IntKind.u64 ((n : Int) * 256) (b : Int) = ((n * 256 + b : Nat) : Int) := by
 have h := u64_or_nat (n * 256) b (by omega) (by omega)
 rw [or_byte n b hb] at h
 rw [← h]; rfl
end Go.Proofs.YtfglgeoookbppaaGreatDoor

namespace Go.Proofs.YtfglgeoookbppaaGreatDoor
open Go.RowKit

/-- A number's bytes, the higher ones first: so many of them. -/
def toBE : Nat → Nat → List UInt8
 | 0, _ => []
 | k + 1, n => toBE k (n / 256) ++ [UInt8.ofNat (n % 256)]
theorem toBE_length (k n : Nat) : (toBE k n).length = k := by
 induction k generalizing n with
 | zero => rfl
 | succ k ih => simp [toBE, ih]
theorem pow_split (k n : Nat) (h : n < 256 ^ (k + 1)) : n / 256 ^ k < 256 := by
 rw [Nat.div_lt_iff_lt_mul (Nat.pow_pos (by omega)), Nat.mul_comm, ← Nat.pow_succ]; exact h
/-- The first digits of a number, the higher ones first. -/
def digs (n k : Nat) : Nat → List UInt8
 | 0 => []
 | j + 1 => digs n k j ++ [UInt8.ofNat (n / 256 ^ (k - 1 - j))]
theorem digs_length (n k j : Nat) : (digs n k j).length = j := by
 induction j with
 | zero => rfl
 | succ j ih => simp [digs, ih]
theorem digs_le (n k j : Nat) (hj : j ≤ k) : digs n (k + 1) j = digs (n / 256) k j := by
 induction j with
 | zero => rfl
 | succ j ih =>
  rw [digs, digs, ih (by omega)]
  congr 2
  rw [Nat.div_div_eq_div_mul]
  congr 2
  rw [show k + 1 - 1 - j = (k - 1 - j) + 1 by omega, Nat.pow_succ, Nat.mul_comm]
theorem ofNat_mod (n : Nat) : UInt8.ofNat (n % 256) = UInt8.ofNat n := by
 apply UInt8.toNat_inj.1
 simp [UInt8.toNat_ofNat']
theorem digs_all (k n : Nat) : digs n k k = toBE k n := by
 induction k generalizing n with
 | zero => rfl
 | succ k ih =>
  rw [digs, toBE, ← ih, digs_le n k k (Nat.le_refl _), ofNat_mod]
  simp
theorem digit_val (n m : Nat) : ((n : Int) / 2 ^ (8 * m) % 256) = ((UInt8.ofNat (n / 256 ^ m)).toNat : Int) := by
 have h : (256 : Nat) ^ m = 2 ^ (8 * m) := by rw [Nat.pow_mul]
 rw [UInt8.toNat_ofNat', h, Int.natCast_emod, Int.natCast_ediv, Int.natCast_pow]
 rfl
theorem toBE_beN_rev (l : List UInt8) : toBE l.reverse.length (beN l.reverse) = l.reverse := by
 induction l with
 | nil => rfl
 | cons b t ih =>
  have hb := b.toNat_lt
  rw [List.reverse_cons, beN_snoc, List.length_append]
  show toBE t.reverse.length ((beN t.reverse * 256 + b.toNat) / 256) ++ [UInt8.ofNat ((beN t.reverse * 256 + b.toNat) % 256)] = _
  rw [show (beN t.reverse * 256 + b.toNat) / 256 = beN t.reverse by omega, show (beN t.reverse * 256 + b.toNat) % 256 = b.toNat by omega, ih]
  simp
theorem toBE_beN (l : List UInt8) (k : Nat) (h : l.length = k) : toBE k (beN l) = l := by
 have := toBE_beN_rev l.reverse
 rw [List.reverse_reverse, h] at this
 exact this
theorem beN_toBE (k n : Nat) (h : n < 256 ^ k) : beN (toBE k n) = n := by
 induction k generalizing n with
 | zero =>
  have : n = 0 := by simpa using h
  subst this
  rfl
 | succ k ih =>
  show beN (toBE k (n / 256) ++ [UInt8.ofNat (n % 256)]) = n
  rw [beN_snoc, ih (n / 256) (by rw [Nat.pow_succ] at h; omega)]
  simp
  omega
theorem toBE_front (j n : Nat) : toBE (j + 1) n = UInt8.ofNat (n / 256 ^ j) :: toBE j n := by
 induction j generalizing n with
 | zero => simp [toBE, ofNat_mod]
 | succ j ih =>
  rw [toBE, ih (n / 256)]
  rw [show toBE (j + 1) n = toBE j (n / 256) ++ [UInt8.ofNat (n % 256)] from rfl]
  simp only [List.cons_append]
  congr 2
  rw [Nat.div_div_eq_div_mul, Nat.pow_succ, Nat.mul_comm]
/-- So many noughts, and behind them the last digits. -/
def half (k j n : Nat) : List UInt8 := List.replicate (k - j) 0 ++ toBE j n
theorem half_length (k j n : Nat) (h : j ≤ k) : (half k j n).length = k := by simp [half, toBE_length]; omega
theorem half_set (k j n : Nat) (h : j < k) : (half k j n).set (k - 1 - j) (UInt8.ofNat (n / 256 ^ j)) = half k (j + 1) n := by
 unfold half
 rw [toBE_front, show k - j = (k - (j + 1)) + 1 by omega, List.replicate_succ', List.append_assoc]
 rw [List.set_append_right _ _ (by simp; omega)]
 simp [show k - 1 - j - (k - (j + 1)) = 0 by omega]
end Go.Proofs.YtfglgeoookbppaaGreatDoor
