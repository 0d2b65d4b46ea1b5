/- Package keys: a text, read. Package keys: what Parse lays aside: the deferred closure. A region that draws its order, of which one operation may write what lay: each operation met once; the last ones may stand in a row. A region of which one operation writes block K, the last ones in a row: in words for the walk. Package keys: one part, read; parts of the call's own. -/
import Derived.Test.YtfglgeoookbppaaGreatDoorPa14
import Derived.Deep.LoopGhost
import Derived.Test.YtfglgeoookbppaaGreatDoorPa15
import Derived.Test.YtfglgeoookbppaaGreatDoorPa13
import Derived.Defers
import Derived.Recover
import Derived.Test.YtfglgeoookbppaaGreatDoorPa6

namespace Go.Proofs.YtfglgeoookbppaaGreatDoor
open Go.RowKit

/-- A text out of a key's bytes, and what is behind. -/
def kUnesc : List UInt8 → Option (List UInt8 × List UInt8)
 | [] => none
 | [_] => none
 | b :: c :: r => if b = 0 then (if c = 1 then some ([], r) else if c = 255 then (kUnesc r).map fun (s, t) => (0 :: s, t) else none) else (kUnesc (c :: r)).map fun (s, t) => (b :: s, t)

theorem kUnesc_byte {b : UInt8} (l : List UInt8) (h : b ≠ 0) : kUnesc (b :: l) = (kUnesc l).map fun (s, t) => (b :: s, t) := by
 rcases l with _ | ⟨c, r⟩
 ·rfl
 ·rw [kUnesc, if_neg h]
theorem kUnesc_end (r : List UInt8) : kUnesc (0 :: 1 :: r) = some ([], r) := by rw [kUnesc, if_pos rfl, if_pos rfl]
theorem kUnesc_nought (r : List UInt8) : kUnesc (0 :: 255 :: r) = (kUnesc r).map fun (s, t) => (0 :: s, t) := by rw [kUnesc, if_pos rfl, if_neg (by decide), if_pos rfl]
theorem kUnesc_bad {c : UInt8} (r : List UInt8) (h1 : c ≠ 1) (h2 : c ≠ 255) : kUnesc (0 :: c :: r) = none := by rw [kUnesc, if_pos rfl, if_neg h1, if_neg h2]
theorem kUnesc_short : kUnesc [0] = none := by rfl
def kAcc (acc : List UInt8) : Option (List UInt8 × List UInt8) → Option (List UInt8 × List UInt8) := Option.map fun (s, t) => (acc ++ s, t)
theorem kAcc_cons (acc : List UInt8) (b : UInt8) (o : Option (List UInt8 × List UInt8)) : kAcc acc (o.map fun (s, t) => (b :: s, t)) = kAcc (acc ++ [b]) o := by
 cases o <;> simp [kAcc]
theorem kAcc_nil (o : Option (List UInt8 × List UInt8)) : kAcc [] o = o := by cases o <;> simp [kAcc]

theorem str_tail (x : UInt8) (r : List UInt8) : (⟨(x :: r).toArray⟩ : ByteArray).extract 1 (r.length + 1) = ⟨r.toArray⟩ := str_drop (x :: r) 1
theorem str_head (x : UInt8) (r : List UInt8) (h : 0 < (⟨(x :: r).toArray⟩ : ByteArray).size) : (⟨(x :: r).toArray⟩ : ByteArray)[0]'h = x := rfl
theorem lies_one (w : World) (x : Value) (t : TypeId) : Lies (w.alloc (.cells #[x] t)) (w.heap.size + 1) (some ⟨w.heap.size, 0, none⟩) [x] := fun _ => by
 refine ⟨w.heap.size, 0, rfl, by omega, fun i u hu => ?_⟩
 have hi : i = 0 := by
  rcases i with _ | i
  ·rfl
  ·simp at hu
 subst hi
 have := (Row.new w t #[x]).cell 0
 simp at hu
 subst hu
 simp [this]

/-- What reading a text does. -/
def KRdT (w : World) (b : Nat) (o : Option (List UInt8 × List UInt8)) (e : Ending) (w' : World) : Prop := Keeps w w' [b] ∧ match o with
 | none => e = kStop
 | some (s, t) => e = .returned (kpV ⟨3, 0, 0, s⟩) ∧ Row w' b 9 #[strV t]

set_option maxRecDepth 100000 in
set_option maxHeartbeats 8000000 in
theorem kRdT_any (w : World) (b : Nat) (l : List UInt8) (hb : Row w b 9 #[strV l]) (hm : l.length ≤ 1000000) :
  Calls Tryz.prog 123 #[.pointer (some ⟨b, 0, none⟩)] w (KRdT w b (kUnesc l)) := by
 obtain ⟨i0, hi, hz0, hz1, hz2⟩ := info_parts infoByte
 have hsf := @run_store_float Tryz.prog
 have HB := Lib.hid hb
 clear hb
 go_enter Tryz.func123, Tryz.ntmps123
 go_wp2_with fail
 go_loopg [3] l.length (fun g v wr => ∃ acc rest : List UInt8, Hid (kUnesc l = kAcc acc (kUnesc rest)) ∧ Owned wr (w.heap.size + 1) v acc ∧ Row wr b 9 #[strV rest] ∧ Row wr w.heap.size 63 #[.int .i64 0, .int .i64 0, .float .f64 0, .string ⟨#[]⟩] ∧ Keeps w wr [b] ∧ rest.length ≤ g ∧ acc.length + rest.length ≤ l.length)
 case atStart => exact ⟨[], l, Lib.hid (kAcc_nil _).symm, World.ownsRow_nil _ _ _ _, HB.out.alloc _, Row.new _ _ _, (Keeps.alloc _ _).weaken (by simp), Nat.le_refl _, by simp⟩
 case round =>
  obtain ⟨acc, rest, HE, ho, hr, hz, hkp, hg, hlen⟩ := hrel
  have HH := Lib.hid (And.intro ho (And.intro hr (And.intro hz hkp)))
  have c0 := hr.cell 0
  have f0 := hr.frozen 0
  simp [strV] at c0
  clear ho hr hz hkp
  rcases rest with _ | ⟨x, r⟩
  ·go_wp2_with (go_at_call 85; refine (kMust_no _).mono ?_; rintro e w' ⟨rfl, rfl⟩)
   refine ⟨rfl, ?_⟩
   refine ⟨HH.out.2.2.2, ?_⟩
   rw [HE.out]
   rfl
  ·have e1 := str_tail x r
   have e2 := str_head x r
   have hk1 : Keeps wr (wr.setCell ⟨b, 0, none⟩ (strV r)) [b] := Keeps.setCell _ _ _
   have HH1 := Lib.hid (show Owned (wr.setCell ⟨b, 0, none⟩ (strV r)) (w.heap.size + 1) u3 acc ∧ Row (wr.setCell ⟨b, 0, none⟩ (strV r)) b 9 #[strV r] ∧ Row (wr.setCell ⟨b, 0, none⟩ (strV r)) w.heap.size 63 #[.int .i64 0, .int .i64 0, .float .f64 0, .string ⟨#[]⟩] ∧ Keeps w (wr.setCell ⟨b, 0, none⟩ (strV r)) [b] from
    ⟨own_keep HH.out.1 hk1 (fun g hg => by have := HH.out.1.lt g hg; have := HB.out.lt; simp; omega), HH.out.2.1.store 0 _, HH.out.2.2.1.keep hk1 (by have := HB.out.lt; simp; omega), HH.out.2.2.2.trans hk1 (by simp)⟩)
   clear hk1
   by_cases hx : x = 0
   ·subst hx
    rcases r with _ | ⟨y, r⟩
    ·go_wp2_with (first | (go_at_call 85; refine (kMust_yes _).mono ?_; rintro e w' ⟨rfl, rfl⟩) | (go_at_call 85; refine (kMust_no _).mono ?_; rintro e w' ⟨rfl, rfl⟩))
     refine ⟨rfl, ?_⟩
     refine ⟨HH1.out.2.2.2, ?_⟩
     rw [HE.out, kUnesc_short]
     rfl
    ·have e3 := str_tail y r
     have e4 := str_head y r
     simp only [List.length_cons] at e1
     have hd2 : decide ((0 : Int) < (r.length : Int) + 1 + 1) = true := by simp <;> omega
     have hd1 : decide ((0 : Int) < (r.length : Int) + 1) = true := by simp <;> omega
     obtain ⟨W1, hW1⟩ : ∃ W, wr.setCell ⟨b, 0, none⟩ (strV (y :: r)) = W := ⟨_, rfl⟩
     rw [hW1] at HH1
     have hk2 : Keeps W1 (W1.setCell ⟨b, 0, none⟩ (strV r)) [b] := Keeps.setCell _ _ _
     have HH2 := Lib.hid (show Owned (W1.setCell ⟨b, 0, none⟩ (strV r)) (w.heap.size + 1) u3 acc ∧ Row (W1.setCell ⟨b, 0, none⟩ (strV r)) b 9 #[strV r] ∧ Row (W1.setCell ⟨b, 0, none⟩ (strV r)) w.heap.size 63 #[.int .i64 0, .int .i64 0, .float .f64 0, .string ⟨#[]⟩] ∧ Keeps w (W1.setCell ⟨b, 0, none⟩ (strV r)) [b] from
      ⟨own_keep HH1.out.1 hk2 (fun g hg => by have := HH1.out.1.lt g hg; have := HB.out.lt; simp; omega), HH1.out.2.1.store 0 _, HH1.out.2.2.1.keep hk2 (by have := HB.out.lt; simp; omega), HH1.out.2.2.2.trans hk2 (by simp)⟩)
     clear hk2
     obtain ⟨A, c, rfl, hc, hcm, hnil, hL⟩ := HH2.out.1.parts
     have HCV := Lib.hid (conv_str _ _ A c acc hL)
     have hsc : (W1.setCell ⟨b, 0, none⟩ (strV r)).heap.size = wr.heap.size := by rw [← hW1]; simp [World.setCell]
     have hsz := HH.out.2.2.2.size
     rw [← hW1] at HH1 HH2 HCV hsc
     clear hL hnil hW1 W1
     by_cases hy1 : y = 1
     ·subst hy1
      have hcv := HCV.out
      simp only [strV] at hcv
      go_wp2_with (first | (go_at_call 85; refine (kMust_yes _).mono ?_; rintro e w' ⟨rfl, rfl⟩) | (go_at_call 85; refine (kMust_no _).mono ?_; rintro e w' ⟨rfl, rfl⟩))
      refine (kText_any _ _).mono ?_
      rintro e w2 ⟨rfl, hk⟩
      have H3 := Lib.hid (And.intro (HH2.out.2.1.keeps hk) (And.intro (HH2.out.2.2.1.keeps hk) (HH2.out.2.2.2.trans hk (by simp))))
      clear hk hcv
      have d0 := H3.out.2.1.cell 0
      have d1 := H3.out.2.1.cell 1
      have d2 := H3.out.2.1.cell 2
      have d3 := H3.out.2.1.cell 3
      simp only [List.getElem?_toArray, List.getElem?_cons_zero, List.getElem?_cons_succ] at d0 d1 d2 d3
      have g0 := H3.out.2.1.frozen 0
      have g1 := H3.out.2.1.frozen 1
      have g2 := H3.out.2.1.frozen 2
      have g3 := H3.out.2.1.frozen 3
      go_wp2_with fail
      obtain ⟨q1, q2⟩ := part_put H3.out.2.1 (.int .i64 3) (.int .i64 0) (.float .f64 0) (.string ⟨acc.toArray⟩)
      have hne : b ≠ w.heap.size := Nat.ne_of_lt HB.out.lt
      refine kRdT_door _ _ _ _ _ _ _ rfl q1 _ ⟨H3.out.2.2.trans q2 (fun x hx hlt => by simp at hx; omega), ?_⟩
      have hE : kUnesc l = some (acc, r) := by rw [HE.out, kUnesc_end]; simp [kAcc]
      rw [hE]
      exact ⟨rfl, H3.out.1.keep q2 (by simpa using hne)⟩
     ·have hy1' : ((y.toNat : Int) == 1) = false := by
       simp
       intro h
       exact hy1 (UInt8.toNat_inj.1 (show y.toNat = 1 by omega))
      have HY1 := Lib.hid hy1
      clear hy1
      by_cases hy2 : y = 255
      ·subst hy2
       have HL1 := Lib.hid (show Lies (((wr.setCell ⟨b, 0, none⟩ (strV (255 :: r))).setCell ⟨b, 0, none⟩ (strV r)).alloc (.cells #[byteV 0] 5)) (wr.heap.size + 1) (some ⟨wr.heap.size, 0, none⟩) [byteV 0] by
        have h1 := lies_one ((wr.setCell ⟨b, 0, none⟩ (strV (255 :: r))).setCell ⟨b, 0, none⟩ (strV r)) (byteV 0) 5
        rw [hsc] at h1
        exact h1)
       clear hy1'
       go_wp2_with (first
        | (go_at_call 85; refine (kMust_yes _).mono ?_; rintro e w' ⟨rfl, rfl⟩)
        | (at_builtin; refine wpList_append_lies' _ rfl (.tmp 59) (.tmp 61) 39 rfl (w.heap.size + 1) 5 i0 (.int .u8 0) 1 undBytes hi hz0 hz1 hz2 rfl (.slice A acc.length c) acc.length (acc.map byteV) rfl (HH2.out.1.alloc _) (wr.heap.size + 1) (some ⟨wr.heap.size, 0, none⟩) 1 1 [byteV 0] rfl rfl HL1.out (by simp [Value.oneCell', byteV]) (by simp [maxLen]; omega) (by omega) (by simp; omega) ?_; intro v' w1 hown hg hb; have HO2 := Lib.hid (And.intro hown (And.intro hg hb)); clear hown hg hb))
       go_roundg r.length
       case measure => simp only [List.length_cons] at hg; omega
       case rel =>
        have hk3 := ((Keeps.alloc _ _).weaken (T := (Value.slice A acc.length c).ownBlock.toList) (by simp)).trans (Keeps.of_grown HO2.out.2.1) (fun z hz _ => hz)
        have hge : ∀ z ∈ (Value.slice A acc.length c).ownBlock.toList, w.heap.size + 1 ≤ z := fun z hz => (HH2.out.1.lt z (by simpa using hz)).1
        have hbl := HB.out.lt
        refine ⟨acc ++ [0], r, Lib.hid (by rw [HE.out, (kUnesc_nought) r, kAcc_cons]), ?_, HH2.out.2.1.keep hk3 (fun hm => by have := hge _ hm; omega), HH2.out.2.2.1.keep hk3 (fun hm => by have := hge _ hm; omega), HH2.out.2.2.2.trans hk3 (fun z hz hlt => by have := hge _ hz; omega), Nat.le_refl _, by simp only [List.length_cons, List.length_append, List.length_nil] at hlen ⊢; omega⟩
        have h1 := HO2.out.1
        unfold Owned
        rw [List.length_append, List.map_append]
        exact h1
      ·have hy2' : ((y.toNat : Int) == 255) = false := by
        simp
        intro h
        exact hy2 (UInt8.toNat_inj.1 (show y.toNat = 255 by omega))
       have HY2 := Lib.hid hy2
       clear hy2
       go_wp2_with (first | (go_at_call 85; refine (kMust_yes _).mono ?_; rintro e w' ⟨rfl, rfl⟩) | (go_at_call 85; refine (kMust_no _).mono ?_; rintro e w' ⟨rfl, rfl⟩))
       refine ⟨rfl, ?_⟩
       refine ⟨HH1.out.2.2.2, ?_⟩
       rw [HE.out, kUnesc_bad r HY1.out HY2.out]
       rfl
   ·have hx0 : ((x.toNat : Int) == 0) = false := by simp; intro h; exact hx (UInt8.toNat_inj.1 (by simpa using h))
    have HX := Lib.hid hx
    clear hx
    obtain ⟨A, c, rfl, hc, hcm, hnil, hL⟩ := HH1.out.1.parts
    clear hL hnil
    have hsz := HH.out.2.2.2.size
    have HL1 := Lib.hid (show Lies ((wr.setCell ⟨b, 0, none⟩ (strV r)).alloc (.cells #[byteV x] 5)) (wr.heap.size + 1) (some ⟨wr.heap.size, 0, none⟩) [byteV x] by
     have h1 := lies_one (wr.setCell ⟨b, 0, none⟩ (strV r)) (byteV x) 5
     rw [show (wr.setCell ⟨b, 0, none⟩ (strV r)).heap.size = wr.heap.size by simp [World.setCell]] at h1
     exact h1)
    have hsc : (wr.setCell ⟨b, 0, none⟩ (strV r)).heap.size = wr.heap.size := by simp [World.setCell]
    go_wp2_with (first
     | (go_at_call 85; refine (kMust_yes _).mono ?_; rintro e w' ⟨rfl, rfl⟩)
     | (at_builtin; refine wpList_append_lies' _ rfl (.tmp 59) (.tmp 61) 39 rfl (w.heap.size + 1) 5 i0 (.int .u8 0) 1 undBytes hi hz0 hz1 hz2 rfl (.slice A acc.length c) acc.length (acc.map byteV) rfl (HH1.out.1.alloc _) (wr.heap.size + 1) (some ⟨wr.heap.size, 0, none⟩) 1 1 [byteV x] rfl rfl HL1.out (by simp [Value.oneCell', byteV]) (by simp [maxLen]; omega) (by omega) (by simp; omega) ?_; intro v' w1 hown hg hb; have HO2 := Lib.hid (And.intro hown (And.intro hg hb)); clear hown hg hb))
    go_roundg r.length
    case measure => simp only [List.length_cons] at hg; omega
    case rel =>
     have hk3 := ((Keeps.alloc _ _).weaken (T := (Value.slice A acc.length c).ownBlock.toList) (by simp)).trans (Keeps.of_grown HO2.out.2.1) (fun z hz _ => hz)
     have hge : ∀ z ∈ (Value.slice A acc.length c).ownBlock.toList, w.heap.size + 1 ≤ z := fun z hz => (HH1.out.1.lt z (by simpa using hz)).1
     have hbl := HB.out.lt
     refine ⟨acc ++ [x], r, Lib.hid (by rw [HE.out, (fun r => kUnesc_byte r HX.out) r, kAcc_cons]), ?_, HH1.out.2.1.keep hk3 (fun hm => by have := hge _ hm; omega), HH1.out.2.2.1.keep hk3 (fun hm => by have := hge _ hm; omega), HH1.out.2.2.2.trans hk3 (fun z hz hlt => by have := hge _ hz; omega), Nat.le_refl _, by simp only [List.length_cons, List.length_append, List.length_nil] at hlen ⊢; omega⟩
     have h1 := HO2.out.1
     unfold Owned
     rw [List.length_append, List.map_append]
     exact h1
end Go.Proofs.YtfglgeoookbppaaGreatDoor

namespace Go.Proofs.YtfglgeoookbppaaGreatDoor
open Go.RowKit

set_option maxRecDepth 100000 in
set_option maxHeartbeats 1000000 in
theorem kCatch_idle (p q : Addr) (w : World) :
  CallsD Tryz.prog 84 #[.pointer (some p), .pointer (some q)] .returning w fun e u' w' => e = .returned (.tuple #[]) ∧ u' = .returning ∧ w' = w := by
 refine callsD_of_wpS Tryz.func84 rfl fun c₀ cs hu => ?_
 apply wpS_seq
 apply wpS_region
 simp [wpOpsS, go_sem, recoverD, hu, Tryz.ntmps84, Exit.thenS]
 refine wpS_of_wp ?_
 go_wp2
 cases c₀
 simp_all [bodyPostS, results, Tryz.results84]

set_option maxRecDepth 100000 in
set_option maxHeartbeats 1000000 in
theorem kCatch_stop (p q : Addr) (w : World) (b1 b2 : Nat) (hp : p = ⟨b1, 0, none⟩) (hq : q = ⟨b2, 0, none⟩) (v1 v2 : Value) (h1 : Row w b1 59 #[v1]) (h2 : Row w b2 29 #[v2]) :
  CallsD Tryz.prog 84 #[.pointer (some p), .pointer (some q)] (.panicking [{ v := .iface 110 (.agg #[]), recovered := false }]) w fun e u' w' =>
   e = .returned (.tuple #[]) ∧ u' = .panicking [{ v := .iface 110 (.agg #[]), recovered := true }] ∧ Row w' b1 59 #[.slice none 0 0] ∧ Row w' b2 29 #[.int .i64 280] ∧ Keeps w w' [b1, b2] := by
 subst hp hq
 refine callsD_of_wpS Tryz.func84 rfl fun c₀ cs hu => ?_
 apply wpS_seq
 apply wpS_region
 simp [wpOpsS, go_sem, recoverD, hu, Tryz.ntmps84, Exit.thenS]
 refine wpS_of_wp ?_
 have hta : ∀ W : World, (Instr.typeAssert (.iface 110 (.agg #[])) 20 110 true).run Tryz.prog W = .ok (.tuple #[.agg #[], .bool true]) W := fun W => by kernel_rfl
 have hne : b1 ≠ b2 := h1.ne_type h2 (by decide)
 have a1 := h1.alloc (.cells #[] 110)
 have a2 := (h2.alloc (.cells #[] 110)).far (p := ⟨b1, 0, none⟩) (fun e => hne e.symm) (.slice none 0 0)
 have c1 := a1.cell 0
 have c2 := a2.cell 0
 have f1 := a1.frozen 0
 have f2 := a2.frozen 0
 simp only [List.getElem?_toArray, List.getElem?_cons_zero] at c1 c2
 have HH := Lib.hid (And.intro h1 (And.intro h2 (And.intro hne (And.intro a1 a2))))
 clear h1 h2 hne a1 a2
 rw [show (#[Value.pointer (some ⟨b1, 0, none⟩), Value.pointer (some ⟨b2, 0, none⟩)] ++ ((Array.replicate 9 undef).setIfInBounds 3 (Value.iface 110 (Value.agg #[]))) : Array Value) = #[Value.pointer (some ⟨b1, 0, none⟩), Value.pointer (some ⟨b2, 0, none⟩), undef, undef, undef, Value.iface 110 (Value.agg #[]), undef, undef, undef, undef, undef] from rfl]
 go_wp2
 have b1' := (HH.out.2.2.2.1.store 0 (.slice none 0 0)).far (p := ⟨b2, 0, none⟩) HH.out.2.2.1 (.int .i64 280)
 have b2' := HH.out.2.2.2.2.store 0 (.int .i64 280)
 have hk : Keeps w (((w.alloc (.cells #[] 110)).setCell ⟨b1, 0, none⟩ (.slice none 0 0)).setCell ⟨b2, 0, none⟩ (.int .i64 280)) [b1, b2] :=
  (((Keeps.alloc w _).weaken (T := [b1, b2]) (by simp)).trans (Keeps.setCell _ _ _) (by simp)).trans (Keeps.setCell _ _ _) (by simp)
 simp [bodyPostS, results, Tryz.results84]
 exact ⟨by simpa using b1', by simpa using b2', hk⟩
end Go.Proofs.YtfglgeoookbppaaGreatDoor

namespace Go.Proofs.YtfglgeoookbppaaGreatDoor
open Go.RowKit

section
variable (P : Program) (R R1 : World → World → Prop) (d : Tmp) (w0 : World) (ops : Array Oper) (vals : Tmp → Value)
def relS (t : Option Tmp) : World → World → Prop := if t = some d then R1 else R
def knowsS (rs : List Tmp) (W : World) : List Ent → Prop
 | [] => True
 | ⟨_, some _, _, _⟩ :: l => knowsS rs W l
 | ⟨none, none, _, _⟩ :: l => knowsS rs W l
 | ⟨some t, none, rd, φ⟩ :: l => (t ∈ rs → ∃ W0, R w0 W0 ∧ relS R R1 d (some t) W0 W ∧ φ (rd.map vals) (vals t) W0) ∧ knowsS rs W l

def knowsAllS (W : World) : List Ent → Prop
 | [] => True
 | ⟨_, some _, _, _⟩ :: l => knowsAllS W l
 | ⟨none, none, rd, φ⟩ :: l => (∃ u W0, R w0 W0 ∧ R W0 W ∧ φ (rd.map vals) u W0) ∧ knowsAllS W l
 | ⟨some t, none, rd, φ⟩ :: l => (∃ W0, R w0 W0 ∧ relS R R1 d (some t) W0 W ∧ φ (rd.map vals) (vals t) W0) ∧ knowsAllS W l

def wpLooseS (a0 : Act) (Q : List Ent → Prop) : List Oper → List Ent → Prop
 | [], env => Q env
 | o :: rest, env => ∃ c rd φ, (∀ t ∈ rd, waitsB ops o t = true) ∧ (∀ W vals, R w0 W → (o.dst = some d → R1 w0 W) → knowsS R R1 d w0 vals (o.looksAt ops) W env → opOk P (if o.dst = some d then R else R1) ops (fill vals env a0) o (entOf c (φ (rd.map vals))) W) ∧ wpLooseS a0 Q rest (addEnt o.dst c rd φ env)
end

section
variable {P : Program} {R R1 : World → World → Prop} {d : Tmp} {w0 : World} {ops : Array Oper} {vals : Tmp → Value}
/-- The lexical walk's findings, told by number. -/
theorem wpLooseS_table {a0 : Act} {Q : List Ent → Prop} : ∀ (l : List Oper) (env : List Ent), wpLooseS P R R1 d w0 ops a0 Q l env →
  ∃ (E : Nat → List Ent) (c : Nat → Option Value) (rd : Nat → List Tmp) (φ : Nat → List Value → Value → World → Prop), E 0 = env ∧
   (∀ k o, l[k]? = some o → E (k + 1) = addEnt o.dst (c k) (rd k) (φ k) (E k) ∧ (∀ t ∈ rd k, waitsB ops o t = true) ∧ ∀ W vals, R w0 W → (o.dst = some d → R1 w0 W) → knowsS R R1 d w0 vals (o.looksAt ops) W (E k) → opOk P (if o.dst = some d then R else R1) ops (fill vals (E k) a0) o (entOf (c k) (φ k ((rd k).map vals))) W) ∧ Q (E l.length)
 | [], env, h => ⟨fun _ => env, fun _ => none, fun _ => [], fun _ _ _ _ => True, rfl, fun k o ho => by simp at ho, h⟩
 | o :: rest, env, h => by
  obtain ⟨c, rd, φ, h0, h1, h2⟩ := h
  obtain ⟨E, c', rd', φ', e0, hs, hq⟩ := wpLooseS_table rest _ h2
  refine ⟨fun | 0 => env | k + 1 => E k, fun | 0 => c | k + 1 => c' k, fun | 0 => rd | k + 1 => rd' k, fun | 0 => φ | k + 1 => φ' k, rfl, ?_, hq⟩
  intro k o' ho'
  cases k with
  | zero =>
   simp only [List.getElem?_cons_zero, Option.some.injEq] at ho'
   subst ho'
   exact ⟨e0, h0, h1⟩
  | succ k => exact hs k o' (by simpa using ho')

theorem knowsS_table {E : Nat → List Ent} {c : Nat → Option Value} {rd : Nat → List Tmp} {φ : Nat → List Value → Value → World → Prop} (e0 : E 0 = []) {W : World}
  (hs : ∀ k o, ops[k]? = some o → E (k + 1) = addEnt o.dst (c k) (rd k) (φ k) (E k)) (rs : List Tmp) : ∀ k, k ≤ ops.size → (∀ j o t, j < k → ops[j]? = some o → o.dst = some t → t ∈ rs → c j = none → ∃ W0, R w0 W0 ∧ relS R R1 d (some t) W0 W ∧ φ j ((rd j).map vals) (vals t) W0) → knowsS R R1 d w0 vals rs W (E k)
 | 0, _, _ => by rw [e0]; trivial
 | k + 1, hk, h => by
  have ih := knowsS_table e0 hs rs k (by omega) (fun j o t hj => h j o t (by omega))
  have hok : ops[k]? = some ops[k] := Array.getElem?_eq_getElem (by omega)
  rw [hs k _ hok]
  unfold addEnt
  cases hdk : ops[k].dst with
  | none => cases hc : c k <;> exact ih
  | some d' =>
   cases hc : c k with
   | some v => exact ih
   | none => exact ⟨fun hm => h k _ d' (by omega) hok hdk hm hc, ih⟩
theorem knowsAllS_table {E : Nat → List Ent} {c : Nat → Option Value} {rd : Nat → List Tmp} {φ : Nat → List Value → Value → World → Prop} (e0 : E 0 = []) {W : World}
  (hs : ∀ k o, ops[k]? = some o → E (k + 1) = addEnt o.dst (c k) (rd k) (φ k) (E k)) : ∀ k, k ≤ ops.size → (∀ j o t, j < k → ops[j]? = some o → o.dst = some t → c j = none → ∃ W0, R w0 W0 ∧ relS R R1 d (some t) W0 W ∧ φ j ((rd j).map vals) (vals t) W0) →
  (∀ j o, j < k → ops[j]? = some o → o.dst = none → c j = none → ∃ u W0, R w0 W0 ∧ R W0 W ∧ φ j ((rd j).map vals) u W0) → knowsAllS R R1 d w0 vals W (E k)
 | 0, _, _, _ => by rw [e0]; trivial
 | k + 1, hk, h, hn => by
  have ih := knowsAllS_table e0 hs k (by omega) (fun j o t hj => h j o t (by omega)) (fun j o hj => hn j o (by omega))
  have hok : ops[k]? = some ops[k] := Array.getElem?_eq_getElem (by omega)
  rw [hs k _ hok]
  unfold addEnt
  cases hdk : ops[k].dst with
  | none =>
   cases hc : c k with
   | some v => exact ih
   | none => exact ⟨hn k _ (by omega) hok hdk hc, ih⟩
  | some d' =>
   cases hc : c k with
   | some v => exact ih
   | none => exact ⟨h k _ d' (by omega) hok hdk hc, ih⟩

/-- What stands while the region runs. -/
structure LooseInvS (R R1 : World → World → Prop) (ds : Tmp) (w0 : World) (ops : Array Oper) (a0 : Act) (c : Nat → Option Value) (rd : Nat → List Tmp) (φ : Nat → List Value → Value → World → Prop) (listed : Array Bool) (a : Act) (W : World) : Prop where
 world : R w0 W
 world1 : (∀ k o, ops[k]? = some o → o.dst = some ds → listed.getD k false = false) → R1 w0 W
 defers : a.defers = a0.defers
 size : a.tmps.size = a0.tmps.size
 lsize : listed.size = ops.size
 off : ∀ t, (∀ k o, ops[k]? = some o → o.dst = some t → listed.getD k false = false) → a.tmps[t]? = a0.tmps[t]?
 on : ∀ k o d, ops[k]? = some o → o.dst = some d → listed.getD k false = true → ∃ v, a.tmps[d]? = some v ∧ ∃ W0, R w0 W0 ∧ relS R R1 ds (some d) W0 W ∧ entOf (c k) (φ k ((rd k).map fun t => a.tmps.getD t undef)) v W0
 onn : ∀ k o, ops[k]? = some o → o.dst = none → listed.getD k false = true → ∃ u W0, R w0 W0 ∧ R W0 W ∧ entOf (c k) (φ k ((rd k).map fun t => a.tmps.getD t undef)) u W0
 dep : ∀ k o, ops[k]? = some o → listed.getD k false = true → ∀ e ∈ o.after, Region.binds .any e = true → listed.getD e.on false = true

theorem looseInvS_next {n : Nat} {a0 : Act} {c : Nat → Option Value} {rd : Nat → List Tmp} {φ : Nat → List Value → Value → World → Prop} {listed : Array Bool} {a : Act} {W W' : World} {ds : Tmp} (htr : ∀ x y z, R x y → R y z → R x z) (hrf1 : ∀ x, R1 x x) (htr1 : ∀ x y z, R1 x y → R1 y z → R1 x z) (h1R : ∀ x y, R1 x y → R x y)
  (hB : looseB n ops = true) (hrd : ∀ k o, ops[k]? = some o → ∀ t ∈ rd k, waitsB ops o t = true) (hn : a0.tmps.size = n) (hI : LooseInvS R R1 ds w0 ops a0 c rd φ listed a W) {i : Nat} {o : Oper} (ho : ops[i]? = some o) (hl : listed.getD i true = false) (hall : ∀ e ∈ o.after, Region.binds .any e = true → listed.getD e.on false = true) (v : Value) (hRS : (if o.dst = some ds then R else R1) W W') (hv : entOf (c i) (φ i ((rd i).map fun t => a.tmps.getD t undef)) v W') :
  LooseInvS R R1 ds w0 ops a0 c rd φ (listed.setIfInBounds i true) (a.put o.dst v) W' := by
 obtain ⟨_, b1, b2, b3, b4⟩ := looseB_spec hB
 have hil : listed.getD i false = false := by
  have hi := (unlisted_set hl).2
  simpa [hi] using hl
 -- what an operation that is listed reads stays
 have keep : ∀ k o', ops[k]? = some o' → (k = i ∨ listed.getD k false = true) → ((rd k).map fun t => (a.put o.dst v).tmps.getD t undef) = (rd k).map fun t => a.tmps.getD t undef := by
  intro k o' ho' hk
  refine List.map_congr_left fun t ht => ?_
  replace ht := hrd k o' ho' t ht
  cases hd : o.dst with
  | none => rfl
  | some d =>
   have hne : d ≠ t := by
    rintro rfl
    obtain ⟨e, he, hb, hon⟩ := waitsB_spec ht ho hd
    rcases hk with rfl | hk
    ·rw [ho] at ho'
     injection ho' with ho'
     subst ho'
     have := hall e he hb
     rw [hon, hil] at this
     cases this
    ·have := hI.dep k o' ho' hk e he hb
     rw [hon, hil] at this
     cases this
   have := put_get_ne (a := a) (v := v) hne
   simp only [Array.getD_eq_getD_getElem?, this]
 have hR : R W W' := by
  split at hRS
  ·exact hRS
  ·exact h1R _ _ hRS
 have step : ∀ (k : Nat) (o' : Oper) (t : Tmp) (W0 : World), i ≠ k → ops[k]? = some o' → o'.dst = some t → relS R R1 ds (some t) W0 W → relS R R1 ds (some t) W0 W' := by
  intro k o' t W0 hki ho' hd' hr
  unfold relS at hr ⊢
  by_cases ht : some t = some ds
  ·rw [if_pos ht] at hr ⊢
   have hne : o.dst ≠ some ds := fun hd => hki (b2 i k o o' ds ho ho' hd (hd'.trans ht))
   rw [if_neg hne] at hRS
   exact htr1 _ _ _ hr hRS
  ·rw [if_neg ht] at hr ⊢
   exact htr _ _ _ hr hR
 have refl0 : ∀ t : Tmp, relS R R1 ds (some t) W' W' := by
  intro t
  unfold relS
  split
  ·exact hrf1 _
  ·exact h1R _ _ (hrf1 _)
 refine ⟨htr _ _ _ hI.world hR, ?_, by rw [put_defs, hI.defers], by rw [put_size, hI.size], by simp [hI.lsize], ?_, ?_, ?_, ?_⟩
 ·intro hun
  have hne : o.dst ≠ some ds := fun hd => by
   have := hun i o ho hd
   have hi := (unlisted_set hl).2
   simp [hi] at this
  rw [if_neg hne] at hRS
  refine htr1 _ _ _ (hI.world1 fun k o' ho' hd' => ?_) hRS
  have hki : i ≠ k := fun e => by subst e; rw [ho] at ho'; injection ho' with ho'; subst ho'; exact hne hd'
  have := hun k o' ho' hd'
  rwa [getD_set_ne _ hki] at this
 ·intro t h
  have hne : o.dst ≠ some t := fun hd => by
   have := h i o ho hd
   have hi := (unlisted_set hl).2
   simp [hi] at this
  have e : (a.put o.dst v).tmps[t]? = a.tmps[t]? := by
   cases hd : o.dst with
   | none => rfl
   | some d => exact put_get_ne (fun e => hne (by rw [hd, e]))
  rw [e]
  refine hI.off t (fun k o' ho' hd' => ?_)
  have := h k o' ho' hd'
  have hki : i ≠ k := fun e => by subst e; rw [ho] at ho'; injection ho' with ho'; subst ho'; exact hne hd'
  rwa [getD_set_ne _ hki] at this
 ·intro k o' d ho' hd' hk
  by_cases hki : i = k
  ·subst hki
   rw [ho] at ho'
   injection ho' with ho'
   subst ho'
   rw [keep i o ho (.inl rfl)]
   rw [hd']
   exact ⟨v, put_get_eq (by rw [hI.size, hn]; exact b1 i o d ho hd'), W', htr _ _ _ hI.world hR, refl0 _, hv⟩
  ·rw [getD_set_ne _ hki] at hk
   obtain ⟨u, hu, W0, h1, h2, h3⟩ := hI.on k o' d ho' hd' hk
   rw [keep k o' ho' (.inr hk)]
   refine ⟨u, ?_, W0, h1, step k o' d W0 hki ho' hd' h2, h3⟩
   cases hd : o.dst with
   | none => exact hu
   | some d2 =>
    rw [put_get_ne (fun e => hki (b2 i k o o' d ho ho' (by rw [hd, e]) hd'))]
    exact hu
 ·intro k o' ho' hd' hk
  by_cases hki : i = k
  ·subst hki
   rw [ho] at ho'
   injection ho' with ho'
   subst ho'
   rw [keep i o ho (.inl rfl)]
   exact ⟨v, W', htr _ _ _ hI.world hR, h1R _ _ (hrf1 _), hv⟩
  ·rw [getD_set_ne _ hki] at hk
   obtain ⟨u, W0, h1, h2, h3⟩ := hI.onn k o' ho' hd' hk
   rw [keep k o' ho' (.inr hk)]
   exact ⟨u, W0, h1, htr _ _ _ h2 hR, h3⟩
 ·intro k o' ho' hk e he hb
  have hmono : ∀ m, listed.getD m false = true → (listed.setIfInBounds i true).getD m false = true := by
   intro m hm
   by_cases hmi : i = m
   ·subst hmi
    rw [hil] at hm
    cases hm
   ·rw [getD_set_ne _ hmi]; exact hm
  by_cases hki : i = k
  ·subst hki
   rw [ho] at ho'
   injection ho' with ho'
   subst ho'
   exact hmono _ (hall e he hb)
  ·rw [getD_set_ne _ hki] at hk
   exact hmono _ (hI.dep k o' ho' hk e he hb)

theorem loose_tail_soundS {ds : Tmp} {n n0 : Nat} {lt : List Oper} {a0 : Act} {c : Nat → Option Value} {rd : Nat → List Tmp} {φ : Nat → List Value → Value → World → Prop} {E : Nat → List Ent} {Q : Exit → Act → World → Prop} (htr : ∀ x y z, R x y → R y z → R x z) (hrf1 : ∀ x, R1 x x) (htr1 : ∀ x y z, R1 x y → R1 y z → R1 x z) (h1R : ∀ x y, R1 x y → R x y)
  (hB : looseB n ops = true) (hsk : Region.sinkB .any ops n0 = true) (hch : Region.chainB .any ops n0 = true) (hn0 : n0 < ops.size) (hlt : ∀ j, lt[j]? = ops[n0 + j]?)
  (hsq : Region.seqB .any ops lt.length n0 ((Array.range ops.size).map fun k => decide (k < n0)) = true) (hul : unlisted ((Array.range ops.size).map fun k => decide (k < n0)) = lt.length) (hn : a0.tmps.size = n) (e0 : E 0 = [])
  (hs : ∀ k o, ops[k]? = some o → E (k + 1) = addEnt o.dst (c k) (rd k) (φ k) (E k) ∧ (∀ t ∈ rd k, waitsB ops o t = true) ∧ (k < n0 → ∀ W vals, R w0 W → (o.dst = some ds → R1 w0 W) → knowsS R R1 ds w0 vals (o.looksAt ops) W (E k) → opOk P (if o.dst = some ds then R else R1) ops (fill vals (E k) a0) o (entOf (c k) (φ k ((rd k).map vals))) W))
  (hq : ∀ W vals, R w0 W → knowsAllS R R1 ds w0 vals W (E n0) → wpList P ops Q lt (fill vals (E n0) a0) W) :
  ∀ (fuel : Nat) (listed : Array Bool) (a : Act) (W : World), unlisted listed = fuel → (∀ t, n0 ≤ t → t < ops.size → listed.getD t true = false) → LooseInvS R R1 ds w0 ops a0 c rd φ listed a W → wpAny P .any ops Q fuel listed a W := by
 obtain ⟨b0, b1, b2, b3, b4⟩ := looseB_spec hB
 have hs1 := fun k o ho => (hs k o ho).1
 have hrd := fun k o ho => (hs k o ho).2.1
 have fin : ∀ (listed : Array Bool) (a : Act) (W : World), LooseInvS R R1 ds w0 ops a0 c rd φ listed a W → (∀ t, n0 ≤ t → t < ops.size → listed.getD t true = false) → (∀ k, k < n0 → listed.getD k false = true) → wpAny P .any ops Q (unlisted listed) listed a W := by
  intro listed a W hI htl hall
  have hle : listed = (Array.range ops.size).map fun k => decide (k < n0) := by
   refine Array.ext (by simp [hI.lsize]) fun k h1 h2 => ?_
   have hk : k < ops.size := by rw [← hI.lsize]; exact h1
   simp only [Array.getElem_map, Array.getElem_range]
   by_cases hkn : k < n0
   ·have := hall k hkn
    simp [h1] at this
    rw [this]
    simp [hkn]
   ·have := htl k (by omega) hk
    simp [h1] at this
    rw [this]
    simp [hkn]
  have hq := hq W (fun t => a.tmps.getD t undef) hI.world (knowsAllS_table e0 hs1 n0 (by omega) (fun j o t hj ho hd hc => by
   obtain ⟨v, hv, W0, h1, h2, h3⟩ := hI.on j o t ho hd (hall j hj)
   refine ⟨W0, h1, h2, ?_⟩
   have : a.tmps.getD t undef = v := by simp [hv]
   show φ j _ (a.tmps.getD t undef) W0
   rw [this]
   simpa [entOf, hc] using h3) (fun j o hj ho hd hc => by
   obtain ⟨u, W0, h1, h2, h3⟩ := hI.onn j o ho hd (hall j hj)
   exact ⟨u, W0, h1, h2, by simpa [entOf, hc] using h3⟩))
  have hea : fill (fun t => a.tmps.getD t undef) (E n0) a0 = a := by
   obtain ⟨s1, s2⟩ := fill_size (vals := fun t => a.tmps.getD t undef) (E n0) a0
   have ht : (fill (fun t => a.tmps.getD t undef) (E n0) a0).tmps = a.tmps := by
    refine Array.ext_getElem? fun t => ?_
    by_cases hd : ∃ (k : Nat) (o : Oper), k < n0 ∧ ops[k]? = some o ∧ o.dst = some t
    ·obtain ⟨k, o, hk, ho, hd⟩ := hd
     rw [fill_near a0 hs1 b2 t (by rw [hn]; exact b1 k o t ho hd) k o ho hd n0 (by omega) hk]
     obtain ⟨v, hv, W0, _, _, h3⟩ := hI.on k o t ho hd (hall k hk)
     rw [hv]
     cases hc : c k with
     | none => simp [hv]
     | some u => simp [entOf, hc] at h3; simp [h3]
    ·rw [fill_far a0 e0 hs1 t n0 (by omega) (fun j o hj ho hdd => hd ⟨j, o, hj, ho, hdd⟩)]
     refine (hI.off t (fun k o ho hdd => ?_)).symm
     have hk : n0 ≤ k := by
      rcases Nat.lt_or_ge k n0 with h | h
      ·exact absurd ⟨k, o, h, ho, hdd⟩ hd
      ·exact h
     exact getD_both (htl k hk (Array.getElem?_eq_some_iff.1 ho).1)
   have hd' : (fill (fun t => a.tmps.getD t undef) (E n0) a0).defers = a.defers := by rw [s2, hI.defers]
   generalize fill (fun t => a.tmps.getD t undef) (E n0) a0 = b at *
   obtain ⟨bt, bd⟩ := b
   obtain ⟨at_, ad⟩ := a
   simp only at ht hd'
   rw [ht, hd']
  rw [hea] at hq
  rw [hle, hul]
  exact wpAny_of_seq lt n0 _ a W hlt hsq hq
 intro fuel
 induction fuel with
 | zero =>
  intro listed a W hu htl hI
  rw [← hu]
  refine fin listed a W hI htl fun k hk => ?_
  cases hl : listed.getD k false with
  | true => rfl
  | false =>
   have hl' : listed.getD k true = false := by
    have : k < listed.size := by rw [hI.lsize]; omega
    simpa [this] using hl
   have := (unlisted_set hl').1
   omega
 | succ fuel ih =>
  intro listed a W hu htl hI
  by_cases hpre : ∀ k, k < n0 → listed.getD k false = true
  ·rw [← hu]
   exact fin listed a W hI htl hpre
  have hex : ∃ k, k < n0 ∧ listed.getD k false = false := by
   simp only [Classical.not_forall] at hpre
   obtain ⟨k, hk, h⟩ := hpre
   exact ⟨k, hk, by simpa using h⟩
  have inv : HeadInv .any ops n0 listed := ⟨hI.lsize, hI.dep, htl⟩
  refine ⟨fun hr => ?_, fun i hi => ?_⟩
  ·exfalso
   have hall : ∀ m k, k < m → k < n0 → listed.getD k false = true := by
    intro m
    induction m with
    | zero => intro k h; omega
    | succ m ih =>
     intro k hk hks
     cases hl : listed.getD k false with
     | true => rfl
     | false =>
      exfalso
      have ho : ops[k]? = some (ops[k]'(by omega)) := Array.getElem?_eq_getElem (by omega)
      have hl' : listed.getD k true = false := by
       have : k < listed.size := by rw [hI.lsize]; omega
       simpa [this] using hl
      have : k ∈ Region.ready .any ops listed := mem_ready.2 ⟨hl', _, ho, fun e he hb => by
       have hlt := b3 k _ ho e he hb
       exact ih e.on (by omega) (by omega)⟩
      rw [hr] at this
      cases this
   obtain ⟨k, hk, h⟩ := hex
   rw [hall (k + 1) k (by omega) hk] at h
   cases h
  obtain ⟨hl, o, ho, hall⟩ := mem_ready.1 hi
  have hin : i < n0 := by
   rcases Nat.lt_or_ge i n0 with h | h
   ·exact h
   ·exfalso
    obtain ⟨k, hk, hkl⟩ := hex
    exact tail_waits hsk hch hn0 inv (n0 - k) k rfl hk (getD_in (by rw [hI.lsize]; omega) hkl) i h hi
  have hus := (unlisted_set hl).1
  have hi' : i < ops.size := (Array.getElem?_eq_some_iff.1 ho).1
  have hop := (hs i o ho).2.2 hin W (fun t => a.tmps.getD t undef) hI.world (fun hds => hI.world1 fun k o' ho' hd' => by
   obtain rfl := b2 k i o' o ds ho' ho hd' hds
   have hi := (unlisted_set hl).2
   simpa [hi] using hl) (knowsS_table e0 hs1 (o.looksAt ops) i (by omega) (fun j o' t hj ho' hd ht hc => by
   obtain ⟨_, e, he, hb, hon⟩ := (b4 i o t j o' ho ht ho' hd).resolve_right (fun h => absurd h.1 (by omega))
   obtain ⟨v, hv, W0, h1, h2, h3⟩ := hI.on j o' t ho' hd (hon ▸ hall e he hb)
   refine ⟨W0, h1, h2, ?_⟩
   have : a.tmps.getD t undef = v := by simp [hv]
   show φ j _ (a.tmps.getD t undef) W0
   rw [this]
   simpa [entOf, hc] using h3))
  have hop := opOk_congr (a' := a) (Region.noSelect_spec b0 i o · · ho) (fun t ht => by
   by_cases hd : ∃ (k : Nat) (o' : Oper), ops[k]? = some o' ∧ o'.dst = some t
   ·obtain ⟨k, o', ho', hd⟩ := hd
    rcases b4 i o t k o' ho ht ho' hd with ⟨hk, e, he, hb, hon⟩ | ⟨hk, e, he, hb, hon⟩
    case inr =>
     rw [fill_far a0 e0 hs1 t i (by omega) (fun j o2 hj ho2 hdd => by have := b2 j k o2 o' t ho2 ho' hdd hd; omega)]
     refine (hI.off t (fun k2 o2 ho2 hdd => ?_)).symm
     obtain rfl := b2 k2 k o2 o' t ho2 ho' hdd hd
     cases hlk : listed.getD k2 false with
     | false => rfl
     | true =>
      have := hI.dep k2 o' ho' hlk e he hb
      rw [hon] at this
      have hil : listed.getD i false = false := by
       have hi := (unlisted_set hl).2
       simpa [hi] using hl
      rw [hil] at this
      cases this
    rw [fill_near a0 hs1 b2 t (by rw [hn]; exact b1 k o' t ho' hd) k o' ho' hd i (by omega) hk]
    obtain ⟨v, hv, W0, _, _, h3⟩ := hI.on k o' t ho' hd (hon ▸ hall e he hb)
    rw [hv]
    cases hc : c k with
    | none => simp [hv]
    | some u => simp [entOf, hc] at h3; simp [h3]
   ·rw [fill_far a0 e0 hs1 t i (by omega) (fun j o' _ ho' hdd => hd ⟨j, o', ho', hdd⟩)]
    exact (hI.off t (fun k o' ho' hdd => absurd ⟨k, o', ho', hdd⟩ hd)).symm) hop
  have next : ∀ v W', (if o.dst = some ds then R else R1) W W' → entOf (c i) (φ i ((rd i).map fun t => a.tmps.getD t undef)) v W' → wpAny P .any ops Q fuel (listed.setIfInBounds i true) (a.put o.dst v) W' := fun v W' hR hv =>
   ih _ _ _ (by omega) (fun t ht ht' => by rw [getD_set_ne true (by omega)]; exact htl t ht ht') (looseInvS_next htr hrf1 htr1 h1R hB hrd hn hI ho hl hall v hR hv)
  have tr : ∀ x y z, (if o.dst = some ds then R else R1) x y → (if o.dst = some ds then R else R1) y z → (if o.dst = some ds then R else R1) x z := by
   split
   ·exact htr
   ·exact htr1
  unfold wpOp
  simp only [ho]
  replace hop := hop.out
  split
  ·rename_i hw
   simp only [hw, if_true] at hop
   left
   unfold Oper.wp
   generalize (execOp a.eval o).run P W = r at *
   cases r with
   | ok x w' =>
    cases x <;> simp only [looseUpon] at hop <;> simp only [Oper.upon]
    ·exact next _ _ hop.1 hop.2
    ·exact next _ _ hop.1 hop.2
    ·exact hop.2.mono fun e w'' ⟨v, he, hR, hv⟩ => by subst he; exact next _ _ (tr _ _ _ hop.1 hR) hv
    ·exact hop.2.mono fun v w'' ⟨hR, hv⟩ => next _ _ (tr _ _ _ hop.1 hR) hv
   | halt x w' => simp only [looseUpon] at hop
  ·rename_i hw
   simp only [hw] at hop
   exact next _ _ (by split; exact h1R _ _ (hrf1 _); exact hrf1 _) hop

/-- A table for the operations ahead, carried on behind them. -/
theorem wpLooseS_table_more {a0 : Act} {Q : List Ent → Prop} (n0 : Nat) (l : List Oper) (hn0 : n0 ≤ l.length) (h : wpLooseS P R R1 d w0 ops a0 Q (l.take n0) []) :
  ∃ (E : Nat → List Ent) (c : Nat → Option Value) (rd : Nat → List Tmp) (φ : Nat → List Value → Value → World → Prop), E 0 = [] ∧
   (∀ k o, l[k]? = some o → E (k + 1) = addEnt o.dst (c k) (rd k) (φ k) (E k) ∧ (∀ t ∈ rd k, waitsB ops o t = true) ∧ (k < n0 → ∀ W vals, R w0 W → (o.dst = some d → R1 w0 W) → knowsS R R1 d w0 vals (o.looksAt ops) W (E k) → opOk P (if o.dst = some d then R else R1) ops (fill vals (E k) a0) o (entOf (c k) (φ k ((rd k).map vals))) W)) ∧ Q (E n0) := by
 obtain ⟨E, c, rd, φ, e0, hs, hq⟩ := wpLooseS_table _ _ h
 have hlen : (l.take n0).length = n0 := by rw [List.length_take]; omega
 rw [hlen] at hq
 let more : Nat → List Ent := fun k => Nat.rec (motive := fun _ => List Ent) (E n0) (fun j e => addEnt ((l[n0 + j]?).bind (·.dst)) none [] (fun _ _ _ => True) e) k
 refine ⟨fun k => if k ≤ n0 then E k else more (k - n0), fun k => if k < n0 then c k else none, fun k => if k < n0 then rd k else [], fun k => if k < n0 then φ k else fun _ _ _ => True, by simp [e0], ?_, by simp [hq]⟩
 intro k o ho
 by_cases hk : k < n0
 ·have ho' : (l.take n0)[k]? = some o := by rw [List.getElem?_take_of_lt hk]; exact ho
  obtain ⟨h1, h2, h3⟩ := hs k o ho'
  simp only [hk, if_true, show k + 1 ≤ n0 from hk, show k ≤ n0 from Nat.le_of_lt hk]
  exact ⟨h1, h2, fun _ => h3⟩
 ·simp only [hk, if_false, show ¬ k + 1 ≤ n0 by omega]
  refine ⟨?_, (fun _ h => nomatch h), fun h => h.elim⟩
  have hm : more (k + 1 - n0) = addEnt o.dst none [] (fun _ _ _ => True) (more (k - n0)) := by
   rw [show k + 1 - n0 = (k - n0) + 1 by omega]
   show addEnt ((l[n0 + (k - n0)]?).bind (·.dst)) none [] (fun _ _ _ => True) (more (k - n0)) = _
   rw [show n0 + (k - n0) = k by omega, ho]
   rfl
  rw [hm]
  by_cases hk2 : k ≤ n0
  ·have : k = n0 := by omega
   subst this
   simp only [Nat.le_refl, if_true, Nat.sub_self]
   rfl
  ·simp only [hk2, if_false]

theorem wp_region_tailS {id : Nat} {Q : Exit → Act → World → Prop} {a : Act} {w : World} {l : List Oper} (R R1 : World → World → Prop) (d : Tmp) (n n0 : Nat) (hm : P.follows .mixedOrders = true) (hn : a.tmps.size = n)
  (hB : (looseB n l.toArray && Region.sinkB .any l.toArray n0 && Region.chainB .any l.toArray n0 && decide (n0 < l.length) && Region.seqB .any l.toArray (l.drop n0).length n0 ((Array.range l.toArray.size).map fun k => decide (k < n0)) && decide (unlisted ((Array.range l.toArray.size).map fun k => decide (k < n0)) = (l.drop n0).length)) = true)
  (htr : ∀ x y z, R x y → R y z → R x z) (hrf1 : ∀ x, R1 x x) (htr1 : ∀ x y z, R1 x y → R1 y z → R1 x z) (h1R : ∀ x y, R1 x y → R x y) (h0 : R1 w w.drew)
  (h : wpLooseS P R R1 d w l.toArray a (fun env => ∀ W vals, R w W → knowsAllS R R1 d w vals W env → wpList P l.toArray Q (l.drop n0) (fill vals env a) W) (l.take n0) []) : (Code.region id l.toArray true).wp P Q a w := by
 simp only [Bool.and_eq_true, decide_eq_true_eq] at hB
 obtain ⟨⟨⟨⟨⟨h1, h2⟩, h3⟩, h4⟩, h5⟩, h6⟩ := hB
 obtain ⟨E, c, rd, φ, e0, hs, hq⟩ := wpLooseS_table_more n0 l (by omega) h
 refine wp_region_any hm (loose_tail_soundS (ds := d) (w0 := w) (n0 := n0) (lt := l.drop n0) htr hrf1 htr1 h1R h1 h2 h3 (by simpa using h4) (fun j => by simp) h5 h6 hn e0 (fun k o ho => hs k o (by simpa using ho)) hq _ _ _ _ ?_ (fun t ht ht' => ?_) ⟨h1R _ _ h0, fun _ => h0, rfl, rfl, by simp, fun _ _ => rfl, fun k o d ho _ hk => ?_, fun k o ho _ hk => ?_, fun k o ho hk => ?_⟩)
 ·unfold unlisted
  simp
 ·simp only [List.size_toArray] at ht'
  simp [ht']
 all_goals
  exfalso
  by_cases h' : k < l.length <;> simp [h'] at hk
end
end Go.Proofs.YtfglgeoookbppaaGreatDoor

namespace Go.Proofs.YtfglgeoookbppaaGreatDoor
open Go.RowKit

section
variable {P : Program} {R R1 : World → World → Prop} {d : Tmp} {w0 : World} {ops : Array Oper} {a0 : Act} {Q : List Ent → Prop} {o : Oper} {rest : List Oper} {env : List Ent}
theorem looses_nil (h : Q env) : wpLooseS P R R1 d w0 ops a0 Q [] env := h
theorem looses_is (v : Value) (hne : (o.dst != some d) = true) (h : ∀ W vals, R w0 W → knowsS R R1 d w0 vals (o.looksAt ops) W env → opOk P R1 ops (fill vals env a0) o (fun u _ => u = v) W)
  (hk : wpLooseS P R R1 d w0 ops a0 Q rest (addEnt o.dst (some v) [] (fun _ _ _ => True) env)) : wpLooseS P R R1 d w0 ops a0 Q (o :: rest) env :=
 ⟨some v, [], _, (fun _ h => nomatch h), fun W vals hW _ hkn => by rw [if_neg (by simpa using hne)]; exact h W vals hW hkn, hk⟩
theorem looses_has (φ : Value → World → Prop) (hne : (o.dst != some d) = true) (h : ∀ W vals, R w0 W → knowsS R R1 d w0 vals (o.looksAt ops) W env → ∀ φ' : Value → World → Prop, Hid (∀ u w, φ u w → φ' u w) → opOk P R1 ops (fill vals env a0) o φ' W)
  (hk : wpLooseS P R R1 d w0 ops a0 Q rest (addEnt o.dst none [] (fun _ => φ) env)) : wpLooseS P R R1 d w0 ops a0 Q (o :: rest) env :=
 ⟨none, [], fun _ => φ, (fun _ h => nomatch h), fun W vals hW _ hkn => by rw [if_neg (by simpa using hne)]; exact h W vals hW hkn φ (Lib.hid fun _ _ h => h), hk⟩
/-- The one that may write what lay. -/
theorem looses_at (φ : Value → World → Prop) (he : (o.dst == some d) = true) (h : ∀ W vals, R1 w0 W → knowsS R R1 d w0 vals (o.looksAt ops) W env → ∀ φ' : Value → World → Prop, Hid (∀ u w, φ u w → φ' u w) → opOk P R ops (fill vals env a0) o φ' W)
  (hk : wpLooseS P R R1 d w0 ops a0 Q rest (addEnt o.dst none [] (fun _ => φ) env)) : wpLooseS P R R1 d w0 ops a0 Q (o :: rest) env :=
 ⟨none, [], fun _ => φ, (fun _ h => nomatch h), fun W vals _ hW1 hkn => by rw [if_pos (by simpa using he)]; exact h W vals (hW1 (by simpa using he)) hkn φ (Lib.hid fun _ _ h => h), hk⟩
theorem looses_off (hne : (o.dst != some d) = true) (hw : ∀ vals : Tmp → Value, Region.wanted o (yielded ops (fill vals env a0).tmps) = false) (hk : wpLooseS P R R1 d w0 ops a0 Q rest (addEnt o.dst (some undef) [] (fun _ _ _ => True) env)) : wpLooseS P R R1 d w0 ops a0 Q (o :: rest) env :=
 ⟨some undef, [], fun _ _ _ => True, (fun _ h => nomatch h), fun W vals _ _ _ => by rw [if_neg (by simpa using hne)]; exact ⟨by rw [hw vals]; exact rfl⟩, hk⟩
/-- All that was there stays, but for block K. -/
abbrev KeepsBut (K : Nat) (w w' : World) : Prop := Keeps w w' [K]
theorem looseUponS_has {K : Nat} {W : World} {φ φ' : Value → World → Prop} {f : FuncId} {args : Array Value} (hφ : Hid (∀ u w, φ u w → φ' u w)) (h : Calls P f args W (fun e w'' => ∃ v, e = .returned v ∧ Keeps W w'' [K] ∧ φ v w'')) :
  looseUpon P (KeepsBut K) W φ' (.ok (.enter f args) W) := ⟨Keeps.refl _ _, h.mono fun _ _ ⟨v, he, hk, hv⟩ => ⟨v, he, hk, hφ.out _ _ hv⟩⟩
theorem wp_region_but {id : Nat} {Q : Exit → Act → World → Prop} {a : Act} {w : World} {l : List Oper} (K : Nat) (d : Tmp) (n n0 : Nat) (hm : P.follows .mixedOrders = true) (hn : a.tmps.size = n)
  (hB : (looseB n l.toArray && Region.sinkB .any l.toArray n0 && Region.chainB .any l.toArray n0 && decide (n0 < l.length) && Region.seqB .any l.toArray (l.drop n0).length n0 ((Array.range l.toArray.size).map fun k => decide (k < n0)) && decide (unlisted ((Array.range l.toArray.size).map fun k => decide (k < n0)) = (l.drop n0).length)) = true)
  (h : wpLooseS P (KeepsBut K) KeepsAll d w l.toArray a (fun env => ∀ W vals, Keeps w W [K] → knowsAllS (KeepsBut K) KeepsAll d w vals W env → wpList P l.toArray Q (l.drop n0) (fill vals env a) W) (l.take n0) []) : (Code.region id l.toArray true).wp P Q a w :=
 wp_region_tailS (KeepsBut K) KeepsAll d n n0 hm hn hB (fun _ _ _ h k => h.trans k (fun _ h _ => h)) (fun _ => Keeps.refl _ _) (fun _ _ _ h k => h.trans k (by simp)) (fun _ _ h => h.weaken (by simp)) (Keeps.drew _) h
end
end Go.Proofs.YtfglgeoookbppaaGreatDoor

namespace Go.Proofs.YtfglgeoookbppaaGreatDoor
open Go.RowKit

/-- A part out of bytes, by its kind. -/
def kRd (k : Nat) (l : List UInt8) : Option (KP × List UInt8) :=
 if k = 1 then (if 8 ≤ l.length then some (⟨1, (beN (l.take 8) : Int) - 9223372036854775808, 0, []⟩, l.drop 8) else none)
 else if k = 2 then (if 8 ≤ l.length ∧ kOf (wholeW (kWord (beN (l.take 8)))) = beN (l.take 8) then some (⟨2, 0, wholeW (kWord (beN (l.take 8))), []⟩, l.drop 8) else none)
 else (kUnesc l).map fun (s, t) => (⟨3, 0, 0, s⟩, t)
/-- What reading does. -/
def KRd (w : World) (b : Nat) (o : Option (KP × List UInt8)) (e : Ending) (w' : World) : Prop := Keeps w w' [b] ∧ match o with
 | none => e = kStop
 | some (p, t) => e = .returned (kpV p) ∧ Row w' b 9 #[strV t]
def kRdFn (k : Nat) : FuncId := if k = 1 then 108 else if k = 2 then 115 else 123
theorem kRd_any (k : Nat) (w : World) (b : Nat) (l : List UInt8) (hb : Row w b 9 #[strV l]) (hm : l.length ≤ 1000000) :
  Calls Tryz.prog (kRdFn k) #[.pointer (some ⟨b, 0, none⟩)] w (KRd w b (kRd k l)) := by
 unfold kRdFn kRd
 split
 ·split
  ·rename_i h8
   exact (kRdI_any w b l hb h8 hm).mono fun e w' ⟨h1, h2, h3⟩ => ⟨h3, h1, h2⟩
  ·rename_i h8
   exact (kRdI_no w b l hb (by omega)).mono fun e w' ⟨h1, h3⟩ => ⟨h3, h1⟩
 ·split
  ·split
   ·rename_i h8
    exact (kRdF_any w b l hb h8.1 hm h8.2).mono fun e w' ⟨h1, h2, h3⟩ => ⟨h3, h1, h2⟩
   ·rename_i h8
    rcases Nat.lt_or_ge l.length 8 with h9 | h9
    ·exact (kRdF_no w b l hb h9).mono fun e w' ⟨h1, h3⟩ => ⟨h3, h1⟩
    ·exact (kRdF_bad w b l hb h9 hm (fun h => h8 ⟨h9, h⟩)).mono fun e w' ⟨h1, h3⟩ => ⟨h3, h1⟩
  ·refine (kRdT_any w b l hb hm).mono fun e w' ⟨h1, h2⟩ => ⟨h1, ?_⟩
   cases hu : kUnesc l with
   | none => rw [hu] at h2; exact h2
   | some x => rw [hu] at h2; exact h2

theorem kRd_1 (w : World) (b : Nat) (l : List UInt8) (hb : Row w b 9 #[strV l]) (hm : l.length ≤ 1000000) : Calls Tryz.prog 108 #[.pointer (some ⟨b, 0, none⟩)] w (KRd w b (kRd 1 l)) := kRd_any 1 w b l hb hm
theorem kRd_2 (w : World) (b : Nat) (l : List UInt8) (hb : Row w b 9 #[strV l]) (hm : l.length ≤ 1000000) : Calls Tryz.prog 115 #[.pointer (some ⟨b, 0, none⟩)] w (KRd w b (kRd 2 l)) := kRd_any 2 w b l hb hm
theorem kRd_3 (w : World) (b : Nat) (l : List UInt8) (hb : Row w b 9 #[strV l]) (hm : l.length ≤ 1000000) : Calls Tryz.prog 123 #[.pointer (some ⟨b, 0, none⟩)] w (KRd w b (kRd 3 l)) := kRd_any 3 w b l hb hm
/-- Parts of the call's own. -/
abbrev OwnedP (w : World) (base : Nat) (v : Value) (l : List KP) : Prop := w.ownsRow base 63 4 v l.length (kFlat l)
theorem undParts : Tryz.prog.underlying 59 = some (.slice 63) := by kernel_rfl
theorem infoPart : (Tryz.prog.info? 63).map (fun i => (i.zero, i.size, i.bytes)) = some (some (.agg #[.int .i64 0, .int .i64 0, .float .f64 0, .string ⟨#[]⟩]), 4, 40) := by kernel_rfl
def kPs : Nat → List UInt8 → Option (List KP)
 | 0, _ => none
 | _ + 1, [] => some []
 | f + 1, b :: l => if kIs b.toNat = true then (match kRd b.toNat l with | none => none | some (p, t) => (kPs f t).map (p :: ·)) else none
/-- Bytes' parts, in the program's way. -/
def kPar (s : List UInt8) : Option (List KP) := kPs (s.length + 1) s

theorem ownP_slice {w : World} {base : Nat} {v : Value} {l : List KP} (h : OwnedP w base v l) : ∃ A c, v = .slice A l.length c ∧ Lies w w.heap.size A (kFlat l) := by
 rcases h.2 with ⟨rfl, h0⟩ | ⟨g, cap, cur, rfl, hg, hh, hnc, hcm, hsz, htk⟩
 ·have : l = [] := List.eq_nil_of_length_eq_zero h0
  subst this
  exact ⟨none, 0, rfl, fun h => absurd h (by simp [kFlat])⟩
 ·refine ⟨some ⟨g, 0, none⟩, cap, rfl, fun _ => ⟨g, 0, rfl, (Array.getElem?_eq_some_iff.1 hh).1, fun i u hu => ?_⟩⟩
  have hc : w.cell? ⟨g, i, none⟩ = cur[i]? := cell_of_row w g i cur _ (0, 0) hh
  rw [Nat.zero_add, hc, ← Array.getElem?_toList]
  rw [← htk, List.getElem?_take] at hu
  split at hu
  ·exact hu
  ·cases hu
theorem ownP_keep {w w' : World} {base : Nat} {v : Value} {l : List KP} {S : List Nat} (h : OwnedP w base v l) (hk : Keeps w w' S) (hs : ∀ g, v.ownBlock = some g → g ∉ S) : OwnedP w' base v l := by
 obtain ⟨h1, h2⟩ := h
 refine ⟨h1, ?_⟩
 rcases h2 with h2 | ⟨g, cap, cur, hv, hg, hh, r⟩
 ·exact .inl h2
 ·subst hv
  have hlt : g < w.heap.size := (Array.getElem?_eq_some_iff.1 hh).1
  exact .inr ⟨g, cap, cur, rfl, hg, (hk.block g hlt (hs g rfl)).trans hh, r⟩
theorem ownP_ne {w : World} {base : Nat} {v : Value} {l : List KP} {g : Nat} {t : TypeId} {cs : Array Value} (h : OwnedP w base v l) (hg : Row w g t cs) (hne : 63 ≠ t) : v.ownBlock ≠ some g := by
 rcases h.2 with ⟨rfl, _⟩ | ⟨g', cap, cur, rfl, _, hh, _⟩
 ·simp [Value.ownBlock]
 ·intro he
  have : g' = g := by simpa [Value.ownBlock] using he
  subst this
  exact Row.ne_type (t := 63) hh hg hne rfl


theorem kUnesc_len : ∀ {l s t : List UInt8}, kUnesc l = some (s, t) → s.length + t.length + 2 ≤ l.length
 | [], s, t, h => by cases h
 | [_], s, t, h => by cases h
 | b :: c :: r, s, t, h => by
  rw [kUnesc] at h
  split at h
  ·split at h
   ·injection h with h
    injection h with h1 h2
    subst h1 h2
    simp
   ·split at h
    ·cases hu : kUnesc r with
     | none => rw [hu] at h; cases h
     | some x =>
      obtain ⟨s', t'⟩ := x
      have := kUnesc_len hu
      rw [hu] at h
      simp only [Option.map_some, Option.some.injEq, Prod.mk.injEq] at h
      obtain ⟨rfl, rfl⟩ := h
      simp only [List.length_cons]
      omega
    ·cases h
  ·cases hu : kUnesc (c :: r) with
   | none => rw [hu] at h; cases h
   | some x =>
    obtain ⟨s', t'⟩ := x
    have := kUnesc_len hu
    rw [hu] at h
    simp only [Option.map_some, Option.some.injEq, Prod.mk.injEq] at h
    obtain ⟨rfl, rfl⟩ := h
    simp only [List.length_cons] at this ⊢
    omega
theorem kRd_len {k : Nat} {l t : List UInt8} {p : KP} (h : kRd k l = some (p, t)) : t.length ≤ l.length ∧ p.s.length ≤ l.length ∧ p.Ok := by
 have hb := beN8_lt l
 have hw := wholeW_lt _ (kWord_lt _ hb)
 unfold kRd at h
 split at h
 ·split at h
  ·injection h with h
   injection h with h1 h2
   subst h1 h2
   refine ⟨by simp, by simp, ?_⟩
   constructor <;> (dsimp only; omega)
  ·cases h
 ·split at h
  ·split at h
   ·injection h with h
    injection h with h1 h2
    subst h1 h2
    refine ⟨by simp, by simp, ?_⟩
    constructor <;> (dsimp only; omega)
   ·cases h
  ·cases hu : kUnesc l with
   | none => rw [hu] at h; cases h
   | some x =>
    obtain ⟨s', t'⟩ := x
    have := kUnesc_len hu
    rw [hu] at h
    simp only [Option.map_some, Option.some.injEq, Prod.mk.injEq] at h
    obtain ⟨rfl, rfl⟩ := h
    refine ⟨by omega, by dsimp only; omega, ?_⟩
    constructor <;> (dsimp only; omega)
theorem kPs_more : ∀ (f g : Nat) (l : List UInt8), l.length < f → l.length < g → kPs f l = kPs g l
 | 0, _, _, h, _ => by omega
 | _, 0, _, _, h => by omega
 | f + 1, g + 1, [], _, _ => rfl
 | f + 1, g + 1, b :: l, h1, h2 => by
  unfold kPs
  split
  ·cases hr : kRd b.toNat l with
   | none => rfl
   | some x =>
    obtain ⟨p, t⟩ := x
    have := (kRd_len hr).1
    simp only [List.length_cons] at h1 h2
    show (kPs f t).map _ = (kPs g t).map _
    rw [kPs_more f g t (by omega) (by omega)]
  ·rfl
theorem kPar_step {b : UInt8} {l t : List UInt8} {p : KP} (hk : kIs b.toNat = true) (h : kRd b.toNat l = some (p, t)) : kPar (b :: l) = (kPar t).map (p :: ·) := by
 have := (kRd_len h).1
 unfold kPar
 rw [kPs, if_pos hk, h]
 show (kPs _ t).map _ = _
 rw [kPs_more _ (t.length + 1) t (by simp only [List.length_cons]; omega) (by omega)]
theorem kPar_none {b : UInt8} {l : List UInt8} (h : kIs b.toNat = true → kRd b.toNat l = none) : kPar (b :: l) = none := by
 unfold kPar
 rw [kPs]
 split
 ·rename_i hk
  rw [h hk]
 ·rfl
theorem kPar_nil : kPar [] = some [] := rfl
end Go.Proofs.YtfglgeoookbppaaGreatDoor
