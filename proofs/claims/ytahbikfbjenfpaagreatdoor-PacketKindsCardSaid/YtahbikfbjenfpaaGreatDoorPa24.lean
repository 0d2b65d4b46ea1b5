/- Package wire: what a reader answers to any bytes: numbers, texts, truths. A region that draws its order, of which one operation may write what lay: each operation met once; the last ones may stand in a row. -/
import Derived.Test.YtahbikfbjenfpaaGreatDoorPa21
import Derived.Test.YtahbikfbjenfpaaGreatDoorPa1
import Derived.Test.YtahbikfbjenfpaaGreatDoorPa3
import Derived.Test.YtahbikfbjenfpaaGreatDoorPa2

namespace Go.Proofs.YtahbikfbjenfpaaGreatDoor
open Go.RowKit

set_option maxRecDepth 100000 in
set_option maxHeartbeats 1000000 in
theorem rdTake1_no (w : World) (r bx n len c : Nat) (A : Option Addr) (h : Row w r 130 #[.slice A len c, .bool true]) (hb : w.cell? ⟨bx, 0, none⟩ = some (.pointer (some ⟨r, 0, none⟩))) (hn : len < n) :
  Calls Tryz.prog 163 #[.int .i64 n, .pointer (some ⟨bx, 0, none⟩)] w fun e w' => e = .returned (.tuple #[.slice none 0 0, .bool false]) ∧ w' = w := by
 have h0 := h.cell 0
 have H := Lib.hid h
 clear h
 have hlt : decide ((len : Int) < (n : Int)) = true := by simp; omega
 go_enter Tryz.func163, Tryz.ntmps163
 go_wp2
 go_ret2
 exact ⟨rfl, rfl⟩
set_option maxRecDepth 100000 in
set_option maxHeartbeats 1000000 in
theorem rdNumber_no (w : World) (base r k : Nat) (l : List UInt8) (h : Rd w base r l) (hk1 : 1 ≤ k) (hk8 : k ≤ 8) (hkl : l.length < k) :
  Calls Tryz.prog 108 #[.pointer (some ⟨r, 0, none⟩), .int .i64 k] w fun e w' => e = .returned (.tuple #[.int .u64 0, .int .i64 130]) ∧ Keeps w w' [] := by
 obtain ⟨A, c, hr, hbr, hc, hnil, hcm, hL, had⟩ := h
 have HR := Lib.hid hr
 clear hr hL hnil had
 have hw : withinB (k : Int) 1 8 = true := by simp [withinB]; omega
 go_enter Tryz.func108, Tryz.ntmps108
 go_wp2_with fail
 refine (rdNone_any _ _ _ HR.out).mono ?_
 rintro e w1 ⟨rfl, rfl⟩
 go_wp2_with fail
 refine (wide_any _ _).mono ?_
 rintro e w1 ⟨rfl, rfl⟩
 rw [hw]
 clear hw
 go_wp2_with fail
 refine (rdTake_any _ _).mono ?_
 rintro e w1 ⟨rfl, rfl⟩
 go_wp2_with fail
 refine (rdTake1_no _ r w.heap.size k l.length c A (HR.out.alloc _) (by simp [World.cell?_alloc_new]) hkl).mono ?_
 rintro e w2 ⟨rfl, rfl⟩
 go_wp2_with fail
 go_ret2
 exact ⟨rfl, Keeps.alloc _ _⟩
/-- What a reader does: it answers, and these bytes are left; or it refuses. -/
def RdDoes (w : World) (base r : Nat) (l : List UInt8) (o : Option (Value × List UInt8)) (no : Value) (e : Ending) (w' : World) : Prop := Keeps w w' [r] ∧ match o with
 | some (v, t) => e = .returned (.tuple #[v, .int .i64 0]) ∧ Rd w' base r t
 | none => e = .returned (.tuple #[no, .int .i64 130]) ∧ Rd w' base r l
theorem rdNumber_is (w : World) (base r k : Nat) (l : List UInt8) (h : Rd w base r l) (hk1 : 1 ≤ k) (hk8 : k ≤ 8) :
  Calls Tryz.prog 108 #[.pointer (some ⟨r, 0, none⟩), .int .i64 k] w (RdDoes w base r l ((rdN k l).map fun (n, t) => (.int .u64 (n : Nat), t)) (.int .u64 0)) := by
 unfold rdN
 by_cases hkl : k ≤ l.length
 ·rw [if_pos hkl]
  exact (rdNumber_any w base r k l h hk1 hk8 hkl).mono fun e w' ⟨h1, h2, h3⟩ => ⟨h3, h1, h2⟩
 ·rw [if_neg hkl]
  exact (rdNumber_no w base r k l h hk1 hk8 (by omega)).mono fun e w' ⟨h1, h2⟩ => ⟨h2.weaken (by simp), h1, h.keep h2 (by simp)⟩
set_option maxRecDepth 100000 in
set_option maxHeartbeats 400000 in
theorem rdLeft_any (w : World) (base r : Nat) (l : List UInt8) (h : Rd w base r l) :
  Calls Tryz.prog 33 #[.pointer (some ⟨r, 0, none⟩)] w fun e w' => e = .returned (.int .i64 l.length) ∧ w = w' := by
 obtain ⟨A, c, hr, hbr, hc, hnil, hcm, hL, had⟩ := h
 have h0 := hr.cell 0
 simp only [List.getElem?_toArray, List.getElem?_cons_zero] at h0
 have HR := Lib.hid hr
 clear hr hL hnil had
 go_enter Tryz.func33, Tryz.ntmps33
 go_wp2_with fail
 refine (rdNone_any _ _ _ HR.out).mono ?_
 rintro e w1 ⟨rfl, rfl⟩
 go_wp2_with fail
 go_ret
 exact ⟨rfl, rfl⟩
/-- The reader's own row, put back. -/
theorem Rd.back {w w' : World} {base r : Nat} {l : List UInt8} {A : Option Addr} {c : Nat} {x : Value} (hr : Row w' r 130 #[x, .bool true]) (hb : base ≤ r) (hc : l.length ≤ c) (hnil : A = none → c = 0) (hcm : c ≤ maxLen) (hL : Lies w w.heap.size A (l.map byteV)) (had : ∀ ad, A = some ad → base ≤ ad.block ∧ ad.block < r) (hk : Keeps w w' [r]) :
  Rd (w'.setCell ⟨r, 0, none⟩ (.slice A l.length c)) base r l := by
 have h1 := hr.store 0 (.slice A l.length c)
 refine ⟨A, c, by simpa using h1, hb, hc, hnil, hcm, ?_, had⟩
 have hk2 := hk.trans (Keeps.setCell w' ⟨r, 0, none⟩ (.slice A l.length c)) (by simp)
 exact (hL.keep' hk2 (Nat.le_refl _) (fun b o e hm => by simp at hm; exact absurd hm (Nat.ne_of_lt (had _ e).2))).mono hk2.size
set_option maxRecDepth 100000 in
set_option maxHeartbeats 2000000 in
theorem rdText_is (w : World) (base r : Nat) (l : List UInt8) (h : Rd w base r l) :
  Calls Tryz.prog 120 #[.pointer (some ⟨r, 0, none⟩)] w (RdDoes w base r l ((rdTx l).map fun (s, t) => (strV s, t)) (.string ⟨#[]⟩)) := by
 have HRd := Lib.hid h
 obtain ⟨A, c, hr, hbr, hc, hnil, hcm, hL, had⟩ := h
 have h0 := hr.cell 0
 simp only [List.getElem?_toArray, List.getElem?_cons_zero] at h0
 have HR := Lib.hid hr
 have HL := Lib.hid (And.intro hL (And.intro hnil had))
 clear hr hnil had hL
 have HN := Lib.hid (rdNumber_is w base r 2 l HRd.out (by omega) (by omega))
 cases hn : rdN 2 l with
 | none =>
  rw [hn] at HN
  have HT := Lib.hid (show rdTx l = none by unfold rdTx; rw [hn])
  clear hn
  go_enter Tryz.func120, Tryz.ntmps120
  go_wp2_with fail
  refine (rdNone_any _ _ _ HR.out).mono ?_
  rintro e w1 ⟨rfl, rfl⟩
  go_wp2_with fail
  refine HN.out.mono ?_
  rintro e w2 ⟨hk2, rfl, hrd2⟩
  obtain ⟨A2, c2, hr2, hbr2, hc2, hnil2, hcm2, hL2, had2⟩ := hrd2
  have H2 := Lib.hid (And.intro hk2 (And.intro hr2 (And.intro hL2 (And.intro hnil2 had2))))
  clear hk2 hr2 hL2 hnil2 had2 h0
  go_wp2_with fail
  refine (rdTake_any _ _).mono ?_
  rintro e w3 ⟨rfl, rfl⟩
  go_wp2_with fail
  have HX := Lib.hid (rdTake1_any (w2.alloc (.cells #[.pointer (some ⟨r, 0, none⟩)] 71)) r w2.heap.size 0 l.length c2 A2 (H2.out.2.1.alloc _) (by simp [World.cell?_alloc_new]) (Nat.zero_le _) hc2 hcm2)
  refine HX.out.mono ?_
  rintro e w4 ⟨rfl, hw4⟩
  have hr4 : Row w4 r 130 #[.slice (if c2 = 0 then A2 else A2.map (·.add (0 : Nat))) (l.length - 0) (c2 - 0), .bool true] := by
   subst hw4
   exact ((H2.out.2.1.alloc _).store 0 _)
  have hk4 : Keeps w2 w4 [r] := by
   subst hw4
   exact (((Keeps.alloc w2 _).weaken (T := [r]) (by simp)).trans (Keeps.setCell _ ⟨r, 0, none⟩ _) (by simp)).trans (Keeps.drew _) (by simp)
  have h4 := hr4.cell 0
  have f4 := hr4.frozen 0
  simp only [List.getElem?_toArray, List.getElem?_cons_zero] at h4
  have H4 := Lib.hid (And.intro hr4 (H2.out.1.trans hk4 (by simp)))
  clear hr4 hk4 hw4 HX
  go_wp2_with fail
  go_ret2
  rw [HT.out]
  exact ⟨H4.out.2.trans (Keeps.setCell _ _ _) (by simp), rfl, Rd.back H4.out.1 hbr hc HL.out.2.1 hcm HL.out.1 HL.out.2.2 H4.out.2⟩
 | some p =>
  obtain ⟨n, t⟩ := p
  obtain ⟨s1, s2, s3⟩ := rdN_sound hn
  have hn16 : n < 65536 := by simpa using s2
  rw [hn] at HN
  by_cases hle : n ≤ t.length
  ·have HT := Lib.hid (show rdTx l = some (t.take n, t.drop n) by unfold rdTx; rw [hn]; simp only; rw [if_pos hle])
   clear hn s1 s2 s3
   have hwn : IntKind.i64.wrap (n : Int) = (n : Int) := IntWalk.i64_in _ ⟨by omega, by omega⟩
   go_enter Tryz.func120, Tryz.ntmps120
   go_wp2_with fail
   refine (rdNone_any _ _ _ HR.out).mono ?_
   rintro e w1 ⟨rfl, rfl⟩
   go_wp2_with fail
   refine HN.out.mono ?_
   rintro e w2 ⟨hk2, rfl, hrd2⟩
   obtain ⟨A2, c2, hr2, hbr2, hc2, hnil2, hcm2, hL2, had2⟩ := hrd2
   have H2 := Lib.hid (And.intro hk2 (And.intro hr2 (And.intro hL2 (And.intro hnil2 had2))))
   clear hk2 hr2 hL2 hnil2 had2 h0
   go_wp2_with fail
   refine (rdTake_any _ _).mono ?_
   rintro e w3 ⟨rfl, rfl⟩
   go_wp2_with fail
   have HX := Lib.hid (rdTake1_any (w2.alloc (.cells #[.pointer (some ⟨r, 0, none⟩)] 71)) r w2.heap.size n t.length c2 A2 (H2.out.2.1.alloc _) (by simp [World.cell?_alloc_new]) hle hc2 hcm2)
   refine HX.out.mono ?_
   rintro e w4 ⟨rfl, hw4⟩
   have hr4 : Row w4 r 130 #[.slice (if c2 = n then A2 else A2.map (·.add n)) (t.length - n) (c2 - n), .bool true] := by
    subst hw4
    exact ((H2.out.2.1.alloc _).store 0 _)
   have hk4 : Keeps w2 w4 [r] := by
    subst hw4
    exact (((Keeps.alloc w2 _).weaken (T := [r]) (by simp)).trans (Keeps.setCell _ ⟨r, 0, none⟩ _) (by simp)).trans (Keeps.drew _) (by simp)
   have hL4 : Lies w4 w2.heap.size A2 (t.map byteV) := H2.out.2.2.1.keep' hk4 (Nat.le_refl _) (fun b o e hm => by simp at hm; exact absurd hm (Nat.ne_of_lt (H2.out.2.2.2.2 _ e).2))
   have hlt : (t.take n).length = n := by rw [List.length_take]; omega
   have hcv := conv_str w4 w2.heap.size A2 n (t.take n) (by rw [List.map_take]; exact hL4.take n)
   rw [hlt] at hcv
   have H4 := Lib.hid (And.intro hr4 (And.intro hk4 hL4))
   clear hr4 hk4 hw4 HX hL4
   go_wp2_with fail
   go_ret2
   rw [HT.out]
   refine ⟨H2.out.1.trans H4.out.2.1 (by simp), rfl, ?_⟩
   have hal : (if c2 = n then A2 else A2.map (·.add n)) = none → c2 - n = 0 := by
    intro hn
    split at hn
    ·omega
    ·have : A2 = none := by simpa using hn
     have := H2.out.2.2.2.1 this
     omega
   have hll : (t.drop n).length = t.length - n := by simp
   refine ⟨_, c2 - n, by rw [hll]; exact H4.out.1, hbr, by rw [hll]; omega, hal, by omega, ?_, ?_⟩
   ·have := H4.out.2.2.cut (k := n) (cap := c2) (by simpa using hc2)
    rw [List.map_drop]
    exact this.mono H4.out.2.1.size
   ·intro ad had
    split at had
    ·exact H2.out.2.2.2.2 ad had
    ·cases A2 with
     | none => cases had
     | some a0 =>
      simp only [Option.map_some, Option.some.injEq] at had
      subst had
      have := H2.out.2.2.2.2 a0 rfl
      have hblk : (a0.add n).block = a0.block := by unfold Addr.add; split <;> rfl
      rw [hblk]; exact this
  ·have HT := Lib.hid (show rdTx l = none by unfold rdTx; rw [hn]; simp only; rw [if_neg hle])
   clear hn s1 s2 s3
   have hwn : IntKind.i64.wrap (n : Int) = (n : Int) := IntWalk.i64_in _ ⟨by omega, by omega⟩
   go_enter Tryz.func120, Tryz.ntmps120
   go_wp2_with fail
   refine (rdNone_any _ _ _ HR.out).mono ?_
   rintro e w1 ⟨rfl, rfl⟩
   go_wp2_with fail
   refine HN.out.mono ?_
   rintro e w2 ⟨hk2, rfl, hrd2⟩
   obtain ⟨A2, c2, hr2, hbr2, hc2, hnil2, hcm2, hL2, had2⟩ := hrd2
   have H2 := Lib.hid (And.intro hk2 hr2)
   clear hk2 hr2 hL2 hnil2 had2 h0
   go_wp2_with fail
   refine (rdTake_any _ _).mono ?_
   rintro e w3 ⟨rfl, rfl⟩
   go_wp2_with fail
   refine (rdTake1_no (w2.alloc (.cells #[.pointer (some ⟨r, 0, none⟩)] 71)) r w2.heap.size n t.length c2 A2 (H2.out.2.alloc _) (by simp [World.cell?_alloc_new]) (by omega)).mono ?_
   rintro e w4 ⟨rfl, hw4⟩
   have hr4 : Row w4 r 130 #[.slice A2 t.length c2, .bool true] := by
    subst hw4
    exact H2.out.2.alloc _
   have hk4 : Keeps w2 w4 [] := by
    subst hw4
    exact Keeps.alloc w2 _
   have f4 := hr4.frozen 0
   have h4 := hr4.cell 0
   simp only [List.getElem?_toArray, List.getElem?_cons_zero] at h4
   have H4 := Lib.hid (And.intro hr4 (H2.out.1.trans (hk4.weaken (T := [r]) (by simp)) (by simp)))
   clear hr4 hk4 hw4
   go_wp2_with fail
   go_ret2
   rw [HT.out]
   exact ⟨H4.out.2.trans (Keeps.setCell _ _ _) (by simp), rfl, Rd.back H4.out.1 hbr hc HL.out.2.1 hcm HL.out.1 HL.out.2.2 H4.out.2⟩

section
variable (P : Program) (R R1 : World → World → Prop) (d : Tmp) (w0 : World) (ops : Array Oper) (vals : Tmp → Value)
def relS (t : Option Tmp) : World → World → Prop := if t = some d then R1 else R
def knowsS (rs : List Tmp) (W : World) : List Ent → Prop
 | [] => True
 | ⟨_, some _, _, _⟩ :: l => knowsS rs W l
 | ⟨none, none, _, _⟩ :: l => knowsS rs W l
 | ⟨some t, none, rd, φ⟩ :: l => (t ∈ rs → ∃ W0, R w0 W0 ∧ relS R R1 d (some t) W0 W ∧ φ (rd.map vals) (vals t) W0) ∧ knowsS rs W l

def knowsAllS (W : World) : List Ent → Prop
 | [] => True
 | ⟨_, some _, _, _⟩ :: l => knowsAllS W l
 | ⟨none, none, rd, φ⟩ :: l => (∃ u W0, R w0 W0 ∧ R W0 W ∧ φ (rd.map vals) u W0) ∧ knowsAllS W l
 | ⟨some t, none, rd, φ⟩ :: l => (∃ W0, R w0 W0 ∧ relS R R1 d (some t) W0 W ∧ φ (rd.map vals) (vals t) W0) ∧ knowsAllS W l

def wpLooseS (a0 : Act) (Q : List Ent → Prop) : List Oper → List Ent → Prop
 | [], env => Q env
 | o :: rest, env => ∃ c rd φ, (∀ t ∈ rd, waitsB ops o t = true) ∧ (∀ W vals, R w0 W → (o.dst = some d → R1 w0 W) → knowsS R R1 d w0 vals (o.looksAt ops) W env → opOk P (if o.dst = some d then R else R1) ops (fill vals env a0) o (entOf c (φ (rd.map vals))) W) ∧ wpLooseS a0 Q rest (addEnt o.dst c rd φ env)
end

section
variable {P : Program} {R R1 : World → World → Prop} {d : Tmp} {w0 : World} {ops : Array Oper} {vals : Tmp → Value}
/-- What stands while the region runs. -/
structure LooseInvS (R R1 : World → World → Prop) (ds : Tmp) (w0 : World) (ops : Array Oper) (a0 : Act) (c : Nat → Option Value) (rd : Nat → List Tmp) (φ : Nat → List Value → Value → World → Prop) (listed : Array Bool) (a : Act) (W : World) : Prop where
 world : R w0 W
 world1 : (∀ k o, ops[k]? = some o → o.dst = some ds → listed.getD k false = false) → R1 w0 W
 defers : a.defers = a0.defers
 size : a.tmps.size = a0.tmps.size
 lsize : listed.size = ops.size
 off : ∀ t, (∀ k o, ops[k]? = some o → o.dst = some t → listed.getD k false = false) → a.tmps[t]? = a0.tmps[t]?
 on : ∀ k o d, ops[k]? = some o → o.dst = some d → listed.getD k false = true → ∃ v, a.tmps[d]? = some v ∧ ∃ W0, R w0 W0 ∧ relS R R1 ds (some d) W0 W ∧ entOf (c k) (φ k ((rd k).map fun t => a.tmps.getD t undef)) v W0
 onn : ∀ k o, ops[k]? = some o → o.dst = none → listed.getD k false = true → ∃ u W0, R w0 W0 ∧ R W0 W ∧ entOf (c k) (φ k ((rd k).map fun t => a.tmps.getD t undef)) u W0
 dep : ∀ k o, ops[k]? = some o → listed.getD k false = true → ∀ e ∈ o.after, Region.binds .any e = true → listed.getD e.on false = true

end
end Go.Proofs.YtahbikfbjenfpaaGreatDoor
