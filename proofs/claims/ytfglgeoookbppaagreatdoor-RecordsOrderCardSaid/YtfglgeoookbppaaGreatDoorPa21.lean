/- Package keys: what may be: the round's test. Package keys: Check's loop. Package keys: parts' bytes. Package keys: Check, Raw, Behind. Package keys: Raw, Behind. -/
import Derived.Test.YtfglgeoookbppaaGreatDoorPa17
import Derived.Test.YtfglgeoookbppaaGreatDoorPa19
import Derived.Test.YtfglgeoookbppaaGreatDoorPa20

namespace Go.Proofs.YtfglgeoookbppaaGreatDoor
open Go.RowKit

theorem wf64 (k : Int) (h1 : -9223372036854775808 ≤ k) (h2 : k ≤ 9223372036854775807) : (Lit.int .i64 k).wf = true := by
  have m1 : IntKind.i64.min = -9223372036854775808 := by decide
  have m2 : IntKind.i64.max = 9223372036854775807 := by decide
  show (decide (IntKind.i64.min ≤ k) && decide (k ≤ IntKind.i64.max)) = true
  rw [m1, m2]
  simp [h1, h2]
theorem undIntKey (k : Int) (h1 : -9223372036854775808 ≤ k) (h2 : k ≤ 9223372036854775807) : keyOf Tryz.prog 60 (.int .i64 k) = some (.int .i64 k) := Maps.keyOf_int_mk undKind (wf64 k h1 h2)
def kNone : Value := .agg #[.nilFunc, .nilFunc, .nilFunc, .nilFunc]
def kIs (k : Int) : Bool := k == 1 || k == 2 || k == 3
def kOfKind (k : Int) : Value := if k = 1 then kInts else if k = 2 then kFloats else if k = 3 then kTexts else kNone
theorem Kinds.look {W : World} {b : Nat} (h : Kinds W b) (k : Int) (h1 : -9223372036854775808 ≤ k) (h2 : k ≤ 9223372036854775807) (c : Bool) :
    (Instr.lookup 116 (.map (some b)) (.int .i64 k) c).run Tryz.prog W = .ok (if c then .tuple #[kOfKind k, .bool (kIs k)] else kOfKind k) W := by
  unfold kOfKind kIs
  by_cases e1 : k = 1
  · subst e1
    exact HMap.there h (Maps.int_keyed undKind) undKinds (kZero W) (undIntKey 1 h1 h2) (fun _ => rfl) c
  · by_cases e2 : k = 2
    · subst e2
      exact HMap.there h (Maps.int_keyed undKind) undKinds (kZero W) (undIntKey 2 h1 h2) (fun _ => rfl) c
    · by_cases e3 : k = 3
      · subst e3
        exact HMap.there h (Maps.int_keyed undKind) undKinds (kZero W) (undIntKey 3 h1 h2) (fun _ => rfl) c
      · rw [if_neg e1, if_neg e2, if_neg e3]
        have hb : (k == 1 || k == 2 || k == 3) = false := by simp [e1, e2, e3]
        rw [hb]
        refine HMap.missing h (Maps.int_keyed undKind) undKinds (kZero W) (undIntKey k h1 h2) (fun zd => ?_) c
        have s1 : (Lit.int .i64 1).sameKey (.int .i64 k) = false := by simp [Lit.sameKey]; exact fun e => e1 e.symm
        have s2 : (Lit.int .i64 2).sameKey (.int .i64 k) = false := by simp [Lit.sameKey]; exact fun e => e2 e.symm
        have s3 : (Lit.int .i64 3).sameKey (.int .i64 k) = false := by simp [Lit.sameKey]; exact fun e => e3 e.symm
        show (DataW.map [(Lit.int .i64 1, .held kInts), (Lit.int .i64 2, .held kFloats), (Lit.int .i64 3, .held kTexts)]).atKey _ zd = zd
        simp [DataW.atKey, List.find?, s1, s2, s3]
theorem Kinds.fills {B : Nat} {c1 : Array Value} {ty : TypeId} {fz : Nat × Nat} {O2 : Obj} {W W' : World} {b : Nat} (h : Kinds W b) (hk : KeepsF B (.cells c1 ty fz) O2 W W') : Kinds W' b := by
  obtain ⟨es, clock, hb', F, hs, hD⟩ := h
  exact ⟨es, clock, hk.other hb' (by simp), F, hs, hD⟩
/-- A kind's block, new and filled. -/
def kO1 : Obj := .cells #[.nilFunc, .nilFunc, .nilFunc, .nilFunc] 114 (0, 0)
def kO2 (f1 f2 f3 f4 : Value) : Obj := .cells #[f1, f2, f3, f4] 114 (0, 0)
theorem kFill {B : Nat} {f1 f2 f3 f4 : Value} {W : World} {b : Nat} (hB : B ≤ b) (h : W.heap[b]? = some kO1 ∨ W.heap[b]? = some (kO2 f1 f2 f3 f4)) :
    KeepsF B kO1 (kO2 f1 f2 f3 f4) W ((((W.setCell ⟨b, 0, none⟩ f1).setCell ⟨b, 1, none⟩ f2).setCell ⟨b, 2, none⟩ f3).setCell ⟨b, 3, none⟩ f4) ∧
    ((((W.setCell ⟨b, 0, none⟩ f1).setCell ⟨b, 1, none⟩ f2).setCell ⟨b, 2, none⟩ f3).setCell ⟨b, 3, none⟩ f4).heap[b]? = some (kO2 f1 f2 f3 f4) := by
  have hk : Keeps W ((((W.setCell ⟨b, 0, none⟩ f1).setCell ⟨b, 1, none⟩ f2).setCell ⟨b, 2, none⟩ f3).setCell ⟨b, 3, none⟩ f4) [b] :=
    (((Keeps.setCell _ _ _).trans (Keeps.setCell _ _ _) (by simp)).trans (Keeps.setCell _ _ _) (by simp)).trans (Keeps.setCell _ _ _) (by simp)
  have hr : Row ((((W.setCell ⟨b, 0, none⟩ f1).setCell ⟨b, 1, none⟩ f2).setCell ⟨b, 2, none⟩ f3).setCell ⟨b, 3, none⟩ f4) b 114 #[f1, f2, f3, f4] := by
    rcases h with h | h
    · exact ((((show Row W b 114 #[.nilFunc, .nilFunc, .nilFunc, .nilFunc] from h).store 0 f1).store 1 f2).store 2 f3).store 3 f4
    · exact ((((show Row W b 114 #[f1, f2, f3, f4] from h).store 0 f1).store 1 f2).store 2 f3).store 3 f4
  exact ⟨KeepsF.fill hk hB h hr, hr⟩
theorem kCell {f1 f2 f3 f4 : Value} {W : World} {b : Nat} (h : W.heap[b]? = some kO1 ∨ W.heap[b]? = some (kO2 f1 f2 f3 f4)) :
    ∃ v1 v2 v3 v4, W.cell? ⟨b, 0, none⟩ = some v1 ∧ W.cell? ⟨b, 1, none⟩ = some v2 ∧ W.cell? ⟨b, 2, none⟩ = some v3 ∧ W.cell? ⟨b, 3, none⟩ = some v4 ∧ ∀ i, W.frozen? ⟨b, i, none⟩ = false := by
  rcases h with h | h
  · have hr : Row W b 114 #[.nilFunc, .nilFunc, .nilFunc, .nilFunc] := h
    exact ⟨_, _, _, _, hr.cell 0, hr.cell 1, hr.cell 2, hr.cell 3, hr.frozen⟩
  · have hr : Row W b 114 #[f1, f2, f3, f4] := h
    exact ⟨_, _, _, _, hr.cell 0, hr.cell 1, hr.cell 2, hr.cell 3, hr.frozen⟩
end Go.Proofs.YtfglgeoookbppaaGreatDoor

namespace Go.Proofs.YtfglgeoookbppaaGreatDoor
open Go.RowKit

/-- Parts' cells. -/
def kFlat (l : List KP) : List Value := l.flatMap kpCells
theorem kFlat_get : ∀ (l : List KP) (j i : Nat) (hj : j < l.length) (_ : i < 4), (kFlat l)[4 * j + i]? = (kpCells l[j])[i]?
  | p :: l, 0, i, _, hi => by
    show (kpCells p ++ kFlat l)[4 * 0 + i]? = _
    rw [Nat.mul_zero, Nat.zero_add, List.getElem?_append_left (by simpa [kpCells] using hi)]
    rfl
  | p :: l, j + 1, i, hj, hi => by
    show (kpCells p ++ kFlat l)[4 * (j + 1) + i]? = _
    rw [List.getElem?_append_right (by simp [kpCells]; omega)]
    have := kFlat_get l j i (by simpa using hj) hi
    simp only [kpCells, List.length_cons, List.length_nil] at this ⊢
    rw [show 4 * (j + 1) + i - 4 = 4 * j + i by omega]
    simpa using this
theorem kFlat_length (l : List KP) : (kFlat l).length = 4 * l.length := by
  induction l with
  | nil => rfl
  | cons p l ih => show (kpCells p ++ kFlat l).length = _; simp [kpCells, ih]; omega
/-- A part's cells, in whatever keeps them. -/
theorem kpAt {w : World} {B : Nat} {A : Option Addr} {l : List KP} (h : Lies w B A (kFlat l)) (hB : B ≤ w.heap.size) {j : Nat} (hj : j < l.length) : ∃ b o, A = some ⟨b, o, none⟩ ∧ b < B ∧ ∀ W, Keeps w W [] →
    W.cell? ⟨b, o + j * 4, none⟩ = some (.int .i64 l[j].k) ∧ W.cell? ⟨b, o + j * 4 + 1, none⟩ = some (.int .i64 l[j].n) ∧ W.cell? ⟨b, o + j * 4 + 2, none⟩ = some (.float .f64 l[j].f) ∧ W.cell? ⟨b, o + j * 4 + 3, none⟩ = some (strV l[j].s) := by
  obtain ⟨b, o, hA, hb, hc⟩ := h (by rw [kFlat_length]; omega)
  refine ⟨b, o, hA, hb, fun W hk => ?_⟩
  have hm : 4 * j = j * 4 := Nat.mul_comm _ _
  have g : ∀ i u, i < 4 → (kpCells l[j])[i]? = some u → W.cell? ⟨b, o + (4 * j + i), none⟩ = some u := fun i u hi hu =>
    (hk.cell (p := ⟨b, o + (4 * j + i), none⟩) (by simp; omega) (by simp)).trans (hc (4 * j + i) u (by rw [kFlat_get l j i hj hi, hu]))
  rw [hm] at g
  exact ⟨g 0 _ (by omega) rfl, g 1 _ (by omega) rfl, g 2 _ (by omega) rfl, g 3 _ (by omega) rfl⟩


theorem kind_cases (k : Int) : k = 1 ∨ k = 2 ∨ k = 3 ∨ (k ≠ 1 ∧ k ≠ 2 ∧ k ≠ 3) := by omega
end Go.Proofs.YtfglgeoookbppaaGreatDoor

namespace Go.Proofs.YtfglgeoookbppaaGreatDoor
open Go.RowKit

theorem toBE_len8 (n : Nat) : (toBE 8 n).length = 8 := toBE_length 8 n
theorem kPart_length {p : KP} (hs : p.s.length ≤ 1000) : (kPart p).length ≤ 2010 := by
  unfold kPart kTail
  have := kEsc_length p.s
  split
  · simp [toBE_len8]
  · split
    · simp [toBE_len8]
    · simp; omega
theorem kRaw_length : ∀ {l : List KP}, (∀ p ∈ l, p.s.length ≤ 1000) → (kRaw l).length ≤ 2010 * l.length
  | [], _ => by simp [kRaw]
  | p :: l, h => by
    have h1 := kPart_length (h p (by simp))
    have h2 := kRaw_length (l := l) fun q hq => h q (by simp [hq])
    simp only [kRaw, List.length_append, List.length_cons]
    omega
theorem kRaw_take {l : List KP} {j : Nat} (hj : j < l.length) : kRaw (l.take (j + 1)) = kRaw (l.take j) ++ kPart l[j] := by
  rw [List.take_succ_eq_append_getElem hj, kRaw_append, kRaw_one]

def kArr (k : Nat) : Array Value := match k with
  | 1 => #[kFn 105, kFn 106, kFn 108, kFn 110]
  | 2 => #[kFn 112, kFn 113, kFn 115, kFn 118]
  | _ => #[kFn 120, kFn 121, kFn 123, kFn 124]
theorem conv_one {W : World} {g : Nat} {b : UInt8} (h : Row W g 5 #[byteV b]) : (convert 39 9 (.slice (some ⟨g, 0, none⟩) 1 1)).run Tryz.prog W = .ok (.string ⟨#[b]⟩) W := by
  refine conv_str W W.heap.size (some ⟨g, 0, none⟩) 1 [b] fun _ => ⟨g, 0, rfl, h.lt, fun i u hu => ?_⟩
  rcases i with _ | i
  · rw [h.cell]
    simpa using hu
  · simp at hu

set_option maxRecDepth 100000 in
set_option maxHeartbeats 4000000 in
theorem kRaw_any (w : World) (A : Option Addr) (c : Nat) (l : List KP) (hok : ∀ p ∈ l, p.Ok) (hmay : l.all kMay = true) (hL : Lies w w.heap.size A (kFlat l)) (hM : MaxL w) (hl : l.length ≤ 100) (hs : ∀ p ∈ l, p.s.length ≤ 1000) :
    Calls Tryz.prog 79 #[.slice A l.length c] w fun e w' => e = .returned (strV (kRaw l)) ∧ Keeps w w' [] := by
  have hsf := @run_store_float Tryz.prog
  go_enter Tryz.func79, Tryz.ntmps79
  go_wp2_with fail
  go_loopw [3, 8] (fun v i wr => ∃ j : Nat, j ≤ l.length ∧ i = .int .i64 j ∧ v = strV (kRaw (l.take j)) ∧ Keeps w wr []) (fun _ i _ => l.length - (intOf i).toNat)
  case atStart => exact ⟨0, by omega, rfl, rfl, Keeps.refl _ _⟩
  case round =>
    obtain ⟨j, hj, rfl, rfl, hkp⟩ := hrel
    by_cases hjl : j < l.length
    · obtain ⟨b, o, rfl, hb, hc⟩ := kpAt hL (Nat.le_refl _) hjl
      have hp := hok l[j] (List.getElem_mem _)
      have hmj := List.all_eq_true.1 hmay l[j] (List.getElem_mem _)
      have hsj := hs l[j] (List.getElem_mem _)
      have hlt : (kRaw (l.take j)).length ≤ 201000 := by
        have := kRaw_length (l := l.take j) fun q hq => hs q (List.mem_of_mem_take hq)
        have h2 : (l.take j).length ≤ 100 := by rw [List.length_take]; omega
        omega
      obtain ⟨R, hR⟩ : ∃ R, kRaw (l.take j) = R := ⟨_, rfl⟩
      rw [hR] at hlt ⊢
      have HR := Lib.hid (show kRaw (l.take (j + 1)) = R ++ kPart l[j] by rw [kRaw_take hjl, hR])
      clear hR
      obtain ⟨p, hpd⟩ : ∃ p, p = l[j] := ⟨_, rfl⟩
      rw [← hpd] at hc hp hmj hsj
      obtain ⟨c0, c1, c2, c3⟩ := hc wr hkp
      have HM := Lib.hid (show ∀ W, Keeps w W [] → MaxL W from fun W h => hM.keeps h)
      have HH := Lib.hid (And.intro hc (And.intro hp (And.intro hpd (And.intro hsj (And.intro hkp hL)))))
      have HMJ := Lib.hid (kMay_cases hmj)
      clear hc hp hpd hkp hL hok hs hM hmay hmj hsj
      obtain ⟨k, n, f, s⟩ := p
      simp only [strV] at c0 c1 c2 c3 ⊢
      go_wp2_with fail
      obtain ⟨W0, hW0⟩ : ∃ W', wr.alloc (.cells #[.int .i64 k, .int .i64 n, .float .f64 f, .string ⟨s.toArray⟩] 63) = W' := ⟨_, rfl⟩
      have hk0 : Keeps wr W0 [] := by rw [← hW0]; exact Keeps.alloc _ _
      have hr0 : Row W0 wr.heap.size 63 #[.int .i64 k, .int .i64 n, .float .f64 f, .string ⟨s.toArray⟩] := by rw [← hW0]; exact Row.new _ _ _
      rw [hW0]
      clear hW0 c0 c1 c2 c3
      obtain ⟨N, hN⟩ : ∃ N, wr.heap.size = N := ⟨_, rfl⟩
      rw [hN] at hr0 ⊢
      have H2 := Lib.hid (And.intro hk0 hr0)
      have M1 := fun (W : World) (hW : Keeps W0 W []) => (hr0.keep hW (by simp)).cell 0
      have M2 := fun (W : World) (hW : Keeps W0 W []) => (hr0.keep hW (by simp)).cell 1
      have M3 := fun (W : World) (hW : Keeps W0 W []) => (hr0.keep hW (by simp)).cell 2
      have M4 := fun (W : World) (hW : Keeps W0 W []) => (hr0.keep hW (by simp)).cell 3
      clear hN hk0
      obtain ⟨T, hT⟩ : ∃ T, kTail ⟨k, n, f, s⟩ = T := ⟨_, rfl⟩
      have HT := Lib.hid (show kTail ⟨k, n, f, s⟩ = T ∧ ¬ 9223372036854775807 < 1 + T.length ∧ ¬ 9223372036854775807 < R.length + (1 + T.length) by
        have := kPart_length (p := ⟨k, n, f, s⟩) HH.out.2.2.2.1
        rw [kPart, hT, List.length_cons] at this
        exact ⟨hT, by omega, by omega⟩)
      have HQ := Lib.hid (show ∀ W, Keeps W0 W [] → Keeps w W [] from fun W h => (HH.out.2.2.2.2.1.trans H2.out.1 (by simp)).trans h (by simp))
      clear hT
      have hk3 : k = 1 ∨ k = 2 ∨ k = 3 := by rcases HMJ.out with h | h | h <;> simp [h.1]
      rcases hk3 with rfl | rfl | rfl
      · have HC := Lib.hid (show ∀ W, Keeps w W [] → Calls Tryz.prog 106 #[.agg #[.int .i64 1, .int .i64 n, .float .f64 f, .string ⟨s.toArray⟩]] W fun e w' => e = .returned (.string ⟨T.toArray⟩) ∧ Keeps W w' [] from fun W hW => by
          rw [← HT.out.1]
          exact kRawI_any ⟨1, n, f, s⟩ HH.out.2.1 W)
        have hkv : kOfKind 1 = .agg (kArr 1) := by rfl
        simp only [kArr] at hkv
        have HKV := Lib.hid hkv
        clear hkv
        refine wp_region_keeps _ (by kernel_rfl) rfl (by kernel_rfl) ?_
        apply loose_is
        · intro W vals hW hkn
          clear hkn
          refine ⟨?_⟩
          simp only [fill]
          go_simp
          first | exact ⟨Keeps.refl _ _, rfl⟩ | exact ⟨Keeps.alloc _ _, rfl⟩
        simp only [addEnt]
        apply loose_is
        · intro W vals hW hkn
          clear hkn
          refine ⟨?_⟩
          simp only [fill]
          go_simp
          first | exact ⟨Keeps.refl _ _, rfl⟩ | exact ⟨Keeps.alloc _ _, rfl⟩
        simp only [addEnt]
        apply loose_is
        · intro W vals hW hkn
          clear hkn
          refine ⟨?_⟩
          simp only [fill]
          go_simp
          first | exact ⟨Keeps.refl _ _, rfl⟩ | exact ⟨Keeps.alloc _ _, rfl⟩
        simp only [addEnt]
        apply loose_is
        · intro W vals hW hkn
          clear hkn
          refine ⟨?_⟩
          simp only [fill]
          go_simp
          first | exact ⟨Keeps.refl _ _, rfl⟩ | exact ⟨Keeps.alloc _ _, rfl⟩
        simp only [addEnt]
        refine loose_has (fun v W => ∃ g, v = .slice (some ⟨g, 0, none⟩) 1 1 ∧ Row W g 5 #[.int .u8 1]) (fun W vals hW hkn φ' hφ => ?_) ?_
        · simp only [knows] at hkn
          try simp only [and_true] at hkn
          clear hkn
          refine ⟨?_⟩
          simp only [fill]
          go_simp
          exact looseUpon_value hφ (Keeps.alloc _ _) ⟨_, rfl, Row.new _ _ _⟩
        simp only [addEnt]
        apply loose_is
        · intro W vals hW hkn
          simp only [knows] at hkn
          try simp only [and_true] at hkn
          obtain ⟨W1, h0, h1, g, hv, hr⟩ := hkn (by decide); have hcs := conv_one (b := 1) (hr.keeps h1); clear hr
          refine ⟨?_⟩
          simp only [fill]
          go_simp
          first | exact ⟨Keeps.refl _ _, rfl⟩ | exact ⟨Keeps.alloc _ _, rfl⟩
        simp only [addEnt]
        refine loose_has (fun v W => ∃ b, v = .map (some b) ∧ Kinds W b) (fun W vals hW hkn φ' hφ => ?_) ?_
        · simp only [knows] at hkn
          try simp only [and_true] at hkn
          clear hkn
          refine ⟨?_⟩
          simp only [fill]
          go_simp
          (with_reducible refine looseUpon_has hφ ?_; refine (kKinds_any W).mono ?_; rintro e w2 ⟨b, rfl, h1, h2⟩; exact ⟨_, rfl, h2, b, rfl, h1⟩)
        simp only [addEnt]
        apply loose_is
        · intro W vals hW hkn
          clear hkn
          refine ⟨?_⟩
          simp only [fill]
          go_simp
          first | exact ⟨Keeps.refl _ _, rfl⟩ | exact ⟨Keeps.alloc _ _, rfl⟩
        simp only [addEnt]
        apply loose_is
        · intro W vals hW hkn
          clear hkn
          refine ⟨?_⟩
          simp only [fill]
          go_simp
          first | exact ⟨Keeps.refl _ _, rfl⟩ | exact ⟨Keeps.alloc _ _, rfl⟩
        simp only [addEnt]
        apply loose_is
        · intro W vals hW hkn
          simp only [knows] at hkn
          try simp only [and_true] at hkn
          obtain ⟨W1, h0, h1, b2, hv, hb⟩ := hkn.1 (by decide); have hlk := (hb.keep h1 (by simp)).look 1 HH.out.2.1.k1 HH.out.2.1.k2 false; rw [HKV.out] at hlk; simp only [Bool.false_eq_true, if_false] at hlk; clear hb
          refine ⟨?_⟩
          simp only [fill]
          go_simp
          first | exact ⟨Keeps.refl _ _, rfl⟩ | exact ⟨Keeps.alloc _ _, rfl⟩
        simp only [addEnt]
        apply loose_is
        · intro W vals hW hkn
          clear hkn
          refine ⟨?_⟩
          simp only [fill]
          go_simp
          first | exact ⟨Keeps.refl _ _, rfl⟩ | exact ⟨Keeps.alloc _ _, rfl⟩
        simp only [addEnt]
        apply loose_is
        · intro W vals hW hkn
          clear hkn
          refine ⟨?_⟩
          simp only [fill]
          go_simp
          first | exact ⟨Keeps.refl _ _, rfl⟩ | exact ⟨Keeps.alloc _ _, rfl⟩
        simp only [addEnt]
        apply loose_is
        · intro W vals hW hkn
          clear hkn
          refine ⟨?_⟩
          simp only [fill]
          go_simp
          refine looseUpon_calls ?_
          exact (HC.out W (HQ.out W hW)).mono (by rintro e w3 ⟨rfl, hk3⟩; exact ⟨_, rfl, hk3, rfl⟩)
        simp only [addEnt]
        have a1 := HT.out.2.1
        apply loose_is
        · intro W vals hW hkn
          clear hkn
          refine ⟨?_⟩
          simp only [fill]
          go_simp
          first | exact ⟨Keeps.refl _ _, rfl⟩ | exact ⟨Keeps.alloc _ _, rfl⟩
        simp only [addEnt]
        have a2 := HT.out.2.2
        apply loose_is
        · intro W vals hW hkn
          clear hkn
          refine ⟨?_⟩
          simp only [fill]
          go_simp
          first | exact ⟨Keeps.refl _ _, rfl⟩ | exact ⟨Keeps.alloc _ _, rfl⟩
        simp only [addEnt]
        apply loose_is
        · intro W vals hW hkn
          clear hkn
          refine ⟨?_⟩
          simp only [fill]
          go_simp
          first | exact ⟨Keeps.refl _ _, rfl⟩ | exact ⟨Keeps.alloc _ _, rfl⟩
        simp only [addEnt]
        refine loose_nil (fun W vals hW hkn => ?_)
        simp only [knowsAll] at hkn
        try simp only [and_true] at hkn
        simp only [fill, Act.put, List.setIfInBounds_toArray, List.set_cons_succ, List.set_cons_zero]
        clear hkn M1 M2 M3 M4
        have HK := Lib.hid (HQ.out W hW)
        clear hW a1 a2
        generalize vals 16 = v16
        generalize vals 18 = v18
        go_wp2_with fail
        refine ⟨⟨j + 1, by omega, by go_num, ?_, HK.out⟩, by simp [intOf]; omega⟩
        rw [HR.out, ← HH.out.2.2.1]
        have e1 := bytes_append [1] T
        have e2 := bytes_append R (1 :: T)
        simp only [kPart, HT.out.1]
        have e3 : (⟨R.toArray⟩ : ByteArray) ++ (⟨#[1]⟩ ++ ⟨T.toArray⟩) = ⟨(R ++ 1 :: T).toArray⟩ := by
          rw [show (⟨#[1]⟩ : ByteArray) = ⟨[(1 : UInt8)].toArray⟩ from rfl, e1]
          exact e2
        exact congrArg Value.string e3
      · have HC := Lib.hid (show ∀ W, Keeps w W [] → Calls Tryz.prog 113 #[.agg #[.int .i64 2, .int .i64 n, .float .f64 f, .string ⟨s.toArray⟩]] W fun e w' => e = .returned (.string ⟨T.toArray⟩) ∧ Keeps W w' [] from fun W hW => by
          rw [← HT.out.1]
          exact kRawF_any ⟨2, n, f, s⟩ HH.out.2.1 W)
        have hkv : kOfKind 2 = .agg (kArr 2) := by rfl
        simp only [kArr] at hkv
        have HKV := Lib.hid hkv
        clear hkv
        refine wp_region_keeps _ (by kernel_rfl) rfl (by kernel_rfl) ?_
        apply loose_is
        · intro W vals hW hkn
          clear hkn
          refine ⟨?_⟩
          simp only [fill]
          go_simp
          first | exact ⟨Keeps.refl _ _, rfl⟩ | exact ⟨Keeps.alloc _ _, rfl⟩
        simp only [addEnt]
        apply loose_is
        · intro W vals hW hkn
          clear hkn
          refine ⟨?_⟩
          simp only [fill]
          go_simp
          first | exact ⟨Keeps.refl _ _, rfl⟩ | exact ⟨Keeps.alloc _ _, rfl⟩
        simp only [addEnt]
        apply loose_is
        · intro W vals hW hkn
          clear hkn
          refine ⟨?_⟩
          simp only [fill]
          go_simp
          first | exact ⟨Keeps.refl _ _, rfl⟩ | exact ⟨Keeps.alloc _ _, rfl⟩
        simp only [addEnt]
        apply loose_is
        · intro W vals hW hkn
          clear hkn
          refine ⟨?_⟩
          simp only [fill]
          go_simp
          first | exact ⟨Keeps.refl _ _, rfl⟩ | exact ⟨Keeps.alloc _ _, rfl⟩
        simp only [addEnt]
        refine loose_has (fun v W => ∃ g, v = .slice (some ⟨g, 0, none⟩) 1 1 ∧ Row W g 5 #[.int .u8 2]) (fun W vals hW hkn φ' hφ => ?_) ?_
        · simp only [knows] at hkn
          try simp only [and_true] at hkn
          clear hkn
          refine ⟨?_⟩
          simp only [fill]
          go_simp
          exact looseUpon_value hφ (Keeps.alloc _ _) ⟨_, rfl, Row.new _ _ _⟩
        simp only [addEnt]
        apply loose_is
        · intro W vals hW hkn
          simp only [knows] at hkn
          try simp only [and_true] at hkn
          obtain ⟨W1, h0, h1, g, hv, hr⟩ := hkn (by decide); have hcs := conv_one (b := 2) (hr.keeps h1); clear hr
          refine ⟨?_⟩
          simp only [fill]
          go_simp
          first | exact ⟨Keeps.refl _ _, rfl⟩ | exact ⟨Keeps.alloc _ _, rfl⟩
        simp only [addEnt]
        refine loose_has (fun v W => ∃ b, v = .map (some b) ∧ Kinds W b) (fun W vals hW hkn φ' hφ => ?_) ?_
        · simp only [knows] at hkn
          try simp only [and_true] at hkn
          clear hkn
          refine ⟨?_⟩
          simp only [fill]
          go_simp
          (with_reducible refine looseUpon_has hφ ?_; refine (kKinds_any W).mono ?_; rintro e w2 ⟨b, rfl, h1, h2⟩; exact ⟨_, rfl, h2, b, rfl, h1⟩)
        simp only [addEnt]
        apply loose_is
        · intro W vals hW hkn
          clear hkn
          refine ⟨?_⟩
          simp only [fill]
          go_simp
          first | exact ⟨Keeps.refl _ _, rfl⟩ | exact ⟨Keeps.alloc _ _, rfl⟩
        simp only [addEnt]
        apply loose_is
        · intro W vals hW hkn
          clear hkn
          refine ⟨?_⟩
          simp only [fill]
          go_simp
          first | exact ⟨Keeps.refl _ _, rfl⟩ | exact ⟨Keeps.alloc _ _, rfl⟩
        simp only [addEnt]
        apply loose_is
        · intro W vals hW hkn
          simp only [knows] at hkn
          try simp only [and_true] at hkn
          obtain ⟨W1, h0, h1, b2, hv, hb⟩ := hkn.1 (by decide); have hlk := (hb.keep h1 (by simp)).look 2 HH.out.2.1.k1 HH.out.2.1.k2 false; rw [HKV.out] at hlk; simp only [Bool.false_eq_true, if_false] at hlk; clear hb
          refine ⟨?_⟩
          simp only [fill]
          go_simp
          first | exact ⟨Keeps.refl _ _, rfl⟩ | exact ⟨Keeps.alloc _ _, rfl⟩
        simp only [addEnt]
        apply loose_is
        · intro W vals hW hkn
          clear hkn
          refine ⟨?_⟩
          simp only [fill]
          go_simp
          first | exact ⟨Keeps.refl _ _, rfl⟩ | exact ⟨Keeps.alloc _ _, rfl⟩
        simp only [addEnt]
        apply loose_is
        · intro W vals hW hkn
          clear hkn
          refine ⟨?_⟩
          simp only [fill]
          go_simp
          first | exact ⟨Keeps.refl _ _, rfl⟩ | exact ⟨Keeps.alloc _ _, rfl⟩
        simp only [addEnt]
        apply loose_is
        · intro W vals hW hkn
          clear hkn
          refine ⟨?_⟩
          simp only [fill]
          go_simp
          refine looseUpon_calls ?_
          exact (HC.out W (HQ.out W hW)).mono (by rintro e w3 ⟨rfl, hk3⟩; exact ⟨_, rfl, hk3, rfl⟩)
        simp only [addEnt]
        have a1 := HT.out.2.1
        apply loose_is
        · intro W vals hW hkn
          clear hkn
          refine ⟨?_⟩
          simp only [fill]
          go_simp
          first | exact ⟨Keeps.refl _ _, rfl⟩ | exact ⟨Keeps.alloc _ _, rfl⟩
        simp only [addEnt]
        have a2 := HT.out.2.2
        apply loose_is
        · intro W vals hW hkn
          clear hkn
          refine ⟨?_⟩
          simp only [fill]
          go_simp
          first | exact ⟨Keeps.refl _ _, rfl⟩ | exact ⟨Keeps.alloc _ _, rfl⟩
        simp only [addEnt]
        apply loose_is
        · intro W vals hW hkn
          clear hkn
          refine ⟨?_⟩
          simp only [fill]
          go_simp
          first | exact ⟨Keeps.refl _ _, rfl⟩ | exact ⟨Keeps.alloc _ _, rfl⟩
        simp only [addEnt]
        refine loose_nil (fun W vals hW hkn => ?_)
        simp only [knowsAll] at hkn
        try simp only [and_true] at hkn
        simp only [fill, Act.put, List.setIfInBounds_toArray, List.set_cons_succ, List.set_cons_zero]
        clear hkn M1 M2 M3 M4
        have HK := Lib.hid (HQ.out W hW)
        clear hW a1 a2
        generalize vals 16 = v16
        generalize vals 18 = v18
        go_wp2_with fail
        refine ⟨⟨j + 1, by omega, by go_num, ?_, HK.out⟩, by simp [intOf]; omega⟩
        rw [HR.out, ← HH.out.2.2.1]
        have e1 := bytes_append [2] T
        have e2 := bytes_append R (2 :: T)
        simp only [kPart, HT.out.1]
        have e3 : (⟨R.toArray⟩ : ByteArray) ++ (⟨#[2]⟩ ++ ⟨T.toArray⟩) = ⟨(R ++ 2 :: T).toArray⟩ := by
          rw [show (⟨#[2]⟩ : ByteArray) = ⟨[(2 : UInt8)].toArray⟩ from rfl, e1]
          exact e2
        exact congrArg Value.string e3
      · have HC := Lib.hid (show ∀ W, Keeps w W [] → Calls Tryz.prog 121 #[.agg #[.int .i64 3, .int .i64 n, .float .f64 f, .string ⟨s.toArray⟩]] W fun e w' => e = .returned (.string ⟨T.toArray⟩) ∧ Keeps W w' [] from fun W hW => by
          rw [← HT.out.1]
          exact kRawT_any ⟨3, n, f, s⟩ W (HM.out W hW) (by have := HH.out.2.2.2.1; simp only at this ⊢; omega))
        have hkv : kOfKind 3 = .agg (kArr 3) := by rfl
        simp only [kArr] at hkv
        have HKV := Lib.hid hkv
        clear hkv
        refine wp_region_keeps _ (by kernel_rfl) rfl (by kernel_rfl) ?_
        apply loose_is
        · intro W vals hW hkn
          clear hkn
          refine ⟨?_⟩
          simp only [fill]
          go_simp
          first | exact ⟨Keeps.refl _ _, rfl⟩ | exact ⟨Keeps.alloc _ _, rfl⟩
        simp only [addEnt]
        apply loose_is
        · intro W vals hW hkn
          clear hkn
          refine ⟨?_⟩
          simp only [fill]
          go_simp
          first | exact ⟨Keeps.refl _ _, rfl⟩ | exact ⟨Keeps.alloc _ _, rfl⟩
        simp only [addEnt]
        apply loose_is
        · intro W vals hW hkn
          clear hkn
          refine ⟨?_⟩
          simp only [fill]
          go_simp
          first | exact ⟨Keeps.refl _ _, rfl⟩ | exact ⟨Keeps.alloc _ _, rfl⟩
        simp only [addEnt]
        apply loose_is
        · intro W vals hW hkn
          clear hkn
          refine ⟨?_⟩
          simp only [fill]
          go_simp
          first | exact ⟨Keeps.refl _ _, rfl⟩ | exact ⟨Keeps.alloc _ _, rfl⟩
        simp only [addEnt]
        refine loose_has (fun v W => ∃ g, v = .slice (some ⟨g, 0, none⟩) 1 1 ∧ Row W g 5 #[.int .u8 3]) (fun W vals hW hkn φ' hφ => ?_) ?_
        · simp only [knows] at hkn
          try simp only [and_true] at hkn
          clear hkn
          refine ⟨?_⟩
          simp only [fill]
          go_simp
          exact looseUpon_value hφ (Keeps.alloc _ _) ⟨_, rfl, Row.new _ _ _⟩
        simp only [addEnt]
        apply loose_is
        · intro W vals hW hkn
          simp only [knows] at hkn
          try simp only [and_true] at hkn
          obtain ⟨W1, h0, h1, g, hv, hr⟩ := hkn (by decide); have hcs := conv_one (b := 3) (hr.keeps h1); clear hr
          refine ⟨?_⟩
          simp only [fill]
          go_simp
          first | exact ⟨Keeps.refl _ _, rfl⟩ | exact ⟨Keeps.alloc _ _, rfl⟩
        simp only [addEnt]
        refine loose_has (fun v W => ∃ b, v = .map (some b) ∧ Kinds W b) (fun W vals hW hkn φ' hφ => ?_) ?_
        · simp only [knows] at hkn
          try simp only [and_true] at hkn
          clear hkn
          refine ⟨?_⟩
          simp only [fill]
          go_simp
          (with_reducible refine looseUpon_has hφ ?_; refine (kKinds_any W).mono ?_; rintro e w2 ⟨b, rfl, h1, h2⟩; exact ⟨_, rfl, h2, b, rfl, h1⟩)
        simp only [addEnt]
        apply loose_is
        · intro W vals hW hkn
          clear hkn
          refine ⟨?_⟩
          simp only [fill]
          go_simp
          first | exact ⟨Keeps.refl _ _, rfl⟩ | exact ⟨Keeps.alloc _ _, rfl⟩
        simp only [addEnt]
        apply loose_is
        · intro W vals hW hkn
          clear hkn
          refine ⟨?_⟩
          simp only [fill]
          go_simp
          first | exact ⟨Keeps.refl _ _, rfl⟩ | exact ⟨Keeps.alloc _ _, rfl⟩
        simp only [addEnt]
        apply loose_is
        · intro W vals hW hkn
          simp only [knows] at hkn
          try simp only [and_true] at hkn
          obtain ⟨W1, h0, h1, b2, hv, hb⟩ := hkn.1 (by decide); have hlk := (hb.keep h1 (by simp)).look 3 HH.out.2.1.k1 HH.out.2.1.k2 false; rw [HKV.out] at hlk; simp only [Bool.false_eq_true, if_false] at hlk; clear hb
          refine ⟨?_⟩
          simp only [fill]
          go_simp
          first | exact ⟨Keeps.refl _ _, rfl⟩ | exact ⟨Keeps.alloc _ _, rfl⟩
        simp only [addEnt]
        apply loose_is
        · intro W vals hW hkn
          clear hkn
          refine ⟨?_⟩
          simp only [fill]
          go_simp
          first | exact ⟨Keeps.refl _ _, rfl⟩ | exact ⟨Keeps.alloc _ _, rfl⟩
        simp only [addEnt]
        apply loose_is
        · intro W vals hW hkn
          clear hkn
          refine ⟨?_⟩
          simp only [fill]
          go_simp
          first | exact ⟨Keeps.refl _ _, rfl⟩ | exact ⟨Keeps.alloc _ _, rfl⟩
        simp only [addEnt]
        apply loose_is
        · intro W vals hW hkn
          clear hkn
          refine ⟨?_⟩
          simp only [fill]
          go_simp
          refine looseUpon_calls ?_
          exact (HC.out W (HQ.out W hW)).mono (by rintro e w3 ⟨rfl, hk3⟩; exact ⟨_, rfl, hk3, rfl⟩)
        simp only [addEnt]
        have a1 := HT.out.2.1
        apply loose_is
        · intro W vals hW hkn
          clear hkn
          refine ⟨?_⟩
          simp only [fill]
          go_simp
          first | exact ⟨Keeps.refl _ _, rfl⟩ | exact ⟨Keeps.alloc _ _, rfl⟩
        simp only [addEnt]
        have a2 := HT.out.2.2
        apply loose_is
        · intro W vals hW hkn
          clear hkn
          refine ⟨?_⟩
          simp only [fill]
          go_simp
          first | exact ⟨Keeps.refl _ _, rfl⟩ | exact ⟨Keeps.alloc _ _, rfl⟩
        simp only [addEnt]
        apply loose_is
        · intro W vals hW hkn
          clear hkn
          refine ⟨?_⟩
          simp only [fill]
          go_simp
          first | exact ⟨Keeps.refl _ _, rfl⟩ | exact ⟨Keeps.alloc _ _, rfl⟩
        simp only [addEnt]
        refine loose_nil (fun W vals hW hkn => ?_)
        simp only [knowsAll] at hkn
        try simp only [and_true] at hkn
        simp only [fill, Act.put, List.setIfInBounds_toArray, List.set_cons_succ, List.set_cons_zero]
        clear hkn M1 M2 M3 M4
        have HK := Lib.hid (HQ.out W hW)
        clear hW a1 a2
        generalize vals 16 = v16
        generalize vals 18 = v18
        go_wp2_with fail
        refine ⟨⟨j + 1, by omega, by go_num, ?_, HK.out⟩, by simp [intOf]; omega⟩
        rw [HR.out, ← HH.out.2.2.1]
        have e1 := bytes_append [3] T
        have e2 := bytes_append R (3 :: T)
        simp only [kPart, HT.out.1]
        have e3 : (⟨R.toArray⟩ : ByteArray) ++ (⟨#[3]⟩ ++ ⟨T.toArray⟩) = ⟨(R ++ 3 :: T).toArray⟩ := by
          rw [show (⟨#[3]⟩ : ByteArray) = ⟨[(3 : UInt8)].toArray⟩ from rfl, e1]
          exact e2
        exact congrArg Value.string e3
    · obtain rfl : j = l.length := by omega
      have HK := Lib.hid hkp
      clear hkp hok hmay hL hM hs
      rw [List.take_length]
      go_wp2_with fail
      go_ret
      exact ⟨rfl, HK.out⟩
end Go.Proofs.YtfglgeoookbppaaGreatDoor

namespace Go.Proofs.YtfglgeoookbppaaGreatDoor
open Go.RowKit


theorem all_take {l : List KP} {j : Nat} (hj : j < l.length) (ha : (l.take j).all kMay = true) (h : kMay l[j] = true) : (l.take (j + 1)).all kMay = true := by
  rw [List.take_succ_eq_append_getElem hj, List.all_append, ha]
  simp [h]
theorem kErr_no {l : List KP} {j : Nat} (hj : j < l.length) (h : kMay l[j] = false) : kErr l = 2 := by
  unfold kErr
  rw [if_neg]
  intro ha
  have := List.all_eq_true.1 ha l[j] (List.getElem_mem _)
  rw [h] at this
  cases this

set_option maxRecDepth 100000 in
set_option maxHeartbeats 4000000 in
theorem kCheck_any (w : World) (A : Option Addr) (c : Nat) (l : List KP) (hok : ∀ p ∈ l, p.Ok) (hL : Lies w w.heap.size A (kFlat l)) (hM : MaxL w) (hl : l.length ≤ 100) (hs : ∀ p ∈ l, p.s.length ≤ 1000) :
    Calls Tryz.prog 78 #[.slice A l.length c] w fun e w' => e = .returned (.int .i64 (kErr l : Nat)) ∧ Keeps w w' [] := by
  have hsf := @run_store_float Tryz.prog
  go_enter Tryz.func78, Tryz.ntmps78
  go_wp2_with fail
  go_loopw [9] (fun i wr => ∃ j : Nat, j ≤ l.length ∧ i = .int .i64 j ∧ (l.take j).all kMay = true ∧ Keeps w wr []) (fun i _ => l.length - (intOf i).toNat)
  case atStart => exact ⟨0, by omega, rfl, rfl, Keeps.refl _ _⟩
  case round =>
    obtain ⟨j, hj, rfl, ha, hkp⟩ := hrel
    by_cases hjl : j < l.length
    · obtain ⟨b, o, rfl, hb, hc⟩ := kpAt hL (Nat.le_refl _) hjl
      have hp := hok l[j] (List.getElem_mem _)
      obtain ⟨p, hpd⟩ : ∃ p, p = l[j] := ⟨_, rfl⟩
      rw [← hpd] at hc hp
      obtain ⟨c0, c1, c2, c3⟩ := hc wr hkp
      have HH := Lib.hid (And.intro hc (And.intro hp (And.intro hpd (And.intro ha (And.intro hkp hL)))))
      clear hc hp hpd ha hkp hL hok hs hM
      obtain ⟨k, n, f, s⟩ := p
      simp only [strV] at c0 c1 c2 c3
      go_wp2_with fail
      obtain ⟨W0, hW0⟩ : ∃ W', wr.alloc (.cells #[.int .i64 k, .int .i64 n, .float .f64 f, .string ⟨s.toArray⟩] 63) = W' := ⟨_, rfl⟩
      have hk0 : Keeps wr W0 [] := by rw [← hW0]; exact Keeps.alloc _ _
      have hr0 : Row W0 wr.heap.size 63 #[.int .i64 k, .int .i64 n, .float .f64 f, .string ⟨s.toArray⟩] := by rw [← hW0]; exact Row.new _ _ _
      rw [hW0]
      clear hW0 c0 c1 c2 c3
      obtain ⟨N, hN⟩ : ∃ N, wr.heap.size = N := ⟨_, rfl⟩
      rw [hN] at hr0 ⊢
      have H2 := Lib.hid (And.intro hk0 hr0)
      have M1 := fun (W : World) (hW : Keeps W0 W []) => (hr0.keep hW (by simp)).cell 0
      have M2 := fun (W : World) (hW : Keeps W0 W []) => (hr0.keep hW (by simp)).cell 1
      have M3 := fun (W : World) (hW : Keeps W0 W []) => (hr0.keep hW (by simp)).cell 2
      have M4 := fun (W : World) (hW : Keeps W0 W []) => (hr0.keep hW (by simp)).cell 3
      clear hN hk0
      rcases kind_cases k with rfl | rfl | rfl | hki
      · skip
        have hkv : kOfKind 1 = .agg #[kFn 105, kFn 106, kFn 108, kFn 110] ∧ kIs 1 = true := by
          unfold kOfKind kIs
          first | exact ⟨rfl, rfl⟩ | simp [hki, kNone]
        have HKV := Lib.hid hkv
        clear hkv
        refine wp_region_fills (kO1) (kO2 (kFn 105) (kFn 106) (kFn 108) (kFn 110)) _ (by kernel_rfl) rfl (by kernel_rfl) ?_
        refine loose_has (fun v W => ∃ b, v = .map (some b) ∧ Kinds W b) (fun W vals hW hkn φ' hφ => ?_) ?_
        · simp only [knows] at hkn
          try simp only [and_true] at hkn
          have hWF := Lib.hid hW
          replace hW := KeepsF.keeps hW
          clear hkn
          refine ⟨?_⟩
          simp only [fill]
          go_simp
          (with_reducible refine loosef_has hφ ?_; refine (kKinds_any W).mono ?_; rintro e w2 ⟨b, rfl, h1, h2⟩; exact ⟨_, rfl, h2, b, rfl, h1⟩)
        simp only [addEnt]
        apply loose_is
        · intro W vals hW hkn
          clear hkn
          have hWF := Lib.hid hW
          replace hW := KeepsF.keeps hW
          refine ⟨?_⟩
          simp only [fill]
          go_simp
          first | exact ⟨KeepsF.refl _, rfl⟩ | exact ⟨KeepsF.of (Keeps.alloc _ _), rfl⟩
        simp only [addEnt]
        apply loose_is
        · intro W vals hW hkn
          clear hkn
          have hWF := Lib.hid hW
          replace hW := KeepsF.keeps hW
          refine ⟨?_⟩
          simp only [fill]
          go_simp
          first | exact ⟨KeepsF.refl _, rfl⟩ | exact ⟨KeepsF.of (Keeps.alloc _ _), rfl⟩
        simp only [addEnt]
        apply loose_is
        · intro W vals hW hkn
          simp only [knows] at hkn
          try simp only [and_true] at hkn
          have hWF := Lib.hid hW
          replace hW := KeepsF.keeps hW
          obtain ⟨W1, h0, h1, b2, hv, hb⟩ := hkn (by decide); have hlk := (hb.fills h1).look 1 HH.out.2.1.k1 HH.out.2.1.k2 true; rw [HKV.out.1, HKV.out.2, if_pos rfl] at hlk; clear hb
          refine ⟨?_⟩
          simp only [fill]
          go_simp
          first | exact ⟨KeepsF.refl _, rfl⟩ | exact ⟨KeepsF.of (Keeps.alloc _ _), rfl⟩
        simp only [addEnt]
        apply loose_is
        · intro W vals hW hkn
          clear hkn
          have hWF := Lib.hid hW
          replace hW := KeepsF.keeps hW
          refine ⟨?_⟩
          simp only [fill]
          go_simp
          first | exact ⟨KeepsF.refl _, rfl⟩ | exact ⟨KeepsF.of (Keeps.alloc _ _), rfl⟩
        simp only [addEnt]
        apply loose_is
        · intro W vals hW hkn
          clear hkn
          have hWF := Lib.hid hW
          replace hW := KeepsF.keeps hW
          refine ⟨?_⟩
          simp only [fill]
          go_simp
          first | exact ⟨KeepsF.refl _, rfl⟩ | exact ⟨KeepsF.of (Keeps.alloc _ _), rfl⟩
        simp only [addEnt]
        apply loose_is
        · intro W vals hW hkn
          clear hkn
          have hWF := Lib.hid hW
          replace hW := KeepsF.keeps hW
          refine ⟨?_⟩
          simp only [fill]
          go_simp
          first | exact ⟨KeepsF.refl _, rfl⟩ | exact ⟨KeepsF.of (Keeps.alloc _ _), rfl⟩
        simp only [addEnt]
        refine loose_has (fun v W => ∃ b, v = .pointer (some ⟨b, 0, none⟩) ∧ W0.heap.size ≤ b ∧ (W.heap[b]? = some kO1 ∨ W.heap[b]? = some (kO2 (kFn 105) (kFn 106) (kFn 108) (kFn 110)))) (fun W vals hW hkn φ' hφ => ?_) ?_
        · simp only [knows] at hkn
          try simp only [and_true] at hkn
          have hWF := Lib.hid hW
          replace hW := KeepsF.keeps hW
          clear hkn
          refine ⟨?_⟩
          simp only [fill]
          go_simp
          exact loosef_value hφ (.of (Keeps.alloc _ _)) ⟨_, rfl, hW.size, .inl (heap_alloc_new _ _)⟩
        simp only [addEnt]
        refine loose_had [5] (fun rd _ W => ∃ b, rd = [.pointer (some ⟨b, 0, none⟩)] ∧ W.heap[b]? = some (kO2 (kFn 105) (kFn 106) (kFn 108) (kFn 110))) (by kernel_rfl) (fun W vals hW hkn φ' hφ => ?_) ?_
        · simp only [knows] at hkn
          try simp only [and_true] at hkn
          have hWF := Lib.hid hW
          replace hW := KeepsF.keeps hW
          obtain ⟨W1, h0, h1, b3, hv3, hb3, ho⟩ := hkn.1 (by decide); replace ho := h1.slot ho; obtain ⟨v1, v2, v3, v4, d1, d2, d3, d4, fr⟩ := kCell ho; have HQ := Lib.hid (kFill hb3 ho); have g0 := fr 0; have g1 := fr 1; have g2 := fr 2; have g3 := fr 3; clear fr ho
          refine ⟨?_⟩
          simp only [fill]
          go_simp
          exact ⟨HQ.out.1, hφ.out _ _ ⟨_, by simp [hv3], HQ.out.2⟩⟩
        simp only [addEnt]
        apply loose_is
        · intro W vals hW hkn
          clear hkn
          have hWF := Lib.hid hW
          replace hW := KeepsF.keeps hW
          refine ⟨?_⟩
          simp only [fill]
          go_simp
          first | exact ⟨KeepsF.refl _, rfl⟩ | exact ⟨KeepsF.of (Keeps.alloc _ _), rfl⟩
        simp only [addEnt]
        refine loose_nil (fun W vals hW hkn => ?_)
        simp only [knowsAll] at hkn
        try simp only [and_true] at hkn
        simp only [fill, Act.put, List.setIfInBounds_toArray, List.set_cons_succ, List.set_cons_zero]
        obtain ⟨⟨_, W1, h0, h1, b5, hv5, ho⟩, _⟩ := hkn
        obtain hv5 : vals 5 = .pointer (some ⟨b5, 0, none⟩) := by simpa using hv5
        rw [hv5]
        have HW := Lib.hid (And.intro hW.keeps (show Row W b5 114 #[kFn 105, kFn 106, kFn 108, kFn 110] from h1.full ho))
        clear hW h0 h1 ho hv5 M1 M2 M3 M4
        generalize vals 14 = v14
        have r1 := HW.out.2.cell 0
        have r2 := H2.out.2.keeps HW.out.1
        simp at r1
        have d0 := r2.cell 0
        have d1 := r2.cell 1
        have d2 := r2.cell 2
        have d3 := r2.cell 3
        simp only [List.getElem?_toArray, List.getElem?_cons_zero, List.getElem?_cons_succ] at d0 d1 d2 d3
        go_wp2_with fail
        refine (kMayI_any ⟨1, n, f, s⟩ W).mono ?_
        rintro e w3 ⟨rfl, hk3⟩
        have HK := Lib.hid ((HH.out.2.2.2.2.1.trans H2.out.1 (by simp)).trans (HW.out.1.trans hk3 (by simp)) (by simp))
        clear hk3
        simp only
        obtain ⟨B, hB⟩ : ∃ B, (s.isEmpty && fz f) = B := ⟨_, rfl⟩
        have HB := Lib.hid (show kMay l[j] = B by rw [← HH.out.2.2.1, ← hB]; rfl)
        rw [hB]
        clear hB
        clear r2 d0 d1 d2 d3 r1
        cases B
        · go_wp2_with fail
          go_ret
          exact ⟨by rw [kErr_no hjl HB.out]; rfl, HK.out⟩
        · go_wp2_with fail
          exact ⟨⟨j + 1, by omega, by go_num, all_take hjl HH.out.2.2.2.1 HB.out, HK.out⟩, by simp [intOf]; omega⟩
      · skip
        have hkv : kOfKind 2 = .agg #[kFn 112, kFn 113, kFn 115, kFn 118] ∧ kIs 2 = true := by
          unfold kOfKind kIs
          first | exact ⟨rfl, rfl⟩ | simp [hki, kNone]
        have HKV := Lib.hid hkv
        clear hkv
        refine wp_region_fills (kO1) (kO2 (kFn 112) (kFn 113) (kFn 115) (kFn 118)) _ (by kernel_rfl) rfl (by kernel_rfl) ?_
        refine loose_has (fun v W => ∃ b, v = .map (some b) ∧ Kinds W b) (fun W vals hW hkn φ' hφ => ?_) ?_
        · simp only [knows] at hkn
          try simp only [and_true] at hkn
          have hWF := Lib.hid hW
          replace hW := KeepsF.keeps hW
          clear hkn
          refine ⟨?_⟩
          simp only [fill]
          go_simp
          (with_reducible refine loosef_has hφ ?_; refine (kKinds_any W).mono ?_; rintro e w2 ⟨b, rfl, h1, h2⟩; exact ⟨_, rfl, h2, b, rfl, h1⟩)
        simp only [addEnt]
        apply loose_is
        · intro W vals hW hkn
          clear hkn
          have hWF := Lib.hid hW
          replace hW := KeepsF.keeps hW
          refine ⟨?_⟩
          simp only [fill]
          go_simp
          first | exact ⟨KeepsF.refl _, rfl⟩ | exact ⟨KeepsF.of (Keeps.alloc _ _), rfl⟩
        simp only [addEnt]
        apply loose_is
        · intro W vals hW hkn
          clear hkn
          have hWF := Lib.hid hW
          replace hW := KeepsF.keeps hW
          refine ⟨?_⟩
          simp only [fill]
          go_simp
          first | exact ⟨KeepsF.refl _, rfl⟩ | exact ⟨KeepsF.of (Keeps.alloc _ _), rfl⟩
        simp only [addEnt]
        apply loose_is
        · intro W vals hW hkn
          simp only [knows] at hkn
          try simp only [and_true] at hkn
          have hWF := Lib.hid hW
          replace hW := KeepsF.keeps hW
          obtain ⟨W1, h0, h1, b2, hv, hb⟩ := hkn (by decide); have hlk := (hb.fills h1).look 2 HH.out.2.1.k1 HH.out.2.1.k2 true; rw [HKV.out.1, HKV.out.2, if_pos rfl] at hlk; clear hb
          refine ⟨?_⟩
          simp only [fill]
          go_simp
          first | exact ⟨KeepsF.refl _, rfl⟩ | exact ⟨KeepsF.of (Keeps.alloc _ _), rfl⟩
        simp only [addEnt]
        apply loose_is
        · intro W vals hW hkn
          clear hkn
          have hWF := Lib.hid hW
          replace hW := KeepsF.keeps hW
          refine ⟨?_⟩
          simp only [fill]
          go_simp
          first | exact ⟨KeepsF.refl _, rfl⟩ | exact ⟨KeepsF.of (Keeps.alloc _ _), rfl⟩
        simp only [addEnt]
        apply loose_is
        · intro W vals hW hkn
          clear hkn
          have hWF := Lib.hid hW
          replace hW := KeepsF.keeps hW
          refine ⟨?_⟩
          simp only [fill]
          go_simp
          first | exact ⟨KeepsF.refl _, rfl⟩ | exact ⟨KeepsF.of (Keeps.alloc _ _), rfl⟩
        simp only [addEnt]
        apply loose_is
        · intro W vals hW hkn
          clear hkn
          have hWF := Lib.hid hW
          replace hW := KeepsF.keeps hW
          refine ⟨?_⟩
          simp only [fill]
          go_simp
          first | exact ⟨KeepsF.refl _, rfl⟩ | exact ⟨KeepsF.of (Keeps.alloc _ _), rfl⟩
        simp only [addEnt]
        refine loose_has (fun v W => ∃ b, v = .pointer (some ⟨b, 0, none⟩) ∧ W0.heap.size ≤ b ∧ (W.heap[b]? = some kO1 ∨ W.heap[b]? = some (kO2 (kFn 112) (kFn 113) (kFn 115) (kFn 118)))) (fun W vals hW hkn φ' hφ => ?_) ?_
        · simp only [knows] at hkn
          try simp only [and_true] at hkn
          have hWF := Lib.hid hW
          replace hW := KeepsF.keeps hW
          clear hkn
          refine ⟨?_⟩
          simp only [fill]
          go_simp
          exact loosef_value hφ (.of (Keeps.alloc _ _)) ⟨_, rfl, hW.size, .inl (heap_alloc_new _ _)⟩
        simp only [addEnt]
        refine loose_had [5] (fun rd _ W => ∃ b, rd = [.pointer (some ⟨b, 0, none⟩)] ∧ W.heap[b]? = some (kO2 (kFn 112) (kFn 113) (kFn 115) (kFn 118))) (by kernel_rfl) (fun W vals hW hkn φ' hφ => ?_) ?_
        · simp only [knows] at hkn
          try simp only [and_true] at hkn
          have hWF := Lib.hid hW
          replace hW := KeepsF.keeps hW
          obtain ⟨W1, h0, h1, b3, hv3, hb3, ho⟩ := hkn.1 (by decide); replace ho := h1.slot ho; obtain ⟨v1, v2, v3, v4, d1, d2, d3, d4, fr⟩ := kCell ho; have HQ := Lib.hid (kFill hb3 ho); have g0 := fr 0; have g1 := fr 1; have g2 := fr 2; have g3 := fr 3; clear fr ho
          refine ⟨?_⟩
          simp only [fill]
          go_simp
          exact ⟨HQ.out.1, hφ.out _ _ ⟨_, by simp [hv3], HQ.out.2⟩⟩
        simp only [addEnt]
        apply loose_is
        · intro W vals hW hkn
          clear hkn
          have hWF := Lib.hid hW
          replace hW := KeepsF.keeps hW
          refine ⟨?_⟩
          simp only [fill]
          go_simp
          first | exact ⟨KeepsF.refl _, rfl⟩ | exact ⟨KeepsF.of (Keeps.alloc _ _), rfl⟩
        simp only [addEnt]
        refine loose_nil (fun W vals hW hkn => ?_)
        simp only [knowsAll] at hkn
        try simp only [and_true] at hkn
        simp only [fill, Act.put, List.setIfInBounds_toArray, List.set_cons_succ, List.set_cons_zero]
        obtain ⟨⟨_, W1, h0, h1, b5, hv5, ho⟩, _⟩ := hkn
        obtain hv5 : vals 5 = .pointer (some ⟨b5, 0, none⟩) := by simpa using hv5
        rw [hv5]
        have HW := Lib.hid (And.intro hW.keeps (show Row W b5 114 #[kFn 112, kFn 113, kFn 115, kFn 118] from h1.full ho))
        clear hW h0 h1 ho hv5 M1 M2 M3 M4
        generalize vals 14 = v14
        have r1 := HW.out.2.cell 0
        have r2 := H2.out.2.keeps HW.out.1
        simp at r1
        have d0 := r2.cell 0
        have d1 := r2.cell 1
        have d2 := r2.cell 2
        have d3 := r2.cell 3
        simp only [List.getElem?_toArray, List.getElem?_cons_zero, List.getElem?_cons_succ] at d0 d1 d2 d3
        go_wp2_with fail
        refine (kMayF_any ⟨2, n, f, s⟩ W).mono ?_
        rintro e w3 ⟨rfl, hk3⟩
        have HK := Lib.hid ((HH.out.2.2.2.2.1.trans H2.out.1 (by simp)).trans (HW.out.1.trans hk3 (by simp)) (by simp))
        clear hk3
        simp only
        obtain ⟨B, hB⟩ : ∃ B, (s.isEmpty && n == 0) = B := ⟨_, rfl⟩
        have HB := Lib.hid (show kMay l[j] = B by rw [← HH.out.2.2.1, ← hB]; rfl)
        rw [hB]
        clear hB
        clear r2 d0 d1 d2 d3 r1
        cases B
        · go_wp2_with fail
          go_ret
          exact ⟨by rw [kErr_no hjl HB.out]; rfl, HK.out⟩
        · go_wp2_with fail
          exact ⟨⟨j + 1, by omega, by go_num, all_take hjl HH.out.2.2.2.1 HB.out, HK.out⟩, by simp [intOf]; omega⟩
      · skip
        have hkv : kOfKind 3 = .agg #[kFn 120, kFn 121, kFn 123, kFn 124] ∧ kIs 3 = true := by
          unfold kOfKind kIs
          first | exact ⟨rfl, rfl⟩ | simp [hki, kNone]
        have HKV := Lib.hid hkv
        clear hkv
        refine wp_region_fills (kO1) (kO2 (kFn 120) (kFn 121) (kFn 123) (kFn 124)) _ (by kernel_rfl) rfl (by kernel_rfl) ?_
        refine loose_has (fun v W => ∃ b, v = .map (some b) ∧ Kinds W b) (fun W vals hW hkn φ' hφ => ?_) ?_
        · simp only [knows] at hkn
          try simp only [and_true] at hkn
          have hWF := Lib.hid hW
          replace hW := KeepsF.keeps hW
          clear hkn
          refine ⟨?_⟩
          simp only [fill]
          go_simp
          (with_reducible refine loosef_has hφ ?_; refine (kKinds_any W).mono ?_; rintro e w2 ⟨b, rfl, h1, h2⟩; exact ⟨_, rfl, h2, b, rfl, h1⟩)
        simp only [addEnt]
        apply loose_is
        · intro W vals hW hkn
          clear hkn
          have hWF := Lib.hid hW
          replace hW := KeepsF.keeps hW
          refine ⟨?_⟩
          simp only [fill]
          go_simp
          first | exact ⟨KeepsF.refl _, rfl⟩ | exact ⟨KeepsF.of (Keeps.alloc _ _), rfl⟩
        simp only [addEnt]
        apply loose_is
        · intro W vals hW hkn
          clear hkn
          have hWF := Lib.hid hW
          replace hW := KeepsF.keeps hW
          refine ⟨?_⟩
          simp only [fill]
          go_simp
          first | exact ⟨KeepsF.refl _, rfl⟩ | exact ⟨KeepsF.of (Keeps.alloc _ _), rfl⟩
        simp only [addEnt]
        apply loose_is
        · intro W vals hW hkn
          simp only [knows] at hkn
          try simp only [and_true] at hkn
          have hWF := Lib.hid hW
          replace hW := KeepsF.keeps hW
          obtain ⟨W1, h0, h1, b2, hv, hb⟩ := hkn (by decide); have hlk := (hb.fills h1).look 3 HH.out.2.1.k1 HH.out.2.1.k2 true; rw [HKV.out.1, HKV.out.2, if_pos rfl] at hlk; clear hb
          refine ⟨?_⟩
          simp only [fill]
          go_simp
          first | exact ⟨KeepsF.refl _, rfl⟩ | exact ⟨KeepsF.of (Keeps.alloc _ _), rfl⟩
        simp only [addEnt]
        apply loose_is
        · intro W vals hW hkn
          clear hkn
          have hWF := Lib.hid hW
          replace hW := KeepsF.keeps hW
          refine ⟨?_⟩
          simp only [fill]
          go_simp
          first | exact ⟨KeepsF.refl _, rfl⟩ | exact ⟨KeepsF.of (Keeps.alloc _ _), rfl⟩
        simp only [addEnt]
        apply loose_is
        · intro W vals hW hkn
          clear hkn
          have hWF := Lib.hid hW
          replace hW := KeepsF.keeps hW
          refine ⟨?_⟩
          simp only [fill]
          go_simp
          first | exact ⟨KeepsF.refl _, rfl⟩ | exact ⟨KeepsF.of (Keeps.alloc _ _), rfl⟩
        simp only [addEnt]
        apply loose_is
        · intro W vals hW hkn
          clear hkn
          have hWF := Lib.hid hW
          replace hW := KeepsF.keeps hW
          refine ⟨?_⟩
          simp only [fill]
          go_simp
          first | exact ⟨KeepsF.refl _, rfl⟩ | exact ⟨KeepsF.of (Keeps.alloc _ _), rfl⟩
        simp only [addEnt]
        refine loose_has (fun v W => ∃ b, v = .pointer (some ⟨b, 0, none⟩) ∧ W0.heap.size ≤ b ∧ (W.heap[b]? = some kO1 ∨ W.heap[b]? = some (kO2 (kFn 120) (kFn 121) (kFn 123) (kFn 124)))) (fun W vals hW hkn φ' hφ => ?_) ?_
        · simp only [knows] at hkn
          try simp only [and_true] at hkn
          have hWF := Lib.hid hW
          replace hW := KeepsF.keeps hW
          clear hkn
          refine ⟨?_⟩
          simp only [fill]
          go_simp
          exact loosef_value hφ (.of (Keeps.alloc _ _)) ⟨_, rfl, hW.size, .inl (heap_alloc_new _ _)⟩
        simp only [addEnt]
        refine loose_had [5] (fun rd _ W => ∃ b, rd = [.pointer (some ⟨b, 0, none⟩)] ∧ W.heap[b]? = some (kO2 (kFn 120) (kFn 121) (kFn 123) (kFn 124))) (by kernel_rfl) (fun W vals hW hkn φ' hφ => ?_) ?_
        · simp only [knows] at hkn
          try simp only [and_true] at hkn
          have hWF := Lib.hid hW
          replace hW := KeepsF.keeps hW
          obtain ⟨W1, h0, h1, b3, hv3, hb3, ho⟩ := hkn.1 (by decide); replace ho := h1.slot ho; obtain ⟨v1, v2, v3, v4, d1, d2, d3, d4, fr⟩ := kCell ho; have HQ := Lib.hid (kFill hb3 ho); have g0 := fr 0; have g1 := fr 1; have g2 := fr 2; have g3 := fr 3; clear fr ho
          refine ⟨?_⟩
          simp only [fill]
          go_simp
          exact ⟨HQ.out.1, hφ.out _ _ ⟨_, by simp [hv3], HQ.out.2⟩⟩
        simp only [addEnt]
        apply loose_is
        · intro W vals hW hkn
          clear hkn
          have hWF := Lib.hid hW
          replace hW := KeepsF.keeps hW
          refine ⟨?_⟩
          simp only [fill]
          go_simp
          first | exact ⟨KeepsF.refl _, rfl⟩ | exact ⟨KeepsF.of (Keeps.alloc _ _), rfl⟩
        simp only [addEnt]
        refine loose_nil (fun W vals hW hkn => ?_)
        simp only [knowsAll] at hkn
        try simp only [and_true] at hkn
        simp only [fill, Act.put, List.setIfInBounds_toArray, List.set_cons_succ, List.set_cons_zero]
        obtain ⟨⟨_, W1, h0, h1, b5, hv5, ho⟩, _⟩ := hkn
        obtain hv5 : vals 5 = .pointer (some ⟨b5, 0, none⟩) := by simpa using hv5
        rw [hv5]
        have HW := Lib.hid (And.intro hW.keeps (show Row W b5 114 #[kFn 120, kFn 121, kFn 123, kFn 124] from h1.full ho))
        clear hW h0 h1 ho hv5 M1 M2 M3 M4
        generalize vals 14 = v14
        have r1 := HW.out.2.cell 0
        have r2 := H2.out.2.keeps HW.out.1
        simp at r1
        have d0 := r2.cell 0
        have d1 := r2.cell 1
        have d2 := r2.cell 2
        have d3 := r2.cell 3
        simp only [List.getElem?_toArray, List.getElem?_cons_zero, List.getElem?_cons_succ] at d0 d1 d2 d3
        go_wp2_with fail
        refine (kMayT_any ⟨3, n, f, s⟩ W).mono ?_
        rintro e w3 ⟨rfl, hk3⟩
        have HK := Lib.hid ((HH.out.2.2.2.2.1.trans H2.out.1 (by simp)).trans (HW.out.1.trans hk3 (by simp)) (by simp))
        clear hk3
        simp only
        obtain ⟨B, hB⟩ : ∃ B, (n == 0 && fz f) = B := ⟨_, rfl⟩
        have HB := Lib.hid (show kMay l[j] = B by rw [← HH.out.2.2.1, ← hB]; rfl)
        rw [hB]
        clear hB
        clear r2 d0 d1 d2 d3 r1
        cases B
        · go_wp2_with fail
          go_ret
          exact ⟨by rw [kErr_no hjl HB.out]; rfl, HK.out⟩
        · go_wp2_with fail
          exact ⟨⟨j + 1, by omega, by go_num, all_take hjl HH.out.2.2.2.1 HB.out, HK.out⟩, by simp [intOf]; omega⟩
      · skip
        have hkv : kOfKind k = .agg #[.nilFunc, .nilFunc, .nilFunc, .nilFunc] ∧ kIs k = false := by
          unfold kOfKind kIs
          first | exact ⟨rfl, rfl⟩ | simp [hki, kNone]
        have HKV := Lib.hid hkv
        clear hkv
        refine wp_region_fills (kO1) (kO2 (.nilFunc) (.nilFunc) (.nilFunc) (.nilFunc)) _ (by kernel_rfl) rfl (by kernel_rfl) ?_
        refine loose_has (fun v W => ∃ b, v = .map (some b) ∧ Kinds W b) (fun W vals hW hkn φ' hφ => ?_) ?_
        · simp only [knows] at hkn
          try simp only [and_true] at hkn
          have hWF := Lib.hid hW
          replace hW := KeepsF.keeps hW
          clear hkn
          refine ⟨?_⟩
          simp only [fill]
          go_simp
          (with_reducible refine loosef_has hφ ?_; refine (kKinds_any W).mono ?_; rintro e w2 ⟨b, rfl, h1, h2⟩; exact ⟨_, rfl, h2, b, rfl, h1⟩)
        simp only [addEnt]
        apply loose_is
        · intro W vals hW hkn
          clear hkn
          have hWF := Lib.hid hW
          replace hW := KeepsF.keeps hW
          refine ⟨?_⟩
          simp only [fill]
          go_simp
          first | exact ⟨KeepsF.refl _, rfl⟩ | exact ⟨KeepsF.of (Keeps.alloc _ _), rfl⟩
        simp only [addEnt]
        apply loose_is
        · intro W vals hW hkn
          clear hkn
          have hWF := Lib.hid hW
          replace hW := KeepsF.keeps hW
          refine ⟨?_⟩
          simp only [fill]
          go_simp
          first | exact ⟨KeepsF.refl _, rfl⟩ | exact ⟨KeepsF.of (Keeps.alloc _ _), rfl⟩
        simp only [addEnt]
        apply loose_is
        · intro W vals hW hkn
          simp only [knows] at hkn
          try simp only [and_true] at hkn
          have hWF := Lib.hid hW
          replace hW := KeepsF.keeps hW
          obtain ⟨W1, h0, h1, b2, hv, hb⟩ := hkn (by decide); have hlk := (hb.fills h1).look k HH.out.2.1.k1 HH.out.2.1.k2 true; rw [HKV.out.1, HKV.out.2, if_pos rfl] at hlk; clear hb
          refine ⟨?_⟩
          simp only [fill]
          go_simp
          first | exact ⟨KeepsF.refl _, rfl⟩ | exact ⟨KeepsF.of (Keeps.alloc _ _), rfl⟩
        simp only [addEnt]
        apply loose_is
        · intro W vals hW hkn
          clear hkn
          have hWF := Lib.hid hW
          replace hW := KeepsF.keeps hW
          refine ⟨?_⟩
          simp only [fill]
          go_simp
          first | exact ⟨KeepsF.refl _, rfl⟩ | exact ⟨KeepsF.of (Keeps.alloc _ _), rfl⟩
        simp only [addEnt]
        apply loose_is
        · intro W vals hW hkn
          clear hkn
          have hWF := Lib.hid hW
          replace hW := KeepsF.keeps hW
          refine ⟨?_⟩
          simp only [fill]
          go_simp
          first | exact ⟨KeepsF.refl _, rfl⟩ | exact ⟨KeepsF.of (Keeps.alloc _ _), rfl⟩
        simp only [addEnt]
        apply loose_is
        · intro W vals hW hkn
          clear hkn
          have hWF := Lib.hid hW
          replace hW := KeepsF.keeps hW
          refine ⟨?_⟩
          simp only [fill]
          go_simp
          first | exact ⟨KeepsF.refl _, rfl⟩ | exact ⟨KeepsF.of (Keeps.alloc _ _), rfl⟩
        simp only [addEnt]
        refine loose_has (fun v W => ∃ b, v = .pointer (some ⟨b, 0, none⟩) ∧ W0.heap.size ≤ b ∧ (W.heap[b]? = some kO1 ∨ W.heap[b]? = some (kO2 (.nilFunc) (.nilFunc) (.nilFunc) (.nilFunc)))) (fun W vals hW hkn φ' hφ => ?_) ?_
        · simp only [knows] at hkn
          try simp only [and_true] at hkn
          have hWF := Lib.hid hW
          replace hW := KeepsF.keeps hW
          clear hkn
          refine ⟨?_⟩
          simp only [fill]
          go_simp
          exact loosef_value hφ (.of (Keeps.alloc _ _)) ⟨_, rfl, hW.size, .inl (heap_alloc_new _ _)⟩
        simp only [addEnt]
        refine loose_had [5] (fun rd _ W => ∃ b, rd = [.pointer (some ⟨b, 0, none⟩)] ∧ W.heap[b]? = some (kO2 (.nilFunc) (.nilFunc) (.nilFunc) (.nilFunc))) (by kernel_rfl) (fun W vals hW hkn φ' hφ => ?_) ?_
        · simp only [knows] at hkn
          try simp only [and_true] at hkn
          have hWF := Lib.hid hW
          replace hW := KeepsF.keeps hW
          obtain ⟨W1, h0, h1, b3, hv3, hb3, ho⟩ := hkn.1 (by decide); replace ho := h1.slot ho; obtain ⟨v1, v2, v3, v4, d1, d2, d3, d4, fr⟩ := kCell ho; have HQ := Lib.hid (kFill hb3 ho); have g0 := fr 0; have g1 := fr 1; have g2 := fr 2; have g3 := fr 3; clear fr ho
          refine ⟨?_⟩
          simp only [fill]
          go_simp
          exact ⟨HQ.out.1, hφ.out _ _ ⟨_, by simp [hv3], HQ.out.2⟩⟩
        simp only [addEnt]
        apply loose_is
        · intro W vals hW hkn
          clear hkn
          have hWF := Lib.hid hW
          replace hW := KeepsF.keeps hW
          refine ⟨?_⟩
          simp only [fill]
          go_simp
          first | exact ⟨KeepsF.refl _, rfl⟩ | exact ⟨KeepsF.of (Keeps.alloc _ _), rfl⟩
        simp only [addEnt]
        refine loose_nil (fun W vals hW hkn => ?_)
        simp only [knowsAll] at hkn
        try simp only [and_true] at hkn
        simp only [fill, Act.put, List.setIfInBounds_toArray, List.set_cons_succ, List.set_cons_zero]
        obtain ⟨⟨_, W1, h0, h1, b5, hv5, ho⟩, _⟩ := hkn
        obtain hv5 : vals 5 = .pointer (some ⟨b5, 0, none⟩) := by simpa using hv5
        rw [hv5]
        have HW := Lib.hid (And.intro hW.keeps (show Row W b5 114 #[.nilFunc, .nilFunc, .nilFunc, .nilFunc] from h1.full ho))
        clear hW h0 h1 ho hv5 M1 M2 M3 M4
        generalize vals 14 = v14
        have r1 := HW.out.2.cell 0
        have r2 := H2.out.2.keeps HW.out.1
        simp at r1
        have d0 := r2.cell 0
        have d1 := r2.cell 1
        have d2 := r2.cell 2
        have d3 := r2.cell 3
        simp only [List.getElem?_toArray, List.getElem?_cons_zero, List.getElem?_cons_succ] at d0 d1 d2 d3
        have HKI := Lib.hid hki
        clear hki
        go_wp2_with fail
        go_ret
        refine ⟨?_, (HH.out.2.2.2.2.1.trans H2.out.1 (by simp)).trans HW.out.1 (by simp)⟩
        rw [kErr_no hjl (by rw [← HH.out.2.2.1]; simp [kMay, HKI.out])]
        rfl
    · obtain rfl : j = l.length := by omega
      have HK := Lib.hid hkp
      rw [List.take_length] at ha
      have HA := Lib.hid (And.intro ha (And.intro hok (And.intro hs (kRaw_length hs))))
      have HL := Lib.hid (hL.keeps hkp)
      have HM := Lib.hid (hM.keeps hkp)
      clear hkp hok ha hL hM hs
      obtain ⟨N, hN⟩ : ∃ N, l.length = N := ⟨_, rfl⟩
      obtain ⟨B, hB⟩ : ∃ B, (kRaw l).length = B := ⟨_, rfl⟩
      have HE := Lib.hid (show kErr l = if N = 0 ∨ 4 < N then 2 else if 48 < B then 3 else 0 by unfold kErr; rw [if_pos HA.out.1, hN, hB])
      have HR := Lib.hid (show Calls Tryz.prog 79 #[.slice A N c] wr fun e w' => ∃ s : ByteArray, e = .returned (.string s) ∧ s.size = B ∧ Keeps wr w' [] by
        have := kRaw_any wr A c l HA.out.2.1 HA.out.1 HL.out HM.out hl HA.out.2.2.1
        rw [hN] at this
        exact this.mono (by rintro e w' ⟨rfl, hk⟩; exact ⟨_, rfl, by simp [ByteArray.size, hB], hk⟩))
      have HB := Lib.hid (show B ≤ 2010 * 100 by rw [← hB]; have := HA.out.2.2.2; omega)
      rw [hN] at hl ⊢
      clear hN hB hj hjl
      by_cases h0 : N = 0
      · subst h0
        go_wp2_with fail
        go_ret
        exact ⟨by rw [HE.out]; rfl, HK.out⟩
      · by_cases h4 : 4 < N
        · have HE2 := Lib.hid (show kErr l = 2 by rw [HE.out, if_pos (.inr h4)])
          have hz : ((N : Int) == 0) = false := by simp; omega
          go_wp2_with fail
          go_ret
          exact ⟨by rw [HE2.out]; rfl, HK.out⟩
        · have HE2 := Lib.hid (show kErr l = if 48 < B then 3 else 0 by rw [HE.out, if_neg (by omega)])
          have hz : ((N : Int) == 0) = false := by simp; omega
          go_wp2_with fail
          refine HR.out.mono ?_
          rintro e w3 ⟨s, rfl, hs, hk⟩
          have HK3 := Lib.hid hk
          clear hk
          by_cases h48 : 48 < B
          · rw [if_pos h48] at HE2
            go_wp2_with fail
            go_ret
            exact ⟨by rw [HE2.out]; rfl, HK.out.trans HK3.out (by simp)⟩
          · rw [if_neg h48] at HE2
            go_wp2_with fail
            go_ret
            exact ⟨by rw [HE2.out]; rfl, HK.out.trans HK3.out (by simp)⟩
end Go.Proofs.YtfglgeoookbppaaGreatDoor

namespace Go.Proofs.YtfglgeoookbppaaGreatDoor
open Go.RowKit

/-- What Check, Raw and the like ask of their parts. -/
structure KArg (w : World) (A : Option Addr) (l : List KP) : Prop where
  ok : ∀ p ∈ l, p.Ok
  lies : Lies w w.heap.size A (kFlat l)
  max : MaxL w
  len : l.length ≤ 100
  text : ∀ p ∈ l, p.s.length ≤ 1000
theorem KArg.keep {w w' : World} {A : Option Addr} {l : List KP} (h : KArg w A l) (hk : Keeps w w' []) : KArg w' A l := ⟨h.ok, h.lies.keeps hk, h.max.keeps hk, h.len, h.text⟩
theorem KArg.check {w : World} {A : Option Addr} {l : List KP} (h : KArg w A l) (c : Nat) : Calls Tryz.prog 78 #[.slice A l.length c] w fun e w' => e = .returned (.int .i64 (kErr l : Nat)) ∧ Keeps w w' [] :=
  kCheck_any w A c l h.ok h.lies h.max h.len h.text
theorem kErr_may {l : List KP} (h : kErr l = 0 ∨ kErr l = 3) : l.all kMay = true := by
  unfold kErr at h
  split at h
  · assumption
  · omega
/-- A key's bytes, if there are. -/
def kKey (l : List KP) : List UInt8 := if kErr l = 0 then kRaw l else []

set_option maxRecDepth 100000 in
set_option maxHeartbeats 1000000 in
theorem KArg.raw {w : World} {A : Option Addr} {l : List KP} (h : KArg w A l) (c : Nat) : Calls Tryz.prog 29 #[.slice A l.length c] w fun e w' => e = .returned (.tuple #[strV (kKey l), .int .i64 (kErr l : Nat)]) ∧ Keeps w w' [] := by
  have HC := Lib.hid (h.check c)
  by_cases h0 : kErr l = 0
  · have HR := Lib.hid (show ∀ w', Keeps w w' [] → Calls Tryz.prog 79 #[.slice A l.length c] w' fun e w'' => e = .returned (strV (kRaw l)) ∧ Keeps w' w'' [] from fun w' hk => by
      have h := h.keep hk
      exact kRaw_any w' A c l h.ok (kErr_may (.inl h0)) h.lies h.max h.len h.text)
    have HK := Lib.hid (show kKey l = kRaw l from if_pos h0)
    have HE := Lib.hid h0
    clear h h0
    go_enter Tryz.func29, Tryz.ntmps29
    go_wp2_with fail
    refine HC.out.mono ?_
    rintro e w1 ⟨rfl, hk⟩
    have H1 := Lib.hid hk
    clear hk
    rw [HE.out]
    go_wp2_with fail
    refine (HR.out w1 H1.out).mono ?_
    rintro e w2 ⟨rfl, hk⟩
    have H2 := Lib.hid hk
    clear hk
    go_wp2_with fail
    go_ret2
    exact ⟨by rw [HK.out, HE.out]; rfl, H1.out.trans H2.out (by simp)⟩
  · have HK := Lib.hid (show kKey l = [] from if_neg h0)
    have HE := Lib.hid (show (((kErr l : Nat) : Int) != 0) = true by simp [h0])
    clear h h0
    go_enter Tryz.func29, Tryz.ntmps29
    go_wp2_with fail
    refine HC.out.mono ?_
    rintro e w1 ⟨rfl, hk⟩
    have H1 := Lib.hid hk
    clear hk
    have he := HE.out
    go_wp2_with fail
    go_ret2
    exact ⟨by rw [HK.out]; rfl, H1.out⟩

end Go.Proofs.YtfglgeoookbppaaGreatDoor
