/- pigeonrylaw18.few. -/
import Derived.Test.YtckmlmedhchpaaaDoorPa21

namespace Go.Proofs.YtckmlmedhchpaaaDoor
open Go.RowKit

/-- No more than is done here. -/
def kFew (l : List KP) : Bool := decide (l.length ≤ 10) && l.all fun p => decide (p.s.length ≤ 300)
theorem kFew_spec {l : List KP} (h : kFew l = true) : l.length ≤ 10 ∧ ∀ p ∈ l, p.s.length ≤ 300 := by
  unfold kFew at h
  simp only [Bool.and_eq_true, decide_eq_true_eq, List.all_eq_true] at h
  exact h
theorem kFew_no {l : List KP} {j : Nat} (hj : j < l.length) (h : ¬ l[j].s.length ≤ 300) : kFew l = false := by
  cases hk : kFew l
  · rfl
  · exact absurd ((kFew_spec hk).2 _ (List.getElem_mem hj)) h
set_option maxRecDepth 100000 in
set_option maxHeartbeats 2000000 in
theorem few_any (w : World) (A : Option Addr) (c : Nat) (l : List KP) (hL : Lies w w.heap.size A (kFlat l)) :
    Calls Tryd.prog 18 #[.slice A l.length c] w fun e w' => e = .returned (.bool (kFew l)) ∧ Keeps w w' [] := by
  by_cases hl : (l.length : Int) > 10
  · have HV := Lib.hid (show kFew l = false by
      unfold kFew
      rw [show decide (l.length ≤ 10) = false by simp; omega]
      rfl)
    go_enter Tryd.func18, Tryd.ntmps18
    go_wp2_with fail
    go_ret
    exact ⟨by rw [HV.out]; rfl, Keeps.refl _ _⟩
  · go_enter Tryd.func18, Tryd.ntmps18
    go_wp2_with fail
    go_loopw [3] (fun i wr => ∃ j : Nat, j ≤ l.length ∧ i = .int .i64 j ∧ Hid ((l.take j).all (fun p => decide (p.s.length ≤ 300)) = true) ∧ Keeps w wr []) (fun i _ => l.length - (intOf i).toNat)
    case atStart => exact ⟨0, by omega, rfl, Lib.hid rfl, Keeps.refl _ _⟩
    case round =>
      obtain ⟨j, hj, rfl, HA, hkp⟩ := hrel
      by_cases hjl : j < l.length
      · obtain ⟨b, o, rfl, hb, hc⟩ := kpAt hL (Nat.le_refl _) hjl
        obtain ⟨_, _, _, c3⟩ := hc wr hkp
        have HK := Lib.hid hkp
        have HN := Lib.hid (show ¬ l[j].s.length ≤ 300 → kFew l = false from kFew_no hjl)
        have HT := Lib.hid (show l[j].s.length ≤ 300 → (l.take (j + 1)).all (fun p => decide (p.s.length ≤ 300)) = true from fun h => by
          rw [List.take_succ_eq_append_getElem hjl, List.all_append, HA.out]
          simpa using h)
        obtain ⟨s, hs⟩ : ∃ s, l[j].s = s := ⟨_, rfl⟩
        rw [hs] at HN HT c3
        have hsz : (⟨s.toArray⟩ : ByteArray).size = s.length := by simp [ByteArray.size]
        simp only [strV] at c3
        clear hc hkp hL hs
        by_cases h3 : (s.length : Int) > 300
        · have HV := Lib.hid (HN.out (by omega))
          go_wp2_with fail
          go_ret
          exact ⟨by rw [HV.out]; rfl, HK.out⟩
        · have HV := Lib.hid (HT.out (by omega))
          go_wp2_with fail
          exact ⟨⟨j + 1, by omega, by go_num, HV, HK.out⟩, by simp [intOf]; omega⟩
      · obtain rfl : j = l.length := by omega
        have HV := Lib.hid (show kFew l = true by
          unfold kFew
          have := HA.out
          rw [List.take_length] at this
          rw [this]
          simp
          omega)
        have HK := Lib.hid hkp
        clear hkp hL HA
        go_wp2_with fail
        go_ret
        exact ⟨by rw [HV.out]; rfl, HK.out⟩
end Go.Proofs.YtckmlmedhchpaaaDoor
