/- A store into bytes of the call's own. -/
import Derived.Test.YthepcoifcoinoaaPRa25

namespace Go.Proofs.Ythepcoifcoinoaa
open Go.RowKit

theorem own_set {w : World} {base b o c q : Nat} {l : List UInt8} (h : Owned w base (.slice (some ⟨b, o, none⟩) l.length c) l) (_hq : q < l.length) (y : UInt8) :
    Owned (w.setCell ⟨b, o + q, none⟩ (byteV y)) base (.slice (some ⟨b, o, none⟩) (l.set q y).length c) (l.set q y) := by
  obtain ⟨h1, h2⟩ := h
  refine ⟨by simp, ?_⟩
  rcases h2 with ⟨hv, _⟩ | ⟨g, cap, cur, hv, hg, hh, hn, hcm, hcs, htake⟩
  · cases hv
  · injection hv with e1 e2 e3
    injection e1 with e1
    injection e1 with e1 e4 e5
    subst e1; subst e3; subst e4
    refine .inr ⟨b, c, cur.setIfInBounds q (byteV y), by simp, hg, ?_, by simpa using hn, hcm, by simpa using hcs, ?_⟩
    · rw [Nat.zero_add]
      exact (show Row w b 5 cur from hh).store q (byteV y)
    · rw [Array.toList_setIfInBounds, List.take_set, List.length_set, htake, List.map_set]
theorem Full.set {w : World} {base b o c q : Nat} {l : List UInt8} (h : Full w base b o c l) (hq : q < 256) (y : UInt8) : Full (w.setCell ⟨b, o + q, none⟩ (byteV y)) base b o c (l.set q y) :=
  ⟨by simp [h.len], h.cap, h.max, h.low, by simpa [World.setCell] using h.lt, own_set h.own (by rw [h.len]; exact hq) y⟩
theorem Full.frozen {w : World} {base b o c : Nat} {l : List UInt8} (h : Full w base b o c l) (i : Nat) : w.frozen? ⟨b, i, none⟩ = false := by
  rcases h.own.2 with ⟨hv, _⟩ | ⟨g, cap, cur, hv, hg, hh, _⟩
  · cases hv
  · injection hv with e1 e2 e3
    injection e1 with e1
    injection e1 with e1 e4 e5
    subst e1
    exact (show Row w b 5 cur from hh).frozen i
end Go.Proofs.Ythepcoifcoinoaa
