/- Walks over package page (layer 4): Look, whole. -/
import Derived.Test.YthepcoifcoinoaaLook5
namespace Go.Proofs.Ythepcoifcoinoaa
open Go.RowKit

/-- What Look answers: the error's number, or 0 and the page. -/
def lookErr (l : List UInt8) : Nat :=
  if l.length ≠ 256 then 2 else if beN (l.take 4) ≠ crcSum (l.drop 4) then 140 else if lookOk l then 0 else 141

def LookDone (w : World) (l : List UInt8) (e : Ending) (w' : World) : Prop :=
  Keeps w w' [] ∧
  ((lookErr l = 0 ∧ lookOk l = true ∧ l.length = 256 ∧ ∃ A c, e = .returned (.tuple #[.int .i64 (pgNum l : Nat), .agg #[.int .i64 (pgKind l : Nat), .int .i64 (pgTxid l), .int .i64 (pgNext l : Nat), .slice A (pgBody l).length c], .int .i64 0]) ∧ Owned w' w.heap.size (.slice A (pgBody l).length c) (pgBody l)) ∨
   (lookErr l ≠ 0 ∧ e = .returned (noLook (lookErr l))))

theorem look_any (w : World) (A : Option Addr) (c : Nat) (l : List UInt8) (hB : Bytes w w.heap.size (.slice A l.length c) l) (hlen : l.length ≤ 140737488351232) :
    Calls Try.prog 14 #[.slice A l.length c] w (LookDone w l) := by
  by_cases h1 : l.length = 256
  · by_cases h2 : beN (l.take 4) = crcSum (l.drop 4)
    · have := look_rest w A c l hB h1 h2
      rw [← h1] at this
      refine this.mono ?_
      rintro e w' (⟨h3, hk, hA⟩ | ⟨h3, rfl, hk⟩)
      · exact ⟨hk, .inl ⟨by simp [lookErr, h1, h2, h3], h3, h1, hA⟩⟩
      · have : lookErr l = 141 := by simp [lookErr, h1, h2, h3]
        exact ⟨hk, .inr ⟨by omega, by rw [this]; rfl⟩⟩
    · have := look_sum w A c l hB h1 h2
      rw [← h1] at this
      refine this.mono ?_
      rintro e w' ⟨rfl, hk⟩
      have : lookErr l = 140 := by simp [lookErr, h1, h2]
      exact ⟨hk, .inr ⟨by omega, by rw [this]; rfl⟩⟩
  · refine (look_len w A l.length c h1 hlen).mono ?_
    rintro e w' ⟨rfl, hk⟩
    have : lookErr l = 2 := by simp [lookErr, h1]
    exact ⟨hk, .inr ⟨by omega, by rw [this]; rfl⟩⟩
end Go.Proofs.Ythepcoifcoinoaa
