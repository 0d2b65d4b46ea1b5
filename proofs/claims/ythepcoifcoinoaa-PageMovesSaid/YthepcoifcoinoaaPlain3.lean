/- Plain law of a page's bytes (layer 4): the parts of the bytes of a page. -/
import Derived.Test.YthepcoifcoinoaaPlain2
namespace Go.Proofs.Ythepcoifcoinoaa
open Go.RowKit

theorem drop_past {a b : List UInt8} {m k : Nat} (h : a.length = m) (hk : m ≤ k) : (a ++ b).drop k = b.drop (k - m) := by
  subst h
  rw [List.drop_append, List.drop_eq_nil_of_le hk, List.nil_append]
theorem take_here {a b : List UInt8} {m : Nat} (h : a.length = m) : (a ++ b).take m = a := by
  subst h
  simp
theorem raw_parts (a k t n : Nat) (body : List UInt8) (hk : k < 256) (hl : body.length ≤ 232) (ht : t < 18446744073709551616) (ha : a < 4294967296) (hn : n < 4294967296) :
    let L := rawPage a k t n body
    L.take 4 = toBE 4 (crcSum (rawTail a k t n body)) ∧ L.drop 4 = rawTail a k t n body ∧ pgKind L = k ∧ pgLen L = body.length ∧ beN ((L.drop 6).take 8) = t ∧ pgNum L = a ∧ pgNext L = n ∧ pgPad L = 0 ∧ pgBody L = body ∧ allZero (L.drop (24 + body.length)) = true := by
  intro L
  have hL : L = toBE 4 (crcSum (rawTail a k t n body)) ++ (toBE 1 k ++ (toBE 1 body.length ++ (toBE 8 t ++ (toBE 4 a ++ (toBE 4 n ++ (toBE 2 0 ++ (body ++ List.replicate (232 - body.length) 0))))))) := by
    simp only [L, rawPage, rawTail, List.append_assoc]
  have d4 : L.drop 4 = toBE 1 k ++ (toBE 1 body.length ++ (toBE 8 t ++ (toBE 4 a ++ (toBE 4 n ++ (toBE 2 0 ++ (body ++ List.replicate (232 - body.length) 0)))))) := by
    rw [hL, drop_past (toBE_length _ _) (Nat.le_refl 4)]; rfl
  have d5 : L.drop 5 = toBE 1 body.length ++ (toBE 8 t ++ (toBE 4 a ++ (toBE 4 n ++ (toBE 2 0 ++ (body ++ List.replicate (232 - body.length) 0))))) := by
    rw [show 5 = 4 + 1 from rfl, ← List.drop_drop, d4, drop_past (toBE_length _ _) (Nat.le_refl 1)]; rfl
  have d6 : L.drop 6 = toBE 8 t ++ (toBE 4 a ++ (toBE 4 n ++ (toBE 2 0 ++ (body ++ List.replicate (232 - body.length) 0)))) := by
    rw [show 6 = 5 + 1 from rfl, ← List.drop_drop, d5, drop_past (toBE_length _ _) (Nat.le_refl 1)]; rfl
  have d14 : L.drop 14 = toBE 4 a ++ (toBE 4 n ++ (toBE 2 0 ++ (body ++ List.replicate (232 - body.length) 0))) := by
    rw [show 14 = 6 + 8 from rfl, ← List.drop_drop, d6, drop_past (toBE_length _ _) (Nat.le_refl 8)]; rfl
  have d18 : L.drop 18 = toBE 4 n ++ (toBE 2 0 ++ (body ++ List.replicate (232 - body.length) 0)) := by
    rw [show 18 = 14 + 4 from rfl, ← List.drop_drop, d14, drop_past (toBE_length _ _) (Nat.le_refl 4)]; rfl
  have d22 : L.drop 22 = toBE 2 0 ++ (body ++ List.replicate (232 - body.length) 0) := by
    rw [show 22 = 18 + 4 from rfl, ← List.drop_drop, d18, drop_past (toBE_length _ _) (Nat.le_refl 4)]; rfl
  have d24 : L.drop 24 = body ++ List.replicate (232 - body.length) 0 := by
    rw [show 24 = 22 + 2 from rfl, ← List.drop_drop, d22, drop_past (toBE_length _ _) (Nat.le_refl 2)]; rfl
  have hlen : pgLen L = body.length := by
    unfold pgLen
    rw [d5, take_here (toBE_length _ _), beN_toBE _ _ (by omega)]
  refine ⟨?_, ?_, ?_, hlen, ?_, ?_, ?_, ?_, ?_, ?_⟩
  · rw [hL, take_here (toBE_length _ _)]
  · rw [d4]; simp only [rawTail, List.append_assoc]
  · unfold pgKind; rw [d4, take_here (toBE_length _ _), beN_toBE _ _ (by omega)]
  · rw [d6, take_here (toBE_length _ _), beN_toBE _ _ (by omega)]
  · unfold pgNum; rw [d14, take_here (toBE_length _ _), beN_toBE _ _ (by omega)]
  · unfold pgNext; rw [d18, take_here (toBE_length _ _), beN_toBE _ _ (by omega)]
  · unfold pgPad; rw [d22, take_here (toBE_length _ _), beN_toBE _ _ (by omega)]
  · unfold pgBody; rw [d24, hlen]; simp
  · rw [← List.drop_drop, d24]; simp [allZero]
end Go.Proofs.Ythepcoifcoinoaa
