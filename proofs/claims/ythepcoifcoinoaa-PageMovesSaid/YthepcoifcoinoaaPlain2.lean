/- Plain law of a page's bytes (layer 4): a page's bytes are those of its parts. -/
import Derived.Test.YthepcoifcoinoaaPlain1
namespace Go.Proofs.Ythepcoifcoinoaa
open Go.RowKit

theorem drop_cut (l : List UInt8) (m k : Nat) : l.drop m = (l.drop m).take k ++ l.drop (m + k) := by
  rw [← List.drop_drop, List.take_append_drop]
theorem pg_split (l : List UInt8) : l = l.take 4 ++ ((l.drop 4).take 1 ++ ((l.drop 5).take 1 ++ ((l.drop 6).take 8 ++ ((l.drop 14).take 4 ++ ((l.drop 18).take 4 ++ ((l.drop 22).take 2 ++ (pgBody l ++ l.drop (24 + pgLen l)))))))) := by
  have h0 := (List.take_append_drop 4 l).symm
  have h1 := drop_cut l 4 1
  have h2 := drop_cut l 5 1
  have h3 := drop_cut l 6 8
  have h4 := drop_cut l 14 4
  have h5 := drop_cut l 18 4
  have h6 := drop_cut l 22 2
  have h7 := drop_cut l 24 (pgLen l)
  unfold pgBody
  rw [← h7, ← h6, ← h5, ← h4, ← h3, ← h2, ← h1, ← h0]
theorem pg_part (l : List UInt8) (hl : l.length = 256) (m k : Nat) (h : m + k ≤ 256) : toBE k (beN ((l.drop m).take k)) = (l.drop m).take k :=
  toBE_beN _ _ (by rw [List.length_take, List.length_drop]; omega)
/-- Where the padding and the rest are zeros, the bytes are those of the parts. -/
theorem raw_of_parts (l : List UInt8) (hl : l.length = 256) (hs : beN (l.take 4) = crcSum (l.drop 4)) (hn : pgLen l ≤ 232) (hp : pgPad l = 0) (hz : allZero (l.drop (24 + pgLen l)) = true) (ht : 0 ≤ pgTxid l) (ht2 : pgTxid l ≤ 4611686018427387904) (htx : (pgTxid l).toNat = beN ((l.drop 6).take 8)) :
    rawPage (pgNum l) (pgKind l) (pgTxid l).toNat (pgNext l) (pgBody l) = l := by
  have hb : (pgBody l).length = pgLen l := by unfold pgBody; rw [List.length_take, List.length_drop, hl]; omega
  have e1 := pg_part l hl 4 1 (by omega)
  have e2 := pg_part l hl 5 1 (by omega)
  have e3 := pg_part l hl 6 8 (by omega)
  have e4 := pg_part l hl 14 4 (by omega)
  have e5 := pg_part l hl 18 4 (by omega)
  have e6 := pg_part l hl 22 2 (by omega)
  have e7 := allZero_replicate _ hz
  rw [List.length_drop, hl, show 256 - (24 + pgLen l) = 232 - pgLen l by omega] at e7
  have et : rawTail (pgNum l) (pgKind l) (pgTxid l).toNat (pgNext l) (pgBody l) = l.drop 4 := by
    unfold rawTail
    rw [hb, htx, ← e7]
    have hs := congrArg (List.drop 4) (pg_split l)
    rw [List.drop_append_of_le_length (by rw [List.length_take]; omega), List.drop_eq_nil_of_le (by rw [List.length_take]; omega : (l.take 4).length ≤ 4), List.nil_append] at hs
    rw [hs]
    have e6' : toBE 2 0 = (l.drop 22).take 2 := by rw [← e6]; unfold pgPad at hp; rw [hp]
    unfold pgKind pgNum pgNext
    rw [e6', e1, show toBE 1 (pgLen l) = (l.drop 5).take 1 from e2, e3, e4, e5]
    simp only [List.append_assoc]
  unfold rawPage
  rw [et, ← hs, toBE_beN _ 4 (by rw [List.length_take]; omega), List.take_append_drop]
end Go.Proofs.Ythepcoifcoinoaa
