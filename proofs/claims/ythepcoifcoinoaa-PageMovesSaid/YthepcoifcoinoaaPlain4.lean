/- Plain law of a page's bytes (layer 4): when are the bytes those of their parts. -/
import Derived.Test.YthepcoifcoinoaaPlain3
namespace Go.Proofs.Ythepcoifcoinoaa
open Go.RowKit

/-- The bytes of the page whose parts the bytes hold. -/
def pgRaw (l : List UInt8) : List UInt8 := rawPage (pgNum l) (pgKind l) (pgTxid l).toNat (pgNext l) (pgBody l)
theorem pgBody_length (l : List UInt8) (hl : l.length = 256) (hn : pgLen l ≤ 232) : (pgBody l).length = pgLen l := by
  unfold pgBody; rw [List.length_take, List.length_drop, hl]; omega
theorem pgTxid_nat (l : List UInt8) (h : 0 ≤ pgTxid l) (hb : beN ((l.drop 6).take 8) < 18446744073709551616) : (pgTxid l).toNat = beN ((l.drop 6).take 8) := by
  have e : pgTxid l = wrap64 (beN ((l.drop 6).take 8) : Nat) := rfl
  rw [e] at h ⊢
  generalize beN ((l.drop 6).take 8) = n at *
  unfold wrap64 at *
  omega
theorem pgTxid_lt (l : List UInt8) (hl : l.length = 256) : beN ((l.drop 6).take 8) < 18446744073709551616 := by
  have := beN_lt ((l.drop 6).take 8)
  rw [show ((l.drop 6).take 8).length = 8 by rw [List.length_take, List.length_drop]; omega] at this
  exact this
theorem pgRaw_iff (l : List UInt8) (hl : l.length = 256) (hs : beN (l.take 4) = crcSum (l.drop 4)) (hn : pgLen l ≤ 232) (hok : pageOk (pgKind l) (pgTxid l) (pgNext l) (pgLen l) = true) :
    pgRaw l = l ↔ pgPad l = 0 ∧ allZero (l.drop (24 + pgLen l)) = true := by
  obtain ⟨hk, ht, hnx, _⟩ := pageOk_true hok
  obtain ⟨bk, bn, bnum, bnx, bpad⟩ := pg_bounds l hl
  have hb := pgBody_length l hl hn
  have h64 : ∀ x : Int, 0 ≤ x → x ≤ 4611686018427387904 → x.toNat < 18446744073709551616 := fun x h1 h2 => by omega
  have h64 := h64 (pgTxid l) ht.1 ht.2
  constructor
  · intro h
    have := raw_parts (pgNum l) (pgKind l) (pgTxid l).toNat (pgNext l) (pgBody l) bk (by rw [hb]; exact hn) h64 bnum bnx
    have hL : rawPage (pgNum l) (pgKind l) (pgTxid l).toNat (pgNext l) (pgBody l) = l := h
    simp only [hL, hb] at this
    exact ⟨this.2.2.2.2.2.2.2.1, this.2.2.2.2.2.2.2.2.2⟩
  · rintro ⟨hp, hz⟩
    exact raw_of_parts l hl hs hn hp hz ht.1 ht.2 (pgTxid_nat l ht.1 (pgTxid_lt l hl))
theorem pgRaw_length (l : List UInt8) (hl : l.length = 256) (hn : pgLen l ≤ 232) : (pgRaw l).length = 256 := by
  unfold pgRaw rawPage
  rw [List.length_append, toBE_length, rawTail_length _ _ _ _ _ (by rw [pgBody_length l hl hn]; exact hn)]
end Go.Proofs.Ythepcoifcoinoaa
