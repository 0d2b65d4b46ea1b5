/- Law 13: unlike. Law 13: join. Law 13: same. Reference 13: signs. Reference 12: May. Reference 12: six. Reference 12: Raw. Reference 12: First. Reference 12: Runes. Reference 13: said, Name. Reference 13: Levels. Reference 13: Filter. Reference 13: meets, Meets. -/
import Derived.Test.YtbjoobanbejgbaaDoorPa28
import Derived.Test.YtbjoobanbejgbaaDoorPa18
import Derived.Deep.DeepCutAuto
import Derived.Test.YtbjoobanbejgbaaDoorPa21

namespace Go.Proofs.YtbjoobanbejgbaaDoor
open Go.RowKit Go.Shelf

set_option maxRecDepth 100000 in
theorem tUnlike_any (w : World) (A : Option Addr) (c k : Nat) (l : List (List UInt8)) (hL : Lies w w.heap.size A (txL l)) (_hlen : l.length ≤ 60000) (_hk : k ≤ 60000) :
    Calls Tryd.prog 30 #[.slice A l.length c, .int .i64 k] w fun e w' => e = .returned (.string ⟨(tUnlike l k).toArray⟩) ∧ w = w' := by
  have HL := Lib.hid hL
  clear hL
  by_cases hlt : k < l.length
  · obtain ⟨g, o, rfl, hb, hcx⟩ := HL.out.at_ (k := k) (by simpa using hlt)
    rw [List.getElem_map] at hcx
    have HU := Lib.hid (show l[k]? = some l[k] from List.getElem?_eq_getElem hlt)
    generalize l[k] = y at *
    obtain ⟨Y, hY⟩ : ∃ S : ByteArray, (⟨y.toArray⟩ : ByteArray) = S := ⟨_, rfl⟩
    have eY : Y.toList = y := by rw [← hY, Lib.toList_data]
    rw [hY] at hcx
    by_cases hy : y = [122]
    · have e1 : (Y.toList == [122]) = true := by rw [eY, hy]; rfl
      have HT := Lib.hid (show tUnlike l k = [121] by unfold tUnlike; rw [HU.out, hy]; rfl)
      clear hY eY hy
      go_enter Tryd.func30, Tryd.ntmps30
      go_wp2_with fail
      go_ret
      exact ⟨by rw [HT.out]; rfl, rfl⟩
    · have e1 : (Y.toList == [122]) = false := by rw [eY]; simpa using hy
      have HT := Lib.hid (show tUnlike l k = [122] by unfold tUnlike; rw [HU.out, if_neg (by simpa using hy)])
      clear hY eY hy
      go_enter Tryd.func30, Tryd.ntmps30
      go_wp2_with fail
      go_ret
      exact ⟨by rw [HT.out]; rfl, rfl⟩
  · have HT := Lib.hid (show tUnlike l k = [122] by unfold tUnlike; rw [List.getElem?_eq_none (by omega), if_neg (by simp)])
    go_enter Tryd.func30, Tryd.ntmps30
    go_wp2_with fail
    go_ret
    exact ⟨by rw [HT.out]; rfl, rfl⟩
end Go.Proofs.YtbjoobanbejgbaaDoor

namespace Go.Proofs.YtbjoobanbejgbaaDoor
open Go.RowKit Go.Shelf

/-- The first levels, put together. -/
def tJoinN (l : List (List UInt8)) : Nat → List UInt8
  | 0 => []
  | k + 1 => (if 0 < k then tJoinN l k ++ [47] else tJoinN l k) ++ (l[k]?).getD []
theorem tJoinN_succ (l : List (List UInt8)) (k : Nat) : tJoinN l (k + 1) = (if 0 < k then tJoinN l k ++ [47] else tJoinN l k) ++ (l[k]?).getD [] := rfl
theorem txt_app (a b : List UInt8) : (⟨a.toArray⟩ : ByteArray) ++ ⟨b.toArray⟩ = ⟨(a ++ b).toArray⟩ := by
  apply ByteArray.ext
  simp
set_option maxRecDepth 100000 in
set_option maxHeartbeats 1000000 in
theorem tJoin_any (w : World) (A : Option Addr) (c : Nat) (l : List (List UInt8)) (hL : Lies w w.heap.size A (txL l)) (hlen : l.length ≤ 60000) (hj : ∀ k, k ≤ l.length → (tJoinN l k).length ≤ 60000) (hy : ∀ y ∈ l, y.length ≤ 60000) :
    Calls Tryd.prog 21 #[.slice A l.length c] w fun e w' => e = .returned (.string ⟨(tJoinN l l.length).toArray⟩) ∧ w = w' := by
  have HL := Lib.hid hL
  have HB := Lib.hid (And.intro hj hy)
  clear hL hj hy
  go_enter Tryd.func21, Tryd.ntmps21
  go_wp2
  go_loop [3, 4] (fun s i => ∃ k : Nat, k ≤ l.length ∧ i = .int .i64 k ∧ s = .string ⟨(tJoinN l k).toArray⟩) (fun _ i => l.length - (intOf i).toNat)
  case atStart => exact ⟨0, by omega, rfl, rfl⟩
  case round =>
    obtain ⟨k, hk, rfl, rfl⟩ := hrel
    by_cases hlt : k < l.length
    · obtain ⟨g, o, rfl, hb, hcx⟩ := HL.out.at_ (k := k) (by simpa using hlt)
      rw [List.getElem_map] at hcx
      have HU := Lib.hid (show l[k]? = some l[k] from List.getElem?_eq_getElem hlt)
      have HYB := Lib.hid (HB.out.2 l[k] (List.getElem_mem hlt))
      generalize l[k] = y at *
      obtain ⟨X, hX⟩ : ∃ S : ByteArray, (⟨(tJoinN l k).toArray⟩ : ByteArray) = S := ⟨_, rfl⟩
      obtain ⟨Y, hY⟩ : ∃ S : ByteArray, (⟨y.toArray⟩ : ByteArray) = S := ⟨_, rfl⟩
      rw [hY] at hcx
      rw [hX]
      have sx : X.size ≤ 60000 := by rw [← hX]; simpa [ByteArray.size] using HB.out.1 k hk
      have sy : Y.size ≤ 60000 := by rw [← hY]; simpa [ByteArray.size] using HYB.out
      have s47 : (⟨#[47]⟩ : ByteArray).size = 1 := rfl
      have sxx : (X ++ ⟨#[47]⟩).size ≤ 60001 := by rw [ByteArray.size_append]; omega
      have HX := Lib.hid (And.intro hX hY)
      clear hX hY
      by_cases h0 : 0 < k
      · have H0 := Lib.hid h0
        go_wp2
        refine ⟨⟨k + 1, by omega, by go_num, ?_⟩, by simp [intOf]; omega⟩
        rw [tJoinN_succ, if_pos H0.out, HU.out, ← HX.out.1, ← HX.out.2]
        show Value.string ((⟨(tJoinN l k).toArray⟩ ++ ⟨([47] : List UInt8).toArray⟩) ++ ⟨y.toArray⟩) = _
        rw [txt_app, txt_app]
        rfl
      · obtain rfl : k = 0 := by omega
        rw [Nat.add_zero] at hcx
        go_wp2
        refine ⟨⟨1, by omega, by go_num, ?_⟩, by simp [intOf]; omega⟩
        rw [tJoinN_succ, if_neg (by omega), HU.out, ← HX.out.1, ← HX.out.2, txt_app]
        rfl
    · obtain rfl : k = l.length := by omega
      go_wp2
      go_ret
      exact ⟨rfl, rfl⟩
end Go.Proofs.YtbjoobanbejgbaaDoor

namespace Go.Proofs.YtbjoobanbejgbaaDoor
open Go.RowKit Go.Shelf

structure SmAt (w wr : World) (la lb : List (List UInt8)) (A B : Option Addr) (k : Nat) : Prop where
  a : Lies wr wr.heap.size A (txL la)
  b : Lies wr wr.heap.size B (txL lb)
  e : la.take k = lb.take k
  k : Keeps w wr []
set_option maxRecDepth 100000 in
set_option maxHeartbeats 1000000 in
theorem tSame_any (w : World) (A B : Option Addr) (c d : Nat) (la lb : List (List UInt8)) (hA : Lies w w.heap.size A (txL la)) (hB : Lies w w.heap.size B (txL lb)) (h1 : la.length ≤ 60000) (_h2 : lb.length ≤ 60000) :
    Calls Tryd.prog 18 #[.slice A la.length c, .slice B lb.length d] w (TruePost w (la == lb)) := by
  have HP := Lib.hid (show SmAt w w la lb A B 0 from ⟨hA, hB, rfl, Keeps.refl _ _⟩)
  clear hA hB
  go_enter Tryd.func18, Tryd.ntmps18
  by_cases hn : la.length = lb.length
  · have HN := Lib.hid hn
    rw [← hn]
    clear hn
    go_wp2
    go_loopw [5] (fun i wr => ∃ k : Nat, k ≤ la.length ∧ i = .int .i64 k ∧ Hid (SmAt w wr la lb A B k)) (fun i _ => la.length - (intOf i).toNat)
    case atStart => exact ⟨0, by omega, rfl, HP⟩
    case round =>
      clear HP
      obtain ⟨k, hk, rfl, HR⟩ := hrel
      by_cases hlt : k < la.length
      · have hlt2 : k < lb.length := by have := HN.out; omega
        obtain ⟨g, o, rfl, hb, hcx⟩ := HR.out.a.at_ (k := k) (by simpa using hlt)
        obtain ⟨g2, o2, rfl, hb2, hcy⟩ := HR.out.b.at_ (k := k) (by simpa using hlt2)
        rw [List.getElem_map] at hcx hcy
        have HS := Lib.hid (List.take_succ_eq_append_getElem hlt)
        have HS2 := Lib.hid (List.take_succ_eq_append_getElem hlt2)
        have HU := Lib.hid (show la[k]? = some la[k] from List.getElem?_eq_getElem hlt)
        have HU2 := Lib.hid (show lb[k]? = some lb[k] from List.getElem?_eq_getElem hlt2)
        generalize la[k] = x at *
        generalize lb[k] = y at *
        obtain ⟨X, hX⟩ : ∃ S : ByteArray, (⟨x.toArray⟩ : ByteArray) = S := ⟨_, rfl⟩
        obtain ⟨Y, hY⟩ : ∃ S : ByteArray, (⟨y.toArray⟩ : ByteArray) = S := ⟨_, rfl⟩
        have eX : X.toList = x := by rw [← hX, Lib.toList_data]
        have eY : Y.toList = y := by rw [← hY, Lib.toList_data]
        rw [hX] at hcx
        rw [hY] at hcy
        by_cases hxy : x = y
        · have e1 : (X.toList == Y.toList) = true := by rw [eX, eY, hxy]; simp
          have HXY := Lib.hid hxy
          clear hX hY eX eY hxy
          go_wp2_with fail
          go_region
          go_wp2_with fail
          refine ⟨⟨k + 1, by omega, by go_num, Lib.hid ⟨HR.out.a.keeps (Keeps.drew _), HR.out.b.keeps (Keeps.drew _), ?_, HR.out.k.trans (Keeps.drew _) (by simp)⟩⟩, by simp [intOf]; omega⟩
          rw [HS.out, HS2.out, HR.out.e, HXY.out]
        · have e1 : (X.toList == Y.toList) = false := by rw [eX, eY]; simpa using hxy
          have HXY := Lib.hid hxy
          clear hX hY eX eY hxy
          go_wp2_with fail
          go_region
          go_wp2_with fail
          go_ret
          refine ⟨?_, HR.out.k.trans (Keeps.drew _) (by simp)⟩
          have : (la == lb) = false := by
            rw [beq_eq_false_iff_ne]
            intro h
            have a1 := HU.out
            rw [h, HU2.out] at a1
            injection a1 with a1
            exact HXY.out a1.symm
          rw [this]; rfl
      · obtain rfl : k = la.length := by omega
        have he := HR.out.e
        rw [List.take_length, HN.out, List.take_length] at he
        have HE := Lib.hid (show (la == lb) = true by rw [he]; simp)
        clear he
        go_wp2_with fail
        go_ret
        exact ⟨by rw [HE.out]; rfl, HR.out.k⟩
  · have HE := Lib.hid (show (la == lb) = false by rw [beq_eq_false_iff_ne]; intro h; exact hn (by rw [h]))
    have n1 : ((la.length : Int) != lb.length) = true := by simp; omega
    go_wp2_with fail
    go_ret
    exact ⟨by rw [HE.out]; rfl, HP.out.k⟩
end Go.Proofs.YtbjoobanbejgbaaDoor

namespace Go.Proofs.YtbjoobanbejgbaaDoor
open Go.RowKit Go.Shelf

def tSignN (s : List UInt8) : Nat := s.countP fun b => b == 43 || b == 35
set_option maxRecDepth 100000 in
set_option maxHeartbeats 1000000 in
theorem rSigns_any (w : World) (s : List UInt8) (hs : s.length ≤ 60000) :
    Calls Tryd.prog 26 #[.string ⟨s.toArray⟩] w fun e w' => e = .returned (.int .i64 (tSignN s : Nat)) ∧ w = w' := by
  obtain ⟨S, hS⟩ : ∃ S : ByteArray, (⟨s.toArray⟩ : ByteArray) = S := ⟨_, rfl⟩
  have hz : S.size = s.length := by rw [← hS]; simp [ByteArray.size]
  have HG := Lib.hid (show ∀ k (h : k < s.length) (h2 : k < S.size), S[k] = s[k] from fun k h h2 => by subst hS; rfl)
  rw [hS]
  clear hS
  go_enter Tryd.func26, Tryd.ntmps26
  go_wp2
  go_loop [3, 4] (fun n i => ∃ k : Nat, k ≤ s.length ∧ i = .int .i64 k ∧ n = .int .i64 (tSignN (s.take k) : Nat)) (fun _ i => s.length - (intOf i).toNat)
  case atStart => exact ⟨0, by omega, rfl, rfl⟩
  case round =>
    obtain ⟨k, hk, rfl, rfl⟩ := hrel
    by_cases hlt : k < s.length
    · have HS := Lib.hid (List.take_succ_eq_append_getElem hlt)
      have ix : ∀ h, S[k]'h = s[k] := fun h => HG.out k hlt h
      obtain ⟨m, hm⟩ : ∃ m, tSignN (s.take k) = m := ⟨_, rfl⟩
      have hmk : m ≤ k := by rw [← hm]; exact Nat.le_trans List.countP_le_length (by rw [List.length_take]; omega)
      have HM := Lib.hid hm
      rw [hm]
      clear hm
      generalize s[k] = y at *
      have HN := Lib.hid (show tSignN (s.take (k + 1)) = m + (if (y == 43 || y == 35) = true then 1 else 0) by rw [HS.out, tSignN, List.countP_append, ← HM.out]; simp [tSignN])
      by_cases h43 : y = 43
      · subst h43
        have b1 : (((43 : UInt8).toNat : Int) == 43) = true := rfl
        go_wp2_with fail
        refine ⟨⟨k + 1, by omega, by go_num, ?_⟩, by simp [intOf]; omega⟩
        rw [HN.out]
        go_num
      · have b1 : ((y.toNat : Int) == 43) = false := by
          rw [beq_eq_false_iff_ne]
          intro h
          exact h43 (UInt8.toNat_inj.1 (by simpa using (show y.toNat = 43 by omega)))
        by_cases h35 : y = 35
        · subst h35
          have b2 : (((35 : UInt8).toNat : Int) == 35) = true := rfl
          go_wp2_with fail
          refine ⟨⟨k + 1, by omega, by go_num, ?_⟩, by simp [intOf]; omega⟩
          rw [HN.out]
          go_num
        · have b2 : ((y.toNat : Int) == 35) = false := by
            rw [beq_eq_false_iff_ne]
            intro h
            exact h35 (UInt8.toNat_inj.1 (by simpa using (show y.toNat = 35 by omega)))
          have HN2 := Lib.hid (show (y == 43 || y == 35) = false by simp [h43, h35])
          go_wp2_with fail
          refine ⟨⟨k + 1, by omega, by go_num, ?_⟩, by simp [intOf]; omega⟩
          rw [HN.out, HN2.out]
          rfl
    · obtain rfl : k = s.length := by omega
      rw [List.take_length]
      go_wp2_with fail
      go_ret
      exact ⟨rfl, rfl⟩
end Go.Proofs.YtbjoobanbejgbaaDoor

namespace Go.Proofs.YtbjoobanbejgbaaDoor
open Go.RowKit Go.Shelf

def rMayB (r : Nat) : Bool := decide (r < 55296) || (decide (57343 < r) && decide (r ≤ 1114111))
set_option maxRecDepth 100000 in
theorem rMay_any (w : World) (r : Nat) : Calls Tryd.prog 56 #[.int .i32 r] w fun e w' => e = .returned (.bool (rMayB r)) ∧ w = w' := by
  have h0 : decide ((r : Int) ≥ 0) = true := by simp
  have h00 : decide ((0 : Int) ≤ r) = true := by simp
  obtain ⟨b1, e1⟩ : ∃ b, decide (r < 55296) = b := ⟨_, rfl⟩
  obtain ⟨b2, e2⟩ : ∃ b, decide (57343 < r) = b := ⟨_, rfl⟩
  obtain ⟨b3, e3⟩ : ∃ b, decide (r ≤ 1114111) = b := ⟨_, rfl⟩
  have HR := Lib.hid (show rMayB r = (b1 || (b2 && b3)) by unfold rMayB; rw [e1, e2, e3])
  have f1 : decide ((r : Int) < 55296) = b1 := by rw [← e1]; apply decide_eq_decide.2; omega
  have f2 : decide ((57343 : Int) < r) = b2 := by rw [← e2]; apply decide_eq_decide.2; omega
  have f3 : decide ((r : Int) ≤ 1114111) = b3 := by rw [← e3]; apply decide_eq_decide.2; omega
  clear e1 e2 e3
  go_enter Tryd.func56, Tryd.ntmps56
  cases b1 <;> cases b2 <;> cases b3
  all_goals go_wp2_with fail
  all_goals go_ret
  all_goals exact ⟨by rw [HR.out]; rfl, rfl⟩
end Go.Proofs.YtbjoobanbejgbaaDoor

namespace Go.Proofs.YtbjoobanbejgbaaDoor
open Go.RowKit Go.Shelf

set_option maxRecDepth 100000 in
theorem rSix_any (w : World) (r : Nat) (hr : r ≤ 4294967295) : Calls Tryd.prog 67 #[.int .i64 r] w fun e w' => e = .returned (.int .u8 (128 + r % 64 : Nat)) ∧ w = w' := by
  have h1 : (r : Int).tmod 64 = ((r % 64 : Nat) : Int) := by rw [Int.tmod_eq_emod_of_nonneg (by omega)]; omega
  have hlt : r % 64 < 64 := Nat.mod_lt _ (by omega)
  obtain ⟨m, hm⟩ : ∃ m, r % 64 = m := ⟨_, rfl⟩
  rw [hm] at h1 hlt ⊢
  clear hm
  go_enter Tryd.func67, Tryd.ntmps67
  go_wp2
  go_ret
  exact ⟨by go_num, rfl⟩
end Go.Proofs.YtbjoobanbejgbaaDoor

namespace Go.Proofs.YtbjoobanbejgbaaDoor
open Go.RowKit Go.Shelf

theorem rConv (w : World) (l : List UInt8) : (convert 72 9 (.slice (some ⟨w.heap.size, 0, none⟩) l.length l.length)).run Tryd.prog (w.alloc (.cells (byC l) 5)) = .ok (.string ⟨l.toArray⟩) (w.alloc (.cells (byC l) 5)) :=
  conv_str _ _ _ _ l (lies_by (Row.new w 5 (byC l)))
set_option maxRecDepth 100000 in
set_option maxHeartbeats 2000000 in
theorem rRaw_any (w : World) (r : Nat) (hr : r ≤ 1114111) : Calls Tryd.prog 57 #[.int .i32 r] w fun e w' => e = .returned (.string ⟨(uRaw r).toArray⟩) ∧ Keeps w w' [] := by
  by_cases h1 : r < 128
  · have d1 : decide ((r : Int) < 128) = true := by simp; omega
    have HU := Lib.hid (show uRaw r = [u8 r] by unfold uRaw; rw [if_pos h1])
    have cv := rConv w [u8 r]
    rw [show byC [u8 r] = #[.int .u8 (r : Int)] by simp [byC, byteV, toNat_u8 (show r < 256 by omega)]] at cv
    generalize hS : (⟨[u8 r].toArray⟩ : ByteArray) = S at cv
    have HS := Lib.hid hS
    clear hS
    simp only [List.length_cons, List.length_nil, Nat.zero_add] at cv
    go_enter Tryd.func57, Tryd.ntmps57
    go_wp2_with fail
    go_ret
    exact ⟨by rw [HU.out, HS.out]; rfl, Keeps.alloc _ _⟩
  · have d1 : decide ((r : Int) < 128) = false := by simp; omega
    by_cases h2 : r < 2048
    · have d2 : decide ((r : Int) < 2048) = true := by simp; omega
      have q1 : (r : Int).tdiv 64 = ((r / 64 : Nat) : Int) := by rw [Int.tdiv_eq_ediv_of_nonneg (by omega)]; omega
      have HU := Lib.hid (show uRaw r = [u8 (192 + r / 64), u8 (128 + r % 64)] by unfold uRaw; rw [if_neg h1, if_pos h2])
      have cv := rConv w [u8 (192 + r / 64), u8 (128 + r % 64)]
      rw [show byC [u8 (192 + r / 64), u8 (128 + r % 64)] = #[.int .u8 (192 + (r : Int) / 64), .int .u8 (128 + (r : Int) % 64)] by simp [byC, byteV, toNat_u8 (show 192 + r / 64 < 256 by omega), toNat_u8 (show 128 + r % 64 < 256 by omega)]] at cv
      generalize hS : (⟨[u8 (192 + r / 64), u8 (128 + r % 64)].toArray⟩ : ByteArray) = S at cv
      have HS := Lib.hid hS
      clear hS
      simp only [List.length_cons, List.length_nil, Nat.zero_add] at cv
      have HX := Lib.hid (rSix_any w r (by omega))
      go_enter Tryd.func57, Tryd.ntmps57
      go_wp2_with (go_at_call 67; refine HX.out.mono ?_; rintro e w1 ⟨rfl, rfl⟩)
      go_ret
      exact ⟨by rw [HU.out, HS.out]; rfl, Keeps.alloc _ _⟩
    · have d2 : decide ((r : Int) < 2048) = false := by simp; omega
      have hx0 := rSix_any w r (by omega)
      have hx1 := rSix_any w (r / 64) (by omega)
      have hx2 := rSix_any w (r / 4096) (by omega)
      simp only [Int.natCast_add, Int.natCast_emod, Int.natCast_ediv, Int.cast_ofNat_Int] at hx0 hx1 hx2
      have HX := Lib.hid (And.intro hx0 (And.intro hx1 hx2))
      clear hx0 hx1 hx2
      by_cases h3 : r < 65536
      · have d3 : decide ((r : Int) < 65536) = true := by simp; omega
        have HU := Lib.hid (show uRaw r = [u8 (224 + r / 4096), u8 (128 + r / 64 % 64), u8 (128 + r % 64)] by unfold uRaw; rw [if_neg h1, if_neg h2, if_pos h3])
        have cv := rConv w [u8 (224 + r / 4096), u8 (128 + r / 64 % 64), u8 (128 + r % 64)]
        rw [show byC [u8 (224 + r / 4096), u8 (128 + r / 64 % 64), u8 (128 + r % 64)] = #[.int .u8 (224 + (r : Int) / 4096), .int .u8 (128 + (r : Int) / 64 % 64), .int .u8 (128 + (r : Int) % 64)] by simp [byC, byteV, toNat_u8 (show 224 + r / 4096 < 256 by omega), toNat_u8 (show 128 + r / 64 % 64 < 256 by omega), toNat_u8 (show 128 + r % 64 < 256 by omega)]] at cv
        generalize hS : (⟨[u8 (224 + r / 4096), u8 (128 + r / 64 % 64), u8 (128 + r % 64)].toArray⟩ : ByteArray) = S at cv
        have HS := Lib.hid hS
        clear hS
        simp only [List.length_cons, List.length_nil, Nat.zero_add] at cv
        go_enter Tryd.func57, Tryd.ntmps57
        go_wp2_with (go_at_call 67; first | (refine HX.out.1.mono ?_; rintro e w1 ⟨rfl, rfl⟩) | (refine HX.out.2.1.mono ?_; rintro e w1 ⟨rfl, rfl⟩))
        go_ret
        exact ⟨by rw [HU.out, HS.out]; rfl, Keeps.alloc _ _⟩
      · have d3 : decide ((r : Int) < 65536) = false := by simp; omega
        have HU := Lib.hid (show uRaw r = [u8 (240 + r / 262144), u8 (128 + r / 4096 % 64), u8 (128 + r / 64 % 64), u8 (128 + r % 64)] by unfold uRaw; rw [if_neg h1, if_neg h2, if_neg h3])
        have cv := rConv w [u8 (240 + r / 262144), u8 (128 + r / 4096 % 64), u8 (128 + r / 64 % 64), u8 (128 + r % 64)]
        rw [show byC [u8 (240 + r / 262144), u8 (128 + r / 4096 % 64), u8 (128 + r / 64 % 64), u8 (128 + r % 64)] = #[.int .u8 (240 + (r : Int) / 262144), .int .u8 (128 + (r : Int) / 4096 % 64), .int .u8 (128 + (r : Int) / 64 % 64), .int .u8 (128 + (r : Int) % 64)] by simp [byC, byteV, toNat_u8 (show 240 + r / 262144 < 256 by omega), toNat_u8 (show 128 + r / 4096 % 64 < 256 by omega), toNat_u8 (show 128 + r / 64 % 64 < 256 by omega), toNat_u8 (show 128 + r % 64 < 256 by omega)]] at cv
        generalize hS : (⟨[u8 (240 + r / 262144), u8 (128 + r / 4096 % 64), u8 (128 + r / 64 % 64), u8 (128 + r % 64)].toArray⟩ : ByteArray) = S at cv
        have HS := Lib.hid hS
        clear hS
        simp only [List.length_cons, List.length_nil, Nat.zero_add] at cv
        go_enter Tryd.func57, Tryd.ntmps57
        go_wp2_with (go_at_call 67; first | (refine HX.out.1.mono ?_; rintro e w1 ⟨rfl, rfl⟩) | (refine HX.out.2.1.mono ?_; rintro e w1 ⟨rfl, rfl⟩) | (refine HX.out.2.2.mono ?_; rintro e w1 ⟨rfl, rfl⟩))
        go_ret
        exact ⟨by rw [HU.out, HS.out]; rfl, Keeps.alloc _ _⟩
end Go.Proofs.YtbjoobanbejgbaaDoor

namespace Go.Proofs.YtbjoobanbejgbaaDoor
open Go.RowKit Go.Shelf

/-- No rune of fewer bytes. -/
structure FiAt (w wr : World) (s : List UInt8) (k : Nat) : Prop where
  n : ∀ j, 1 ≤ j → j < k → ¬ (j ≤ s.length ∧ uHit (s.take j))
  k : Keeps w wr []
theorem FiAt.next {w wr w' : World} {s : List UInt8} {k : Nat} (h : FiAt w wr s k) (hn : ¬ uHit (s.take k)) (hk : Keeps wr w' []) : FiAt w w' s (k + 1) :=
  ⟨fun j h1 h2 h3 => by
    rcases Nat.lt_or_ge j k with g | g
    · exact h.n j h1 g h3
    · obtain rfl : j = k := by omega
      exact hn h3.2, h.k.then_ hk⟩
theorem rLead_no {s : List UInt8} {a : UInt8} {t : List UInt8} {k : Nat} (hs : s = a :: t) (hk : k ≤ s.length) (h0 : 1 ≤ k) (h : ¬ (uLead k ≤ a.toNat ∧ a.toNat < uMost k)) : ¬ uHit (s.take k) := by
  intro hh
  obtain ⟨a', t', e, g1, g2⟩ := uHit_lead hh
  have hl : (s.take k).length = k := by rw [List.length_take]; omega
  rw [hl] at g1 g2
  have : a' = a := by
    rw [hs] at e
    obtain ⟨k, rfl⟩ : ∃ k', k = k' + 1 := ⟨k - 1, by omega⟩
    rw [List.take_succ_cons] at e
    injection e with e1 _
    exact e1.symm
  rw [this] at g1 g2
  exact h ⟨g1, g2⟩
theorem rMore_step {s : List UInt8} {x y m : Nat} {c : UInt8} (h1 : 1 ≤ m) (hm : m < s.length) (hc : s[m] = c) (hy : y = uMore x ((s.take m).drop 1)) : 64 * y + c.toNat % 64 = uMore x ((s.take (m + 1)).drop 1) := by
  rw [List.take_succ_eq_append_getElem hm, hc, List.drop_append_of_le_length (by rw [List.length_take]; omega)]
  unfold uMore
  rw [List.foldl_append, ← show y = ((s.take m).drop 1).foldl (fun r x => 64 * r + x.toNat % 64) x from hy]
  rfl
theorem rDec_more {s : List UInt8} {a : UInt8} {t : List UInt8} {k x : Nat} (hs : s = a :: t) (hk : k ≤ s.length) (h1 : 1 ≤ k) (hx : a.toNat - uLead k = x) : uMore x ((s.take k).drop 1) = uDec (s.take k) := by
  have hl : (s.take k).length = k := by rw [List.length_take]; omega
  obtain ⟨k, rfl⟩ : ∃ k', k = k' + 1 := ⟨k - 1, by omega⟩
  subst hs
  rw [List.take_succ_cons] at hl ⊢
  show uMore x (t.take k) = uMore (a.toNat - uLead (a :: t.take k).length) (t.take k)
  rw [hl, hx]
def FiPost (w : World) (s : List UInt8) (e : Ending) (w' : World) : Prop := ∃ r : Nat, e = .returned (.tuple #[.int .i32 (r : Int), .int .i64 ((uFirst s : Nat) : Int)]) ∧ (uFirst s ≠ 0 → r = uDec (s.take (uFirst s))) ∧ Keeps w w' []
set_option maxRecDepth 100000 in
set_option maxHeartbeats 4000000 in
theorem rFirst_any (w : World) (s : List UInt8) (hs : s.length ≤ 1000000) : Calls Tryd.prog 46 #[.string ⟨s.toArray⟩] w (FiPost w s) := by
  obtain ⟨S, hS⟩ : ∃ S : ByteArray, (⟨s.toArray⟩ : ByteArray) = S := ⟨_, rfl⟩
  have hsz : S.size = s.length := by rw [← hS]; rfl
  have HS := Lib.hid (And.intro hS hsz)
  rw [hS]
  clear hS
  go_enter Tryd.func46, Tryd.ntmps46
  go_wp2_with fail
  go_loopw [4] (fun i wr => ∃ k : Nat, 1 ≤ k ∧ k ≤ 5 ∧ i = .int .i64 k ∧ Hid (FiAt w wr s k)) (fun i _ => 5 - (intOf i).toNat)
  case atStart => exact ⟨1, by omega, by omega, rfl, Lib.hid ⟨fun j _ _ => by omega, Keeps.refl _ _⟩⟩
  case round =>
    obtain ⟨k, hk1, hk5, rfl, HR⟩ := hrel
    have hsl := HS.out.2
    rcases (show k = 1 ∨ k = 2 ∨ k = 3 ∨ k = 4 ∨ k = 5 by omega) with rfl | rfl | rfl | rfl | rfl
    · skip
      by_cases hl : s.length < 1
      · have hlb : decide ((1 : Int) ≤ s.length) = false := decide_eq_false (by omega)
        have HL := Lib.hid hl
        clear hl
        go_wp2_with fail
        go_ret2
        have hu : uFirst s = 0 := uFirst_none (fun j h1 h2 h3 => by
          have := HL.out
          rcases Nat.lt_or_ge j 1 with h | h
          · exact HR.out.n j h1 h h3
          · omega)
        exact ⟨0, by rw [hu]; rfl, fun h => absurd hu h, HR.out.k⟩
      · have hlb : decide ((1 : Int) ≤ s.length) = true := decide_eq_true (by omega)
        have hpos : 0 < s.length := by omega
        obtain ⟨a, t, hat⟩ : ∃ a t, s = a :: t := by
          cases s with
          | nil => simp at hpos
          | cons a t => exact ⟨a, t, rfl⟩
        have HT := Lib.hid (And.intro hat (show 1 ≤ s.length by omega))
        have ha : ∀ h : 0 < S.size, S[0]'h = a := fun h => by
          rw [str_get HS.out.1 hpos h]
          simp [hat]
        by_cases hr : 0 ≤ a.toNat ∧ a.toNat < 128
        · obtain ⟨hr1, hr2⟩ := hr
          have f1 : decide ((a.toNat : Int) < 0) = false := decide_eq_false (by omega)
          have f2 : decide ((a.toNat : Int) ≥ 128) = false := decide_eq_false (by omega)
          have f3 : decide ((128 : Int) ≤ a.toNat) = false := decide_eq_false (by omega)
          obtain ⟨x, hx⟩ : ∃ x, a.toNat - 0 = x := ⟨_, rfl⟩
          have hxi : ((a.toNat : Int) - 0) = x := by omega
          have HX := Lib.hid hx
          have hx255 : x ≤ 255 := by have := a.toNat_lt; omega
          have HA := Lib.hid (And.intro hr1 hr2)
          clear hat hl hx hr1 hr2
          go_wp2_with fail
          go_loopw [8, 9] (fun r i W => ∃ m y : Nat, 1 ≤ m ∧ m ≤ 1 ∧ i = .int .i64 m ∧ r = .int .i32 (y : Int) ∧ Hid (y = uMore x ((s.take m).drop 1) ∧ wr = W)) (fun _ i _ => 1 - (intOf i).toNat)
          case atStart => exact ⟨1, x, by omega, by omega, rfl, by congr 1 <;> omega, Lib.hid ⟨by rw [HT.out.1]; rfl, rfl⟩⟩
          case round =>
            obtain ⟨m, y, hm1, hm, rfl, rfl, HM⟩ := hrel
            obtain ⟨hy, rfl⟩ := HM.out
            have hlt2 := uMore_lt x ((s.take m).drop 1)
            rw [← hy, List.length_drop, List.length_take] at hlt2
            by_cases hmk : m < 1
            · skip
              exfalso
              omega
            · obtain rfl : m = 1 := by omega
              have HY := Lib.hid (show y = uDec (s.take 1) by
                rw [hy]
                exact rDec_more HT.out.1 HT.out.2 (by omega) HX.out)
              have hyl : y ≤ 2147483647 := by
                refine Nat.le_trans (Nat.le_of_lt hlt2) ?_
                refine Nat.le_trans (Nat.mul_le_mul (show x + 1 ≤ 256 by omega) (Nat.pow_le_pow_right (by omega) (show min 1 s.length - 1 ≤ 3 by omega))) ?_
                omega
              clear hlt2 hy HM
              have HIT := Lib.hid (show (uMay y ∧ uRaw y = s.take 1) ↔ uHit (s.take 1) by rw [HY.out]; exact uHit_iff.symm)
              have hks : (1 : Int) ≤ s.length := by have := HT.out.2; omega
              go_wp2_with fail
              by_cases hy0 : y = 0
              · have HN := Lib.hid (show ¬ uHit (s.take 1) from fun h => by have := (HIT.out.2 h).1.1; omega)
                subst hy0
                refine wp_region_keeps _ (by kernel_rfl) rfl (by kernel_rfl) ?_
                apply loose_is
                · intro W vals hW hkn
                  clear hkn
                  refine ⟨?_⟩
                  simp only [fill]
                  go_simp
                  first | exact ⟨Keeps.refl _ _, rfl⟩ | exact ⟨Keeps.alloc _ _, rfl⟩
                simp only [addEnt]
                apply loose_is
                · intro W vals hW hkn
                  clear hkn
                  refine ⟨?_⟩
                  simp only [fill]
                  go_simp
                  first | exact ⟨Keeps.refl _ _, rfl⟩ | exact ⟨Keeps.alloc _ _, rfl⟩
                simp only [addEnt]
                apply loose_is
                · intro W vals hW hkn
                  clear hkn
                  refine ⟨?_⟩
                  simp only [fill]
                  go_simp
                  first | exact ⟨Keeps.refl _ _, rfl⟩ | exact ⟨Keeps.alloc _ _, rfl⟩
                simp only [addEnt]
                refine loose_off (fun vals => by kernel_rfl) ?_
                simp only [addEnt]
                refine loose_off (fun vals => by kernel_rfl) ?_
                simp only [addEnt]
                apply loose_is
                · intro W vals hW hkn
                  clear hkn
                  refine ⟨?_⟩
                  simp only [fill]
                  go_simp
                  first | exact ⟨Keeps.refl _ _, rfl⟩ | exact ⟨Keeps.alloc _ _, rfl⟩
                simp only [addEnt]
                apply loose_is
                · intro W vals hW hkn
                  clear hkn
                  refine ⟨?_⟩
                  simp only [fill]
                  go_simp
                  first | exact ⟨Keeps.refl _ _, rfl⟩ | exact ⟨Keeps.alloc _ _, rfl⟩
                simp only [addEnt]
                refine loose_off (fun vals => by kernel_rfl) ?_
                simp only [addEnt]
                refine loose_off (fun vals => by kernel_rfl) ?_
                simp only [addEnt]
                refine loose_off (fun vals => by kernel_rfl) ?_
                simp only [addEnt]
                refine loose_off (fun vals => by kernel_rfl) ?_
                simp only [addEnt]
                refine loose_off (fun vals => by kernel_rfl) ?_
                simp only [addEnt]
                refine loose_off (fun vals => by kernel_rfl) ?_
                simp only [addEnt]
                apply loose_is
                · intro W vals hW hkn
                  clear hkn
                  refine ⟨?_⟩
                  simp only [fill]
                  go_simp
                  first | exact ⟨Keeps.refl _ _, rfl⟩ | exact ⟨Keeps.alloc _ _, rfl⟩
                simp only [addEnt]
                refine loose_nil (fun W vals hW hkn => ?_)
                simp only [knowsAll] at hkn
                try simp only [and_true] at hkn
                simp only [fill, Act.put, List.setIfInBounds_toArray, List.set_cons_succ, List.set_cons_zero]
                clear hkn
                have HZ := Lib.hid hW
                clear hW
                go_wp2_with fail
                exact ⟨⟨1 + 1, by omega, by omega, by go_num, Lib.hid (HR.out.next HN.out HZ.out)⟩, by simp [intOf]⟩
              · have hyp : 0 < y := by omega
                by_cases hm : uMay y
                · have HM0 := Lib.hid hm
                  have hmb : rMayB y = true := by
                    unfold rMayB
                    have := hm.2
                    simp only [Bool.or_eq_true, Bool.and_eq_true, decide_eq_true_eq]
                    exact this
                  obtain ⟨S2, hS2⟩ : ∃ S2 : ByteArray, (⟨(uRaw y).toArray⟩ : ByteArray) = S2 := ⟨_, rfl⟩
                  obtain ⟨S3, hS3⟩ : ∃ S3, S.extract 0 1 = S3 := ⟨_, rfl⟩
                  have e2 : S2.toList = uRaw y := by rw [← hS2, Lib.toList_data]
                  have e3 : S3.toList = s.take 1 := by rw [← hS3, ← HS.out.1, str_cut, Lib.toList_data]; simp
                  obtain ⟨fb, hfb⟩ : ∃ fb : Bool, fb = decide (uRaw y = s.take 1) := ⟨_, rfl⟩
                  have hcmp : (S2.toList == S3.toList) = fb := by
                    rw [e2, e3, hfb, Bool.eq_iff_iff]
                    simp
                  have HF := Lib.hid hfb
                  have HS2 := Lib.hid hS2
                  have HMB := Lib.hid hmb
                  clear hm e2 e3 hfb hS2 hmb
                  refine wp_region_keeps _ (by kernel_rfl) rfl (by kernel_rfl) ?_
                  apply loose_is
                  · intro W vals hW hkn
                    clear hkn
                    refine ⟨?_⟩
                    simp only [fill]
                    go_simp
                    first | exact ⟨Keeps.refl _ _, rfl⟩ | exact ⟨Keeps.alloc _ _, rfl⟩
                  simp only [addEnt]
                  apply loose_is
                  · intro W vals hW hkn
                    clear hkn
                    refine ⟨?_⟩
                    simp only [fill]
                    go_simp
                    first | exact ⟨Keeps.refl _ _, rfl⟩ | exact ⟨Keeps.alloc _ _, rfl⟩
                  simp only [addEnt]
                  apply loose_is
                  · intro W vals hW hkn
                    clear hkn
                    refine ⟨?_⟩
                    simp only [fill]
                    go_simp
                    first | exact ⟨Keeps.refl _ _, rfl⟩ | exact ⟨Keeps.alloc _ _, rfl⟩
                  simp only [addEnt]
                  apply loose_is
                  · intro W vals hW hkn
                    clear hkn
                    refine ⟨?_⟩
                    simp only [fill]
                    go_simp
                    first | exact ⟨Keeps.refl _ _, rfl⟩ | exact ⟨Keeps.alloc _ _, rfl⟩
                  simp only [addEnt]
                  apply loose_is
                  · intro W vals hW hkn
                    clear hkn
                    refine ⟨?_⟩
                    simp only [fill]
                    go_simp
                    refine looseUpon_calls ?_
                    exact (rMay_any W y).mono (by rintro e w3 ⟨rfl, rfl⟩; exact ⟨_, rfl, Keeps.refl _ _, (by rw [HMB.out])⟩)
                  simp only [addEnt]
                  apply loose_is
                  · intro W vals hW hkn
                    clear hkn
                    refine ⟨?_⟩
                    simp only [fill]
                    go_simp
                    first | exact ⟨Keeps.refl _ _, rfl⟩ | exact ⟨Keeps.alloc _ _, rfl⟩
                  simp only [addEnt]
                  apply loose_is
                  · intro W vals hW hkn
                    clear hkn
                    refine ⟨?_⟩
                    simp only [fill]
                    go_simp
                    first | exact ⟨Keeps.refl _ _, rfl⟩ | exact ⟨Keeps.alloc _ _, rfl⟩
                  simp only [addEnt]
                  apply loose_is
                  · intro W vals hW hkn
                    clear hkn
                    refine ⟨?_⟩
                    simp only [fill]
                    go_simp
                    first | exact ⟨Keeps.refl _ _, rfl⟩ | exact ⟨Keeps.alloc _ _, rfl⟩
                  simp only [addEnt]
                  apply loose_is
                  · intro W vals hW hkn
                    clear hkn
                    refine ⟨?_⟩
                    simp only [fill]
                    go_simp
                    refine looseUpon_calls ?_
                    exact (rRaw_any W y (by have := HM0.out.2; omega)).mono (by rintro e w3 ⟨rfl, hk⟩; exact ⟨_, rfl, hk, (by rw [HS2.out])⟩)
                  simp only [addEnt]
                  apply loose_is
                  · intro W vals hW hkn
                    clear hkn
                    refine ⟨?_⟩
                    simp only [fill]
                    go_simp
                    first | exact ⟨Keeps.refl _ _, rfl⟩ | exact ⟨Keeps.alloc _ _, rfl⟩
                  simp only [addEnt]
                  apply loose_is
                  · intro W vals hW hkn
                    clear hkn
                    refine ⟨?_⟩
                    simp only [fill]
                    go_simp
                    first | exact ⟨Keeps.refl _ _, rfl⟩ | exact ⟨Keeps.alloc _ _, rfl⟩
                  simp only [addEnt]
                  apply loose_is
                  · intro W vals hW hkn
                    clear hkn
                    refine ⟨?_⟩
                    simp only [fill]
                    go_simp
                    first | exact ⟨Keeps.refl _ _, rfl⟩ | exact ⟨Keeps.alloc _ _, rfl⟩
                  simp only [addEnt]
                  apply loose_is
                  · intro W vals hW hkn
                    clear hkn
                    refine ⟨?_⟩
                    simp only [fill]
                    go_simp
                    first | exact ⟨Keeps.refl _ _, rfl⟩ | exact ⟨Keeps.alloc _ _, rfl⟩
                  simp only [addEnt]
                  apply loose_is
                  · intro W vals hW hkn
                    clear hkn
                    refine ⟨?_⟩
                    simp only [fill]
                    go_simp
                    first | exact ⟨Keeps.refl _ _, rfl⟩ | exact ⟨Keeps.alloc _ _, rfl⟩
                  simp only [addEnt]
                  refine loose_nil (fun W vals hW hkn => ?_)
                  simp only [knowsAll] at hkn
                  try simp only [and_true] at hkn
                  simp only [fill, Act.put, List.setIfInBounds_toArray, List.set_cons_succ, List.set_cons_zero]
                  clear hkn
                  have HZ := Lib.hid hW
                  clear hW
                  cases fb with
                  | true =>
                    go_wp2_with fail
                    go_ret2
                    have hu : uFirst s = 1 := uFirst_hit (by omega) (by omega) (fun j h1 h2 => HR.out.n j h1 h2) ⟨HT.out.2, HIT.out.1 ⟨HM0.out, of_decide_eq_true HF.out.symm⟩⟩
                    exact ⟨y, by rw [hu]; rfl, fun _ => by rw [hu]; exact HY.out, HR.out.k.then_ HZ.out⟩
                  | false =>
                    have HN := Lib.hid (show ¬ uHit (s.take 1) from fun h => by
                      have e := (HIT.out.2 h).2
                      have f := HF.out
                      rw [decide_eq_true e] at f
                      cases f)
                    go_wp2_with fail
                    exact ⟨⟨1 + 1, by omega, by omega, by go_num, Lib.hid (HR.out.next HN.out HZ.out)⟩, by simp [intOf]⟩
                · have HN := Lib.hid (show ¬ uHit (s.take 1) from fun h => hm (HIT.out.2 h).1)
                  have hmb : rMayB y = false := by
                    rw [← Bool.not_eq_true]
                    unfold rMayB
                    simp only [Bool.or_eq_true, Bool.and_eq_true, decide_eq_true_eq]
                    exact fun h => hm ⟨by omega, h⟩
                  have HMB := Lib.hid hmb
                  clear hm hmb
                  refine wp_region_keeps _ (by kernel_rfl) rfl (by kernel_rfl) ?_
                  apply loose_is
                  · intro W vals hW hkn
                    clear hkn
                    refine ⟨?_⟩
                    simp only [fill]
                    go_simp
                    first | exact ⟨Keeps.refl _ _, rfl⟩ | exact ⟨Keeps.alloc _ _, rfl⟩
                  simp only [addEnt]
                  apply loose_is
                  · intro W vals hW hkn
                    clear hkn
                    refine ⟨?_⟩
                    simp only [fill]
                    go_simp
                    first | exact ⟨Keeps.refl _ _, rfl⟩ | exact ⟨Keeps.alloc _ _, rfl⟩
                  simp only [addEnt]
                  apply loose_is
                  · intro W vals hW hkn
                    clear hkn
                    refine ⟨?_⟩
                    simp only [fill]
                    go_simp
                    first | exact ⟨Keeps.refl _ _, rfl⟩ | exact ⟨Keeps.alloc _ _, rfl⟩
                  simp only [addEnt]
                  apply loose_is
                  · intro W vals hW hkn
                    clear hkn
                    refine ⟨?_⟩
                    simp only [fill]
                    go_simp
                    first | exact ⟨Keeps.refl _ _, rfl⟩ | exact ⟨Keeps.alloc _ _, rfl⟩
                  simp only [addEnt]
                  apply loose_is
                  · intro W vals hW hkn
                    clear hkn
                    refine ⟨?_⟩
                    simp only [fill]
                    go_simp
                    refine looseUpon_calls ?_
                    exact (rMay_any W y).mono (by rintro e w3 ⟨rfl, rfl⟩; exact ⟨_, rfl, Keeps.refl _ _, (by rw [HMB.out])⟩)
                  simp only [addEnt]
                  apply loose_is
                  · intro W vals hW hkn
                    clear hkn
                    refine ⟨?_⟩
                    simp only [fill]
                    go_simp
                    first | exact ⟨Keeps.refl _ _, rfl⟩ | exact ⟨Keeps.alloc _ _, rfl⟩
                  simp only [addEnt]
                  apply loose_is
                  · intro W vals hW hkn
                    clear hkn
                    refine ⟨?_⟩
                    simp only [fill]
                    go_simp
                    first | exact ⟨Keeps.refl _ _, rfl⟩ | exact ⟨Keeps.alloc _ _, rfl⟩
                  simp only [addEnt]
                  refine loose_off (fun vals => by kernel_rfl) ?_
                  simp only [addEnt]
                  refine loose_off (fun vals => by kernel_rfl) ?_
                  simp only [addEnt]
                  refine loose_off (fun vals => by kernel_rfl) ?_
                  simp only [addEnt]
                  refine loose_off (fun vals => by kernel_rfl) ?_
                  simp only [addEnt]
                  refine loose_off (fun vals => by kernel_rfl) ?_
                  simp only [addEnt]
                  refine loose_off (fun vals => by kernel_rfl) ?_
                  simp only [addEnt]
                  apply loose_is
                  · intro W vals hW hkn
                    clear hkn
                    refine ⟨?_⟩
                    simp only [fill]
                    go_simp
                    first | exact ⟨Keeps.refl _ _, rfl⟩ | exact ⟨Keeps.alloc _ _, rfl⟩
                  simp only [addEnt]
                  refine loose_nil (fun W vals hW hkn => ?_)
                  simp only [knowsAll] at hkn
                  try simp only [and_true] at hkn
                  simp only [fill, Act.put, List.setIfInBounds_toArray, List.set_cons_succ, List.set_cons_zero]
                  clear hkn
                  have HZ := Lib.hid hW
                  clear hW
                  go_wp2_with fail
                  exact ⟨⟨1 + 1, by omega, by omega, by go_num, Lib.hid (HR.out.next HN.out HZ.out)⟩, by simp [intOf]⟩
        · have HN := Lib.hid (rLead_no HT.out.1 HT.out.2 (by omega) (show ¬ (uLead 1 ≤ a.toNat ∧ a.toNat < uMost 1) from hr))
          have hat2 := a.toNat_lt
          have hbb : (decide ((a.toNat : Int) < 0) || decide ((a.toNat : Int) ≥ 128)) = true := by simp; omega
          clear hat hl hr
          go_wp2_with fail
          all_goals exact ⟨⟨1 + 1, by omega, by omega, by go_num, Lib.hid (HR.out.next HN.out (Keeps.refl _ _))⟩, by simp [intOf]⟩
    · skip
      by_cases hl : s.length < 2
      · have hlb : decide ((2 : Int) ≤ s.length) = false := decide_eq_false (by omega)
        have HL := Lib.hid hl
        clear hl
        go_wp2_with fail
        go_ret2
        have hu : uFirst s = 0 := uFirst_none (fun j h1 h2 h3 => by
          have := HL.out
          rcases Nat.lt_or_ge j 2 with h | h
          · exact HR.out.n j h1 h h3
          · omega)
        exact ⟨0, by rw [hu]; rfl, fun h => absurd hu h, HR.out.k⟩
      · have hlb : decide ((2 : Int) ≤ s.length) = true := decide_eq_true (by omega)
        have hpos : 0 < s.length := by omega
        obtain ⟨a, t, hat⟩ : ∃ a t, s = a :: t := by
          cases s with
          | nil => simp at hpos
          | cons a t => exact ⟨a, t, rfl⟩
        have HT := Lib.hid (And.intro hat (show 2 ≤ s.length by omega))
        have ha : ∀ h : 0 < S.size, S[0]'h = a := fun h => by
          rw [str_get HS.out.1 hpos h]
          simp [hat]
        by_cases hr : 192 ≤ a.toNat ∧ a.toNat < 224
        · obtain ⟨hr1, hr2⟩ := hr
          have f1 : decide ((a.toNat : Int) < 192) = false := decide_eq_false (by omega)
          have f2 : decide ((a.toNat : Int) ≥ 224) = false := decide_eq_false (by omega)
          have f3 : decide ((224 : Int) ≤ a.toNat) = false := decide_eq_false (by omega)
          obtain ⟨x, hx⟩ : ∃ x, a.toNat - 192 = x := ⟨_, rfl⟩
          have hxi : ((a.toNat : Int) - 192) = x := by omega
          have HX := Lib.hid hx
          have hx255 : x ≤ 255 := by have := a.toNat_lt; omega
          have HA := Lib.hid (And.intro hr1 hr2)
          clear hat hl hx hr1 hr2
          go_wp2_with fail
          go_loopw [8, 9] (fun r i W => ∃ m y : Nat, 1 ≤ m ∧ m ≤ 2 ∧ i = .int .i64 m ∧ r = .int .i32 (y : Int) ∧ Hid (y = uMore x ((s.take m).drop 1) ∧ wr = W)) (fun _ i _ => 2 - (intOf i).toNat)
          case atStart => exact ⟨1, x, by omega, by omega, rfl, by congr 1 <;> omega, Lib.hid ⟨by rw [HT.out.1]; rfl, rfl⟩⟩
          case round =>
            obtain ⟨m, y, hm1, hm, rfl, rfl, HM⟩ := hrel
            obtain ⟨hy, rfl⟩ := HM.out
            have hlt2 := uMore_lt x ((s.take m).drop 1)
            rw [← hy, List.length_drop, List.length_take] at hlt2
            by_cases hmk : m < 2
            · skip
              have hmk' : decide ((m : Int) < 2) = true := decide_eq_true (by omega)
              have hms : m < s.length := by have := HT.out.2; omega
              have hyl : y < 33554432 := by
                refine Nat.lt_of_lt_of_le hlt2 ?_
                refine Nat.le_trans (Nat.mul_le_mul (show x + 1 ≤ 256 by omega) (Nat.pow_le_pow_right (by omega) (show min m s.length - 1 ≤ 2 by omega))) ?_
                omega
              obtain ⟨c, hc⟩ : ∃ c, s[m] = c := ⟨_, rfl⟩
              have ix : ∀ h : m < S.size, S[m]'h = c := fun h => by rw [str_get HS.out.1 hms h, hc]
              have HNX := Lib.hid (rMore_step (x := x) hm1 hms hc hy)
              obtain ⟨d, hd⟩ : ∃ d, c.toNat % 64 = d := ⟨_, rfl⟩
              have hd64 : d < 64 := by omega
              have ht : (c.toNat : Int).tmod 64 = (d : Int) := by rw [Int.tmod_eq_emod_of_nonneg (by omega)]; omega
              rw [hd] at HNX
              have hsz2 : (m : Int) < s.length := by omega
              have hyd := Lib.hid (show Value.int .i32 (RowKit.wrap32 (64 * (y : Int) + RowKit.wrap32 ((RowKit.wrap64 (c.toNat : Int)).tmod 64))) = Value.int .i32 ((64 * y + d : Nat) : Int) by
                rw [show RowKit.wrap64 (c.toNat : Int) = c.toNat by unfold RowKit.wrap64; have := c.toNat_lt; omega, ht, show RowKit.wrap32 (d : Int) = d by unfold RowKit.wrap32; omega, show RowKit.wrap32 (64 * (y : Int) + d) = 64 * y + d by unfold RowKit.wrap32; omega]
                congr 1)
              clear hlt2 hc hd hy HM ht
              go_wp2_with fail
              all_goals exact ⟨⟨m + 1, 64 * y + d, by omega, by omega, by go_num, hyd.out, Lib.hid ⟨HNX.out, trivial⟩⟩, by simp [intOf]; omega⟩
            · obtain rfl : m = 2 := by omega
              have HY := Lib.hid (show y = uDec (s.take 2) by
                rw [hy]
                exact rDec_more HT.out.1 HT.out.2 (by omega) HX.out)
              have hyl : y ≤ 2147483647 := by
                refine Nat.le_trans (Nat.le_of_lt hlt2) ?_
                refine Nat.le_trans (Nat.mul_le_mul (show x + 1 ≤ 256 by omega) (Nat.pow_le_pow_right (by omega) (show min 2 s.length - 1 ≤ 3 by omega))) ?_
                omega
              clear hlt2 hy HM
              have HIT := Lib.hid (show (uMay y ∧ uRaw y = s.take 2) ↔ uHit (s.take 2) by rw [HY.out]; exact uHit_iff.symm)
              have hks : (2 : Int) ≤ s.length := by have := HT.out.2; omega
              go_wp2_with fail
              by_cases hy0 : y = 0
              · have HN := Lib.hid (show ¬ uHit (s.take 2) from fun h => by have := (HIT.out.2 h).1.1; omega)
                subst hy0
                refine wp_region_keeps _ (by kernel_rfl) rfl (by kernel_rfl) ?_
                apply loose_is
                · intro W vals hW hkn
                  clear hkn
                  refine ⟨?_⟩
                  simp only [fill]
                  go_simp
                  first | exact ⟨Keeps.refl _ _, rfl⟩ | exact ⟨Keeps.alloc _ _, rfl⟩
                simp only [addEnt]
                apply loose_is
                · intro W vals hW hkn
                  clear hkn
                  refine ⟨?_⟩
                  simp only [fill]
                  go_simp
                  first | exact ⟨Keeps.refl _ _, rfl⟩ | exact ⟨Keeps.alloc _ _, rfl⟩
                simp only [addEnt]
                apply loose_is
                · intro W vals hW hkn
                  clear hkn
                  refine ⟨?_⟩
                  simp only [fill]
                  go_simp
                  first | exact ⟨Keeps.refl _ _, rfl⟩ | exact ⟨Keeps.alloc _ _, rfl⟩
                simp only [addEnt]
                refine loose_off (fun vals => by kernel_rfl) ?_
                simp only [addEnt]
                refine loose_off (fun vals => by kernel_rfl) ?_
                simp only [addEnt]
                apply loose_is
                · intro W vals hW hkn
                  clear hkn
                  refine ⟨?_⟩
                  simp only [fill]
                  go_simp
                  first | exact ⟨Keeps.refl _ _, rfl⟩ | exact ⟨Keeps.alloc _ _, rfl⟩
                simp only [addEnt]
                apply loose_is
                · intro W vals hW hkn
                  clear hkn
                  refine ⟨?_⟩
                  simp only [fill]
                  go_simp
                  first | exact ⟨Keeps.refl _ _, rfl⟩ | exact ⟨Keeps.alloc _ _, rfl⟩
                simp only [addEnt]
                refine loose_off (fun vals => by kernel_rfl) ?_
                simp only [addEnt]
                refine loose_off (fun vals => by kernel_rfl) ?_
                simp only [addEnt]
                refine loose_off (fun vals => by kernel_rfl) ?_
                simp only [addEnt]
                refine loose_off (fun vals => by kernel_rfl) ?_
                simp only [addEnt]
                refine loose_off (fun vals => by kernel_rfl) ?_
                simp only [addEnt]
                refine loose_off (fun vals => by kernel_rfl) ?_
                simp only [addEnt]
                apply loose_is
                · intro W vals hW hkn
                  clear hkn
                  refine ⟨?_⟩
                  simp only [fill]
                  go_simp
                  first | exact ⟨Keeps.refl _ _, rfl⟩ | exact ⟨Keeps.alloc _ _, rfl⟩
                simp only [addEnt]
                refine loose_nil (fun W vals hW hkn => ?_)
                simp only [knowsAll] at hkn
                try simp only [and_true] at hkn
                simp only [fill, Act.put, List.setIfInBounds_toArray, List.set_cons_succ, List.set_cons_zero]
                clear hkn
                have HZ := Lib.hid hW
                clear hW
                go_wp2_with fail
                exact ⟨⟨2 + 1, by omega, by omega, by go_num, Lib.hid (HR.out.next HN.out HZ.out)⟩, by simp [intOf]⟩
              · have hyp : 0 < y := by omega
                by_cases hm : uMay y
                · have HM0 := Lib.hid hm
                  have hmb : rMayB y = true := by
                    unfold rMayB
                    have := hm.2
                    simp only [Bool.or_eq_true, Bool.and_eq_true, decide_eq_true_eq]
                    exact this
                  obtain ⟨S2, hS2⟩ : ∃ S2 : ByteArray, (⟨(uRaw y).toArray⟩ : ByteArray) = S2 := ⟨_, rfl⟩
                  obtain ⟨S3, hS3⟩ : ∃ S3, S.extract 0 2 = S3 := ⟨_, rfl⟩
                  have e2 : S2.toList = uRaw y := by rw [← hS2, Lib.toList_data]
                  have e3 : S3.toList = s.take 2 := by rw [← hS3, ← HS.out.1, str_cut, Lib.toList_data]; simp
                  obtain ⟨fb, hfb⟩ : ∃ fb : Bool, fb = decide (uRaw y = s.take 2) := ⟨_, rfl⟩
                  have hcmp : (S2.toList == S3.toList) = fb := by
                    rw [e2, e3, hfb, Bool.eq_iff_iff]
                    simp
                  have HF := Lib.hid hfb
                  have HS2 := Lib.hid hS2
                  have HMB := Lib.hid hmb
                  clear hm e2 e3 hfb hS2 hmb
                  refine wp_region_keeps _ (by kernel_rfl) rfl (by kernel_rfl) ?_
                  apply loose_is
                  · intro W vals hW hkn
                    clear hkn
                    refine ⟨?_⟩
                    simp only [fill]
                    go_simp
                    first | exact ⟨Keeps.refl _ _, rfl⟩ | exact ⟨Keeps.alloc _ _, rfl⟩
                  simp only [addEnt]
                  apply loose_is
                  · intro W vals hW hkn
                    clear hkn
                    refine ⟨?_⟩
                    simp only [fill]
                    go_simp
                    first | exact ⟨Keeps.refl _ _, rfl⟩ | exact ⟨Keeps.alloc _ _, rfl⟩
                  simp only [addEnt]
                  apply loose_is
                  · intro W vals hW hkn
                    clear hkn
                    refine ⟨?_⟩
                    simp only [fill]
                    go_simp
                    first | exact ⟨Keeps.refl _ _, rfl⟩ | exact ⟨Keeps.alloc _ _, rfl⟩
                  simp only [addEnt]
                  apply loose_is
                  · intro W vals hW hkn
                    clear hkn
                    refine ⟨?_⟩
                    simp only [fill]
                    go_simp
                    first | exact ⟨Keeps.refl _ _, rfl⟩ | exact ⟨Keeps.alloc _ _, rfl⟩
                  simp only [addEnt]
                  apply loose_is
                  · intro W vals hW hkn
                    clear hkn
                    refine ⟨?_⟩
                    simp only [fill]
                    go_simp
                    refine looseUpon_calls ?_
                    exact (rMay_any W y).mono (by rintro e w3 ⟨rfl, rfl⟩; exact ⟨_, rfl, Keeps.refl _ _, (by rw [HMB.out])⟩)
                  simp only [addEnt]
                  apply loose_is
                  · intro W vals hW hkn
                    clear hkn
                    refine ⟨?_⟩
                    simp only [fill]
                    go_simp
                    first | exact ⟨Keeps.refl _ _, rfl⟩ | exact ⟨Keeps.alloc _ _, rfl⟩
                  simp only [addEnt]
                  apply loose_is
                  · intro W vals hW hkn
                    clear hkn
                    refine ⟨?_⟩
                    simp only [fill]
                    go_simp
                    first | exact ⟨Keeps.refl _ _, rfl⟩ | exact ⟨Keeps.alloc _ _, rfl⟩
                  simp only [addEnt]
                  apply loose_is
                  · intro W vals hW hkn
                    clear hkn
                    refine ⟨?_⟩
                    simp only [fill]
                    go_simp
                    first | exact ⟨Keeps.refl _ _, rfl⟩ | exact ⟨Keeps.alloc _ _, rfl⟩
                  simp only [addEnt]
                  apply loose_is
                  · intro W vals hW hkn
                    clear hkn
                    refine ⟨?_⟩
                    simp only [fill]
                    go_simp
                    refine looseUpon_calls ?_
                    exact (rRaw_any W y (by have := HM0.out.2; omega)).mono (by rintro e w3 ⟨rfl, hk⟩; exact ⟨_, rfl, hk, (by rw [HS2.out])⟩)
                  simp only [addEnt]
                  apply loose_is
                  · intro W vals hW hkn
                    clear hkn
                    refine ⟨?_⟩
                    simp only [fill]
                    go_simp
                    first | exact ⟨Keeps.refl _ _, rfl⟩ | exact ⟨Keeps.alloc _ _, rfl⟩
                  simp only [addEnt]
                  apply loose_is
                  · intro W vals hW hkn
                    clear hkn
                    refine ⟨?_⟩
                    simp only [fill]
                    go_simp
                    first | exact ⟨Keeps.refl _ _, rfl⟩ | exact ⟨Keeps.alloc _ _, rfl⟩
                  simp only [addEnt]
                  apply loose_is
                  · intro W vals hW hkn
                    clear hkn
                    refine ⟨?_⟩
                    simp only [fill]
                    go_simp
                    first | exact ⟨Keeps.refl _ _, rfl⟩ | exact ⟨Keeps.alloc _ _, rfl⟩
                  simp only [addEnt]
                  apply loose_is
                  · intro W vals hW hkn
                    clear hkn
                    refine ⟨?_⟩
                    simp only [fill]
                    go_simp
                    first | exact ⟨Keeps.refl _ _, rfl⟩ | exact ⟨Keeps.alloc _ _, rfl⟩
                  simp only [addEnt]
                  apply loose_is
                  · intro W vals hW hkn
                    clear hkn
                    refine ⟨?_⟩
                    simp only [fill]
                    go_simp
                    first | exact ⟨Keeps.refl _ _, rfl⟩ | exact ⟨Keeps.alloc _ _, rfl⟩
                  simp only [addEnt]
                  refine loose_nil (fun W vals hW hkn => ?_)
                  simp only [knowsAll] at hkn
                  try simp only [and_true] at hkn
                  simp only [fill, Act.put, List.setIfInBounds_toArray, List.set_cons_succ, List.set_cons_zero]
                  clear hkn
                  have HZ := Lib.hid hW
                  clear hW
                  cases fb with
                  | true =>
                    go_wp2_with fail
                    go_ret2
                    have hu : uFirst s = 2 := uFirst_hit (by omega) (by omega) (fun j h1 h2 => HR.out.n j h1 h2) ⟨HT.out.2, HIT.out.1 ⟨HM0.out, of_decide_eq_true HF.out.symm⟩⟩
                    exact ⟨y, by rw [hu]; rfl, fun _ => by rw [hu]; exact HY.out, HR.out.k.then_ HZ.out⟩
                  | false =>
                    have HN := Lib.hid (show ¬ uHit (s.take 2) from fun h => by
                      have e := (HIT.out.2 h).2
                      have f := HF.out
                      rw [decide_eq_true e] at f
                      cases f)
                    go_wp2_with fail
                    exact ⟨⟨2 + 1, by omega, by omega, by go_num, Lib.hid (HR.out.next HN.out HZ.out)⟩, by simp [intOf]⟩
                · have HN := Lib.hid (show ¬ uHit (s.take 2) from fun h => hm (HIT.out.2 h).1)
                  have hmb : rMayB y = false := by
                    rw [← Bool.not_eq_true]
                    unfold rMayB
                    simp only [Bool.or_eq_true, Bool.and_eq_true, decide_eq_true_eq]
                    exact fun h => hm ⟨by omega, h⟩
                  have HMB := Lib.hid hmb
                  clear hm hmb
                  refine wp_region_keeps _ (by kernel_rfl) rfl (by kernel_rfl) ?_
                  apply loose_is
                  · intro W vals hW hkn
                    clear hkn
                    refine ⟨?_⟩
                    simp only [fill]
                    go_simp
                    first | exact ⟨Keeps.refl _ _, rfl⟩ | exact ⟨Keeps.alloc _ _, rfl⟩
                  simp only [addEnt]
                  apply loose_is
                  · intro W vals hW hkn
                    clear hkn
                    refine ⟨?_⟩
                    simp only [fill]
                    go_simp
                    first | exact ⟨Keeps.refl _ _, rfl⟩ | exact ⟨Keeps.alloc _ _, rfl⟩
                  simp only [addEnt]
                  apply loose_is
                  · intro W vals hW hkn
                    clear hkn
                    refine ⟨?_⟩
                    simp only [fill]
                    go_simp
                    first | exact ⟨Keeps.refl _ _, rfl⟩ | exact ⟨Keeps.alloc _ _, rfl⟩
                  simp only [addEnt]
                  apply loose_is
                  · intro W vals hW hkn
                    clear hkn
                    refine ⟨?_⟩
                    simp only [fill]
                    go_simp
                    first | exact ⟨Keeps.refl _ _, rfl⟩ | exact ⟨Keeps.alloc _ _, rfl⟩
                  simp only [addEnt]
                  apply loose_is
                  · intro W vals hW hkn
                    clear hkn
                    refine ⟨?_⟩
                    simp only [fill]
                    go_simp
                    refine looseUpon_calls ?_
                    exact (rMay_any W y).mono (by rintro e w3 ⟨rfl, rfl⟩; exact ⟨_, rfl, Keeps.refl _ _, (by rw [HMB.out])⟩)
                  simp only [addEnt]
                  apply loose_is
                  · intro W vals hW hkn
                    clear hkn
                    refine ⟨?_⟩
                    simp only [fill]
                    go_simp
                    first | exact ⟨Keeps.refl _ _, rfl⟩ | exact ⟨Keeps.alloc _ _, rfl⟩
                  simp only [addEnt]
                  apply loose_is
                  · intro W vals hW hkn
                    clear hkn
                    refine ⟨?_⟩
                    simp only [fill]
                    go_simp
                    first | exact ⟨Keeps.refl _ _, rfl⟩ | exact ⟨Keeps.alloc _ _, rfl⟩
                  simp only [addEnt]
                  refine loose_off (fun vals => by kernel_rfl) ?_
                  simp only [addEnt]
                  refine loose_off (fun vals => by kernel_rfl) ?_
                  simp only [addEnt]
                  refine loose_off (fun vals => by kernel_rfl) ?_
                  simp only [addEnt]
                  refine loose_off (fun vals => by kernel_rfl) ?_
                  simp only [addEnt]
                  refine loose_off (fun vals => by kernel_rfl) ?_
                  simp only [addEnt]
                  refine loose_off (fun vals => by kernel_rfl) ?_
                  simp only [addEnt]
                  apply loose_is
                  · intro W vals hW hkn
                    clear hkn
                    refine ⟨?_⟩
                    simp only [fill]
                    go_simp
                    first | exact ⟨Keeps.refl _ _, rfl⟩ | exact ⟨Keeps.alloc _ _, rfl⟩
                  simp only [addEnt]
                  refine loose_nil (fun W vals hW hkn => ?_)
                  simp only [knowsAll] at hkn
                  try simp only [and_true] at hkn
                  simp only [fill, Act.put, List.setIfInBounds_toArray, List.set_cons_succ, List.set_cons_zero]
                  clear hkn
                  have HZ := Lib.hid hW
                  clear hW
                  go_wp2_with fail
                  exact ⟨⟨2 + 1, by omega, by omega, by go_num, Lib.hid (HR.out.next HN.out HZ.out)⟩, by simp [intOf]⟩
        · have HN := Lib.hid (rLead_no HT.out.1 HT.out.2 (by omega) (show ¬ (uLead 2 ≤ a.toNat ∧ a.toNat < uMost 2) from hr))
          have hat2 := a.toNat_lt
          have hbb : (decide ((a.toNat : Int) < 192) || decide ((a.toNat : Int) ≥ 224)) = true := by simp; omega
          clear hat hl hr
          go_wp2_with fail
          all_goals exact ⟨⟨2 + 1, by omega, by omega, by go_num, Lib.hid (HR.out.next HN.out (Keeps.refl _ _))⟩, by simp [intOf]⟩
    · skip
      by_cases hl : s.length < 3
      · have hlb : decide ((3 : Int) ≤ s.length) = false := decide_eq_false (by omega)
        have HL := Lib.hid hl
        clear hl
        go_wp2_with fail
        go_ret2
        have hu : uFirst s = 0 := uFirst_none (fun j h1 h2 h3 => by
          have := HL.out
          rcases Nat.lt_or_ge j 3 with h | h
          · exact HR.out.n j h1 h h3
          · omega)
        exact ⟨0, by rw [hu]; rfl, fun h => absurd hu h, HR.out.k⟩
      · have hlb : decide ((3 : Int) ≤ s.length) = true := decide_eq_true (by omega)
        have hpos : 0 < s.length := by omega
        obtain ⟨a, t, hat⟩ : ∃ a t, s = a :: t := by
          cases s with
          | nil => simp at hpos
          | cons a t => exact ⟨a, t, rfl⟩
        have HT := Lib.hid (And.intro hat (show 3 ≤ s.length by omega))
        have ha : ∀ h : 0 < S.size, S[0]'h = a := fun h => by
          rw [str_get HS.out.1 hpos h]
          simp [hat]
        by_cases hr : 224 ≤ a.toNat ∧ a.toNat < 240
        · obtain ⟨hr1, hr2⟩ := hr
          have f1 : decide ((a.toNat : Int) < 224) = false := decide_eq_false (by omega)
          have f2 : decide ((a.toNat : Int) ≥ 240) = false := decide_eq_false (by omega)
          have f3 : decide ((240 : Int) ≤ a.toNat) = false := decide_eq_false (by omega)
          obtain ⟨x, hx⟩ : ∃ x, a.toNat - 224 = x := ⟨_, rfl⟩
          have hxi : ((a.toNat : Int) - 224) = x := by omega
          have HX := Lib.hid hx
          have hx255 : x ≤ 255 := by have := a.toNat_lt; omega
          have HA := Lib.hid (And.intro hr1 hr2)
          clear hat hl hx hr1 hr2
          go_wp2_with fail
          go_loopw [8, 9] (fun r i W => ∃ m y : Nat, 1 ≤ m ∧ m ≤ 3 ∧ i = .int .i64 m ∧ r = .int .i32 (y : Int) ∧ Hid (y = uMore x ((s.take m).drop 1) ∧ wr = W)) (fun _ i _ => 3 - (intOf i).toNat)
          case atStart => exact ⟨1, x, by omega, by omega, rfl, by congr 1 <;> omega, Lib.hid ⟨by rw [HT.out.1]; rfl, rfl⟩⟩
          case round =>
            obtain ⟨m, y, hm1, hm, rfl, rfl, HM⟩ := hrel
            obtain ⟨hy, rfl⟩ := HM.out
            have hlt2 := uMore_lt x ((s.take m).drop 1)
            rw [← hy, List.length_drop, List.length_take] at hlt2
            by_cases hmk : m < 3
            · skip
              have hmk' : decide ((m : Int) < 3) = true := decide_eq_true (by omega)
              have hms : m < s.length := by have := HT.out.2; omega
              have hyl : y < 33554432 := by
                refine Nat.lt_of_lt_of_le hlt2 ?_
                refine Nat.le_trans (Nat.mul_le_mul (show x + 1 ≤ 256 by omega) (Nat.pow_le_pow_right (by omega) (show min m s.length - 1 ≤ 2 by omega))) ?_
                omega
              obtain ⟨c, hc⟩ : ∃ c, s[m] = c := ⟨_, rfl⟩
              have ix : ∀ h : m < S.size, S[m]'h = c := fun h => by rw [str_get HS.out.1 hms h, hc]
              have HNX := Lib.hid (rMore_step (x := x) hm1 hms hc hy)
              obtain ⟨d, hd⟩ : ∃ d, c.toNat % 64 = d := ⟨_, rfl⟩
              have hd64 : d < 64 := by omega
              have ht : (c.toNat : Int).tmod 64 = (d : Int) := by rw [Int.tmod_eq_emod_of_nonneg (by omega)]; omega
              rw [hd] at HNX
              have hsz2 : (m : Int) < s.length := by omega
              have hyd := Lib.hid (show Value.int .i32 (RowKit.wrap32 (64 * (y : Int) + RowKit.wrap32 ((RowKit.wrap64 (c.toNat : Int)).tmod 64))) = Value.int .i32 ((64 * y + d : Nat) : Int) by
                rw [show RowKit.wrap64 (c.toNat : Int) = c.toNat by unfold RowKit.wrap64; have := c.toNat_lt; omega, ht, show RowKit.wrap32 (d : Int) = d by unfold RowKit.wrap32; omega, show RowKit.wrap32 (64 * (y : Int) + d) = 64 * y + d by unfold RowKit.wrap32; omega]
                congr 1)
              clear hlt2 hc hd hy HM ht
              go_wp2_with fail
              all_goals exact ⟨⟨m + 1, 64 * y + d, by omega, by omega, by go_num, hyd.out, Lib.hid ⟨HNX.out, trivial⟩⟩, by simp [intOf]; omega⟩
            · obtain rfl : m = 3 := by omega
              have HY := Lib.hid (show y = uDec (s.take 3) by
                rw [hy]
                exact rDec_more HT.out.1 HT.out.2 (by omega) HX.out)
              have hyl : y ≤ 2147483647 := by
                refine Nat.le_trans (Nat.le_of_lt hlt2) ?_
                refine Nat.le_trans (Nat.mul_le_mul (show x + 1 ≤ 256 by omega) (Nat.pow_le_pow_right (by omega) (show min 3 s.length - 1 ≤ 3 by omega))) ?_
                omega
              clear hlt2 hy HM
              have HIT := Lib.hid (show (uMay y ∧ uRaw y = s.take 3) ↔ uHit (s.take 3) by rw [HY.out]; exact uHit_iff.symm)
              have hks : (3 : Int) ≤ s.length := by have := HT.out.2; omega
              go_wp2_with fail
              by_cases hy0 : y = 0
              · have HN := Lib.hid (show ¬ uHit (s.take 3) from fun h => by have := (HIT.out.2 h).1.1; omega)
                subst hy0
                refine wp_region_keeps _ (by kernel_rfl) rfl (by kernel_rfl) ?_
                apply loose_is
                · intro W vals hW hkn
                  clear hkn
                  refine ⟨?_⟩
                  simp only [fill]
                  go_simp
                  first | exact ⟨Keeps.refl _ _, rfl⟩ | exact ⟨Keeps.alloc _ _, rfl⟩
                simp only [addEnt]
                apply loose_is
                · intro W vals hW hkn
                  clear hkn
                  refine ⟨?_⟩
                  simp only [fill]
                  go_simp
                  first | exact ⟨Keeps.refl _ _, rfl⟩ | exact ⟨Keeps.alloc _ _, rfl⟩
                simp only [addEnt]
                apply loose_is
                · intro W vals hW hkn
                  clear hkn
                  refine ⟨?_⟩
                  simp only [fill]
                  go_simp
                  first | exact ⟨Keeps.refl _ _, rfl⟩ | exact ⟨Keeps.alloc _ _, rfl⟩
                simp only [addEnt]
                refine loose_off (fun vals => by kernel_rfl) ?_
                simp only [addEnt]
                refine loose_off (fun vals => by kernel_rfl) ?_
                simp only [addEnt]
                apply loose_is
                · intro W vals hW hkn
                  clear hkn
                  refine ⟨?_⟩
                  simp only [fill]
                  go_simp
                  first | exact ⟨Keeps.refl _ _, rfl⟩ | exact ⟨Keeps.alloc _ _, rfl⟩
                simp only [addEnt]
                apply loose_is
                · intro W vals hW hkn
                  clear hkn
                  refine ⟨?_⟩
                  simp only [fill]
                  go_simp
                  first | exact ⟨Keeps.refl _ _, rfl⟩ | exact ⟨Keeps.alloc _ _, rfl⟩
                simp only [addEnt]
                refine loose_off (fun vals => by kernel_rfl) ?_
                simp only [addEnt]
                refine loose_off (fun vals => by kernel_rfl) ?_
                simp only [addEnt]
                refine loose_off (fun vals => by kernel_rfl) ?_
                simp only [addEnt]
                refine loose_off (fun vals => by kernel_rfl) ?_
                simp only [addEnt]
                refine loose_off (fun vals => by kernel_rfl) ?_
                simp only [addEnt]
                refine loose_off (fun vals => by kernel_rfl) ?_
                simp only [addEnt]
                apply loose_is
                · intro W vals hW hkn
                  clear hkn
                  refine ⟨?_⟩
                  simp only [fill]
                  go_simp
                  first | exact ⟨Keeps.refl _ _, rfl⟩ | exact ⟨Keeps.alloc _ _, rfl⟩
                simp only [addEnt]
                refine loose_nil (fun W vals hW hkn => ?_)
                simp only [knowsAll] at hkn
                try simp only [and_true] at hkn
                simp only [fill, Act.put, List.setIfInBounds_toArray, List.set_cons_succ, List.set_cons_zero]
                clear hkn
                have HZ := Lib.hid hW
                clear hW
                go_wp2_with fail
                exact ⟨⟨3 + 1, by omega, by omega, by go_num, Lib.hid (HR.out.next HN.out HZ.out)⟩, by simp [intOf]⟩
              · have hyp : 0 < y := by omega
                by_cases hm : uMay y
                · have HM0 := Lib.hid hm
                  have hmb : rMayB y = true := by
                    unfold rMayB
                    have := hm.2
                    simp only [Bool.or_eq_true, Bool.and_eq_true, decide_eq_true_eq]
                    exact this
                  obtain ⟨S2, hS2⟩ : ∃ S2 : ByteArray, (⟨(uRaw y).toArray⟩ : ByteArray) = S2 := ⟨_, rfl⟩
                  obtain ⟨S3, hS3⟩ : ∃ S3, S.extract 0 3 = S3 := ⟨_, rfl⟩
                  have e2 : S2.toList = uRaw y := by rw [← hS2, Lib.toList_data]
                  have e3 : S3.toList = s.take 3 := by rw [← hS3, ← HS.out.1, str_cut, Lib.toList_data]; simp
                  obtain ⟨fb, hfb⟩ : ∃ fb : Bool, fb = decide (uRaw y = s.take 3) := ⟨_, rfl⟩
                  have hcmp : (S2.toList == S3.toList) = fb := by
                    rw [e2, e3, hfb, Bool.eq_iff_iff]
                    simp
                  have HF := Lib.hid hfb
                  have HS2 := Lib.hid hS2
                  have HMB := Lib.hid hmb
                  clear hm e2 e3 hfb hS2 hmb
                  refine wp_region_keeps _ (by kernel_rfl) rfl (by kernel_rfl) ?_
                  apply loose_is
                  · intro W vals hW hkn
                    clear hkn
                    refine ⟨?_⟩
                    simp only [fill]
                    go_simp
                    first | exact ⟨Keeps.refl _ _, rfl⟩ | exact ⟨Keeps.alloc _ _, rfl⟩
                  simp only [addEnt]
                  apply loose_is
                  · intro W vals hW hkn
                    clear hkn
                    refine ⟨?_⟩
                    simp only [fill]
                    go_simp
                    first | exact ⟨Keeps.refl _ _, rfl⟩ | exact ⟨Keeps.alloc _ _, rfl⟩
                  simp only [addEnt]
                  apply loose_is
                  · intro W vals hW hkn
                    clear hkn
                    refine ⟨?_⟩
                    simp only [fill]
                    go_simp
                    first | exact ⟨Keeps.refl _ _, rfl⟩ | exact ⟨Keeps.alloc _ _, rfl⟩
                  simp only [addEnt]
                  apply loose_is
                  · intro W vals hW hkn
                    clear hkn
                    refine ⟨?_⟩
                    simp only [fill]
                    go_simp
                    first | exact ⟨Keeps.refl _ _, rfl⟩ | exact ⟨Keeps.alloc _ _, rfl⟩
                  simp only [addEnt]
                  apply loose_is
                  · intro W vals hW hkn
                    clear hkn
                    refine ⟨?_⟩
                    simp only [fill]
                    go_simp
                    refine looseUpon_calls ?_
                    exact (rMay_any W y).mono (by rintro e w3 ⟨rfl, rfl⟩; exact ⟨_, rfl, Keeps.refl _ _, (by rw [HMB.out])⟩)
                  simp only [addEnt]
                  apply loose_is
                  · intro W vals hW hkn
                    clear hkn
                    refine ⟨?_⟩
                    simp only [fill]
                    go_simp
                    first | exact ⟨Keeps.refl _ _, rfl⟩ | exact ⟨Keeps.alloc _ _, rfl⟩
                  simp only [addEnt]
                  apply loose_is
                  · intro W vals hW hkn
                    clear hkn
                    refine ⟨?_⟩
                    simp only [fill]
                    go_simp
                    first | exact ⟨Keeps.refl _ _, rfl⟩ | exact ⟨Keeps.alloc _ _, rfl⟩
                  simp only [addEnt]
                  apply loose_is
                  · intro W vals hW hkn
                    clear hkn
                    refine ⟨?_⟩
                    simp only [fill]
                    go_simp
                    first | exact ⟨Keeps.refl _ _, rfl⟩ | exact ⟨Keeps.alloc _ _, rfl⟩
                  simp only [addEnt]
                  apply loose_is
                  · intro W vals hW hkn
                    clear hkn
                    refine ⟨?_⟩
                    simp only [fill]
                    go_simp
                    refine looseUpon_calls ?_
                    exact (rRaw_any W y (by have := HM0.out.2; omega)).mono (by rintro e w3 ⟨rfl, hk⟩; exact ⟨_, rfl, hk, (by rw [HS2.out])⟩)
                  simp only [addEnt]
                  apply loose_is
                  · intro W vals hW hkn
                    clear hkn
                    refine ⟨?_⟩
                    simp only [fill]
                    go_simp
                    first | exact ⟨Keeps.refl _ _, rfl⟩ | exact ⟨Keeps.alloc _ _, rfl⟩
                  simp only [addEnt]
                  apply loose_is
                  · intro W vals hW hkn
                    clear hkn
                    refine ⟨?_⟩
                    simp only [fill]
                    go_simp
                    first | exact ⟨Keeps.refl _ _, rfl⟩ | exact ⟨Keeps.alloc _ _, rfl⟩
                  simp only [addEnt]
                  apply loose_is
                  · intro W vals hW hkn
                    clear hkn
                    refine ⟨?_⟩
                    simp only [fill]
                    go_simp
                    first | exact ⟨Keeps.refl _ _, rfl⟩ | exact ⟨Keeps.alloc _ _, rfl⟩
                  simp only [addEnt]
                  apply loose_is
                  · intro W vals hW hkn
                    clear hkn
                    refine ⟨?_⟩
                    simp only [fill]
                    go_simp
                    first | exact ⟨Keeps.refl _ _, rfl⟩ | exact ⟨Keeps.alloc _ _, rfl⟩
                  simp only [addEnt]
                  apply loose_is
                  · intro W vals hW hkn
                    clear hkn
                    refine ⟨?_⟩
                    simp only [fill]
                    go_simp
                    first | exact ⟨Keeps.refl _ _, rfl⟩ | exact ⟨Keeps.alloc _ _, rfl⟩
                  simp only [addEnt]
                  refine loose_nil (fun W vals hW hkn => ?_)
                  simp only [knowsAll] at hkn
                  try simp only [and_true] at hkn
                  simp only [fill, Act.put, List.setIfInBounds_toArray, List.set_cons_succ, List.set_cons_zero]
                  clear hkn
                  have HZ := Lib.hid hW
                  clear hW
                  cases fb with
                  | true =>
                    go_wp2_with fail
                    go_ret2
                    have hu : uFirst s = 3 := uFirst_hit (by omega) (by omega) (fun j h1 h2 => HR.out.n j h1 h2) ⟨HT.out.2, HIT.out.1 ⟨HM0.out, of_decide_eq_true HF.out.symm⟩⟩
                    exact ⟨y, by rw [hu]; rfl, fun _ => by rw [hu]; exact HY.out, HR.out.k.then_ HZ.out⟩
                  | false =>
                    have HN := Lib.hid (show ¬ uHit (s.take 3) from fun h => by
                      have e := (HIT.out.2 h).2
                      have f := HF.out
                      rw [decide_eq_true e] at f
                      cases f)
                    go_wp2_with fail
                    exact ⟨⟨3 + 1, by omega, by omega, by go_num, Lib.hid (HR.out.next HN.out HZ.out)⟩, by simp [intOf]⟩
                · have HN := Lib.hid (show ¬ uHit (s.take 3) from fun h => hm (HIT.out.2 h).1)
                  have hmb : rMayB y = false := by
                    rw [← Bool.not_eq_true]
                    unfold rMayB
                    simp only [Bool.or_eq_true, Bool.and_eq_true, decide_eq_true_eq]
                    exact fun h => hm ⟨by omega, h⟩
                  have HMB := Lib.hid hmb
                  clear hm hmb
                  refine wp_region_keeps _ (by kernel_rfl) rfl (by kernel_rfl) ?_
                  apply loose_is
                  · intro W vals hW hkn
                    clear hkn
                    refine ⟨?_⟩
                    simp only [fill]
                    go_simp
                    first | exact ⟨Keeps.refl _ _, rfl⟩ | exact ⟨Keeps.alloc _ _, rfl⟩
                  simp only [addEnt]
                  apply loose_is
                  · intro W vals hW hkn
                    clear hkn
                    refine ⟨?_⟩
                    simp only [fill]
                    go_simp
                    first | exact ⟨Keeps.refl _ _, rfl⟩ | exact ⟨Keeps.alloc _ _, rfl⟩
                  simp only [addEnt]
                  apply loose_is
                  · intro W vals hW hkn
                    clear hkn
                    refine ⟨?_⟩
                    simp only [fill]
                    go_simp
                    first | exact ⟨Keeps.refl _ _, rfl⟩ | exact ⟨Keeps.alloc _ _, rfl⟩
                  simp only [addEnt]
                  apply loose_is
                  · intro W vals hW hkn
                    clear hkn
                    refine ⟨?_⟩
                    simp only [fill]
                    go_simp
                    first | exact ⟨Keeps.refl _ _, rfl⟩ | exact ⟨Keeps.alloc _ _, rfl⟩
                  simp only [addEnt]
                  apply loose_is
                  · intro W vals hW hkn
                    clear hkn
                    refine ⟨?_⟩
                    simp only [fill]
                    go_simp
                    refine looseUpon_calls ?_
                    exact (rMay_any W y).mono (by rintro e w3 ⟨rfl, rfl⟩; exact ⟨_, rfl, Keeps.refl _ _, (by rw [HMB.out])⟩)
                  simp only [addEnt]
                  apply loose_is
                  · intro W vals hW hkn
                    clear hkn
                    refine ⟨?_⟩
                    simp only [fill]
                    go_simp
                    first | exact ⟨Keeps.refl _ _, rfl⟩ | exact ⟨Keeps.alloc _ _, rfl⟩
                  simp only [addEnt]
                  apply loose_is
                  · intro W vals hW hkn
                    clear hkn
                    refine ⟨?_⟩
                    simp only [fill]
                    go_simp
                    first | exact ⟨Keeps.refl _ _, rfl⟩ | exact ⟨Keeps.alloc _ _, rfl⟩
                  simp only [addEnt]
                  refine loose_off (fun vals => by kernel_rfl) ?_
                  simp only [addEnt]
                  refine loose_off (fun vals => by kernel_rfl) ?_
                  simp only [addEnt]
                  refine loose_off (fun vals => by kernel_rfl) ?_
                  simp only [addEnt]
                  refine loose_off (fun vals => by kernel_rfl) ?_
                  simp only [addEnt]
                  refine loose_off (fun vals => by kernel_rfl) ?_
                  simp only [addEnt]
                  refine loose_off (fun vals => by kernel_rfl) ?_
                  simp only [addEnt]
                  apply loose_is
                  · intro W vals hW hkn
                    clear hkn
                    refine ⟨?_⟩
                    simp only [fill]
                    go_simp
                    first | exact ⟨Keeps.refl _ _, rfl⟩ | exact ⟨Keeps.alloc _ _, rfl⟩
                  simp only [addEnt]
                  refine loose_nil (fun W vals hW hkn => ?_)
                  simp only [knowsAll] at hkn
                  try simp only [and_true] at hkn
                  simp only [fill, Act.put, List.setIfInBounds_toArray, List.set_cons_succ, List.set_cons_zero]
                  clear hkn
                  have HZ := Lib.hid hW
                  clear hW
                  go_wp2_with fail
                  exact ⟨⟨3 + 1, by omega, by omega, by go_num, Lib.hid (HR.out.next HN.out HZ.out)⟩, by simp [intOf]⟩
        · have HN := Lib.hid (rLead_no HT.out.1 HT.out.2 (by omega) (show ¬ (uLead 3 ≤ a.toNat ∧ a.toNat < uMost 3) from hr))
          have hat2 := a.toNat_lt
          have hbb : (decide ((a.toNat : Int) < 224) || decide ((a.toNat : Int) ≥ 240)) = true := by simp; omega
          clear hat hl hr
          go_wp2_with fail
          all_goals exact ⟨⟨3 + 1, by omega, by omega, by go_num, Lib.hid (HR.out.next HN.out (Keeps.refl _ _))⟩, by simp [intOf]⟩
    · skip
      by_cases hl : s.length < 4
      · have hlb : decide ((4 : Int) ≤ s.length) = false := decide_eq_false (by omega)
        have HL := Lib.hid hl
        clear hl
        go_wp2_with fail
        go_ret2
        have hu : uFirst s = 0 := uFirst_none (fun j h1 h2 h3 => by
          have := HL.out
          rcases Nat.lt_or_ge j 4 with h | h
          · exact HR.out.n j h1 h h3
          · omega)
        exact ⟨0, by rw [hu]; rfl, fun h => absurd hu h, HR.out.k⟩
      · have hlb : decide ((4 : Int) ≤ s.length) = true := decide_eq_true (by omega)
        have hpos : 0 < s.length := by omega
        obtain ⟨a, t, hat⟩ : ∃ a t, s = a :: t := by
          cases s with
          | nil => simp at hpos
          | cons a t => exact ⟨a, t, rfl⟩
        have HT := Lib.hid (And.intro hat (show 4 ≤ s.length by omega))
        have ha : ∀ h : 0 < S.size, S[0]'h = a := fun h => by
          rw [str_get HS.out.1 hpos h]
          simp [hat]
        by_cases hr : 240 ≤ a.toNat ∧ a.toNat < 248
        · obtain ⟨hr1, hr2⟩ := hr
          have f1 : decide ((a.toNat : Int) < 240) = false := decide_eq_false (by omega)
          have f2 : decide ((a.toNat : Int) ≥ 248) = false := decide_eq_false (by omega)
          have f3 : decide ((248 : Int) ≤ a.toNat) = false := decide_eq_false (by omega)
          obtain ⟨x, hx⟩ : ∃ x, a.toNat - 240 = x := ⟨_, rfl⟩
          have hxi : ((a.toNat : Int) - 240) = x := by omega
          have HX := Lib.hid hx
          have hx255 : x ≤ 255 := by have := a.toNat_lt; omega
          have HA := Lib.hid (And.intro hr1 hr2)
          clear hat hl hx hr1 hr2
          go_wp2_with fail
          go_loopw [8, 9] (fun r i W => ∃ m y : Nat, 1 ≤ m ∧ m ≤ 4 ∧ i = .int .i64 m ∧ r = .int .i32 (y : Int) ∧ Hid (y = uMore x ((s.take m).drop 1) ∧ wr = W)) (fun _ i _ => 4 - (intOf i).toNat)
          case atStart => exact ⟨1, x, by omega, by omega, rfl, by congr 1 <;> omega, Lib.hid ⟨by rw [HT.out.1]; rfl, rfl⟩⟩
          case round =>
            obtain ⟨m, y, hm1, hm, rfl, rfl, HM⟩ := hrel
            obtain ⟨hy, rfl⟩ := HM.out
            have hlt2 := uMore_lt x ((s.take m).drop 1)
            rw [← hy, List.length_drop, List.length_take] at hlt2
            by_cases hmk : m < 4
            · skip
              have hmk' : decide ((m : Int) < 4) = true := decide_eq_true (by omega)
              have hms : m < s.length := by have := HT.out.2; omega
              have hyl : y < 33554432 := by
                refine Nat.lt_of_lt_of_le hlt2 ?_
                refine Nat.le_trans (Nat.mul_le_mul (show x + 1 ≤ 256 by omega) (Nat.pow_le_pow_right (by omega) (show min m s.length - 1 ≤ 2 by omega))) ?_
                omega
              obtain ⟨c, hc⟩ : ∃ c, s[m] = c := ⟨_, rfl⟩
              have ix : ∀ h : m < S.size, S[m]'h = c := fun h => by rw [str_get HS.out.1 hms h, hc]
              have HNX := Lib.hid (rMore_step (x := x) hm1 hms hc hy)
              obtain ⟨d, hd⟩ : ∃ d, c.toNat % 64 = d := ⟨_, rfl⟩
              have hd64 : d < 64 := by omega
              have ht : (c.toNat : Int).tmod 64 = (d : Int) := by rw [Int.tmod_eq_emod_of_nonneg (by omega)]; omega
              rw [hd] at HNX
              have hsz2 : (m : Int) < s.length := by omega
              have hyd := Lib.hid (show Value.int .i32 (RowKit.wrap32 (64 * (y : Int) + RowKit.wrap32 ((RowKit.wrap64 (c.toNat : Int)).tmod 64))) = Value.int .i32 ((64 * y + d : Nat) : Int) by
                rw [show RowKit.wrap64 (c.toNat : Int) = c.toNat by unfold RowKit.wrap64; have := c.toNat_lt; omega, ht, show RowKit.wrap32 (d : Int) = d by unfold RowKit.wrap32; omega, show RowKit.wrap32 (64 * (y : Int) + d) = 64 * y + d by unfold RowKit.wrap32; omega]
                congr 1)
              clear hlt2 hc hd hy HM ht
              go_wp2_with fail
              all_goals exact ⟨⟨m + 1, 64 * y + d, by omega, by omega, by go_num, hyd.out, Lib.hid ⟨HNX.out, trivial⟩⟩, by simp [intOf]; omega⟩
            · obtain rfl : m = 4 := by omega
              have HY := Lib.hid (show y = uDec (s.take 4) by
                rw [hy]
                exact rDec_more HT.out.1 HT.out.2 (by omega) HX.out)
              have hyl : y ≤ 2147483647 := by
                refine Nat.le_trans (Nat.le_of_lt hlt2) ?_
                refine Nat.le_trans (Nat.mul_le_mul (show x + 1 ≤ 256 by omega) (Nat.pow_le_pow_right (by omega) (show min 4 s.length - 1 ≤ 3 by omega))) ?_
                omega
              clear hlt2 hy HM
              have HIT := Lib.hid (show (uMay y ∧ uRaw y = s.take 4) ↔ uHit (s.take 4) by rw [HY.out]; exact uHit_iff.symm)
              have hks : (4 : Int) ≤ s.length := by have := HT.out.2; omega
              go_wp2_with fail
              by_cases hy0 : y = 0
              · have HN := Lib.hid (show ¬ uHit (s.take 4) from fun h => by have := (HIT.out.2 h).1.1; omega)
                subst hy0
                refine wp_region_keeps _ (by kernel_rfl) rfl (by kernel_rfl) ?_
                apply loose_is
                · intro W vals hW hkn
                  clear hkn
                  refine ⟨?_⟩
                  simp only [fill]
                  go_simp
                  first | exact ⟨Keeps.refl _ _, rfl⟩ | exact ⟨Keeps.alloc _ _, rfl⟩
                simp only [addEnt]
                apply loose_is
                · intro W vals hW hkn
                  clear hkn
                  refine ⟨?_⟩
                  simp only [fill]
                  go_simp
                  first | exact ⟨Keeps.refl _ _, rfl⟩ | exact ⟨Keeps.alloc _ _, rfl⟩
                simp only [addEnt]
                apply loose_is
                · intro W vals hW hkn
                  clear hkn
                  refine ⟨?_⟩
                  simp only [fill]
                  go_simp
                  first | exact ⟨Keeps.refl _ _, rfl⟩ | exact ⟨Keeps.alloc _ _, rfl⟩
                simp only [addEnt]
                refine loose_off (fun vals => by kernel_rfl) ?_
                simp only [addEnt]
                refine loose_off (fun vals => by kernel_rfl) ?_
                simp only [addEnt]
                apply loose_is
                · intro W vals hW hkn
                  clear hkn
                  refine ⟨?_⟩
                  simp only [fill]
                  go_simp
                  first | exact ⟨Keeps.refl _ _, rfl⟩ | exact ⟨Keeps.alloc _ _, rfl⟩
                simp only [addEnt]
                apply loose_is
                · intro W vals hW hkn
                  clear hkn
                  refine ⟨?_⟩
                  simp only [fill]
                  go_simp
                  first | exact ⟨Keeps.refl _ _, rfl⟩ | exact ⟨Keeps.alloc _ _, rfl⟩
                simp only [addEnt]
                refine loose_off (fun vals => by kernel_rfl) ?_
                simp only [addEnt]
                refine loose_off (fun vals => by kernel_rfl) ?_
                simp only [addEnt]
                refine loose_off (fun vals => by kernel_rfl) ?_
                simp only [addEnt]
                refine loose_off (fun vals => by kernel_rfl) ?_
                simp only [addEnt]
                refine loose_off (fun vals => by kernel_rfl) ?_
                simp only [addEnt]
                refine loose_off (fun vals => by kernel_rfl) ?_
                simp only [addEnt]
                apply loose_is
                · intro W vals hW hkn
                  clear hkn
                  refine ⟨?_⟩
                  simp only [fill]
                  go_simp
                  first | exact ⟨Keeps.refl _ _, rfl⟩ | exact ⟨Keeps.alloc _ _, rfl⟩
                simp only [addEnt]
                refine loose_nil (fun W vals hW hkn => ?_)
                simp only [knowsAll] at hkn
                try simp only [and_true] at hkn
                simp only [fill, Act.put, List.setIfInBounds_toArray, List.set_cons_succ, List.set_cons_zero]
                clear hkn
                have HZ := Lib.hid hW
                clear hW
                go_wp2_with fail
                exact ⟨⟨4 + 1, by omega, by omega, by go_num, Lib.hid (HR.out.next HN.out HZ.out)⟩, by simp [intOf]⟩
              · have hyp : 0 < y := by omega
                by_cases hm : uMay y
                · have HM0 := Lib.hid hm
                  have hmb : rMayB y = true := by
                    unfold rMayB
                    have := hm.2
                    simp only [Bool.or_eq_true, Bool.and_eq_true, decide_eq_true_eq]
                    exact this
                  obtain ⟨S2, hS2⟩ : ∃ S2 : ByteArray, (⟨(uRaw y).toArray⟩ : ByteArray) = S2 := ⟨_, rfl⟩
                  obtain ⟨S3, hS3⟩ : ∃ S3, S.extract 0 4 = S3 := ⟨_, rfl⟩
                  have e2 : S2.toList = uRaw y := by rw [← hS2, Lib.toList_data]
                  have e3 : S3.toList = s.take 4 := by rw [← hS3, ← HS.out.1, str_cut, Lib.toList_data]; simp
                  obtain ⟨fb, hfb⟩ : ∃ fb : Bool, fb = decide (uRaw y = s.take 4) := ⟨_, rfl⟩
                  have hcmp : (S2.toList == S3.toList) = fb := by
                    rw [e2, e3, hfb, Bool.eq_iff_iff]
                    simp
                  have HF := Lib.hid hfb
                  have HS2 := Lib.hid hS2
                  have HMB := Lib.hid hmb
                  clear hm e2 e3 hfb hS2 hmb
                  refine wp_region_keeps _ (by kernel_rfl) rfl (by kernel_rfl) ?_
                  apply loose_is
                  · intro W vals hW hkn
                    clear hkn
                    refine ⟨?_⟩
                    simp only [fill]
                    go_simp
                    first | exact ⟨Keeps.refl _ _, rfl⟩ | exact ⟨Keeps.alloc _ _, rfl⟩
                  simp only [addEnt]
                  apply loose_is
                  · intro W vals hW hkn
                    clear hkn
                    refine ⟨?_⟩
                    simp only [fill]
                    go_simp
                    first | exact ⟨Keeps.refl _ _, rfl⟩ | exact ⟨Keeps.alloc _ _, rfl⟩
                  simp only [addEnt]
                  apply loose_is
                  · intro W vals hW hkn
                    clear hkn
                    refine ⟨?_⟩
                    simp only [fill]
                    go_simp
                    first | exact ⟨Keeps.refl _ _, rfl⟩ | exact ⟨Keeps.alloc _ _, rfl⟩
                  simp only [addEnt]
                  apply loose_is
                  · intro W vals hW hkn
                    clear hkn
                    refine ⟨?_⟩
                    simp only [fill]
                    go_simp
                    first | exact ⟨Keeps.refl _ _, rfl⟩ | exact ⟨Keeps.alloc _ _, rfl⟩
                  simp only [addEnt]
                  apply loose_is
                  · intro W vals hW hkn
                    clear hkn
                    refine ⟨?_⟩
                    simp only [fill]
                    go_simp
                    refine looseUpon_calls ?_
                    exact (rMay_any W y).mono (by rintro e w3 ⟨rfl, rfl⟩; exact ⟨_, rfl, Keeps.refl _ _, (by rw [HMB.out])⟩)
                  simp only [addEnt]
                  apply loose_is
                  · intro W vals hW hkn
                    clear hkn
                    refine ⟨?_⟩
                    simp only [fill]
                    go_simp
                    first | exact ⟨Keeps.refl _ _, rfl⟩ | exact ⟨Keeps.alloc _ _, rfl⟩
                  simp only [addEnt]
                  apply loose_is
                  · intro W vals hW hkn
                    clear hkn
                    refine ⟨?_⟩
                    simp only [fill]
                    go_simp
                    first | exact ⟨Keeps.refl _ _, rfl⟩ | exact ⟨Keeps.alloc _ _, rfl⟩
                  simp only [addEnt]
                  apply loose_is
                  · intro W vals hW hkn
                    clear hkn
                    refine ⟨?_⟩
                    simp only [fill]
                    go_simp
                    first | exact ⟨Keeps.refl _ _, rfl⟩ | exact ⟨Keeps.alloc _ _, rfl⟩
                  simp only [addEnt]
                  apply loose_is
                  · intro W vals hW hkn
                    clear hkn
                    refine ⟨?_⟩
                    simp only [fill]
                    go_simp
                    refine looseUpon_calls ?_
                    exact (rRaw_any W y (by have := HM0.out.2; omega)).mono (by rintro e w3 ⟨rfl, hk⟩; exact ⟨_, rfl, hk, (by rw [HS2.out])⟩)
                  simp only [addEnt]
                  apply loose_is
                  · intro W vals hW hkn
                    clear hkn
                    refine ⟨?_⟩
                    simp only [fill]
                    go_simp
                    first | exact ⟨Keeps.refl _ _, rfl⟩ | exact ⟨Keeps.alloc _ _, rfl⟩
                  simp only [addEnt]
                  apply loose_is
                  · intro W vals hW hkn
                    clear hkn
                    refine ⟨?_⟩
                    simp only [fill]
                    go_simp
                    first | exact ⟨Keeps.refl _ _, rfl⟩ | exact ⟨Keeps.alloc _ _, rfl⟩
                  simp only [addEnt]
                  apply loose_is
                  · intro W vals hW hkn
                    clear hkn
                    refine ⟨?_⟩
                    simp only [fill]
                    go_simp
                    first | exact ⟨Keeps.refl _ _, rfl⟩ | exact ⟨Keeps.alloc _ _, rfl⟩
                  simp only [addEnt]
                  apply loose_is
                  · intro W vals hW hkn
                    clear hkn
                    refine ⟨?_⟩
                    simp only [fill]
                    go_simp
                    first | exact ⟨Keeps.refl _ _, rfl⟩ | exact ⟨Keeps.alloc _ _, rfl⟩
                  simp only [addEnt]
                  apply loose_is
                  · intro W vals hW hkn
                    clear hkn
                    refine ⟨?_⟩
                    simp only [fill]
                    go_simp
                    first | exact ⟨Keeps.refl _ _, rfl⟩ | exact ⟨Keeps.alloc _ _, rfl⟩
                  simp only [addEnt]
                  refine loose_nil (fun W vals hW hkn => ?_)
                  simp only [knowsAll] at hkn
                  try simp only [and_true] at hkn
                  simp only [fill, Act.put, List.setIfInBounds_toArray, List.set_cons_succ, List.set_cons_zero]
                  clear hkn
                  have HZ := Lib.hid hW
                  clear hW
                  cases fb with
                  | true =>
                    go_wp2_with fail
                    go_ret2
                    have hu : uFirst s = 4 := uFirst_hit (by omega) (by omega) (fun j h1 h2 => HR.out.n j h1 h2) ⟨HT.out.2, HIT.out.1 ⟨HM0.out, of_decide_eq_true HF.out.symm⟩⟩
                    exact ⟨y, by rw [hu]; rfl, fun _ => by rw [hu]; exact HY.out, HR.out.k.then_ HZ.out⟩
                  | false =>
                    have HN := Lib.hid (show ¬ uHit (s.take 4) from fun h => by
                      have e := (HIT.out.2 h).2
                      have f := HF.out
                      rw [decide_eq_true e] at f
                      cases f)
                    go_wp2_with fail
                    exact ⟨⟨4 + 1, by omega, by omega, by go_num, Lib.hid (HR.out.next HN.out HZ.out)⟩, by simp [intOf]⟩
                · have HN := Lib.hid (show ¬ uHit (s.take 4) from fun h => hm (HIT.out.2 h).1)
                  have hmb : rMayB y = false := by
                    rw [← Bool.not_eq_true]
                    unfold rMayB
                    simp only [Bool.or_eq_true, Bool.and_eq_true, decide_eq_true_eq]
                    exact fun h => hm ⟨by omega, h⟩
                  have HMB := Lib.hid hmb
                  clear hm hmb
                  refine wp_region_keeps _ (by kernel_rfl) rfl (by kernel_rfl) ?_
                  apply loose_is
                  · intro W vals hW hkn
                    clear hkn
                    refine ⟨?_⟩
                    simp only [fill]
                    go_simp
                    first | exact ⟨Keeps.refl _ _, rfl⟩ | exact ⟨Keeps.alloc _ _, rfl⟩
                  simp only [addEnt]
                  apply loose_is
                  · intro W vals hW hkn
                    clear hkn
                    refine ⟨?_⟩
                    simp only [fill]
                    go_simp
                    first | exact ⟨Keeps.refl _ _, rfl⟩ | exact ⟨Keeps.alloc _ _, rfl⟩
                  simp only [addEnt]
                  apply loose_is
                  · intro W vals hW hkn
                    clear hkn
                    refine ⟨?_⟩
                    simp only [fill]
                    go_simp
                    first | exact ⟨Keeps.refl _ _, rfl⟩ | exact ⟨Keeps.alloc _ _, rfl⟩
                  simp only [addEnt]
                  apply loose_is
                  · intro W vals hW hkn
                    clear hkn
                    refine ⟨?_⟩
                    simp only [fill]
                    go_simp
                    first | exact ⟨Keeps.refl _ _, rfl⟩ | exact ⟨Keeps.alloc _ _, rfl⟩
                  simp only [addEnt]
                  apply loose_is
                  · intro W vals hW hkn
                    clear hkn
                    refine ⟨?_⟩
                    simp only [fill]
                    go_simp
                    refine looseUpon_calls ?_
                    exact (rMay_any W y).mono (by rintro e w3 ⟨rfl, rfl⟩; exact ⟨_, rfl, Keeps.refl _ _, (by rw [HMB.out])⟩)
                  simp only [addEnt]
                  apply loose_is
                  · intro W vals hW hkn
                    clear hkn
                    refine ⟨?_⟩
                    simp only [fill]
                    go_simp
                    first | exact ⟨Keeps.refl _ _, rfl⟩ | exact ⟨Keeps.alloc _ _, rfl⟩
                  simp only [addEnt]
                  apply loose_is
                  · intro W vals hW hkn
                    clear hkn
                    refine ⟨?_⟩
                    simp only [fill]
                    go_simp
                    first | exact ⟨Keeps.refl _ _, rfl⟩ | exact ⟨Keeps.alloc _ _, rfl⟩
                  simp only [addEnt]
                  refine loose_off (fun vals => by kernel_rfl) ?_
                  simp only [addEnt]
                  refine loose_off (fun vals => by kernel_rfl) ?_
                  simp only [addEnt]
                  refine loose_off (fun vals => by kernel_rfl) ?_
                  simp only [addEnt]
                  refine loose_off (fun vals => by kernel_rfl) ?_
                  simp only [addEnt]
                  refine loose_off (fun vals => by kernel_rfl) ?_
                  simp only [addEnt]
                  refine loose_off (fun vals => by kernel_rfl) ?_
                  simp only [addEnt]
                  apply loose_is
                  · intro W vals hW hkn
                    clear hkn
                    refine ⟨?_⟩
                    simp only [fill]
                    go_simp
                    first | exact ⟨Keeps.refl _ _, rfl⟩ | exact ⟨Keeps.alloc _ _, rfl⟩
                  simp only [addEnt]
                  refine loose_nil (fun W vals hW hkn => ?_)
                  simp only [knowsAll] at hkn
                  try simp only [and_true] at hkn
                  simp only [fill, Act.put, List.setIfInBounds_toArray, List.set_cons_succ, List.set_cons_zero]
                  clear hkn
                  have HZ := Lib.hid hW
                  clear hW
                  go_wp2_with fail
                  exact ⟨⟨4 + 1, by omega, by omega, by go_num, Lib.hid (HR.out.next HN.out HZ.out)⟩, by simp [intOf]⟩
        · have HN := Lib.hid (rLead_no HT.out.1 HT.out.2 (by omega) (show ¬ (uLead 4 ≤ a.toNat ∧ a.toNat < uMost 4) from hr))
          have hat2 := a.toNat_lt
          have hbb : (decide ((a.toNat : Int) < 240) || decide ((a.toNat : Int) ≥ 248)) = true := by simp; omega
          clear hat hl hr
          go_wp2_with fail
          all_goals exact ⟨⟨4 + 1, by omega, by omega, by go_num, Lib.hid (HR.out.next HN.out (Keeps.refl _ _))⟩, by simp [intOf]⟩
    · go_wp2_with fail
      go_ret2
      have hu : uFirst s = 0 := uFirst_none HR.out.n
      exact ⟨0, by rw [hu]; rfl, fun h => absurd hu h, HR.out.k⟩
end Go.Proofs.YtbjoobanbejgbaaDoor

namespace Go.Proofs.YtbjoobanbejgbaaDoor
open Go.RowKit Go.Maps Go.Shelf

def runeE (x : Int) : List Value := [.int .i32 x]
theorem encRune : Enc 1 runeE := ⟨by omega, fun _ => rfl, fun a u hu => by obtain rfl := List.mem_singleton.1 hu; rfl⟩
theorem elemRune : ElemN Tryd.prog 45 21 1 := elemN_of (bytes := 4) (z := .int .i32 0) (by kernel_rfl) (by kernel_rfl) (by omega) rfl
structure RnAt (w wr : World) (s : List UInt8) (k : Nat) (v : Value) (l : List Int) : Prop where
  g : uGood s = uGood (s.drop k)
  ln : l.length ≤ k
  o : OwnN wr w.heap.size 21 1 runeE v l
  k : Keeps w wr []
def RnPost (w : World) (s : List UInt8) (e : Ending) (w' : World) : Prop := ∃ (v : Value) (a : Int), e = .returned (.tuple #[v, .int .i64 a]) ∧ (if uGood s = true then a = -1 else 0 ≤ a) ∧ Keeps w w' []
theorem RnAt.next {w wr w1 w2 w3 : World} {s : List UInt8} {k m : Nat} {v v' : Value} {l : List Int} {r : Int} (h : RnAt w wr s k v l) (hm : uFirst (s.drop k) = m) (hm0 : m ≠ 0) (hk : k < s.length) (k1 : Keeps wr w1 []) (k2 : Keeps w1 w2 []) (ho : OwnN w3 w.heap.size 21 1 runeE v' (l ++ [r])) (k3 : Keeps w2 w3 v.ownBlock.toList) : RnAt w w3 s (k + m) v' (l ++ [r]) := by
  refine ⟨?_, ?_, ho, ?_⟩
  · rw [h.g, uGood_step (s := s.drop k) (fun e => by have := congrArg List.length e; rw [List.length_drop, List.length_nil] at this; omega), hm, if_neg hm0, List.drop_drop]
  · have := h.ln
    rw [List.length_append, List.length_singleton]
    omega
  · refine ((h.k.then_ k1).then_ k2).trans k3 fun x hx hlt => ?_
    have := (h.o.rows x hx).1
    omega
set_option maxRecDepth 100000 in
set_option maxHeartbeats 2000000 in
theorem rRunes_any (w : World) (s : List UInt8) (hs : s.length ≤ 60000) : Calls Tryd.prog 38 #[.string ⟨s.toArray⟩] w (RnPost w s) := by
  obtain ⟨S, hS⟩ : ∃ S : ByteArray, (⟨s.toArray⟩ : ByteArray) = S := ⟨_, rfl⟩
  have hsz : S.size = s.length := by rw [← hS]; rfl
  have HS := Lib.hid (And.intro hS hsz)
  rw [hS]
  clear hS
  go_enter Tryd.func38, Tryd.ntmps38
  go_wp2_with fail
  go_loopw [4, 5] (fun out i wr => ∃ (k n c : Nat) (A : Option Addr) (l : List Int), k ≤ s.length ∧ i = .int .i64 k ∧ out = .slice A n c ∧ Hid (RnAt w wr s k (.slice A n c) l)) (fun _ i _ => s.length - (intOf i).toNat)
  case atStart => exact ⟨0, 0, 0, none, [], by omega, rfl, rfl, Lib.hid ⟨rfl, by simp, OwnN.nil _ _ _ _ _, Keeps.refl _ _⟩⟩
  case round =>
    obtain ⟨k, n, c, A, l, hk, rfl, rfl, HR⟩ := hrel
    have hsl := HS.out.2
    by_cases hlt : k < s.length
    · obtain ⟨T, hT⟩ : ∃ T, S.extract k S.size = T := ⟨_, rfl⟩
      have hT' : (⟨(s.drop k).toArray⟩ : ByteArray) = T := by
        rw [← hT, ← HS.out.1, str_cut, List.take_of_length_le]
        rw [List.length_drop]
        show s.length - k ≤ s.length - k
        omega
      have HF := Lib.hid (show ∀ w, Calls Tryd.prog 46 #[.string T] w (FiPost w (s.drop k)) from fun w => by
        rw [← hT']
        exact rFirst_any w _ (by rw [List.length_drop]; omega))
      rw [hsz] at hT
      have hkl : (k : Int) ≤ s.length := by omega
      obtain ⟨m, hm⟩ : ∃ m, uFirst (s.drop k) = m := ⟨_, rfl⟩
      have hml := (uFirst_len (s.drop k)).1
      rw [hm, List.length_drop] at hml
      have HM := Lib.hid (And.intro hm hlt)
      clear hT'
      go_wp2_with fail
      refine (HF.out _).mono ?_
      rintro e w1 ⟨r, rfl, _, hk1⟩
      rw [hm]
      have HK1 := Lib.hid hk1
      clear hk1 hm hT
      by_cases hm0 : m = 0
      · have hme : ((m : Int) == 0) = true := by simp [hm0]
        go_wp2_with fail
        go_ret2
        have hu : uGood s = false := by
          rw [HR.out.g, uGood_step (s := s.drop k) (fun e => by have := congrArg List.length e; rw [List.length_drop, List.length_nil] at this; have := HM.out.2; omega), HM.out.1, if_pos hm0]
        exact ⟨_, _, rfl, by rw [hu]; simp, HR.out.k.then_ HK1.out⟩
      · have hme : ((m : Int) == 0) = false := by simpa using hm0
        have h65 : decide ((k : Int) + m > 65535) = false := decide_eq_false (by omega)
        obtain ⟨Wa, hWa⟩ : ∃ Wa, w1.alloc (.cells #[.int .i32 (r : Int)] 21) = Wa := ⟨_, rfl⟩
        have ra : Row Wa w1.heap.size 21 #[.int .i32 (r : Int)] := by rw [← hWa]; exact Row.new _ _ _
        have ka : Keeps w1 Wa [] := by rw [← hWa]; exact Keeps.alloc _ _
        have HLa := Lib.hid (show Lies Wa Wa.heap.size (some ⟨w1.heap.size, 0, none⟩) ([(r : Int)].flatMap runeE) from lies_of_row ra rfl)
        have HA := Lib.hid (And.intro ka (And.intro ((HR.out.o.keeps HK1.out).keeps ka) ((HR.out.k.then_ HK1.out).then_ ka)))
        clear ra ka
        go_wp2_with (at_builtin; refine wpList_append_N elemRune encRune rfl (.tmp 28) (.tmp 30) rfl w.heap.size (.slice A n c) (some ⟨w1.heap.size, 0, none⟩) 1 1 l [(r : Int)] rfl rfl rfl HA.out.2.1 HLa.out (by have := HR.out.ln; simp; omega) HA.out.2.2.size ?_; intro A5 c5 w5 l5 hl5 hlen5 ho5 hk5 _; have H5 := Lib.hid (And.intro hl5.out (And.intro ho5 hk5)); clear hl5 ho5 hk5 hlen5)
        exact ⟨⟨k + m, _, c5, A5, l ++ [(r : Int)], by omega, by go_num, rfl, Lib.hid (by rw [← H5.out.1]; have := H5.out.2.1; rw [H5.out.1] at this ⊢; exact HR.out.next HM.out.1 hm0 HM.out.2 HK1.out HA.out.1 this H5.out.2.2)⟩, by simp [intOf]; omega⟩
    · obtain rfl : k = s.length := by omega
      go_wp2_with fail
      go_ret2
      have hu : uGood s = true := by rw [HR.out.g, List.drop_length]; rfl
      exact ⟨_, _, rfl, by rw [if_pos hu], HR.out.k⟩
end Go.Proofs.YtbjoobanbejgbaaDoor

namespace Go.Proofs.YtbjoobanbejgbaaDoor
open Go.RowKit Go.Shelf

set_option maxRecDepth 100000 in
set_option maxHeartbeats 1000000 in
theorem rSaid_any (w : World) (s : List UInt8) (hs : s.length ≤ 60000) : Calls Tryd.prog 25 #[.string ⟨s.toArray⟩] w fun e w' => e = .returned (.bool (tSaid s)) ∧ Keeps w w' [] := by
  obtain ⟨S, hS⟩ : ∃ S : ByteArray, (⟨s.toArray⟩ : ByteArray) = S := ⟨_, rfl⟩
  have hz : S.size = s.length := by rw [← hS]; rfl
  have HR := Lib.hid (show ∀ w : World, Calls Tryd.prog 38 #[.string S] w (RnPost w s) from fun w => by
    rw [← hS]
    exact rRunes_any w s hs)
  rw [hS]
  clear hS
  by_cases h0 : s.length < 1
  · have HT := Lib.hid (show tSaid s = false by unfold tSaid; simp; omega)
    go_enter Tryd.func25, Tryd.ntmps25
    go_wp2_with fail
    go_ret
    exact ⟨by rw [HT.out]; rfl, Keeps.refl _ _⟩
  · by_cases h2 : 200 < s.length
    · have HT := Lib.hid (show tSaid s = false by unfold tSaid; simp; omega)
      have hp : 0 < s.length := by omega
      clear h0
      go_enter Tryd.func25, Tryd.ntmps25
      go_wp2_with fail
      go_ret
      exact ⟨by rw [HT.out]; rfl, Keeps.refl _ _⟩
    · have HT := Lib.hid (show tSaid s = uGood s by
        unfold tSaid
        rw [decide_eq_true (by omega), decide_eq_true (by omega)]
        rfl)
      have hp : 0 < s.length := by omega
      have hq : s.length ≤ 200 := by omega
      clear h0 h2
      go_enter Tryd.func25, Tryd.ntmps25
      go_wp2_with fail
      refine (HR.out _).mono ?_
      rintro e w1 ⟨v, a, rfl, ha, hk⟩
      have HK := Lib.hid hk
      clear hk
      cases hg : uGood s with
      | true =>
        rw [hg, if_pos rfl] at ha
        subst ha
        rw [hg] at HT
        clear hg
        go_wp2_with fail
        go_ret
        exact ⟨by rw [HT.out]; rfl, HK.out⟩
      | false =>
        rw [hg, if_neg (by simp)] at ha
        rw [hg] at HT
        have hb : decide (a < 0) = false := decide_eq_false (by omega)
        clear hg ha
        go_wp2_with fail
        go_ret
        exact ⟨by rw [HT.out]; rfl, HK.out⟩
theorem tSignN_zero (s : List UInt8) : (tSignN s = 0) ↔ tSign s = false := by
  unfold tSignN tSign
  rw [List.countP_eq_zero, List.any_eq_false]
theorem tSignN_le (s : List UInt8) : tSignN s ≤ s.length := List.countP_le_length
set_option maxRecDepth 100000 in
set_option maxHeartbeats 1000000 in
theorem rName_any (w : World) (s : List UInt8) (hs : s.length ≤ 60000) : Calls Tryd.prog 11 #[.string ⟨s.toArray⟩] w fun e w' => e = .returned (.bool (tName s)) ∧ Keeps w w' [] := by
  obtain ⟨S, hS⟩ : ∃ S : ByteArray, (⟨s.toArray⟩ : ByteArray) = S := ⟨_, rfl⟩
  have HS := Lib.hid hS
  rw [hS]
  clear hS
  go_enter Tryd.func11, Tryd.ntmps11
  go_wp2_with fail
  rw [← HS.out]
  refine (rSaid_any w s hs).mono ?_
  rintro e w1 ⟨rfl, hk⟩
  rw [HS.out]
  have HK := Lib.hid hk
  clear hk
  cases hg : tSaid s with
  | false =>
    have HT := Lib.hid (show tName s = false by unfold tName; rw [hg]; rfl)
    clear hg
    go_wp2_with fail
    go_ret
    exact ⟨by rw [HT.out]; rfl, HK.out⟩
  | true =>
    have HT := Lib.hid (show tName s = !tSign s by unfold tName; rw [hg]; rfl)
    clear hg
    go_wp2_with fail
    rw [← HS.out]
    refine (rSigns_any w1 s hs).mono ?_
    rintro e w2 ⟨rfl, rfl⟩
    rw [HS.out]
    cases hb : tSign s with
    | true =>
      have hne : (((tSignN s : Nat) : Int) == 0) = false := by
        rw [beq_eq_false_iff_ne]
        intro e
        have := (tSignN_zero s).1 (by omega)
        rw [hb] at this
        cases this
      rw [hb] at HT
      clear hb
      generalize tSignN s = k at *
      go_wp2_with fail
      go_ret
      exact ⟨by rw [HT.out]; rfl, HK.out⟩
    | false =>
      have h0 := (tSignN_zero s).2 hb
      rw [hb] at HT
      rw [h0]
      clear hb h0
      go_wp2_with fail
      go_ret
      exact ⟨by rw [HT.out]; rfl, HK.out⟩
end Go.Proofs.YtbjoobanbejgbaaDoor

namespace Go.Proofs.YtbjoobanbejgbaaDoor
open Go.RowKit Go.Shelf

theorem tLev_slash (s : List UInt8) : tLev (s ++ [47]) = tLev s ++ [[]] := tLev_app s []
theorem tLev_snoc {a : UInt8} (ha : a ≠ 47) (s : List UInt8) : ∃ ls x, tLev s = ls ++ [x] ∧ tLev (s ++ [a]) = ls ++ [x ++ [a]] := by
  induction s with
  | nil => exact ⟨[], [], rfl, by rw [List.nil_append, tLev_plain (by simpa using Ne.symm ha)]; rfl⟩
  | cons b s ih =>
    obtain ⟨ls, x, h1, h2⟩ := ih
    by_cases hb : b = 47
    · subst hb
      refine ⟨[] :: ls, x, ?_, ?_⟩
      · rw [tLev, if_pos rfl, h1]; rfl
      · rw [List.cons_append, tLev, if_pos rfl, h2]; rfl
    · obtain ⟨l, m, e1, e2⟩ := tLev_other (s := s) hb
      obtain ⟨l', m', e3, e4⟩ := tLev_other (s := s ++ [a]) hb
      rw [h1] at e1
      rw [h2] at e3
      cases ls with
      | nil =>
        injection e1 with e5 e6
        injection e3 with e7 e8
        exact ⟨[], b :: x, by rw [e2, ← e5, ← e6]; rfl, by rw [List.cons_append, e4, ← e7, ← e8]; rfl⟩
      | cons y ls =>
        injection e1 with e5 e6
        injection e3 with e7 e8
        exact ⟨(b :: y) :: ls, x, by rw [e2, ← e5, ← e6]; rfl, by rw [List.cons_append, e4, ← e7, ← e8]; rfl⟩
theorem tLev_set {a : UInt8} (ha : a ≠ 47) {s : List UInt8} {l : List (List UInt8)} {m : Nat} (hl : tLev s = l) (hm : l.length = m + 1) (h : m < l.length) : tLev (s ++ [a]) = l.set m (l[m] ++ [a]) := by
  obtain ⟨ls, x, h1, h2⟩ := tLev_snoc ha s
  subst hl
  have hls : ls.length = m := by
    rw [h1, List.length_append, List.length_singleton] at hm
    omega
  subst hls
  rw [h2]
  simp [h1]
theorem elemTxt : ElemN Tryd.prog 28 9 1 := elemN_of (bytes := 16) (z := .string ⟨#[]⟩) (by kernel_rfl) (by kernel_rfl) (by omega) rfl
theorem flat_txt (l : List (List UInt8)) : l.flatMap txtV = txL l := by
  induction l with
  | nil => rfl
  | cons a l ih => rw [List.flatMap_cons, ih]; rfl
abbrev OwnT (w : World) (B : Nat) (v : Value) (l : List (List UInt8)) : Prop := OwnN w B 9 1 txtV v l
theorem OwnN.lies1 {w : World} {B n c : Nat} {A : Option Addr} {l : List (List UInt8)} (h : OwnT w B (.slice A n c) l) : n = l.length ∧ Lies w w.heap.size A (txL l) := by
  obtain ⟨A', c', e⟩ := OwnN.slice h
  injection e with e1 e2 e3
  subst e1 e2 e3
  refine ⟨rfl, ?_⟩
  have := (OwnN.at_ h encTxt).lies encTxt
  rwa [flat_txt] at this
theorem OwnN.cap {w : World} {B n c : Nat} {A : Option Addr} {l : List (List UInt8)} (h : OwnT w B (.slice A n c) l) : l.length ≤ c := by
  rcases h.2 with ⟨hv, h0⟩ | ⟨gb, cap, cur, hv, _, _, h1, h2, _⟩
  · injection hv with _ h3 h4
    subst h3 h4
    omega
  · injection hv with _ h3 h4
    subst h3 h4
    exact h1
theorem ownT_one (w : World) (x : List UInt8) : OwnT (w.alloc (.cells #[.string ⟨x.toArray⟩] 9)) w.heap.size (.slice (some ⟨w.heap.size, 0, none⟩) 1 1) [x] :=
  ⟨by simp [txtV], .inr ⟨w.heap.size, 1, #[.string ⟨x.toArray⟩], rfl, Nat.le_refl _, Row.new _ _ _, by simp, by simp [maxLen], by simp, by simp [txtV]⟩⟩
/-- The levels of the first bytes of a text. -/
structure LvAt (w wr : World) (s : List UInt8) (v : Value) (l : List (List UInt8)) : Prop where
  e : tLev s = l
  o : OwnT wr w.heap.size v l
  k : Keeps w wr []
def LvPost (w : World) (s : List UInt8) (e : Ending) (w' : World) : Prop := ∃ A c, e = .returned (.slice A (tLev s).length c) ∧ (tLev s).length ≤ c ∧ Lies w' w'.heap.size A (txL (tLev s)) ∧ Keeps w w' []
set_option maxRecDepth 100000 in
set_option maxHeartbeats 2000000 in
theorem rLevels_any (w : World) (s : List UInt8) (hs : s.length ≤ 60000) : Calls Tryd.prog 20 #[.string ⟨s.toArray⟩] w (LvPost w s) := by
  obtain ⟨S, hS⟩ : ∃ S : ByteArray, (⟨s.toArray⟩ : ByteArray) = S := ⟨_, rfl⟩
  have hz : S.size = s.length := by rw [← hS]; rfl
  have HS := Lib.hid hS
  rw [hS]
  clear hS
  go_enter Tryd.func20, Tryd.ntmps20
  go_wp2_with fail
  go_loopw [3, 4] (fun out i wr => ∃ (k m c : Nat) (A : Option Addr) (l : List (List UInt8)), k ≤ s.length ∧ i = .int .i64 k ∧ out = .slice A (m + 1) c ∧ m ≤ k ∧ Hid (LvAt w wr (s.take k) (.slice A (m + 1) c) l)) (fun _ i _ => s.length - (intOf i).toNat)
  case atStart => exact ⟨0, 0, 1, _, [[]], by omega, rfl, rfl, by omega, Lib.hid ⟨rfl, ownT_one w [], Keeps.alloc _ _⟩⟩
  case round =>
    obtain ⟨k, m, c, A, l, hk, rfl, rfl, hmk, HR⟩ := hrel
    by_cases hlt : k < s.length
    · have HT := Lib.hid (List.take_succ_eq_append_getElem hlt)
      have ix : ∀ h, S[k]'h = s[k] := fun h => str_get HS.out hlt h
      obtain ⟨a, ha⟩ : ∃ a, s[k] = a := ⟨_, rfl⟩
      rw [ha] at HT ix
      have hcut : S.extract k (k + 1) = ⟨[a].toArray⟩ := by
        rw [← HS.out, str_cut, Nat.add_sub_cancel_left, List.drop_eq_getElem_cons hlt, ha]
        rfl
      by_cases h47 : a = 47
      · subst h47
        have HL := Lib.hid (show tLev (s.take (k + 1)) = l ++ [[]] by rw [HT.out, tLev_slash, HR.out.e])
        obtain ⟨Wa, hWa⟩ : ∃ Wa, wr.alloc (.cells #[.string ⟨#[]⟩] 9) = Wa := ⟨_, rfl⟩
        have ra : Row Wa wr.heap.size 9 #[.string ⟨#[]⟩] := by rw [← hWa]; exact Row.new _ _ _
        have ka : Keeps wr Wa [] := by rw [← hWa]; exact Keeps.alloc _ _
        have hln : m + 1 = l.length := HR.out.o.lies1.1
        have HLa := Lib.hid (show Lies Wa Wa.heap.size (some ⟨wr.heap.size, 0, none⟩) ([([] : List UInt8)].flatMap txtV) from lies_of_row ra rfl)
        have HA := Lib.hid (And.intro ka (And.intro (HR.out.o.keeps ka) (And.intro (HR.out.k.then_ ka) hln)))
        clear ra ka hcut ha hln
        go_wp2_with (at_builtin; refine wpList_append_N elemTxt encTxt rfl (.tmp 16) (.tmp 17) rfl w.heap.size (.slice A (m + 1) c) (some ⟨wr.heap.size, 0, none⟩) 1 1 l [[]] rfl rfl rfl HA.out.2.1 HLa.out (by have := HA.out.2.2.2; simp; omega) HA.out.2.2.1.size ?_; intro A5 c5 w5 l5 hl5 hlen5 ho5 hk5 _; have H5 := Lib.hid (And.intro hl5.out (And.intro ho5 hk5)); have hl5n : l5.length = m + 2 := (by have := HA.out.2.2.2; rw [hl5.out, List.length_append, List.length_singleton]; omega); rw [hl5n]; clear hl5 ho5 hk5 hlen5)
        have ho := H5.out.2.1
        rw [hl5n, H5.out.1] at ho
        exact ⟨⟨k + 1, m + 1, c5, A5, l ++ [[]], by omega, by go_num, rfl, by omega, Lib.hid ⟨HL.out, ho, HA.out.2.2.1.trans H5.out.2.2 fun x hx hlt => by
          have := (HA.out.2.1.rows x hx).1
          omega⟩⟩, by simp [intOf]; omega⟩
      · have hb : (((a.toNat : Int)) == 47) = false := by
          rw [beq_eq_false_iff_ne]
          intro h
          exact h47 (UInt8.toNat_inj.1 (by simpa using (show a.toNat = 47 by omega)))
        have hln : m + 1 = l.length := HR.out.o.lies1.1
        have hml : m < l.length := by omega
        have HL := Lib.hid (show tLev (s.take (k + 1)) = l.set m (l[m] ++ [a]) by
          rw [HT.out]
          exact tLev_set h47 HR.out.e hln.symm hml)
        obtain ⟨g, cur, rfl, -, hgB, hr, hc, -⟩ := OwnN.one (q := fun a => .string ⟨a.toArray⟩) (fun _ => rfl) HR.out.o hml
        obtain ⟨X, hX⟩ : ∃ X, l[m] = X := ⟨_, rfl⟩
        rw [hX] at hc HL
        have hXl : X.length ≤ 60000 := by
          have h1 : X ∈ tLev (s.take k) := by rw [HR.out.e, ← hX]; exact List.getElem_mem hml
          have := tLev_size h1
          rw [List.length_take] at this
          omega
        obtain ⟨LS, hLS⟩ : ∃ LS : ByteArray, (⟨X.toArray⟩ : ByteArray) = LS := ⟨_, rfl⟩
        have hLz : LS.size ≤ 60000 := by rw [← hLS]; exact hXl
        have hcat : LS ++ S.extract k (k + 1) = ⟨(X ++ [a]).toArray⟩ := by rw [hcut, ← hLS, txt_app]
        obtain ⟨CS, hCS⟩ : ∃ CS, S.extract k (k + 1) = CS := ⟨_, rfl⟩
        have hCz : CS.size = 1 := by rw [← hCS, hcut]; rfl
        rw [hCS] at hcat
        rw [hLS] at hc
        have M1 := fun (W' : World) (hW : Keeps wr W' []) => ((hr.keeps hW).cell m).trans hc
        have HG := Lib.hid (And.intro hr (And.intro hgB (And.intro hcat (And.intro hml hln))))
        clear hr hgB hc hX hLS hcut hcat hXl hml hln
        go_upto_region 7 with fail
        have hw1 : IntKind.i64.wrap (m : Int) = m := IntWalk.i64_in _ (by omega)
        have hw2 : IntKind.i64.wrap ((k : Int) + 1) = k + 1 := IntWalk.i64_in _ (by omega)
        have hw3 : ((k : Int) + 1).toNat = k + 1 := by omega
        have hw4 : (k : Int) + 1 ≤ s.length := by omega
        have hw5 : (k : Int) ≤ k + 1 := by omega
        have hw6 : (0 : Int) ≤ k + 1 := by omega
        have hw7 : (m : Int) < m + 1 := by omega
        have hw8 : ¬ 9223372036854775807 < LS.size + 1 := by omega
        refine wp_region_tail KeepsAll _ 16 (by kernel_rfl) rfl (by kernel_rfl) (fun _ => Keeps.refl _ _) (fun _ _ _ h k => h.trans k (by simp)) (Keeps.drew _) ?_
        simp only [List.take_succ_cons, List.take_zero, List.drop_succ_cons, List.drop_zero]
        apply loose_is
        · intro W vals hW hkn
          clear hkn
          refine ⟨?_⟩
          simp only [fill]
          go_simp
          first | exact ⟨Keeps.refl _ _, rfl⟩ | exact ⟨Keeps.alloc _ _, rfl⟩
        simp only [addEnt]
        apply loose_is
        · intro W vals hW hkn
          clear hkn
          refine ⟨?_⟩
          simp only [fill]
          go_simp
          first | exact ⟨Keeps.refl _ _, rfl⟩ | exact ⟨Keeps.alloc _ _, rfl⟩
        simp only [addEnt]
        apply loose_is
        · intro W vals hW hkn
          clear hkn
          refine ⟨?_⟩
          simp only [fill]
          go_simp
          first | exact ⟨Keeps.refl _ _, rfl⟩ | exact ⟨Keeps.alloc _ _, rfl⟩
        simp only [addEnt]
        apply loose_is
        · intro W vals hW hkn
          clear hkn
          refine ⟨?_⟩
          simp only [fill]
          go_simp
          first | exact ⟨Keeps.refl _ _, rfl⟩ | exact ⟨Keeps.alloc _ _, rfl⟩
        simp only [addEnt]
        apply loose_is
        · intro W vals hW hkn
          clear hkn
          refine ⟨?_⟩
          simp only [fill]
          go_simp
          first | exact ⟨Keeps.refl _ _, rfl⟩ | exact ⟨Keeps.alloc _ _, rfl⟩
        simp only [addEnt]
        apply loose_is
        · intro W vals hW hkn
          clear hkn
          refine ⟨?_⟩
          simp only [fill]
          go_simp
          first | exact ⟨Keeps.refl _ _, rfl⟩ | exact ⟨Keeps.alloc _ _, rfl⟩
        simp only [addEnt]
        apply loose_is
        · intro W vals hW hkn
          clear hkn
          refine ⟨?_⟩
          simp only [fill]
          go_simp
          first | exact ⟨Keeps.refl _ _, rfl⟩ | exact ⟨Keeps.alloc _ _, rfl⟩
        simp only [addEnt]
        apply loose_is
        · intro W vals hW hkn
          clear hkn
          refine ⟨?_⟩
          simp only [fill]
          go_simp
          first | exact ⟨Keeps.refl _ _, rfl⟩ | exact ⟨Keeps.alloc _ _, rfl⟩
        simp only [addEnt]
        apply loose_is
        · intro W vals hW hkn
          clear hkn
          refine ⟨?_⟩
          simp only [fill]
          go_simp
          first | exact ⟨Keeps.refl _ _, rfl⟩ | exact ⟨Keeps.alloc _ _, rfl⟩
        simp only [addEnt]
        apply loose_is
        · intro W vals hW hkn
          simp only [knows] at hkn
          try simp only [and_true] at hkn
          clear hkn; have m1 := M1 W hW
          refine ⟨?_⟩
          simp only [fill]
          go_simp
          first | exact ⟨Keeps.refl _ _, rfl⟩ | exact ⟨Keeps.alloc _ _, rfl⟩
        simp only [addEnt]
        apply loose_is
        · intro W vals hW hkn
          clear hkn
          refine ⟨?_⟩
          simp only [fill]
          go_simp
          first | exact ⟨Keeps.refl _ _, rfl⟩ | exact ⟨Keeps.alloc _ _, rfl⟩
        simp only [addEnt]
        apply loose_is
        · intro W vals hW hkn
          clear hkn
          refine ⟨?_⟩
          simp only [fill]
          go_simp
          first | exact ⟨Keeps.refl _ _, rfl⟩ | exact ⟨Keeps.alloc _ _, rfl⟩
        simp only [addEnt]
        apply loose_is
        · intro W vals hW hkn
          clear hkn
          refine ⟨?_⟩
          simp only [fill]
          go_simp
          first | exact ⟨Keeps.refl _ _, rfl⟩ | exact ⟨Keeps.alloc _ _, rfl⟩
        simp only [addEnt]
        apply loose_is
        · intro W vals hW hkn
          clear hkn
          refine ⟨?_⟩
          simp only [fill]
          go_simp
          first | exact ⟨Keeps.refl _ _, rfl⟩ | exact ⟨Keeps.alloc _ _, rfl⟩
        simp only [addEnt]
        apply loose_is
        · intro W vals hW hkn
          clear hkn
          refine ⟨?_⟩
          simp only [fill]
          go_simp
          first | exact ⟨Keeps.refl _ _, rfl⟩ | exact ⟨Keeps.alloc _ _, rfl⟩
        simp only [addEnt]
        apply loose_is
        · intro W vals hW hkn
          clear hkn
          refine ⟨?_⟩
          simp only [fill]
          go_simp
          first | exact ⟨Keeps.refl _ _, rfl⟩ | exact ⟨Keeps.alloc _ _, rfl⟩
        simp only [addEnt]
        refine loose_nil (fun W vals hW hkn => ?_)
        simp only [knowsAll] at hkn
        try simp only [and_true] at hkn
        simp only [fill, Act.put, List.setIfInBounds_toArray, List.set_cons_succ, List.set_cons_zero]
        clear hkn
        have hr := HG.out.1.keeps hW
        have d0 := M1 W hW
        have g0 := hr.frozen m
        have HW := Lib.hid (show Keeps wr W [] from hW)
        clear hr hW M1
        go_wp2_with fail
        obtain ⟨g', cur', e1, -, hgB, hr, hc, ho⟩ := OwnN.one (q := fun a => .string ⟨a.toArray⟩) (fun _ => rfl) (HR.out.o.keeps HW.out) HG.out.2.2.2.1
        injection e1 with e1
        injection e1 with e1
        subst e1
        have ho := ho (X ++ [a])
        rw [← HG.out.2.2.1] at ho
        exact ⟨⟨k + 1, m, c, _, _, by omega, by go_num, rfl, by omega, Lib.hid ⟨HL.out, ho, (HR.out.k.then_ HW.out).trans (Keeps.setCell _ _ _) fun x hx hlt => by
          simp at hx
          omega⟩⟩, by simp [intOf]; omega⟩
    · obtain rfl : k = s.length := by omega
      have HE := Lib.hid (show tLev s = l by rw [← HR.out.e, List.take_length])
      go_wp2_with fail
      go_ret
      have := HR.out.o.lies1
      exact ⟨A, c, by rw [HE.out, ← this.1]; rfl, by rw [HE.out]; exact OwnN.cap HR.out.o, by rw [HE.out]; exact this.2, HR.out.k⟩
end Go.Proofs.YtbjoobanbejgbaaDoor

namespace Go.Proofs.YtbjoobanbejgbaaDoor
open Go.RowKit Go.Shelf

theorem tOks_at (L : List (List UInt8)) : tOks L = true ↔ ∀ j (h : j < L.length), tOk L[j] (j + 1 == L.length) = true := by
  rw [tOks_seq, List.all_eq_true]
  constructor
  · intro h j hj
    have := h ((tSeq L)[j]'(by rw [tSeq_len]; exact hj)) (List.getElem_mem _)
    rwa [tSeq_get hj] at this
  · intro h x hx
    obtain ⟨j, hj, rfl⟩ := List.mem_iff_getElem.1 hx
    rw [tSeq_len] at hj
    rw [tSeq_get hj]
    exact h j hj
set_option maxRecDepth 100000 in
set_option maxHeartbeats 2000000 in
theorem rFilter_any (w : World) (s : List UInt8) (hs : s.length ≤ 60000) : Calls Tryd.prog 10 #[.string ⟨s.toArray⟩] w (TruePost w (tFilter s)) := by
  obtain ⟨S, hS⟩ : ∃ S : ByteArray, (⟨s.toArray⟩ : ByteArray) = S := ⟨_, rfl⟩
  have HS := Lib.hid (show ∀ w : World, (Calls Tryd.prog 25 #[.string S] w fun e w' => e = .returned (.bool (tSaid s)) ∧ Keeps w w' []) ∧ Calls Tryd.prog 20 #[.string S] w (LvPost w s) from fun w => by
    rw [← hS]
    exact ⟨rSaid_any w s hs, rLevels_any w s hs⟩)
  rw [hS]
  clear hS
  go_enter Tryd.func10, Tryd.ntmps10
  go_wp2_with fail
  refine (HS.out _).1.mono ?_
  rintro e w1 ⟨rfl, hk⟩
  have HK := Lib.hid hk
  clear hk
  cases hg : tSaid s with
  | false =>
    have HT := Lib.hid (show tFilter s = false by unfold tFilter; rw [hg]; rfl)
    clear hg
    go_wp2_with fail
    go_ret
    exact ⟨by rw [HT.out]; rfl, HK.out⟩
  | true =>
    have HT := Lib.hid (show tFilter s = tOks (tLev s) by unfold tFilter; rw [hg]; rfl)
    clear hg
    go_wp2_with fail
    refine (HS.out _).2.mono ?_
    rintro e w2 ⟨A, c, rfl, -, hL, hk⟩
    have HK2 := Lib.hid (HK.out.then_ hk)
    have HB := Lib.hid (And.intro (fun y (h : y ∈ tLev s) => tLev_size h) (tLev_len s))
    have hn : (tLev s).length ≤ 60001 := by have := tLev_len s; omega
    generalize tLev s = l at *
    have HL := Lib.hid hL
    clear hk hL HK
    go_wp2_with fail
    go_loop [4] (fun i => ∃ k : Nat, k ≤ l.length ∧ i = .int .i64 k ∧ Hid (∀ j (h : j < l.length), j < k → tOk l[j] (j + 1 == l.length) = true)) (fun i => l.length - (intOf i).toNat)
    case atStart => exact ⟨0, by omega, rfl, Lib.hid fun j h h2 => by omega⟩
    case round =>
      obtain ⟨k, hk, rfl, HR⟩ := hrel
      by_cases hlt : k < l.length
      · obtain ⟨g, o, rfl, hb, hcx⟩ := HL.out.at_ (k := k) (by simpa using hlt)
        rw [List.getElem_map] at hcx
        obtain ⟨y, hy⟩ : ∃ y, l[k] = y := ⟨_, rfl⟩
        have HN := Lib.hid (show tOk y (k + 1 == l.length) = true → ∀ j (h : j < l.length), j < k + 1 → tOk l[j] (j + 1 == l.length) = true from fun hq j h h2 => by
          rcases Nat.lt_or_ge j k with g | g
          · exact HR.out j h g
          · obtain rfl : j = k := by omega
            rw [hy]
            exact hq)
        have HF := Lib.hid (show tOk y (k + 1 == l.length) = false → tFilter s = false from fun hq => by
          rw [HT.out, ← Bool.not_eq_true, tOks_at]
          intro h
          have := h k hlt
          rw [hy, hq] at this
          cases this)
        have hyl : y.length ≤ 60000 := by have := HB.out.1 y (by rw [← hy]; exact List.getElem_mem hlt); omega
        rw [hy] at hcx
        obtain ⟨Y, hY⟩ : ∃ Y : ByteArray, (⟨y.toArray⟩ : ByteArray) = Y := ⟨_, rfl⟩
        have HG := Lib.hid (show Calls Tryd.prog 26 #[.string Y] w2 fun e w' => e = .returned (.int .i64 (tSignN y : Nat)) ∧ w2 = w' by
          rw [← hY]
          exact rSigns_any w2 y hyl)
        have eY : Y.toList = y := by rw [← hY, Lib.toList_data]
        rw [hY] at hcx
        clear hy hb
        go_wp2_with fail
        refine HG.out.mono ?_
        rintro e w3 ⟨rfl, rfl⟩
        cases hsg : tSign y with
        | false =>
          have h0 := (tSignN_zero y).2 hsg
          have HO := Lib.hid (show tOk y (k + 1 == l.length) = true by unfold tOk; rw [hsg]; simp)
          rw [h0]
          clear h0 hsg eY hY
          go_wp2_with fail
          exact ⟨⟨k + 1, by omega, by go_num, Lib.hid (HN.out HO.out)⟩, by simp [intOf]; omega⟩
        | true =>
          have hpos : 0 < tSignN y := by
            rcases Nat.eq_zero_or_pos (tSignN y) with h | h
            · rw [(tSignN_zero y).1 h] at hsg; cases hsg
            · exact h
          obtain ⟨q, hq⟩ : ∃ q, tSignN y = q := ⟨_, rfl⟩
          rw [hq] at hpos ⊢
          have HO := Lib.hid (show tOk y (k + 1 == l.length) = (y == [43] || (y == [35] && (k + 1 == l.length))) by unfold tOk; rw [hsg]; simp)
          clear hq hsg
          by_cases h43 : y = [43]
          · have e43 : (Y.toList == [43]) = true := by rw [eY, h43]; rfl
            have HP := Lib.hid (HN.out (by rw [HO.out, h43]; rfl))
            clear h43 eY hY
            go_wp2_with fail
            exact ⟨⟨k + 1, by omega, by go_num, HP⟩, by simp [intOf]; omega⟩
          · have e43 : (Y.toList == [43]) = false := by rw [eY]; simpa using h43
            have n43 : (y == [43]) = false := by simpa using h43
            by_cases h35 : y = [35]
            · have e35 : (Y.toList == [35]) = true := by rw [eY, h35]; rfl
              by_cases hla : k + 1 = l.length
              · have HP := Lib.hid (HN.out (by rw [HO.out, h35, hla]; simp))
                have hkl : ((k : Int) == l.length - 1) = true := by rw [beq_iff_eq]; omega
                clear h35 eY hY h43 n43
                go_wp2_with fail
                exact ⟨⟨k + 1, by omega, by go_num, HP⟩, by simp [intOf]; omega⟩
              · have HP := Lib.hid (HF.out (by rw [HO.out, h35]; simpa using hla))
                have hkl : ((k : Int) == l.length - 1) = false := by rw [beq_eq_false_iff_ne]; omega
                clear h35 eY hY h43 n43
                go_wp2_with fail
                go_ret
                exact ⟨by rw [HP.out]; rfl, HK2.out⟩
            · have e35 : (Y.toList == [35]) = false := by rw [eY]; simpa using h35
              have HP := Lib.hid (HF.out (by rw [HO.out, n43, show (y == [35]) = false by simpa using h35]; rfl))
              clear h35 eY hY h43 n43
              go_wp2_with fail
              go_ret
              exact ⟨by rw [HP.out]; rfl, HK2.out⟩
      · obtain rfl : k = l.length := by omega
        have HP := Lib.hid (show tFilter s = true by rw [HT.out, tOks_at]; exact fun j h => HR.out j h h)
        go_wp2_with fail
        go_ret
        exact ⟨by rw [HP.out]; rfl, HK2.out⟩
end Go.Proofs.YtbjoobanbejgbaaDoor

namespace Go.Proofs.YtbjoobanbejgbaaDoor
open Go.RowKit Go.Shelf

/-- A list behind its first element. -/
theorem lies_tail {w : World} {g o c : Nat} {x : List UInt8} {l : List (List UInt8)} (h : Lies w w.heap.size (some ⟨g, o, none⟩) (txL (x :: l))) (hc : (x :: l).length ≤ c) : Lies w w.heap.size (if c = 1 then some ⟨g, o, none⟩ else some ⟨g, o + 1, none⟩) (txL l) ∧ l.length ≤ c - 1 := by
  rw [List.length_cons] at hc
  refine ⟨fun hp => ?_, by omega⟩
  have hl : 0 < l.length := by simpa using hp
  obtain ⟨b, o', e, hb, hcx⟩ := h (by simp)
  injection e with e
  injection e with e1 e2
  subst e1 e2
  refine ⟨g, o + 1, if_neg (by omega), hb, fun j u hu => ?_⟩
  rw [Nat.add_assoc, Nat.add_comm 1 j]
  exact hcx (j + 1) u hu
set_option maxRecDepth 100000 in
set_option maxHeartbeats 2000000 in
theorem rMeetsL_any (la : List (List UInt8)) : ∀ (lb : List (List UInt8)) (w : World) (A B : Option Addr) (c d : Nat) (_ : Lies w w.heap.size A (txL la)) (_ : Lies w w.heap.size B (txL lb)) (_ : la.length ≤ c) (_ : lb.length ≤ d),
    Calls Tryd.prog 27 #[.slice A la.length c, .slice B lb.length d] w (TruePost w (tMeetL la lb)) := by
  induction la with
  | nil =>
    intro lb w A B c d hA hB hc hd
    cases lb with
    | nil =>
      have HT := Lib.hid (show tMeetL [] [] = true from rfl)
      go_enter Tryd.func27, Tryd.ntmps27
      go_wp2_with fail
      go_ret
      exact ⟨by rw [HT.out]; rfl, Keeps.refl _ _⟩
    | cons x xs =>
      have HT := Lib.hid (show tMeetL [] (x :: xs) = false from rfl)
      have n1 : (((xs.length : Int) + 1) == 0) = false := by simp only [beq_eq_false_iff_ne]; omega
      go_enter Tryd.func27, Tryd.ntmps27
      go_wp2_with fail
      go_ret
      exact ⟨by rw [HT.out]; rfl, Keeps.refl _ _⟩
  | cons f fs ih =>
    intro lb w A B c d hA hB hc hd
    obtain ⟨ga, oa, rfl, hga, hca⟩ := hA (by simp)
    have ha0 : w.cell? ⟨ga, oa, none⟩ = some (.string ⟨f.toArray⟩) := by
      have := hca 0 _ rfl
      rwa [Nat.add_zero] at this
    obtain ⟨X, hX⟩ : ∃ S : ByteArray, (⟨f.toArray⟩ : ByteArray) = S := ⟨_, rfl⟩
    have eX : X.toList = f := by rw [← hX, Lib.toList_data]
    have n2 : (((fs.length : Int) + 1) == 0) = false := by simp only [beq_eq_false_iff_ne]; omega
    have p2 : (0 : Int) < (fs.length : Int) + 1 := by omega
    rw [hX] at ha0
    by_cases h35 : f = [35]
    · have HT := Lib.hid (show tMeetL (f :: fs) lb = true by rw [tMeetL_cons, if_pos h35])
      have e35 : (X.toList == [35]) = true := by rw [eX, h35]; rfl
      clear hB hA ih h35 eX hX hca hga
      go_enter Tryd.func27, Tryd.ntmps27
      go_wp2_with fail
      go_ret
      exact ⟨by rw [HT.out]; rfl, Keeps.refl _ _⟩
    · have e35 : (X.toList == [35]) = false := by rw [eX]; simpa using h35
      cases lb with
      | nil =>
        have HT := Lib.hid (show tMeetL (f :: fs) [] = false by rw [tMeetL_cons, if_neg h35])
        clear hB hA ih h35 eX hX hca hga
        go_enter Tryd.func27, Tryd.ntmps27
        go_wp2_with fail
        go_ret
        exact ⟨by rw [HT.out]; rfl, Keeps.refl _ _⟩
      | cons x xs =>
        obtain ⟨gb, ob, rfl, hgb, hcb⟩ := hB (by simp)
        have hb0 : w.cell? ⟨gb, ob, none⟩ = some (.string ⟨x.toArray⟩) := by
          have := hcb 0 _ rfl
          rwa [Nat.add_zero] at this
        obtain ⟨Y, hY⟩ : ∃ S : ByteArray, (⟨x.toArray⟩ : ByteArray) = S := ⟨_, rfl⟩
        have eY : Y.toList = x := by rw [← hY, Lib.toList_data]
        rw [hY] at hb0
        have n1 : (((xs.length : Int) + 1) == 0) = false := by simp only [beq_eq_false_iff_ne]; omega
        have HT := Lib.hid (show tMeetL (f :: fs) (x :: xs) = ((f == [43] || f == x) && tMeetL fs xs) by rw [tMeetL_cons, if_neg h35])
        have HI := Lib.hid (show ∀ W, Keeps w W [] → Calls Tryd.prog 27 #[.slice (if c = 1 then some ⟨ga, oa, none⟩ else some ⟨ga, oa + 1, none⟩) fs.length (c - 1), .slice (if d = 1 then some ⟨gb, ob, none⟩ else some ⟨gb, ob + 1, none⟩) xs.length (d - 1)] W (TruePost W (tMeetL fs xs)) from fun W hk => by
          have q1 := lies_tail (hA.below (hk.below (Nat.le_refl _) (by simp)) |>.mono hk.size) hc
          have q2 := lies_tail (hB.below (hk.below (Nat.le_refl _) (by simp)) |>.mono hk.size) hd
          exact ih xs W _ _ _ _ q1.1 q2.1 q1.2 q2.2)
        have MA := fun (W' : World) (hW : Keeps w W' []) => (hW.cell (p := ⟨ga, oa, none⟩) hga (by simp)).trans ha0
        have MB := fun (W' : World) (hW : Keeps w W' []) => (hW.cell (p := ⟨gb, ob, none⟩) hgb (by simp)).trans hb0
        obtain ⟨t, ht⟩ : ∃ t, tMeetL fs xs = t := ⟨_, rfl⟩
        rw [ht] at HT HI
        obtain ⟨b1, h1⟩ : ∃ b1, (f == [43]) = b1 := ⟨_, rfl⟩
        obtain ⟨b2, h2⟩ : ∃ b2, (f == x) = b2 := ⟨_, rfl⟩
        rw [h1, h2] at HT
        have f1 : (X.toList == [43]) = b1 := by rw [eX]; exact h1
        have f2 : (X.toList == Y.toList) = b2 := by rw [eX, eY]; exact h2
        have l1 : (1 : Int) ≤ (fs.length : Int) + 1 := by omega
        have l2 : (1 : Int) ≤ (xs.length : Int) + 1 := by omega
        clear hB hA ih h35 eX hX eY hY hca hga hcb hgb h1 h2 ht
        cases b1 with
        | true =>
          go_enter Tryd.func27, Tryd.ntmps27
          go_wp2_with fail
          refine wp_region_keeps _ (by kernel_rfl) rfl (by kernel_rfl) ?_
          apply loose_is
          · intro W vals hW hkn
            clear hkn
            refine ⟨?_⟩
            simp only [fill]
            go_simp
            first | exact ⟨Keeps.refl _ _, rfl⟩ | exact ⟨Keeps.alloc _ _, rfl⟩
          simp only [addEnt]
          apply loose_is
          · intro W vals hW hkn
            clear hkn
            refine ⟨?_⟩
            simp only [fill]
            go_simp
            first | exact ⟨Keeps.refl _ _, rfl⟩ | exact ⟨Keeps.alloc _ _, rfl⟩
          simp only [addEnt]
          apply loose_is
          · intro W vals hW hkn
            simp only [knows] at hkn
            try simp only [and_true] at hkn
            clear hkn; have m1 := MA W hW
            refine ⟨?_⟩
            simp only [fill]
            go_simp
            first | exact ⟨Keeps.refl _ _, rfl⟩ | exact ⟨Keeps.alloc _ _, rfl⟩
          simp only [addEnt]
          apply loose_is
          · intro W vals hW hkn
            clear hkn
            refine ⟨?_⟩
            simp only [fill]
            go_simp
            first | exact ⟨Keeps.refl _ _, rfl⟩ | exact ⟨Keeps.alloc _ _, rfl⟩
          simp only [addEnt]
          apply loose_is
          · intro W vals hW hkn
            clear hkn
            refine ⟨?_⟩
            simp only [fill]
            go_simp
            first | exact ⟨Keeps.refl _ _, rfl⟩ | exact ⟨Keeps.alloc _ _, rfl⟩
          simp only [addEnt]
          refine loose_off (fun vals => by kernel_rfl) ?_
          simp only [addEnt]
          refine loose_off (fun vals => by kernel_rfl) ?_
          simp only [addEnt]
          refine loose_off (fun vals => by kernel_rfl) ?_
          simp only [addEnt]
          refine loose_off (fun vals => by kernel_rfl) ?_
          simp only [addEnt]
          refine loose_off (fun vals => by kernel_rfl) ?_
          simp only [addEnt]
          refine loose_off (fun vals => by kernel_rfl) ?_
          simp only [addEnt]
          refine loose_off (fun vals => by kernel_rfl) ?_
          simp only [addEnt]
          apply loose_is
          · intro W vals hW hkn
            clear hkn
            refine ⟨?_⟩
            simp only [fill]
            go_simp
            first | exact ⟨Keeps.refl _ _, rfl⟩ | exact ⟨Keeps.alloc _ _, rfl⟩
          simp only [addEnt]
          apply loose_is
          · intro W vals hW hkn
            clear hkn
            refine ⟨?_⟩
            simp only [fill]
            go_simp
            first | exact ⟨Keeps.refl _ _, rfl⟩ | exact ⟨Keeps.alloc _ _, rfl⟩
          simp only [addEnt]
          apply loose_is
          · intro W vals hW hkn
            clear hkn
            refine ⟨?_⟩
            simp only [fill]
            go_simp
            first | exact ⟨Keeps.refl _ _, rfl⟩ | exact ⟨Keeps.alloc _ _, rfl⟩
          simp only [addEnt]
          apply loose_is
          · intro W vals hW hkn
            clear hkn
            refine ⟨?_⟩
            simp only [fill]
            go_simp
            first | exact ⟨Keeps.refl _ _, rfl⟩ | exact ⟨Keeps.alloc _ _, rfl⟩
          simp only [addEnt]
          apply loose_is
          · intro W vals hW hkn
            clear hkn
            refine ⟨?_⟩
            simp only [fill]
            go_simp
            first | exact ⟨Keeps.refl _ _, rfl⟩ | exact ⟨Keeps.alloc _ _, rfl⟩
          simp only [addEnt]
          apply loose_is
          · intro W vals hW hkn
            clear hkn
            refine ⟨?_⟩
            simp only [fill]
            go_simp
            first | exact ⟨Keeps.refl _ _, rfl⟩ | exact ⟨Keeps.alloc _ _, rfl⟩
          simp only [addEnt]
          apply loose_is
          · intro W vals hW hkn
            clear hkn
            refine ⟨?_⟩
            simp only [fill]
            go_simp
            refine looseUpon_calls ?_
            exact (HI.out W hW).mono (by rintro e w3 ⟨rfl, hk⟩; exact ⟨_, rfl, hk, rfl⟩)
          simp only [addEnt]
          apply loose_is
          · intro W vals hW hkn
            clear hkn
            refine ⟨?_⟩
            simp only [fill]
            go_simp
            first | exact ⟨Keeps.refl _ _, rfl⟩ | exact ⟨Keeps.alloc _ _, rfl⟩
          simp only [addEnt]
          apply loose_is
          · intro W vals hW hkn
            clear hkn
            refine ⟨?_⟩
            simp only [fill]
            go_simp
            first | exact ⟨Keeps.refl _ _, rfl⟩ | exact ⟨Keeps.alloc _ _, rfl⟩
          simp only [addEnt]
          refine loose_nil (fun W vals hW hkn => ?_)
          simp only [knowsAll] at hkn
          try simp only [and_true] at hkn
          simp only [fill, Act.put, List.setIfInBounds_toArray, List.set_cons_succ, List.set_cons_zero]
          clear hkn MA MB HI
          generalize (if c = 1 then (some ⟨ga, oa, none⟩ : Option Addr) else some ⟨ga, oa + 1, none⟩) = u1
          generalize (if d = 1 then (some ⟨gb, ob, none⟩ : Option Addr) else some ⟨gb, ob + 1, none⟩) = u2
          go_wp2_with fail
          go_ret
          exact ⟨by rw [HT.out]; rfl, hW⟩
        | false =>
          go_enter Tryd.func27, Tryd.ntmps27
          go_wp2_with fail
          refine wp_region_keeps _ (by kernel_rfl) rfl (by kernel_rfl) ?_
          apply loose_is
          · intro W vals hW hkn
            clear hkn
            refine ⟨?_⟩
            simp only [fill]
            go_simp
            first | exact ⟨Keeps.refl _ _, rfl⟩ | exact ⟨Keeps.alloc _ _, rfl⟩
          simp only [addEnt]
          apply loose_is
          · intro W vals hW hkn
            clear hkn
            refine ⟨?_⟩
            simp only [fill]
            go_simp
            first | exact ⟨Keeps.refl _ _, rfl⟩ | exact ⟨Keeps.alloc _ _, rfl⟩
          simp only [addEnt]
          apply loose_is
          · intro W vals hW hkn
            simp only [knows] at hkn
            try simp only [and_true] at hkn
            clear hkn; have m1 := MA W hW
            refine ⟨?_⟩
            simp only [fill]
            go_simp
            first | exact ⟨Keeps.refl _ _, rfl⟩ | exact ⟨Keeps.alloc _ _, rfl⟩
          simp only [addEnt]
          apply loose_is
          · intro W vals hW hkn
            clear hkn
            refine ⟨?_⟩
            simp only [fill]
            go_simp
            first | exact ⟨Keeps.refl _ _, rfl⟩ | exact ⟨Keeps.alloc _ _, rfl⟩
          simp only [addEnt]
          apply loose_is
          · intro W vals hW hkn
            clear hkn
            refine ⟨?_⟩
            simp only [fill]
            go_simp
            first | exact ⟨Keeps.refl _ _, rfl⟩ | exact ⟨Keeps.alloc _ _, rfl⟩
          simp only [addEnt]
          apply loose_is
          · intro W vals hW hkn
            clear hkn
            refine ⟨?_⟩
            simp only [fill]
            go_simp
            first | exact ⟨Keeps.refl _ _, rfl⟩ | exact ⟨Keeps.alloc _ _, rfl⟩
          simp only [addEnt]
          apply loose_is
          · intro W vals hW hkn
            clear hkn
            refine ⟨?_⟩
            simp only [fill]
            go_simp
            first | exact ⟨Keeps.refl _ _, rfl⟩ | exact ⟨Keeps.alloc _ _, rfl⟩
          simp only [addEnt]
          apply loose_is
          · intro W vals hW hkn
            simp only [knows] at hkn
            try simp only [and_true] at hkn
            clear hkn; have m1 := MA W hW
            refine ⟨?_⟩
            simp only [fill]
            go_simp
            first | exact ⟨Keeps.refl _ _, rfl⟩ | exact ⟨Keeps.alloc _ _, rfl⟩
          simp only [addEnt]
          apply loose_is
          · intro W vals hW hkn
            clear hkn
            refine ⟨?_⟩
            simp only [fill]
            go_simp
            first | exact ⟨Keeps.refl _ _, rfl⟩ | exact ⟨Keeps.alloc _ _, rfl⟩
          simp only [addEnt]
          apply loose_is
          · intro W vals hW hkn
            clear hkn
            refine ⟨?_⟩
            simp only [fill]
            go_simp
            first | exact ⟨Keeps.refl _ _, rfl⟩ | exact ⟨Keeps.alloc _ _, rfl⟩
          simp only [addEnt]
          apply loose_is
          · intro W vals hW hkn
            simp only [knows] at hkn
            try simp only [and_true] at hkn
            clear hkn; have m1 := MB W hW
            refine ⟨?_⟩
            simp only [fill]
            go_simp
            first | exact ⟨Keeps.refl _ _, rfl⟩ | exact ⟨Keeps.alloc _ _, rfl⟩
          simp only [addEnt]
          apply loose_is
          · intro W vals hW hkn
            clear hkn
            refine ⟨?_⟩
            simp only [fill]
            go_simp
            first | exact ⟨Keeps.refl _ _, rfl⟩ | exact ⟨Keeps.alloc _ _, rfl⟩
          simp only [addEnt]
          apply loose_is
          · intro W vals hW hkn
            clear hkn
            refine ⟨?_⟩
            simp only [fill]
            go_simp
            first | exact ⟨Keeps.refl _ _, rfl⟩ | exact ⟨Keeps.alloc _ _, rfl⟩
          simp only [addEnt]
          apply loose_is
          · intro W vals hW hkn
            clear hkn
            refine ⟨?_⟩
            simp only [fill]
            go_simp
            first | exact ⟨Keeps.refl _ _, rfl⟩ | exact ⟨Keeps.alloc _ _, rfl⟩
          simp only [addEnt]
          cases b2 with
          | false =>
            refine loose_off (fun vals => by kernel_rfl) ?_
            simp only [addEnt]
            refine loose_off (fun vals => by kernel_rfl) ?_
            simp only [addEnt]
            refine loose_off (fun vals => by kernel_rfl) ?_
            simp only [addEnt]
            refine loose_off (fun vals => by kernel_rfl) ?_
            simp only [addEnt]
            refine loose_off (fun vals => by kernel_rfl) ?_
            simp only [addEnt]
            apply loose_is
            · intro W vals hW hkn
              clear hkn
              refine ⟨?_⟩
              simp only [fill]
              go_simp
              first | exact ⟨Keeps.refl _ _, rfl⟩ | exact ⟨Keeps.alloc _ _, rfl⟩
            simp only [addEnt]
            apply loose_is
            · intro W vals hW hkn
              clear hkn
              refine ⟨?_⟩
              simp only [fill]
              go_simp
              first | exact ⟨Keeps.refl _ _, rfl⟩ | exact ⟨Keeps.alloc _ _, rfl⟩
            simp only [addEnt]
            refine loose_nil (fun W vals hW hkn => ?_)
            simp only [knowsAll] at hkn
            try simp only [and_true] at hkn
            simp only [fill, Act.put, List.setIfInBounds_toArray, List.set_cons_succ, List.set_cons_zero]
            clear hkn MA MB
            go_wp2_with fail
            go_ret
            exact ⟨by rw [HT.out]; rfl, hW⟩
          | true =>
            apply loose_is
            · intro W vals hW hkn
              clear hkn
              refine ⟨?_⟩
              simp only [fill]
              go_simp
              first | exact ⟨Keeps.refl _ _, rfl⟩ | exact ⟨Keeps.alloc _ _, rfl⟩
            simp only [addEnt]
            apply loose_is
            · intro W vals hW hkn
              clear hkn
              refine ⟨?_⟩
              simp only [fill]
              go_simp
              first | exact ⟨Keeps.refl _ _, rfl⟩ | exact ⟨Keeps.alloc _ _, rfl⟩
            simp only [addEnt]
            apply loose_is
            · intro W vals hW hkn
              clear hkn
              refine ⟨?_⟩
              simp only [fill]
              go_simp
              first | exact ⟨Keeps.refl _ _, rfl⟩ | exact ⟨Keeps.alloc _ _, rfl⟩
            simp only [addEnt]
            apply loose_is
            · intro W vals hW hkn
              clear hkn
              refine ⟨?_⟩
              simp only [fill]
              go_simp
              first | exact ⟨Keeps.refl _ _, rfl⟩ | exact ⟨Keeps.alloc _ _, rfl⟩
            simp only [addEnt]
            apply loose_is
            · intro W vals hW hkn
              clear hkn
              refine ⟨?_⟩
              simp only [fill]
              go_simp
              refine looseUpon_calls ?_
              exact (HI.out W hW).mono (by rintro e w3 ⟨rfl, hk⟩; exact ⟨_, rfl, hk, rfl⟩)
            simp only [addEnt]
            apply loose_is
            · intro W vals hW hkn
              clear hkn
              refine ⟨?_⟩
              simp only [fill]
              go_simp
              first | exact ⟨Keeps.refl _ _, rfl⟩ | exact ⟨Keeps.alloc _ _, rfl⟩
            simp only [addEnt]
            apply loose_is
            · intro W vals hW hkn
              clear hkn
              refine ⟨?_⟩
              simp only [fill]
              go_simp
              first | exact ⟨Keeps.refl _ _, rfl⟩ | exact ⟨Keeps.alloc _ _, rfl⟩
            simp only [addEnt]
            refine loose_nil (fun W vals hW hkn => ?_)
            simp only [knowsAll] at hkn
            try simp only [and_true] at hkn
            simp only [fill, Act.put, List.setIfInBounds_toArray, List.set_cons_succ, List.set_cons_zero]
            clear hkn MA MB HI
            generalize (if c = 1 then (some ⟨ga, oa, none⟩ : Option Addr) else some ⟨ga, oa + 1, none⟩) = u1
            generalize (if d = 1 then (some ⟨gb, ob, none⟩ : Option Addr) else some ⟨gb, ob + 1, none⟩) = u2
            go_wp2_with fail
            go_ret
            exact ⟨by rw [HT.out]; rfl, hW⟩
set_option maxRecDepth 100000 in
set_option maxHeartbeats 2000000 in
theorem rMeets_any (w : World) (f n : List UInt8) (hf : f.length ≤ 60000) (hn : n.length ≤ 60000) (hf0 : f ≠ []) (hn0 : n ≠ []) : Calls Tryd.prog 12 #[.string ⟨f.toArray⟩, .string ⟨n.toArray⟩] w (TruePost w (tMeets f n)) := by
  obtain ⟨F, hF⟩ : ∃ S : ByteArray, (⟨f.toArray⟩ : ByteArray) = S := ⟨_, rfl⟩
  obtain ⟨N, hN⟩ : ∃ S : ByteArray, (⟨n.toArray⟩ : ByteArray) = S := ⟨_, rfl⟩
  have HS := Lib.hid (show ∀ w : World, Calls Tryd.prog 20 #[.string F] w (LvPost w f) ∧ Calls Tryd.prog 20 #[.string N] w (LvPost w n) from fun w => by
    rw [← hF, ← hN]
    exact ⟨rLevels_any w f hf, rLevels_any w n hn⟩)
  have fz : F.size = f.length := by rw [← hF]; rfl
  have nz : N.size = n.length := by rw [← hN]; rfl
  obtain ⟨b, f', ef⟩ : ∃ b f', f = b :: f' := List.exists_cons_of_ne_nil hf0
  obtain ⟨a, n', en⟩ : ∃ a n', n = a :: n' := List.exists_cons_of_ne_nil hn0
  have i1 : ∀ h, F[0]'h = b := fun h => by
    rw [str_get hF (by rw [ef]; simp) h]
    simp [ef]
  have i2 : ∀ h, N[0]'h = a := fun h => by
    rw [str_get hN (by rw [en]; simp) h]
    simp [en]
  have p1 : 0 < F.size := by rw [fz, ef]; simp
  have p2 : 0 < N.size := by rw [nz, en]; simp
  have HM := Lib.hid (show tMeets f n = ((!(36 == a) || (!(43 == b) && !(35 == b))) && tMeetL (tLev f) (tLev n)) by
    unfold tMeets tStarts
    rw [ef, en]
    simp [List.isPrefixOf])
  have HB := Lib.hid (show (tLev f).length ≤ 60001 ∧ (tLev n).length ≤ 60001 by
    have := tLev_len f
    have := tLev_len n
    omega)
  rw [hF, hN]
  have kb : ∀ (x : UInt8) (c : Nat), c < 256 → ((x.toNat : Int) == (c : Int)) = (UInt8.ofNat c == x) := fun x c hc => by
    rw [Bool.eq_iff_iff, beq_iff_eq, beq_iff_eq]
    constructor
    · intro h
      have h2 : x.toNat = c := by omega
      rw [← h2]
      exact UInt8.ofNat_toNat
    · intro h
      rw [← h]
      simp
      omega
  obtain ⟨b1, h1⟩ : ∃ b1, ((36 : UInt8) == a) = b1 := ⟨_, rfl⟩
  obtain ⟨b2, h2⟩ : ∃ b2, ((43 : UInt8) == b) = b2 := ⟨_, rfl⟩
  obtain ⟨b3, h3⟩ : ∃ b3, ((35 : UInt8) == b) = b3 := ⟨_, rfl⟩
  have k1 : ((a.toNat : Int) == 36) = b1 := (kb a 36 (by omega)).trans h1
  have k2 : ((b.toNat : Int) == 43) = b2 := (kb b 43 (by omega)).trans h2
  have k3 : ((b.toNat : Int) == 35) = b3 := (kb b 35 (by omega)).trans h3
  rw [h1, h2, h3] at HM
  clear hF hN ef en h1 h2 h3 kb hf0 hn0 hf hn fz nz
  cases b1 with
  | false =>
    go_enter Tryd.func12, Tryd.ntmps12
    go_wp2_with fail
    refine (HS.out _).1.mono ?_
    rintro e w1 ⟨A, c, rfl, hc1, hL1, hk1⟩
    have H1 := Lib.hid (And.intro hL1 (And.intro hk1 hc1))
    clear hL1 hk1 hc1
    go_wp2_with fail
    refine (HS.out _).2.mono ?_
    rintro e w2 ⟨B, d, rfl, hc2, hL2, hk2⟩
    have hL1 := H1.out.1.below (hk2.below (Nat.le_refl _) (by simp)) |>.mono hk2.size
    have HC := Lib.hid (rMeetsL_any (tLev f) (tLev n) w2 A B c d hL1 hL2 H1.out.2.2 hc2)
    have H2 := Lib.hid (H1.out.2.1.then_ hk2)
    clear hL1 hL2 hk2 H1 hc2
    go_wp2_with fail
    refine HC.out.mono ?_
    rintro e w3 ⟨rfl, hk3⟩
    have H3 := Lib.hid (H2.out.then_ hk3)
    clear hk3
    go_wp2_with fail
    go_ret
    exact ⟨by rw [HM.out]; rfl, H3.out⟩
  | true =>
    cases b2 with
    | true =>
      go_enter Tryd.func12, Tryd.ntmps12
      go_wp2_with fail
      go_ret
      exact ⟨by rw [HM.out]; rfl, Keeps.refl _ _⟩
    | false =>
      cases b3 with
      | true =>
        go_enter Tryd.func12, Tryd.ntmps12
        go_wp2_with fail
        go_ret
        exact ⟨by rw [HM.out]; rfl, Keeps.refl _ _⟩
      | false =>
        go_enter Tryd.func12, Tryd.ntmps12
        go_wp2_with fail
        refine (HS.out _).1.mono ?_
        rintro e w1 ⟨A, c, rfl, hc1, hL1, hk1⟩
        have H1 := Lib.hid (And.intro hL1 (And.intro hk1 hc1))
        clear hL1 hk1 hc1
        go_wp2_with fail
        refine (HS.out _).2.mono ?_
        rintro e w2 ⟨B, d, rfl, hc2, hL2, hk2⟩
        have hL1 := H1.out.1.below (hk2.below (Nat.le_refl _) (by simp)) |>.mono hk2.size
        have HC := Lib.hid (rMeetsL_any (tLev f) (tLev n) w2 A B c d hL1 hL2 H1.out.2.2 hc2)
        have H2 := Lib.hid (H1.out.2.1.then_ hk2)
        clear hL1 hL2 hk2 H1 hc2
        go_wp2_with fail
        refine HC.out.mono ?_
        rintro e w3 ⟨rfl, hk3⟩
        have H3 := Lib.hid (H2.out.then_ hk3)
        clear hk3
        go_wp2_with fail
        go_ret
        exact ⟨by rw [HM.out]; rfl, H3.out⟩
end Go.Proofs.YtbjoobanbejgbaaDoor
