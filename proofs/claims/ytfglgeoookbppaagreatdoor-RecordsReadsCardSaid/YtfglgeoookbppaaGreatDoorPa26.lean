/- Reference 12: Runes. Reference 13: said, Name. Reference 13: Levels. Reference 13: Filter. Reference 19: client, number, Placed; few of law 19. Reference 19: Right. -/
import Derived.Test.YtfglgeoookbppaaGreatDoorPa25
import Derived.Test.YtfglgeoookbppaaGreatDoorPa10
import Derived.Test.YtfglgeoookbppaaGreatDoorPa23
import Derived.Deep.DeepCutAuto

namespace Go.Proofs.YtfglgeoookbppaaGreatDoor
open Go.RowKit Go.Maps Go.Shelf

def runeE (x : Int) : List Value := [.int .i32 x]
theorem encRune : Enc 1 runeE := ⟨by omega, fun _ => rfl, fun a u hu => by obtain rfl := List.mem_singleton.1 hu; rfl⟩
theorem elemRune : ElemN Tryz.prog 97 21 1 := elemN_of (bytes := 4) (z := .int .i32 0) (by kernel_rfl) (by kernel_rfl) (by omega) rfl
structure RnAt (w wr : World) (s : List UInt8) (k : Nat) (v : Value) (l : List Int) : Prop where
 g : uGood s = uGood (s.drop k)
 ln : l.length ≤ k
 o : OwnN wr w.heap.size 21 1 runeE v l
 k : Keeps w wr []
def RnPost (w : World) (s : List UInt8) (e : Ending) (w' : World) : Prop := ∃ (v : Value) (a : Int), e = .returned (.tuple #[v, .int .i64 a]) ∧ (if uGood s = true then a = -1 else 0 ≤ a) ∧ Keeps w w' []
theorem RnAt.next {w wr w1 w2 w3 : World} {s : List UInt8} {k m : Nat} {v v' : Value} {l : List Int} {r : Int} (h : RnAt w wr s k v l) (hm : uFirst (s.drop k) = m) (hm0 : m ≠ 0) (hk : k < s.length) (k1 : Keeps wr w1 []) (k2 : Keeps w1 w2 []) (ho : OwnN w3 w.heap.size 21 1 runeE v' (l ++ [r])) (k3 : Keeps w2 w3 v.ownBlock.toList) : RnAt w w3 s (k + m) v' (l ++ [r]) := by
 refine ⟨?_, ?_, ho, ?_⟩
 ·rw [h.g, uGood_step (s := s.drop k) (fun e => by have := congrArg List.length e; rw [List.length_drop, List.length_nil] at this; omega), hm, if_neg hm0, List.drop_drop]
 ·have := h.ln
  rw [List.length_append, List.length_singleton]
  omega
 ·refine ((h.k.then_ k1).then_ k2).trans k3 fun x hx hlt => ?_
  have := (h.o.rows x hx).1
  omega
set_option maxRecDepth 100000 in
set_option maxHeartbeats 2000000 in
theorem rRunes_any (w : World) (s : List UInt8) (hs : s.length ≤ 60000) : Calls Tryz.prog 52 #[.string ⟨s.toArray⟩] w (RnPost w s) := by
 obtain ⟨S, hS⟩ : ∃ S : ByteArray, (⟨s.toArray⟩ : ByteArray) = S := ⟨_, rfl⟩
 have hsz : S.size = s.length := by rw [← hS]; rfl
 have HS := Lib.hid (And.intro hS hsz)
 rw [hS]
 clear hS
 go_enter Tryz.func52, Tryz.ntmps52
 go_wp2_with fail
 go_loopw [4, 5] (fun out i wr => ∃ (k n c : Nat) (A : Option Addr) (l : List Int), k ≤ s.length ∧ i = .int .i64 k ∧ out = .slice A n c ∧ Hid (RnAt w wr s k (.slice A n c) l)) (fun _ i _ => s.length - (intOf i).toNat)
 case atStart => exact ⟨0, 0, 0, none, [], by omega, rfl, rfl, Lib.hid ⟨rfl, by simp, OwnN.nil _ _ _ _ _, Keeps.refl _ _⟩⟩
 case round =>
  obtain ⟨k, n, c, A, l, hk, rfl, rfl, HR⟩ := hrel
  have hsl := HS.out.2
  by_cases hlt : k < s.length
  ·obtain ⟨T, hT⟩ : ∃ T, S.extract k S.size = T := ⟨_, rfl⟩
   have hT' : (⟨(s.drop k).toArray⟩ : ByteArray) = T := by
    rw [← hT, ← HS.out.1, str_cut, List.take_of_length_le]
    rw [List.length_drop]
    show s.length - k ≤ s.length - k
    omega
   have HF := Lib.hid (show ∀ w, Calls Tryz.prog 95 #[.string T] w (FiPost w (s.drop k)) from fun w => by
    rw [← hT']
    exact rFirst_any w _ (by rw [List.length_drop]; omega))
   rw [hsz] at hT
   have hkl : (k : Int) ≤ s.length := by omega
   obtain ⟨m, hm⟩ : ∃ m, uFirst (s.drop k) = m := ⟨_, rfl⟩
   have hml := (uFirst_len (s.drop k)).1
   rw [hm, List.length_drop] at hml
   have HM := Lib.hid (And.intro hm hlt)
   clear hT'
   go_wp2_with fail
   refine (HF.out _).mono ?_
   rintro e w1 ⟨r, rfl, _, hk1⟩
   rw [hm]
   have HK1 := Lib.hid hk1
   clear hk1 hm hT
   by_cases hm0 : m = 0
   ·have hme : ((m : Int) == 0) = true := by simp [hm0]
    go_wp2_with fail
    go_ret2
    have hu : uGood s = false := by
     rw [HR.out.g, uGood_step (s := s.drop k) (fun e => by have := congrArg List.length e; rw [List.length_drop, List.length_nil] at this; have := HM.out.2; omega), HM.out.1, if_pos hm0]
    exact ⟨_, _, rfl, by rw [hu]; simp, HR.out.k.then_ HK1.out⟩
   ·have hme : ((m : Int) == 0) = false := by simpa using hm0
    have h65 : decide ((k : Int) + m > 65535) = false := decide_eq_false (by omega)
    obtain ⟨Wa, hWa⟩ : ∃ Wa, w1.alloc (.cells #[.int .i32 (r : Int)] 21) = Wa := ⟨_, rfl⟩
    have ra : Row Wa w1.heap.size 21 #[.int .i32 (r : Int)] := by rw [← hWa]; exact Row.new _ _ _
    have ka : Keeps w1 Wa [] := by rw [← hWa]; exact Keeps.alloc _ _
    have HLa := Lib.hid (show Lies Wa Wa.heap.size (some ⟨w1.heap.size, 0, none⟩) ([(r : Int)].flatMap runeE) from lies_of_row ra rfl)
    have HA := Lib.hid (And.intro ka (And.intro ((HR.out.o.keeps HK1.out).keeps ka) ((HR.out.k.then_ HK1.out).then_ ka)))
    clear ra ka
    go_wp2_with (at_builtin; refine wpList_append_N elemRune encRune rfl (.tmp 28) (.tmp 30) rfl w.heap.size (.slice A n c) (some ⟨w1.heap.size, 0, none⟩) 1 1 l [(r : Int)] rfl rfl rfl HA.out.2.1 HLa.out (by have := HR.out.ln; simp; omega) HA.out.2.2.size ?_; intro A5 c5 w5 l5 hl5 hlen5 ho5 hk5 _; have H5 := Lib.hid (And.intro hl5.out (And.intro ho5 hk5)); clear hl5 ho5 hk5 hlen5)
    exact ⟨⟨k + m, _, c5, A5, l ++ [(r : Int)], by omega, by go_num, rfl, Lib.hid (by rw [← H5.out.1]; have := H5.out.2.1; rw [H5.out.1] at this ⊢; exact HR.out.next HM.out.1 hm0 HM.out.2 HK1.out HA.out.1 this H5.out.2.2)⟩, by simp [intOf]; omega⟩
  ·obtain rfl : k = s.length := by omega
   go_wp2_with fail
   go_ret2
   have hu : uGood s = true := by rw [HR.out.g, List.drop_length]; rfl
   exact ⟨_, _, rfl, by rw [if_pos hu], HR.out.k⟩
end Go.Proofs.YtfglgeoookbppaaGreatDoor

namespace Go.Proofs.YtfglgeoookbppaaGreatDoor
open Go.RowKit Go.Shelf

set_option maxRecDepth 100000 in
set_option maxHeartbeats 1000000 in
theorem rSaid_any (w : World) (s : List UInt8) (hs : s.length ≤ 60000) : Calls Tryz.prog 53 #[.string ⟨s.toArray⟩] w fun e w' => e = .returned (.bool (tSaid s)) ∧ Keeps w w' [] := by
 obtain ⟨S, hS⟩ : ∃ S : ByteArray, (⟨s.toArray⟩ : ByteArray) = S := ⟨_, rfl⟩
 have hz : S.size = s.length := by rw [← hS]; rfl
 have HR := Lib.hid (show ∀ w : World, Calls Tryz.prog 52 #[.string S] w (RnPost w s) from fun w => by
  rw [← hS]
  exact rRunes_any w s hs)
 rw [hS]
 clear hS
 by_cases h0 : s.length < 1
 ·have HT := Lib.hid (show tSaid s = false by unfold tSaid; simp; omega)
  go_enter Tryz.func53, Tryz.ntmps53
  go_wp2_with fail
  go_ret
  exact ⟨by rw [HT.out]; rfl, Keeps.refl _ _⟩
 ·by_cases h2 : 200 < s.length
  ·have HT := Lib.hid (show tSaid s = false by unfold tSaid; simp; omega)
   have hp : 0 < s.length := by omega
   clear h0
   go_enter Tryz.func53, Tryz.ntmps53
   go_wp2_with fail
   go_ret
   exact ⟨by rw [HT.out]; rfl, Keeps.refl _ _⟩
  ·have HT := Lib.hid (show tSaid s = uGood s by
    unfold tSaid
    rw [decide_eq_true (by omega), decide_eq_true (by omega)]
    rfl)
   have hp : 0 < s.length := by omega
   have hq : s.length ≤ 200 := by omega
   clear h0 h2
   go_enter Tryz.func53, Tryz.ntmps53
   go_wp2_with fail
   refine (HR.out _).mono ?_
   rintro e w1 ⟨v, a, rfl, ha, hk⟩
   have HK := Lib.hid hk
   clear hk
   cases hg : uGood s with
   | true =>
    rw [hg, if_pos rfl] at ha
    subst ha
    rw [hg] at HT
    clear hg
    go_wp2_with fail
    go_ret
    exact ⟨by rw [HT.out]; rfl, HK.out⟩
   | false =>
    rw [hg, if_neg (by simp)] at ha
    rw [hg] at HT
    have hb : decide (a < 0) = false := decide_eq_false (by omega)
    clear hg ha
    go_wp2_with fail
    go_ret
    exact ⟨by rw [HT.out]; rfl, HK.out⟩
theorem tSignN_zero (s : List UInt8) : (tSignN s = 0) ↔ tSign s = false := by
 unfold tSignN tSign
 rw [List.countP_eq_zero, List.any_eq_false]
theorem tSignN_le (s : List UInt8) : tSignN s ≤ s.length := List.countP_le_length
set_option maxRecDepth 100000 in
set_option maxHeartbeats 1000000 in
theorem rName_any (w : World) (s : List UInt8) (hs : s.length ≤ 60000) : Calls Tryz.prog 23 #[.string ⟨s.toArray⟩] w fun e w' => e = .returned (.bool (tName s)) ∧ Keeps w w' [] := by
 obtain ⟨S, hS⟩ : ∃ S : ByteArray, (⟨s.toArray⟩ : ByteArray) = S := ⟨_, rfl⟩
 have HS := Lib.hid hS
 rw [hS]
 clear hS
 go_enter Tryz.func23, Tryz.ntmps23
 go_wp2_with fail
 rw [← HS.out]
 refine (rSaid_any w s hs).mono ?_
 rintro e w1 ⟨rfl, hk⟩
 rw [HS.out]
 have HK := Lib.hid hk
 clear hk
 cases hg : tSaid s with
 | false =>
  have HT := Lib.hid (show tName s = false by unfold tName; rw [hg]; rfl)
  clear hg
  go_wp2_with fail
  go_ret
  exact ⟨by rw [HT.out]; rfl, HK.out⟩
 | true =>
  have HT := Lib.hid (show tName s = !tSign s by unfold tName; rw [hg]; rfl)
  clear hg
  go_wp2_with fail
  rw [← HS.out]
  refine (rSigns_any w1 s hs).mono ?_
  rintro e w2 ⟨rfl, rfl⟩
  rw [HS.out]
  cases hb : tSign s with
  | true =>
   have hne : (((tSignN s : Nat) : Int) == 0) = false := by
    rw [beq_eq_false_iff_ne]
    intro e
    have := (tSignN_zero s).1 (by omega)
    rw [hb] at this
    cases this
   rw [hb] at HT
   clear hb
   generalize tSignN s = k at *
   go_wp2_with fail
   go_ret
   exact ⟨by rw [HT.out]; rfl, HK.out⟩
  | false =>
   have h0 := (tSignN_zero s).2 hb
   rw [hb] at HT
   rw [h0]
   clear hb h0
   go_wp2_with fail
   go_ret
   exact ⟨by rw [HT.out]; rfl, HK.out⟩
end Go.Proofs.YtfglgeoookbppaaGreatDoor

namespace Go.Proofs.YtfglgeoookbppaaGreatDoor
open Go.RowKit Go.Shelf

theorem tLev_slash (s : List UInt8) : tLev (s ++ [47]) = tLev s ++ [[]] := tLev_app s []
theorem tLev_snoc {a : UInt8} (ha : a ≠ 47) (s : List UInt8) : ∃ ls x, tLev s = ls ++ [x] ∧ tLev (s ++ [a]) = ls ++ [x ++ [a]] := by
 induction s with
 | nil => exact ⟨[], [], rfl, by rw [List.nil_append, tLev_plain (by simpa using Ne.symm ha)]; rfl⟩
 | cons b s ih =>
  obtain ⟨ls, x, h1, h2⟩ := ih
  by_cases hb : b = 47
  ·subst hb
   refine ⟨[] :: ls, x, ?_, ?_⟩
   ·rw [tLev, if_pos rfl, h1]; rfl
   ·rw [List.cons_append, tLev, if_pos rfl, h2]; rfl
  ·obtain ⟨l, m, e1, e2⟩ := tLev_other (s := s) hb
   obtain ⟨l', m', e3, e4⟩ := tLev_other (s := s ++ [a]) hb
   rw [h1] at e1
   rw [h2] at e3
   cases ls with
   | nil =>
    injection e1 with e5 e6
    injection e3 with e7 e8
    exact ⟨[], b :: x, by rw [e2, ← e5, ← e6]; rfl, by rw [List.cons_append, e4, ← e7, ← e8]; rfl⟩
   | cons y ls =>
    injection e1 with e5 e6
    injection e3 with e7 e8
    exact ⟨(b :: y) :: ls, x, by rw [e2, ← e5, ← e6]; rfl, by rw [List.cons_append, e4, ← e7, ← e8]; rfl⟩
theorem tLev_set {a : UInt8} (ha : a ≠ 47) {s : List UInt8} {l : List (List UInt8)} {m : Nat} (hl : tLev s = l) (hm : l.length = m + 1) (h : m < l.length) : tLev (s ++ [a]) = l.set m (l[m] ++ [a]) := by
 obtain ⟨ls, x, h1, h2⟩ := tLev_snoc ha s
 subst hl
 have hls : ls.length = m := by
  rw [h1, List.length_append, List.length_singleton] at hm
  omega
 subst hls
 rw [h2]
 simp [h1]
theorem elemTxt : ElemN Tryz.prog 89 9 1 := elemN_of (bytes := 16) (z := .string ⟨#[]⟩) (by kernel_rfl) (by kernel_rfl) (by omega) rfl
theorem flat_txt (l : List (List UInt8)) : l.flatMap txtV = txL l := by
 induction l with
 | nil => rfl
 | cons a l ih => rw [List.flatMap_cons, ih]; rfl
abbrev OwnT (w : World) (B : Nat) (v : Value) (l : List (List UInt8)) : Prop := OwnN w B 9 1 txtV v l
theorem OwnN.lies1 {w : World} {B n c : Nat} {A : Option Addr} {l : List (List UInt8)} (h : OwnT w B (.slice A n c) l) : n = l.length ∧ Lies w w.heap.size A (txL l) := by
 obtain ⟨A', c', e⟩ := OwnN.slice h
 injection e with e1 e2 e3
 subst e1 e2 e3
 refine ⟨rfl, ?_⟩
 have := (OwnN.at_ h encTxt).lies encTxt
 rwa [flat_txt] at this
theorem OwnN.cap {w : World} {B n c : Nat} {A : Option Addr} {l : List (List UInt8)} (h : OwnT w B (.slice A n c) l) : l.length ≤ c := by
 rcases h.2 with ⟨hv, h0⟩ | ⟨gb, cap, cur, hv, _, _, h1, h2, _⟩
 ·injection hv with _ h3 h4
  subst h3 h4
  omega
 ·injection hv with _ h3 h4
  subst h3 h4
  exact h1
theorem ownT_one (w : World) (x : List UInt8) : OwnT (w.alloc (.cells #[.string ⟨x.toArray⟩] 9)) w.heap.size (.slice (some ⟨w.heap.size, 0, none⟩) 1 1) [x] :=
 ⟨by simp [txtV], .inr ⟨w.heap.size, 1, #[.string ⟨x.toArray⟩], rfl, Nat.le_refl _, Row.new _ _ _, by simp, by simp [maxLen], by simp, by simp [txtV]⟩⟩
/-- The levels of the first bytes of a text. -/
structure LvAt (w wr : World) (s : List UInt8) (v : Value) (l : List (List UInt8)) : Prop where
 e : tLev s = l
 o : OwnT wr w.heap.size v l
 k : Keeps w wr []
def LvPost (w : World) (s : List UInt8) (e : Ending) (w' : World) : Prop := ∃ A c, e = .returned (.slice A (tLev s).length c) ∧ (tLev s).length ≤ c ∧ Lies w' w'.heap.size A (txL (tLev s)) ∧ Keeps w w' []
set_option maxRecDepth 100000 in
set_option maxHeartbeats 2000000 in
theorem rLevels_any (w : World) (s : List UInt8) (hs : s.length ≤ 60000) : Calls Tryz.prog 54 #[.string ⟨s.toArray⟩] w (LvPost w s) := by
 obtain ⟨S, hS⟩ : ∃ S : ByteArray, (⟨s.toArray⟩ : ByteArray) = S := ⟨_, rfl⟩
 have hz : S.size = s.length := by rw [← hS]; rfl
 have HS := Lib.hid hS
 rw [hS]
 clear hS
 go_enter Tryz.func54, Tryz.ntmps54
 go_wp2_with fail
 go_loopw [3, 4] (fun out i wr => ∃ (k m c : Nat) (A : Option Addr) (l : List (List UInt8)), k ≤ s.length ∧ i = .int .i64 k ∧ out = .slice A (m + 1) c ∧ m ≤ k ∧ Hid (LvAt w wr (s.take k) (.slice A (m + 1) c) l)) (fun _ i _ => s.length - (intOf i).toNat)
 case atStart => exact ⟨0, 0, 1, _, [[]], by omega, rfl, rfl, by omega, Lib.hid ⟨rfl, ownT_one w [], Keeps.alloc _ _⟩⟩
 case round =>
  obtain ⟨k, m, c, A, l, hk, rfl, rfl, hmk, HR⟩ := hrel
  by_cases hlt : k < s.length
  ·have HT := Lib.hid (List.take_succ_eq_append_getElem hlt)
   have ix : ∀ h, S[k]'h = s[k] := fun h => str_get HS.out hlt h
   obtain ⟨a, ha⟩ : ∃ a, s[k] = a := ⟨_, rfl⟩
   rw [ha] at HT ix
   have hcut : S.extract k (k + 1) = ⟨[a].toArray⟩ := by
    rw [← HS.out, str_cut, Nat.add_sub_cancel_left, List.drop_eq_getElem_cons hlt, ha]
    rfl
   by_cases h47 : a = 47
   ·subst h47
    have HL := Lib.hid (show tLev (s.take (k + 1)) = l ++ [[]] by rw [HT.out, tLev_slash, HR.out.e])
    obtain ⟨Wa, hWa⟩ : ∃ Wa, wr.alloc (.cells #[.string ⟨#[]⟩] 9) = Wa := ⟨_, rfl⟩
    have ra : Row Wa wr.heap.size 9 #[.string ⟨#[]⟩] := by rw [← hWa]; exact Row.new _ _ _
    have ka : Keeps wr Wa [] := by rw [← hWa]; exact Keeps.alloc _ _
    have hln : m + 1 = l.length := HR.out.o.lies1.1
    have HLa := Lib.hid (show Lies Wa Wa.heap.size (some ⟨wr.heap.size, 0, none⟩) ([([] : List UInt8)].flatMap txtV) from lies_of_row ra rfl)
    have HA := Lib.hid (And.intro ka (And.intro (HR.out.o.keeps ka) (And.intro (HR.out.k.then_ ka) hln)))
    clear ra ka hcut ha hln
    go_wp2_with (at_builtin; refine wpList_append_N elemTxt encTxt rfl (.tmp 16) (.tmp 17) rfl w.heap.size (.slice A (m + 1) c) (some ⟨wr.heap.size, 0, none⟩) 1 1 l [[]] rfl rfl rfl HA.out.2.1 HLa.out (by have := HA.out.2.2.2; simp; omega) HA.out.2.2.1.size ?_; intro A5 c5 w5 l5 hl5 hlen5 ho5 hk5 _; have H5 := Lib.hid (And.intro hl5.out (And.intro ho5 hk5)); have hl5n : l5.length = m + 2 := (by have := HA.out.2.2.2; rw [hl5.out, List.length_append, List.length_singleton]; omega); rw [hl5n]; clear hl5 ho5 hk5 hlen5)
    have ho := H5.out.2.1
    rw [hl5n, H5.out.1] at ho
    exact ⟨⟨k + 1, m + 1, c5, A5, l ++ [[]], by omega, by go_num, rfl, by omega, Lib.hid ⟨HL.out, ho, HA.out.2.2.1.trans H5.out.2.2 fun x hx hlt => by
     have := (HA.out.2.1.rows x hx).1
     omega⟩⟩, by simp [intOf]; omega⟩
   ·have hb : (((a.toNat : Int)) == 47) = false := by
     rw [beq_eq_false_iff_ne]
     intro h
     exact h47 (UInt8.toNat_inj.1 (by simpa using (show a.toNat = 47 by omega)))
    have hln : m + 1 = l.length := HR.out.o.lies1.1
    have hml : m < l.length := by omega
    have HL := Lib.hid (show tLev (s.take (k + 1)) = l.set m (l[m] ++ [a]) by
     rw [HT.out]
     exact tLev_set h47 HR.out.e hln.symm hml)
    obtain ⟨g, cur, rfl, -, hgB, hr, hc, -⟩ := OwnN.one (q := fun a => .string ⟨a.toArray⟩) (fun _ => rfl) HR.out.o hml
    obtain ⟨X, hX⟩ : ∃ X, l[m] = X := ⟨_, rfl⟩
    rw [hX] at hc HL
    have hXl : X.length ≤ 60000 := by
     have h1 : X ∈ tLev (s.take k) := by rw [HR.out.e, ← hX]; exact List.getElem_mem hml
     have := tLev_size h1
     rw [List.length_take] at this
     omega
    obtain ⟨LS, hLS⟩ : ∃ LS : ByteArray, (⟨X.toArray⟩ : ByteArray) = LS := ⟨_, rfl⟩
    have hLz : LS.size ≤ 60000 := by rw [← hLS]; exact hXl
    have hcat : LS ++ S.extract k (k + 1) = ⟨(X ++ [a]).toArray⟩ := by rw [hcut, ← hLS, txt_app]
    obtain ⟨CS, hCS⟩ : ∃ CS, S.extract k (k + 1) = CS := ⟨_, rfl⟩
    have hCz : CS.size = 1 := by rw [← hCS, hcut]; rfl
    rw [hCS] at hcat
    rw [hLS] at hc
    have M1 := fun (W' : World) (hW : Keeps wr W' []) => ((hr.keeps hW).cell m).trans hc
    have HG := Lib.hid (And.intro hr (And.intro hgB (And.intro hcat (And.intro hml hln))))
    clear hr hgB hc hX hLS hcut hcat hXl hml hln
    go_upto_region 7 with fail
    have hw1 : IntKind.i64.wrap (m : Int) = m := IntWalk.i64_in _ (by omega)
    have hw2 : IntKind.i64.wrap ((k : Int) + 1) = k + 1 := IntWalk.i64_in _ (by omega)
    have hw3 : ((k : Int) + 1).toNat = k + 1 := by omega
    have hw4 : (k : Int) + 1 ≤ s.length := by omega
    have hw5 : (k : Int) ≤ k + 1 := by omega
    have hw6 : (0 : Int) ≤ k + 1 := by omega
    have hw7 : (m : Int) < m + 1 := by omega
    have hw8 : ¬ 9223372036854775807 < LS.size + 1 := by omega
    refine wp_region_tail KeepsAll _ 16 (by kernel_rfl) rfl (by kernel_rfl) (fun _ => Keeps.refl _ _) (fun _ _ _ h k => h.trans k (by simp)) (Keeps.drew _) ?_
    simp only [List.take_succ_cons, List.take_zero, List.drop_succ_cons, List.drop_zero]
    apply loose_is
    ·intro W vals hW hkn
     clear hkn
     refine ⟨?_⟩
     simp only [fill]
     go_simp
     first | exact ⟨Keeps.refl _ _, rfl⟩ | exact ⟨Keeps.alloc _ _, rfl⟩
    simp only [addEnt]
    apply loose_is
    ·intro W vals hW hkn
     clear hkn
     refine ⟨?_⟩
     simp only [fill]
     go_simp
     first | exact ⟨Keeps.refl _ _, rfl⟩ | exact ⟨Keeps.alloc _ _, rfl⟩
    simp only [addEnt]
    apply loose_is
    ·intro W vals hW hkn
     clear hkn
     refine ⟨?_⟩
     simp only [fill]
     go_simp
     first | exact ⟨Keeps.refl _ _, rfl⟩ | exact ⟨Keeps.alloc _ _, rfl⟩
    simp only [addEnt]
    apply loose_is
    ·intro W vals hW hkn
     clear hkn
     refine ⟨?_⟩
     simp only [fill]
     go_simp
     first | exact ⟨Keeps.refl _ _, rfl⟩ | exact ⟨Keeps.alloc _ _, rfl⟩
    simp only [addEnt]
    apply loose_is
    ·intro W vals hW hkn
     clear hkn
     refine ⟨?_⟩
     simp only [fill]
     go_simp
     first | exact ⟨Keeps.refl _ _, rfl⟩ | exact ⟨Keeps.alloc _ _, rfl⟩
    simp only [addEnt]
    apply loose_is
    ·intro W vals hW hkn
     clear hkn
     refine ⟨?_⟩
     simp only [fill]
     go_simp
     first | exact ⟨Keeps.refl _ _, rfl⟩ | exact ⟨Keeps.alloc _ _, rfl⟩
    simp only [addEnt]
    apply loose_is
    ·intro W vals hW hkn
     clear hkn
     refine ⟨?_⟩
     simp only [fill]
     go_simp
     first | exact ⟨Keeps.refl _ _, rfl⟩ | exact ⟨Keeps.alloc _ _, rfl⟩
    simp only [addEnt]
    apply loose_is
    ·intro W vals hW hkn
     clear hkn
     refine ⟨?_⟩
     simp only [fill]
     go_simp
     first | exact ⟨Keeps.refl _ _, rfl⟩ | exact ⟨Keeps.alloc _ _, rfl⟩
    simp only [addEnt]
    apply loose_is
    ·intro W vals hW hkn
     clear hkn
     refine ⟨?_⟩
     simp only [fill]
     go_simp
     first | exact ⟨Keeps.refl _ _, rfl⟩ | exact ⟨Keeps.alloc _ _, rfl⟩
    simp only [addEnt]
    apply loose_is
    ·intro W vals hW hkn
     simp only [knows] at hkn
     try simp only [and_true] at hkn
     clear hkn; have m1 := M1 W hW
     refine ⟨?_⟩
     simp only [fill]
     go_simp
     first | exact ⟨Keeps.refl _ _, rfl⟩ | exact ⟨Keeps.alloc _ _, rfl⟩
    simp only [addEnt]
    apply loose_is
    ·intro W vals hW hkn
     clear hkn
     refine ⟨?_⟩
     simp only [fill]
     go_simp
     first | exact ⟨Keeps.refl _ _, rfl⟩ | exact ⟨Keeps.alloc _ _, rfl⟩
    simp only [addEnt]
    apply loose_is
    ·intro W vals hW hkn
     clear hkn
     refine ⟨?_⟩
     simp only [fill]
     go_simp
     first | exact ⟨Keeps.refl _ _, rfl⟩ | exact ⟨Keeps.alloc _ _, rfl⟩
    simp only [addEnt]
    apply loose_is
    ·intro W vals hW hkn
     clear hkn
     refine ⟨?_⟩
     simp only [fill]
     go_simp
     first | exact ⟨Keeps.refl _ _, rfl⟩ | exact ⟨Keeps.alloc _ _, rfl⟩
    simp only [addEnt]
    apply loose_is
    ·intro W vals hW hkn
     clear hkn
     refine ⟨?_⟩
     simp only [fill]
     go_simp
     first | exact ⟨Keeps.refl _ _, rfl⟩ | exact ⟨Keeps.alloc _ _, rfl⟩
    simp only [addEnt]
    apply loose_is
    ·intro W vals hW hkn
     clear hkn
     refine ⟨?_⟩
     simp only [fill]
     go_simp
     first | exact ⟨Keeps.refl _ _, rfl⟩ | exact ⟨Keeps.alloc _ _, rfl⟩
    simp only [addEnt]
    apply loose_is
    ·intro W vals hW hkn
     clear hkn
     refine ⟨?_⟩
     simp only [fill]
     go_simp
     first | exact ⟨Keeps.refl _ _, rfl⟩ | exact ⟨Keeps.alloc _ _, rfl⟩
    simp only [addEnt]
    refine loose_nil (fun W vals hW hkn => ?_)
    simp only [knowsAll] at hkn
    try simp only [and_true] at hkn
    simp only [fill, Act.put, List.setIfInBounds_toArray, List.set_cons_succ, List.set_cons_zero]
    clear hkn
    have hr := HG.out.1.keeps hW
    have d0 := M1 W hW
    have g0 := hr.frozen m
    have HW := Lib.hid (show Keeps wr W [] from hW)
    clear hr hW M1
    go_wp2_with fail
    obtain ⟨g', cur', e1, -, hgB, hr, hc, ho⟩ := OwnN.one (q := fun a => .string ⟨a.toArray⟩) (fun _ => rfl) (HR.out.o.keeps HW.out) HG.out.2.2.2.1
    injection e1 with e1
    injection e1 with e1
    subst e1
    have ho := ho (X ++ [a])
    rw [← HG.out.2.2.1] at ho
    exact ⟨⟨k + 1, m, c, _, _, by omega, by go_num, rfl, by omega, Lib.hid ⟨HL.out, ho, (HR.out.k.then_ HW.out).trans (Keeps.setCell _ _ _) fun x hx hlt => by
     simp at hx
     omega⟩⟩, by simp [intOf]; omega⟩
  ·obtain rfl : k = s.length := by omega
   have HE := Lib.hid (show tLev s = l by rw [← HR.out.e, List.take_length])
   go_wp2_with fail
   go_ret
   have := HR.out.o.lies1
   exact ⟨A, c, by rw [HE.out, ← this.1]; rfl, by rw [HE.out]; exact OwnN.cap HR.out.o, by rw [HE.out]; exact this.2, HR.out.k⟩
end Go.Proofs.YtfglgeoookbppaaGreatDoor

namespace Go.Proofs.YtfglgeoookbppaaGreatDoor
open Go.RowKit Go.Shelf

theorem tOks_at (L : List (List UInt8)) : tOks L = true ↔ ∀ j (h : j < L.length), tOk L[j] (j + 1 == L.length) = true := by
 rw [tOks_seq, List.all_eq_true]
 constructor
 ·intro h j hj
  have := h ((tSeq L)[j]'(by rw [tSeq_len]; exact hj)) (List.getElem_mem _)
  rwa [tSeq_get hj] at this
 ·intro h x hx
  obtain ⟨j, hj, rfl⟩ := List.mem_iff_getElem.1 hx
  rw [tSeq_len] at hj
  rw [tSeq_get hj]
  exact h j hj
set_option maxRecDepth 100000 in
set_option maxHeartbeats 2000000 in
theorem rFilter_any (w : World) (s : List UInt8) (hs : s.length ≤ 60000) : Calls Tryz.prog 22 #[.string ⟨s.toArray⟩] w (TruePost w (tFilter s)) := by
 obtain ⟨S, hS⟩ : ∃ S : ByteArray, (⟨s.toArray⟩ : ByteArray) = S := ⟨_, rfl⟩
 have HS := Lib.hid (show ∀ w : World, (Calls Tryz.prog 53 #[.string S] w fun e w' => e = .returned (.bool (tSaid s)) ∧ Keeps w w' []) ∧ Calls Tryz.prog 54 #[.string S] w (LvPost w s) from fun w => by
  rw [← hS]
  exact ⟨rSaid_any w s hs, rLevels_any w s hs⟩)
 rw [hS]
 clear hS
 go_enter Tryz.func22, Tryz.ntmps22
 go_wp2_with fail
 refine (HS.out _).1.mono ?_
 rintro e w1 ⟨rfl, hk⟩
 have HK := Lib.hid hk
 clear hk
 cases hg : tSaid s with
 | false =>
  have HT := Lib.hid (show tFilter s = false by unfold tFilter; rw [hg]; rfl)
  clear hg
  go_wp2_with fail
  go_ret
  exact ⟨by rw [HT.out]; rfl, HK.out⟩
 | true =>
  have HT := Lib.hid (show tFilter s = tOks (tLev s) by unfold tFilter; rw [hg]; rfl)
  clear hg
  go_wp2_with fail
  refine (HS.out _).2.mono ?_
  rintro e w2 ⟨A, c, rfl, -, hL, hk⟩
  have HK2 := Lib.hid (HK.out.then_ hk)
  have HB := Lib.hid (And.intro (fun y (h : y ∈ tLev s) => tLev_size h) (tLev_len s))
  have hn : (tLev s).length ≤ 60001 := by have := tLev_len s; omega
  generalize tLev s = l at *
  have HL := Lib.hid hL
  clear hk hL HK
  go_wp2_with fail
  go_loop [4] (fun i => ∃ k : Nat, k ≤ l.length ∧ i = .int .i64 k ∧ Hid (∀ j (h : j < l.length), j < k → tOk l[j] (j + 1 == l.length) = true)) (fun i => l.length - (intOf i).toNat)
  case atStart => exact ⟨0, by omega, rfl, Lib.hid fun j h h2 => by omega⟩
  case round =>
   obtain ⟨k, hk, rfl, HR⟩ := hrel
   by_cases hlt : k < l.length
   ·obtain ⟨g, o, rfl, hb, hcx⟩ := HL.out.at_ (k := k) (by simpa using hlt)
    rw [List.getElem_map] at hcx
    obtain ⟨y, hy⟩ : ∃ y, l[k] = y := ⟨_, rfl⟩
    have HN := Lib.hid (show tOk y (k + 1 == l.length) = true → ∀ j (h : j < l.length), j < k + 1 → tOk l[j] (j + 1 == l.length) = true from fun hq j h h2 => by
     rcases Nat.lt_or_ge j k with g | g
     ·exact HR.out j h g
     ·obtain rfl : j = k := by omega
      rw [hy]
      exact hq)
    have HF := Lib.hid (show tOk y (k + 1 == l.length) = false → tFilter s = false from fun hq => by
     rw [HT.out, ← Bool.not_eq_true, tOks_at]
     intro h
     have := h k hlt
     rw [hy, hq] at this
     cases this)
    have hyl : y.length ≤ 60000 := by have := HB.out.1 y (by rw [← hy]; exact List.getElem_mem hlt); omega
    rw [hy] at hcx
    obtain ⟨Y, hY⟩ : ∃ Y : ByteArray, (⟨y.toArray⟩ : ByteArray) = Y := ⟨_, rfl⟩
    have HG := Lib.hid (show Calls Tryz.prog 55 #[.string Y] w2 fun e w' => e = .returned (.int .i64 (tSignN y : Nat)) ∧ w2 = w' by
     rw [← hY]
     exact rSigns_any w2 y hyl)
    have eY : Y.toList = y := by rw [← hY, Lib.toList_data]
    rw [hY] at hcx
    clear hy hb
    go_wp2_with fail
    refine HG.out.mono ?_
    rintro e w3 ⟨rfl, rfl⟩
    cases hsg : tSign y with
    | false =>
     have h0 := (tSignN_zero y).2 hsg
     have HO := Lib.hid (show tOk y (k + 1 == l.length) = true by unfold tOk; rw [hsg]; simp)
     rw [h0]
     clear h0 hsg eY hY
     go_wp2_with fail
     exact ⟨⟨k + 1, by omega, by go_num, Lib.hid (HN.out HO.out)⟩, by simp [intOf]; omega⟩
    | true =>
     have hpos : 0 < tSignN y := by
      rcases Nat.eq_zero_or_pos (tSignN y) with h | h
      ·rw [(tSignN_zero y).1 h] at hsg; cases hsg
      ·exact h
     obtain ⟨q, hq⟩ : ∃ q, tSignN y = q := ⟨_, rfl⟩
     rw [hq] at hpos ⊢
     have HO := Lib.hid (show tOk y (k + 1 == l.length) = (y == [43] || (y == [35] && (k + 1 == l.length))) by unfold tOk; rw [hsg]; simp)
     clear hq hsg
     by_cases h43 : y = [43]
     ·have e43 : (Y.toList == [43]) = true := by rw [eY, h43]; rfl
      have HP := Lib.hid (HN.out (by rw [HO.out, h43]; rfl))
      clear h43 eY hY
      go_wp2_with fail
      exact ⟨⟨k + 1, by omega, by go_num, HP⟩, by simp [intOf]; omega⟩
     ·have e43 : (Y.toList == [43]) = false := by rw [eY]; simpa using h43
      have n43 : (y == [43]) = false := by simpa using h43
      by_cases h35 : y = [35]
      ·have e35 : (Y.toList == [35]) = true := by rw [eY, h35]; rfl
       by_cases hla : k + 1 = l.length
       ·have HP := Lib.hid (HN.out (by rw [HO.out, h35, hla]; simp))
        have hkl : ((k : Int) == l.length - 1) = true := by rw [beq_iff_eq]; omega
        clear h35 eY hY h43 n43
        go_wp2_with fail
        exact ⟨⟨k + 1, by omega, by go_num, HP⟩, by simp [intOf]; omega⟩
       ·have HP := Lib.hid (HF.out (by rw [HO.out, h35]; simpa using hla))
        have hkl : ((k : Int) == l.length - 1) = false := by rw [beq_eq_false_iff_ne]; omega
        clear h35 eY hY h43 n43
        go_wp2_with fail
        go_ret
        exact ⟨by rw [HP.out]; rfl, HK2.out⟩
      ·have e35 : (Y.toList == [35]) = false := by rw [eY]; simpa using h35
       have HP := Lib.hid (HF.out (by rw [HO.out, n43, show (y == [35]) = false by simpa using h35]; rfl))
       clear h35 eY hY h43 n43
       go_wp2_with fail
       go_ret
       exact ⟨by rw [HP.out]; rfl, HK2.out⟩
   ·obtain rfl : k = l.length := by omega
    have HP := Lib.hid (show tFilter s = true by rw [HT.out, tOks_at]; exact fun j h => HR.out j h h)
    go_wp2_with fail
    go_ret
    exact ⟨by rw [HP.out]; rfl, HK2.out⟩
end Go.Proofs.YtfglgeoookbppaaGreatDoor

namespace Go.Proofs.YtfglgeoookbppaaGreatDoor
open Go.RowKit Go.Shelf

set_option maxRecDepth 100000 in
set_option maxHeartbeats 1000000 in
theorem rrClient_any (w : World) (s : List UInt8) (hs : s.length ≤ 60000) : Calls Tryz.prog 20 #[.string ⟨s.toArray⟩] w fun e w' => e = .returned (.bool (rcClient s)) ∧ Keeps w w' [] := by
 obtain ⟨S, hS⟩ : ∃ S : ByteArray, (⟨s.toArray⟩ : ByteArray) = S := ⟨_, rfl⟩
 have hz : S.size = s.length := by rw [← hS]; rfl
 have HR := Lib.hid (show ∀ w : World, Calls Tryz.prog 52 #[.string S] w (RnPost w s) from fun w => by
  rw [← hS]
  exact rRunes_any w s hs)
 rw [hS]
 clear hS
 by_cases h0 : s.length < 1
 ·have HT := Lib.hid (show rcClient s = false by unfold rcClient; rw [decide_eq_false (by omega)]; rfl)
  go_enter Tryz.func20, Tryz.ntmps20
  go_wp2_with fail
  go_ret
  exact ⟨by rw [HT.out]; rfl, Keeps.refl _ _⟩
 ·by_cases h2 : 23 < s.length
  ·have HT := Lib.hid (show rcClient s = false by unfold rcClient; rw [decide_eq_false (show ¬ s.length ≤ 23 by omega), Bool.false_and, Bool.and_false])
   have hp : 0 < s.length := by omega
   clear h0
   go_enter Tryz.func20, Tryz.ntmps20
   go_wp2_with fail
   go_ret
   exact ⟨by rw [HT.out]; rfl, Keeps.refl _ _⟩
  ·have HT := Lib.hid (show rcClient s = uGood s by
    unfold rcClient
    rw [decide_eq_true (by omega), decide_eq_true (by omega)]
    rfl)
   have hp : 0 < s.length := by omega
   have hq : s.length ≤ 23 := by omega
   clear h0 h2
   go_enter Tryz.func20, Tryz.ntmps20
   go_wp2_with fail
   refine (HR.out _).mono ?_
   rintro e w1 ⟨v, a, rfl, ha, hk⟩
   have HK := Lib.hid hk
   clear hk
   cases hg : uGood s with
   | true =>
    rw [hg, if_pos rfl] at ha
    subst ha
    rw [hg] at HT
    clear hg
    go_wp2_with fail
    go_ret
    exact ⟨by rw [HT.out]; rfl, HK.out⟩
   | false =>
    rw [hg, if_neg (by simp)] at ha
    rw [hg] at HT
    have hb : decide (a < 0) = false := decide_eq_false (by omega)
    clear hg ha
    go_wp2_with fail
    go_ret
    exact ⟨by rw [HT.out]; rfl, HK.out⟩
set_option maxRecDepth 100000 in
theorem rrNumber_any (w : World) (n : Int) : Calls Tryz.prog 21 #[.int .i64 n] w fun e w' => e = .returned (.bool (inN n 0 4611686018427387904)) ∧ w = w' := by
 by_cases h1 : 0 ≤ n
 ·have d1 : decide (n ≥ 0) = true := decide_eq_true h1
  by_cases h2 : n ≤ 4611686018427387904
  ·have d2 : decide (n ≤ 4611686018427387904) = true := decide_eq_true h2
   have HT := Lib.hid (show inN n 0 4611686018427387904 = true from inN_iff.2 ⟨h1, h2⟩)
   go_enter Tryz.func21, Tryz.ntmps21
   go_wp2_with fail
   go_ret
   exact ⟨by rw [HT.out]; rfl, rfl⟩
  ·have d2 : decide (n ≤ 4611686018427387904) = false := decide_eq_false h2
   have HT := Lib.hid (show inN n 0 4611686018427387904 = false by unfold inN; rw [d2, Bool.and_false])
   go_enter Tryz.func21, Tryz.ntmps21
   go_wp2_with fail
   go_ret
   exact ⟨by rw [HT.out]; rfl, rfl⟩
 ·have d1 : decide (n ≥ 0) = false := decide_eq_false h1
  have HT := Lib.hid (show inN n 0 4611686018427387904 = false by unfold inN; rw [decide_eq_false h1]; rfl)
  go_enter Tryz.func21, Tryz.ntmps21
  go_wp2_with fail
  go_ret
  exact ⟨by rw [HT.out]; rfl, rfl⟩
set_option maxRecDepth 100000 in
theorem rrPlaced_any (w : World) (k : Int) : Calls Tryz.prog 9 #[.int .i64 k] w fun e w' => e = .returned (.bool (rcPlaced k)) ∧ w = w' := by
 by_cases h1 : k = 2
 ·subst h1
  go_enter Tryz.func9, Tryz.ntmps9
  go_wp2_with fail
  go_ret
  exact ⟨rfl, rfl⟩
 ·have e1 : (k == 2) = false := by simpa using h1
  by_cases h2 : k = 5
  ·subst h2
   go_enter Tryz.func9, Tryz.ntmps9
   go_wp2_with fail
   go_ret
   exact ⟨rfl, rfl⟩
  ·have e2 : (k == 5) = false := by simpa using h2
   have HT := Lib.hid (show rcPlaced k = false by unfold rcPlaced; rw [decide_eq_false h1, decide_eq_false h2]; rfl)
   go_enter Tryz.func9, Tryz.ntmps9
   go_wp2_with fail
   go_ret
   exact ⟨by rw [HT.out]; rfl, rfl⟩
def rcFew (x : Rw) : Bool := decide (x.c.length ≤ 3000) && (decide (x.t.length ≤ 3000) && decide (x.b.length ≤ 3000))
theorem small_few {x : Rw} (h : rcFew x = true) : x.Small := by
 unfold rcFew at h
 simp only [Bool.and_eq_true, decide_eq_true_eq] at h
 exact ⟨by omega, by omega, by omega⟩
set_option maxRecDepth 100000 in
set_option maxHeartbeats 1000000 in
theorem rcFew_any (x : Rw) (w : World) : Calls Tryz.prog 7 #[rwV x] w (TruePost w (rcFew x)) := by
 have HT := Lib.hid (show rcFew x = (decide (x.c.length ≤ 3000) && (decide (x.t.length ≤ 3000) && decide (x.b.length ≤ 3000))) from rfl)
 obtain ⟨k, c, seq, id, t, b, q, r, s⟩ := x
 simp only at HT
 obtain ⟨b1, h1⟩ : ∃ b1, decide (c.length ≤ 3000) = b1 := ⟨_, rfl⟩
 obtain ⟨b2, h2⟩ : ∃ b2, decide (t.length ≤ 3000) = b2 := ⟨_, rfl⟩
 obtain ⟨b3, h3⟩ : ∃ b3, decide (b.length ≤ 3000) = b3 := ⟨_, rfl⟩
 rw [h1, h2, h3] at HT
 have g1 : decide ((c.length : Int) ≤ 3000) = b1 := by rw [← h1, Bool.eq_iff_iff]; simp; omega
 have g2 : decide ((t.length : Int) ≤ 3000) = b2 := by rw [← h2, Bool.eq_iff_iff]; simp; omega
 have g3 : decide ((b.length : Int) ≤ 3000) = b3 := by rw [← h3, Bool.eq_iff_iff]; simp; omega
 obtain ⟨W0, hW0⟩ : ∃ W0, w.alloc (.cells #[.int .i64 k, .string ⟨c.toArray⟩, .int .i64 seq, .int .i64 id, .string ⟨t.toArray⟩, .string ⟨b.toArray⟩, .int .i64 q, .bool r, .int .i64 s] 25) = W0 := ⟨_, rfl⟩
 have k0 : Keeps w W0 [] := by rw [← hW0]; exact Keeps.alloc _ _
 have r0 : Row W0 w.heap.size 25 #[.int .i64 k, .string ⟨c.toArray⟩, .int .i64 seq, .int .i64 id, .string ⟨t.toArray⟩, .string ⟨b.toArray⟩, .int .i64 q, .bool r, .int .i64 s] := by rw [← hW0]; exact Row.new _ _ _
 have HR := Lib.hid (And.intro k0 r0)
 have x0 := r0.cell 0
 have x1 := r0.cell 1
 have x2 := r0.cell 2
 have x3 := r0.cell 3
 have x4 := r0.cell 4
 have x5 := r0.cell 5
 have x6 := r0.cell 6
 have x7 := r0.cell 7
 have x8 := r0.cell 8
 simp only [List.getElem?_toArray, List.getElem?_cons_zero, List.getElem?_cons_succ] at x0 x1 x2 x3 x4 x5 x6 x7 x8
 clear k0 r0
 have HK := Lib.hid HR.out.1
 cases b1 with
 | false =>
  go_enter Tryz.func7, Tryz.ntmps7
  go_wp2_with fail
  go_ret
  exact ⟨by rw [HT.out]; rfl, HK.out⟩
 | true =>
  cases b2 with
  | false =>
   go_enter Tryz.func7, Tryz.ntmps7
   go_wp2_with fail
   go_ret
   exact ⟨by rw [HT.out]; rfl, HK.out⟩
  | true =>
   cases b3 with
   | false =>
    go_enter Tryz.func7, Tryz.ntmps7
    go_wp2_with fail
    go_ret
    exact ⟨by rw [HT.out]; rfl, HK.out⟩
   | true =>
    go_enter Tryz.func7, Tryz.ntmps7
    go_wp2_with fail
    go_ret
    exact ⟨by rw [HT.out]; rfl, HK.out⟩
end Go.Proofs.YtfglgeoookbppaaGreatDoor

namespace Go.Proofs.YtfglgeoookbppaaGreatDoor
open Go.RowKit Go.Shelf

def rrNone (x : Rw) : Bool := x.t.isEmpty && (x.b.isEmpty && x.q == 0)
theorem eq_nil (l : List UInt8) : (([] : List UInt8) == l) = l.isEmpty := by cases l <;> rfl
theorem zero_beq (n : Int) : ((0 : Int) == n) = (n == 0) := by rw [Bool.eq_iff_iff, beq_iff_eq, beq_iff_eq]; exact eq_comm
theorem false_beq (r : Bool) : (false == r) = !r := by cases r <;> rfl
theorem rok (x : Rw) {k : Int} (hk : x.k = k) (hi : rcIs k = true) : rcOk x = (rcMay k x && rwEq { rcHas k x with k := k } x) := by
 unfold rcOk
 rw [hk, hi]
 rfl
theorem rok1 (c : List UInt8) (seq id : Int) (t b : List UInt8) (q : Int) (r : Bool) (s : Int) : rcOk ⟨1, c, seq, id, t, b, q, r, s⟩ = ((rcClient c && (inN seq 0 4611686018427387904 && inN id 0 4611686018427387904)) && (t.isEmpty && (b.isEmpty && ((q == 0) && ((!r) && (s == 0)))))) := by
 rw [rok _ rfl rfl]
 show (_ && ((1 : Int) == 1 && (c == c && (seq == seq && (id == id && ([] == t && ([] == b && (0 == q && (false == r && 0 == s))))))))) = _
 rw [eq_nil, eq_nil, zero_beq, zero_beq, false_beq]
 simp only [beq_self_eq_true, Bool.true_and]
 rfl
theorem rok2 (c : List UInt8) (seq id : Int) (t b : List UInt8) (q : Int) (r : Bool) (s : Int) : rcOk ⟨2, c, seq, id, t, b, q, r, s⟩ = ((rcClient c && (tFilter t && inN q 0 2)) && ((seq == 0) && ((id == 0) && (b.isEmpty && ((!r) && (s == 0)))))) := by
 rw [rok _ rfl rfl]
 show (_ && ((2 : Int) == 2 && (c == c && (0 == seq && (0 == id && (t == t && ([] == b && (q == q && (false == r && 0 == s))))))))) = _
 rw [eq_nil, zero_beq, zero_beq, zero_beq, false_beq]
 simp only [beq_self_eq_true, Bool.true_and]
 rfl
theorem rok3 (c : List UInt8) (seq id : Int) (t b : List UInt8) (q : Int) (r : Bool) (s : Int) : rcOk ⟨3, c, seq, id, t, b, q, r, s⟩ = (rcClient c && (inN seq 0 4611686018427387904 && (tName t && (decide (b.length ≤ 2000) && (inN q 1 2 && rcStage ⟨3, c, seq, id, t, b, q, r, s⟩))))) := by
 rw [rok _ rfl rfl, show rwEq { rcHas 3 ⟨3, c, seq, id, t, b, q, r, s⟩ with k := 3 } ⟨3, c, seq, id, t, b, q, r, s⟩ = true from (rwEq_iff _ _).2 rfl, Bool.and_true]
 rfl
theorem rok4 (c : List UInt8) (seq id : Int) (t b : List UInt8) (q : Int) (r : Bool) (s : Int) : rcOk ⟨4, c, seq, id, t, b, q, r, s⟩ = ((rcClient c && inN id 1 65535) && ((seq == 0) && (t.isEmpty && (b.isEmpty && ((q == 0) && ((!r) && (s == 0))))))) := by
 rw [rok _ rfl rfl]
 show (_ && ((4 : Int) == 4 && (c == c && (0 == seq && (id == id && ([] == t && ([] == b && (0 == q && (false == r && 0 == s))))))))) = _
 rw [eq_nil, eq_nil, zero_beq, zero_beq, zero_beq, false_beq]
 simp only [beq_self_eq_true, Bool.true_and]
 rfl
theorem rok5 (c : List UInt8) (seq id : Int) (t b : List UInt8) (q : Int) (r : Bool) (s : Int) : rcOk ⟨5, c, seq, id, t, b, q, r, s⟩ = ((tName t && (inN (b.length : Nat) 1 2000 && inN q 0 2)) && (c.isEmpty && ((seq == 0) && ((id == 0) && ((!r) && (s == 0)))))) := by
 rw [rok _ rfl rfl]
 show (_ && ((5 : Int) == 5 && ([] == c && (0 == seq && (0 == id && (t == t && (b == b && (q == q && (false == r && 0 == s))))))))) = _
 rw [eq_nil, zero_beq, zero_beq, zero_beq, false_beq]
 simp only [beq_self_eq_true, Bool.true_and]
 rfl
end Go.Proofs.YtfglgeoookbppaaGreatDoor
