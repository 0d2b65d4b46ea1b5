/- Law 13: known. Law 13: names. The law TopicTells. -/
import Derived.Test.YtbjoobanbejgbaaDoorPa29
import Derived.Test.YtbjoobanbejgbaaDoorPa18

namespace Go.Proofs.YtbjoobanbejgbaaDoor
open Go.RowKit Go.Shelf

theorem said_ascii {s : List UInt8} (h : ∀ a ∈ s, 0 < a.toNat ∧ a.toNat < 128) (h1 : 1 ≤ s.length) (h2 : s.length ≤ 200) : tSaid s = true := by
  unfold tSaid
  rw [uGood_all_ascii h, decide_eq_true h1, decide_eq_true h2]
  rfl
theorem filter_ascii {s : List UInt8} (h : ∀ a ∈ s, 0 < a.toNat ∧ a.toNat < 128) (h1 : 1 ≤ s.length) (h2 : s.length ≤ 200) (h3 : tOks (tLev s) = true) : tFilter s = true := by
  unfold tFilter
  rw [said_ascii h h1 h2, h3]
  rfl
theorem name_ascii {s : List UInt8} (h : ∀ a ∈ s, 0 < a.toNat ∧ a.toNat < 128) (h1 : 1 ≤ s.length) (h2 : s.length ≤ 200) (h3 : tSign s = false) : tName s = true := by
  unfold tName
  rw [said_ascii h h1 h2, h3]
  rfl
theorem mt_of {f n : List UInt8} {b : Bool} (h1 : tFilter f = true) (h2 : tName n = true) (h3 : tMeets f n = b) : mtB f n = b ∧ mtC f n = 0 := by
  unfold mtB mtC
  rw [h1, h2, h3]
  exact ⟨rfl, rfl⟩
theorem known_1 : mtB [97, 47, 43, 47, 99] [97, 47, 98, 47, 99] = true ∧ mtC [97, 47, 43, 47, 99] [97, 47, 98, 47, 99] = 0 :=
  mt_of (filter_ascii (by decide) (by decide) (by decide) (by decide)) (name_ascii (by decide) (by decide) (by decide) (by decide)) (by decide)
theorem known_2 : mtB [97, 47, 35] [97] = true ∧ mtC [97, 47, 35] [97] = 0 :=
  mt_of (filter_ascii (by decide) (by decide) (by decide) (by decide)) (name_ascii (by decide) (by decide) (by decide) (by decide)) (by decide)
theorem known_3 : mtB [35] [36, 120, 47, 121] = false ∧ mtC [35] [36, 120, 47, 121] = 0 :=
  mt_of (filter_ascii (by decide) (by decide) (by decide) (by decide)) (name_ascii (by decide) (by decide) (by decide) (by decide)) (by decide)
theorem filter_bad {s : List UInt8} (h : tOks (tLev s) = false) : tFilter s = false := by
  unfold tFilter
  rw [h, Bool.and_false]
theorem known_4 : mtC [97, 43] [97] = 230 := by
  unfold mtC
  rw [filter_bad (s := [97, 43]) (by decide)]
  rfl
theorem known_5 : [[35], [43, 47, 35]].all tFilter = true ∧ tWithin [35] [43, 47, 35] = true := by
  refine ⟨?_, by decide⟩
  rw [List.all_cons, List.all_cons, filter_ascii (s := [35]) (by decide) (by decide) (by decide) (by decide), filter_ascii (s := [43, 47, 35]) (by decide) (by decide) (by decide) (by decide)]
  rfl
theorem known_6 : tFilter [97, 47, 35, 47, 98] = false := filter_bad (by decide)
theorem known_7 : tName [] = false := rfl
set_option maxRecDepth 100000 in
set_option maxHeartbeats 2000000 in
theorem known13_any (w : World) (hm : MaxL w) : Calls Tryd.prog 8 #[] w (TruePost w true) := by
  have HM := Lib.hid hm
  clear hm
  go_enter Tryd.func8, Tryd.ntmps8
  go_wp2_with fail
  refine (tMeets_any _ [97, 47, 43, 47, 99] [97, 47, 98, 47, 99] (by decide) (by decide) HM.out).mono ?_
  rintro e w1 ⟨rfl, hk⟩
  have H1 := Lib.hid hk
  rw [known_1.1, known_1.2]
  clear hk
  go_wp2_with fail
  refine (tMeets_any _ [97, 47, 35] [97] (by decide) (by decide) (HM.out.keeps H1.out)).mono ?_
  rintro e w2 ⟨rfl, hk⟩
  have H2 := Lib.hid (H1.out.then_ hk)
  rw [known_2.1, known_2.2]
  clear hk
  go_wp2_with fail
  refine (tMeets_any _ [35] [36, 120, 47, 121] (by decide) (by decide) (HM.out.keeps H2.out)).mono ?_
  rintro e w3 ⟨rfl, hk⟩
  have H3 := Lib.hid (H2.out.then_ hk)
  rw [known_3.1, known_3.2]
  clear hk
  go_wp2_with fail
  refine (tMeets_any _ [97, 43] [97] (by decide) (by decide) (HM.out.keeps H3.out)).mono ?_
  rintro e w4 ⟨rfl, hk⟩
  have H4 := Lib.hid (H3.out.then_ hk)
  rw [known_4]
  generalize mtB [97, 43] [97] = q
  clear hk
  go_wp2_with fail
  refine (tWithin_good _ [35] [43, 47, 35] (by decide) (by decide) (HM.out.keeps H4.out) known_5.1).mono ?_
  rintro e w5 ⟨rfl, hk⟩
  have H5 := Lib.hid (H4.out.then_ hk)
  rw [known_5.2]
  clear hk
  go_wp2_with fail
  refine (tFilter_any _ [97, 47, 35, 47, 98] (by decide) (HM.out.keeps H5.out)).mono ?_
  rintro e w6 ⟨rfl, hk⟩
  have H6 := Lib.hid (H5.out.then_ hk)
  rw [known_6]
  clear hk
  go_wp2_with fail
  refine (tName_any _ [] (by decide)).mono ?_
  rintro e w7 ⟨rfl, hk⟩
  have H7 := Lib.hid (H6.out.then_ hk)
  rw [known_7]
  clear hk
  go_wp2_with fail
  go_ret
  exact ⟨rfl, H7.out⟩
end Go.Proofs.YtbjoobanbejgbaaDoor

namespace Go.Proofs.YtbjoobanbejgbaaDoor
open Go.RowKit Go.Maps Go.Shelf

theorem tJoinN_take (l : List (List UInt8)) (k : Nat) (h : k ≤ l.length) : tJoinN l k = tJoin (l.take k) := by
  induction k with
  | zero => rfl
  | succ k ih =>
    have hk : k < l.length := h
    rw [tJoinN_succ, ih (by omega), List.getElem?_eq_getElem hk, List.take_succ_eq_append_getElem hk]
    rcases Nat.eq_zero_or_pos k with rfl | hp
    · rfl
    · rw [if_pos hp, tJoin_snoc (fun e => by have := congrArg List.length e; rw [List.length_take, List.length_nil] at this; omega), List.append_assoc]
      rfl
def tSum (l : List (List UInt8)) : Nat := (l.map fun x => x.length + 1).sum
theorem tSum_cons (x : List UInt8) (l : List (List UInt8)) : tSum (x :: l) = x.length + 1 + tSum l := by
  unfold tSum
  rw [List.map_cons, List.sum_cons]
theorem tSum_app (l m : List (List UInt8)) : tSum (l ++ m) = tSum l + tSum m := by
  induction l with
  | nil => simp [tSum]
  | cons x l ih => rw [List.cons_append, tSum_cons, tSum_cons, ih]; omega
theorem tJoin_sum {l : List (List UInt8)} (h : l ≠ []) : (tJoin l).length + 1 = tSum l := by
  induction l with
  | nil => exact absurd rfl h
  | cons x l ih =>
    cases l with
    | nil => rw [tJoin, tSum_cons]; rfl
    | cons y l =>
      have := ih (by simp)
      rw [tJoin, tSum_cons, List.length_append, List.length_cons]
      omega
theorem tJoin_le (l : List (List UInt8)) : (tJoin l).length ≤ tSum l := by
  cases l with
  | nil => simp [tJoin]
  | cons x l =>
    have := tJoin_sum (l := x :: l) (by simp)
    omega
theorem tSum_take (l : List (List UInt8)) (k : Nat) : tSum (l.take k) ≤ tSum l := by
  have := tSum_app (l.take k) (l.drop k)
  rw [List.take_append_drop] at this
  omega
theorem tSum_len (l : List (List UInt8)) : l.length ≤ tSum l := by
  induction l with
  | nil => simp
  | cons x l ih => rw [tSum_cons, List.length_cons]; omega
theorem tSum_mem {l : List (List UInt8)} {x : List UInt8} (h : x ∈ l) : x.length ≤ tSum l := by
  induction l with
  | nil => cases h
  | cons y l ih =>
    rw [tSum_cons]
    rcases List.mem_cons.1 h with rfl | h
    · omega
    · have := ih h; omega
theorem tSum_lev (s : List UInt8) : tSum (tLev s) = s.length + 1 := by
  have := tJoin_sum (tLev_ne s)
  rw [tJoin_lev] at this
  omega
theorem tJoinL_any (w : World) (A : Option Addr) (n c : Nat) (l : List (List UInt8)) (hn : l.length = n) (hL : Lies w w.heap.size A (txL l)) (hs : tSum l ≤ 50000) :
    Calls Tryd.prog 21 #[.slice A n c] w fun e w' => e = .returned (.string ⟨(tJoin l).toArray⟩) ∧ w = w' := by
  subst hn
  have h1 := tSum_len l
  have := tJoin_any w A c l hL (by omega) (fun k hk => by
    rw [tJoinN_take l k hk]
    have h2 := tJoin_le (l.take k)
    have h3 := tSum_take l k
    omega) (fun y hy => by have := tSum_mem hy; omega)
  rwa [tJoinN_take l _ (Nat.le_refl _), List.take_length] at this
theorem tBase_snoc (y l : List (List UInt8)) (x : List UInt8) (i : Nat) : tBase y (l ++ [x]) i = tBase y l i ++ (if x = [35] then [] else [if x = [43] then tUnlike y (i + l.length) else x]) := by
  induction l generalizing i with
  | nil =>
    simp only [tBase, List.nil_append, List.length_nil, Nat.add_zero]
  | cons z l ih =>
    rw [List.cons_append, tBase, tBase, ih, List.length_cons, show i + 1 + l.length = i + (l.length + 1) by omega]
    by_cases h : z = [35]
    · rw [if_pos h, if_pos h]
    · rw [if_neg h, if_neg h, List.cons_append]
theorem tBase_sum (y l : List (List UInt8)) (i : Nat) : tSum (tBase y l i) ≤ tSum l := by
  induction l generalizing i with
  | nil => simp [tBase]
  | cons x l ih =>
    have := ih (i + 1)
    rw [tBase, tSum_cons]
    by_cases h : x = [35]
    · rw [if_pos h]; omega
    · rw [if_neg h, tSum_cons]
      by_cases g : x = [43]
      · rw [if_pos g, (tUnlike_ok y i).2.2.2.1, g, List.length_singleton]; omega
      · rw [if_neg g]; omega
theorem tAdd_sum (y m : List (List UInt8)) : tSum (tAdd y m) = tSum m + 2 := by
  unfold tAdd
  rw [tSum_app, tSum_cons, (tUnlike_ok y m.length).2.2.2.1]
  rfl
theorem tMore_snoc (l : List (List UInt8)) (x : List UInt8) : tMore (l ++ [x]) = (tMore l || x == [35]) := by
  unfold tMore
  rw [List.any_append]
  simp
/-- The names' levels, made as the second loop goes. -/
def nmM (y m : List (List UInt8)) : Nat → List (List UInt8)
  | 0 => m
  | j + 1 => tAdd y (nmM y m j)
def nmO (y m : List (List UInt8)) : Nat → List (List UInt8)
  | 0 => [tJoin m]
  | j + 1 => nmO y m j ++ [tJoin (nmM y m (j + 1))]
theorem nmO_len (y m : List (List UInt8)) (j : Nat) : (nmO y m j).length = j + 1 := by
  induction j with
  | zero => rfl
  | succ j ih => rw [nmO, List.length_append, ih]; rfl
theorem nmM_sum (y m : List (List UInt8)) (j : Nat) : tSum (nmM y m j) = tSum m + 2 * j := by
  induction j with
  | zero => rfl
  | succ j ih => rw [nmM, tAdd_sum, ih]; omega
theorem nmM_len (y m : List (List UInt8)) (j : Nat) : (nmM y m j).length = m.length + j := by
  induction j with
  | zero => rfl
  | succ j ih => rw [nmM, tAdd, List.length_append, ih]; rfl
theorem names_O (x y : List (List UInt8)) : tNamesL x y = if tMore x = true then nmO y (tBase y x 0) 2 else nmO y (tBase y x 0) 0 := by
  unfold tNamesL
  by_cases h : tMore x = true
  · rw [if_pos h, if_pos h]; rfl
  · rw [if_neg h, if_neg h]; rfl
structure NmAt (w2 wr : World) (x y : List (List UInt8)) (k n c : Nat) (A : Option Addr) (more : Bool) : Prop where
  o : OwnT wr w2.heap.size (.slice A n c) (tBase y (x.take k) 0)
  m : tMore (x.take k) = more
  k : Keeps w2 wr []
theorem NmAt.next {w2 wr Wa w3 : World} {x y : List (List UInt8)} {k n n' c c' : Nat} {A A' : Option Addr} {more : Bool} {z q : List UInt8} (h : NmAt w2 wr x y k n c A more) (hk : k < x.length) (hz : x[k] = z) (h35 : z ≠ [35]) (hq : q = if z = [43] then tUnlike y k else z) (ho : OwnT w3 w2.heap.size (.slice A' n' c') (tBase y (x.take k) 0 ++ [q])) (k0 : Keeps wr Wa []) (k1 : Keeps Wa w3 (Value.slice A n c).ownBlock.toList) : NmAt w2 w3 x y (k + 1) n' c' A' more := by
  have e := List.take_succ_eq_append_getElem hk
  rw [hz] at e
  refine ⟨?_, ?_, (h.k.then_ k0).trans k1 fun g hg hlt => ?_⟩
  · rw [e, tBase_snoc, if_neg h35, List.length_take, Nat.zero_add, Nat.min_eq_left (by omega), ← hq]
    exact ho
  · rw [e, tMore_snoc, h.m, show (z == [35]) = false by simpa using h35, Bool.or_false]
  · have := (h.o.rows g hg).1
    omega
theorem NmAt.skip {w2 wr : World} {x y : List (List UInt8)} {k n c : Nat} {A : Option Addr} {more : Bool} (h : NmAt w2 wr x y k n c A more) (hk : k < x.length) (hz : x[k] = [35]) : NmAt w2 wr x y (k + 1) n c A true := by
  have e := List.take_succ_eq_append_getElem hk
  rw [hz] at e
  refine ⟨?_, ?_, h.k⟩
  · rw [e, tBase_snoc, if_pos rfl, List.append_nil]
    exact h.o
  · rw [e, tMore_snoc]
    simp
/-- What is appended to one list of the call's own leaves another one. -/
theorem own_two {wr Wa w5 : World} {B : Nat} {v1 v1' v2 : Value} {l2 : List (List UInt8)} (o2 : OwnT wr B v2 l2) (ap : ∀ g, v1.ownBlock = some g → v2.ownBlock ≠ some g) (k0 : Keeps wr Wa []) (hk : Keeps Wa w5 v1.ownBlock.toList) (hb : v1'.ownBlock = v1.ownBlock ∨ v1'.ownBlock = some Wa.heap.size) : OwnT w5 B v2 l2 ∧ ∀ g, v1'.ownBlock = some g → v2.ownBlock ≠ some g := by
  refine ⟨ownN_keep (o2.keeps k0) hk fun g hg hm => ap g (by simpa using hm) hg, fun g h1 h2 => ?_⟩
  rcases hb with e | e
  · exact ap g (e.symm.trans h1) h2
  · rw [e] at h1
    injection h1 with h1
    obtain ⟨_, cs, hr⟩ := ownN_row o2 g h2
    have := hr.lt
    have := k0.size
    omega
structure Nm2 (w2 wr : World) (y M : List (List UInt8)) (j n n' c c' : Nat) (A A' : Option Addr) : Prop where
  o1 : OwnT wr w2.heap.size (.slice A n c) (nmM y M j)
  o2 : OwnT wr w2.heap.size (.slice A' n' c') (nmO y M j)
  ap : ∀ g, (Value.slice A n c).ownBlock = some g → (Value.slice A' n' c').ownBlock ≠ some g
  k : Keeps w2 wr []
def NmPost (w : World) (l : List (List UInt8)) (e : Ending) (w' : World) : Prop := ∃ A c, e = .returned (.slice A l.length c) ∧ OwnT w' w.heap.size (.slice A l.length c) l ∧ Keeps w w' []
set_option maxRecDepth 100000 in
set_option maxHeartbeats 4000000 in
theorem tNames_any (w : World) (a b : List UInt8) (ha : a.length ≤ 20000) (hb : b.length ≤ 20000) : Calls Tryd.prog 14 #[.string ⟨a.toArray⟩, .string ⟨b.toArray⟩] w (NmPost w (tNames a b)) := by
  obtain ⟨NN, hNN⟩ : ∃ NN, tNames a b = NN := ⟨_, rfl⟩
  have HT0 := Lib.hid hNN
  rw [hNN]
  clear hNN
  go_enter Tryd.func14, Tryd.ntmps14
  go_wp2_with fail
  refine (rLevels_any _ a (by omega)).mono ?_
  rintro e w1 ⟨A1, c1, rfl, -, hL1, hk1⟩
  have H1 := Lib.hid (And.intro hL1 hk1)
  clear hL1 hk1
  go_wp2_with fail
  refine (rLevels_any _ b (by omega)).mono ?_
  rintro e w2 ⟨A2, c2, rfl, -, hL2, hk2⟩
  have hL1 := H1.out.1.below (hk2.below (Nat.le_refl _) (by simp)) |>.mono hk2.size
  have HT := Lib.hid (show NN = tNamesL (tLev a) (tLev b) from HT0.out.symm)
  clear HT0
  have HB := Lib.hid (show tSum (tLev a) ≤ 20001 ∧ tSum (tLev b) ≤ 20001 by rw [tSum_lev, tSum_lev]; omega)
  have hxl : (tLev a).length ≤ 20001 := Nat.le_trans (tSum_len _) HB.out.1
  have hyl : (tLev b).length ≤ 20001 := Nat.le_trans (tSum_len _) HB.out.2
  generalize tLev a = x at *
  generalize tLev b = y at *
  have H2 := Lib.hid (And.intro hL1 (And.intro hL2 (H1.out.2.then_ hk2)))
  clear hL1 hL2 hk2 H1 ha hb
  go_wp2_with fail
  go_loopw [7, 8, 9] (fun bs mo i wr => ∃ (k n c : Nat) (A : Option Addr) (m : Bool), k ≤ x.length ∧ i = .int .i64 k ∧ mo = .bool m ∧ bs = .slice A n c ∧ Hid (NmAt w2 wr x y k n c A m)) (fun _ _ i _ => x.length - (intOf i).toNat)
  case atStart => exact ⟨0, 0, 0, none, false, by omega, rfl, rfl, rfl, Lib.hid ⟨OwnN.nil _ _ _ _ _, rfl, Keeps.refl _ _⟩⟩
  case round =>
    obtain ⟨k, n, c, A, m, hk, rfl, rfl, rfl, HR⟩ := hrel
    by_cases hlt : k < x.length
    · obtain ⟨g, o, rfl, hgb, hcx⟩ := H2.out.1.at_ (k := k) (by simpa using hlt)
      rw [List.getElem_map] at hcx
      obtain ⟨z, hz⟩ : ∃ z, x[k] = z := ⟨_, rfl⟩
      rw [hz] at hcx
      obtain ⟨Z, hZ⟩ : ∃ S : ByteArray, (⟨z.toArray⟩ : ByteArray) = S := ⟨_, rfl⟩
      have eZ : Z.toList = z := by rw [← hZ, Lib.toList_data]
      rw [hZ] at hcx
      have hcr := (HR.out.k.cell (p := ⟨g, o + k, none⟩) hgb (by simp)).trans hcx
      have HX := Lib.hid (And.intro hZ hz)
      clear hcx hgb hZ
      by_cases h35 : z = [35]
      · have e35 : (Z.toList == [35]) = true := by rw [eZ, h35]; rfl
        have HN := Lib.hid (HR.out.skip hlt (by rw [hz, h35]))
        clear h35 eZ hz
        go_wp2_with fail
        exact ⟨⟨k + 1, n, c, A, true, by omega, by go_num, rfl, rfl, HN⟩, by simp [intOf]; omega⟩
      · have e35 : (Z.toList == [35]) = false := by rw [eZ]; simpa using h35
        by_cases h43 : z = [43]
        · have e43 : (Z.toList == [43]) = true := by rw [eZ, h43]; rfl
          have hLy : Lies wr wr.heap.size A2 (txL y) := H2.out.2.1.below (HR.out.k.below (Nat.le_refl _) (by simp)) |>.mono HR.out.k.size
          have HU := Lib.hid (tUnlike_any wr A2 c2 k y hLy (by omega) (by omega))
          clear eZ hz hLy
          go_wp2_with fail
          refine HU.out.mono ?_
          rintro e w3 ⟨rfl, rfl⟩
          clear HU
          obtain ⟨Wa, hWa⟩ : ∃ Wa, wr.alloc (.cells #[.string ⟨(tUnlike y k).toArray⟩] 9) = Wa := ⟨_, rfl⟩
          have ra : Row Wa wr.heap.size 9 #[.string ⟨(tUnlike y k).toArray⟩] := by rw [← hWa]; exact Row.new _ _ _
          have ka : Keeps wr Wa [] := by rw [← hWa]; exact Keeps.alloc _ _
          have HLa := Lib.hid (show Lies Wa Wa.heap.size (some ⟨wr.heap.size, 0, none⟩) ([tUnlike y k].flatMap txtV) from lies_of_row ra (by first | rfl | rw [← HX.out.1]; rfl))
          have HA := Lib.hid (And.intro ka (And.intro (HR.out.o.keeps ka) (And.intro (HR.out.k.then_ ka) (show (tBase y (x.take k) 0).length ≤ 60000 by
            have h1 := tSum_len (tBase y (x.take k) 0)
            have h2 := tBase_sum y (x.take k) 0
            have h3 := tSum_take x k
            have h4 := HB.out.1
            omega))))
          clear ra ka
          go_wp2_with (at_builtin; refine wpList_append_N elemTxt encTxt rfl (.tmp 37) (.tmp 41) rfl w2.heap.size (.slice A n c) (some ⟨wr.heap.size, 0, none⟩) 1 1 (tBase y (x.take k) 0) [tUnlike y k] rfl rfl rfl HA.out.2.1 HLa.out (by have := HA.out.2.2.2; simp; omega) HA.out.2.2.1.size ?_; intro A5 c5 w5 l5 hl5 hlen5 ho5 hk5 _; have H5 := Lib.hid (And.intro hl5.out (And.intro ho5 hk5)); clear hl5 ho5 hk5 hlen5)
          have ho := H5.out.2.1
          rw [H5.out.1] at ho
          exact ⟨⟨k + 1, _, c5, A5, m, by omega, by go_num, rfl, rfl, Lib.hid (by rw [H5.out.1]; exact HR.out.next hlt HX.out.2 h35 (by rw [if_pos h43]) ho HA.out.1 H5.out.2.2)⟩, by simp [intOf]; omega⟩
        · have e43 : (Z.toList == [43]) = false := by rw [eZ]; simpa using h43
          clear eZ hz
          obtain ⟨Wa, hWa⟩ : ∃ Wa, wr.alloc (.cells #[.string Z] 9) = Wa := ⟨_, rfl⟩
          have ra : Row Wa wr.heap.size 9 #[.string Z] := by rw [← hWa]; exact Row.new _ _ _
          have ka : Keeps wr Wa [] := by rw [← hWa]; exact Keeps.alloc _ _
          have HLa := Lib.hid (show Lies Wa Wa.heap.size (some ⟨wr.heap.size, 0, none⟩) ([z].flatMap txtV) from lies_of_row ra (by first | rfl | rw [← HX.out.1]; rfl))
          have HA := Lib.hid (And.intro ka (And.intro (HR.out.o.keeps ka) (And.intro (HR.out.k.then_ ka) (show (tBase y (x.take k) 0).length ≤ 60000 by
            have h1 := tSum_len (tBase y (x.take k) 0)
            have h2 := tBase_sum y (x.take k) 0
            have h3 := tSum_take x k
            have h4 := HB.out.1
            omega))))
          clear ra ka
          go_wp2_with (at_builtin; refine wpList_append_N elemTxt encTxt rfl (.tmp 26) (.tmp 31) rfl w2.heap.size (.slice A n c) (some ⟨wr.heap.size, 0, none⟩) 1 1 (tBase y (x.take k) 0) [z] rfl rfl rfl HA.out.2.1 HLa.out (by have := HA.out.2.2.2; simp; omega) HA.out.2.2.1.size ?_; intro A5 c5 w5 l5 hl5 hlen5 ho5 hk5 _; have H5 := Lib.hid (And.intro hl5.out (And.intro ho5 hk5)); clear hl5 ho5 hk5 hlen5)
          have ho := H5.out.2.1
          rw [H5.out.1] at ho
          exact ⟨⟨k + 1, _, c5, A5, m, by omega, by go_num, rfl, rfl, Lib.hid (by rw [H5.out.1]; exact HR.out.next hlt HX.out.2 h35 (by rw [if_neg h43]) ho HA.out.1 H5.out.2.2)⟩, by simp [intOf]; omega⟩
    · obtain rfl : k = x.length := by omega
      have HO := Lib.hid (show OwnT wr w2.heap.size (.slice A n c) (tBase y x 0) ∧ tMore x = m by
        have h1 := HR.out.o
        have h2 := HR.out.m
        rw [List.take_length] at h1 h2
        exact ⟨h1, h2⟩)
      have HM := Lib.hid (show tSum (tBase y x 0) ≤ 20001 from Nat.le_trans (tBase_sum y x 0) HB.out.1)
      have HN := Lib.hid (show NN = if m = true then nmO y (tBase y x 0) 2 else nmO y (tBase y x 0) 0 by rw [HT.out, names_O, HO.out.2])
      have HK := Lib.hid HR.out.k
      have HO1 := Lib.hid HO.out.1
      generalize tBase y x 0 = M at *
      clear HO HR
      go_wp2_with fail
      refine (tJoinL_any wr A n c M HO1.out.lies1.1.symm HO1.out.lies1.2 (by have := HM.out; omega)).mono ?_
      rintro e w3 ⟨rfl, rfl⟩
      go_wp2_with fail
      go_loopw [7, 10, 11] (fun bs out i wr => ∃ (j n n' c c' : Nat) (A A' : Option Addr), j ≤ 2 ∧ i = .int .i64 j ∧ bs = .slice A n c ∧ out = .slice A' n' c' ∧ Hid ((m = false → j = 0) ∧ Nm2 w2 wr y M j n n' c c' A A')) (fun _ _ i _ => 2 - (intOf i).toNat)
      case atStart =>
        have o2 := ownT_one wr (tJoin M)
        refine ⟨0, n, 1, c, 1, A, _, by omega, rfl, rfl, rfl, Lib.hid ⟨fun _ => rfl, HO1.out.keeps (Keeps.alloc _ _), ownN_base o2 HK.out.size, fun g h1 h2 => ?_, HK.out.then_alloc _⟩⟩
        obtain ⟨_, cs, hr⟩ := ownN_row HO1.out g h1
        have := hr.lt
        have h3 : wr.heap.size = g := by simpa [Value.ownBlock] using h2
        omega
      case round =>
        clear HO1 HK
        obtain ⟨j, n, n', c, c', A, A', hj, rfl, rfl, rfl, HR⟩ := hrel
        cases m with
        | false =>
          have hj0 := HR.out.1 rfl
          subst hj0
          have HE := Lib.hid (show NN = nmO y M 0 by rw [HN.out, if_neg (by simp)])
          go_wp2_with fail
          go_ret
          obtain ⟨e1, _⟩ := HR.out.2.o2.lies1
          rw [HE.out]
          exact ⟨A', c', by rw [← e1]; rfl, by rw [← e1]; exact ownN_base HR.out.2.o2 H2.out.2.2.size, H2.out.2.2.then_ HR.out.2.k⟩
        | true =>
          by_cases hj2 : j < 2
          · have hn : n = (nmM y M j).length := HR.out.2.o1.lies1.1
            have hn6 : n ≤ 60000 := by
              have h1 := tSum_len (nmM y M j)
              have h2 := nmM_sum y M j
              have h3 := HM.out
              omega
            have hLy : Lies wr wr.heap.size A2 (txL y) := H2.out.2.1.below (HR.out.2.k.below (Nat.le_refl _) (by simp)) |>.mono HR.out.2.k.size
            have HU := Lib.hid (tUnlike_any wr A2 c2 n y hLy (by omega) hn6)
            have HNN := Lib.hid hn
            clear hLy hn
            go_wp2_with fail
            refine HU.out.mono ?_
            rintro e w3 ⟨rfl, rfl⟩
            clear HU
            obtain ⟨Wa, hWa⟩ : ∃ Wa, wr.alloc (.cells #[.string ⟨(tUnlike y n).toArray⟩] 9) = Wa := ⟨_, rfl⟩
            have ra : Row Wa wr.heap.size 9 #[.string ⟨(tUnlike y n).toArray⟩] := by rw [← hWa]; exact Row.new _ _ _
            have ka : Keeps wr Wa [] := by rw [← hWa]; exact Keeps.alloc _ _
            have HLa := Lib.hid (show Lies Wa Wa.heap.size (some ⟨wr.heap.size, 0, none⟩) ([tUnlike y n].flatMap txtV) from lies_of_row ra rfl)
            have HA := Lib.hid (And.intro ka (And.intro (HR.out.2.o1.keeps ka) (HR.out.2.k.then_ ka)))
            clear ra ka
            go_wp2_with (at_builtin; refine wpList_append_N elemTxt encTxt rfl (.tmp 53) (.tmp 58) rfl w2.heap.size (.slice A n c) (some ⟨wr.heap.size, 0, none⟩) 1 1 (nmM y M j) [tUnlike y n] rfl rfl rfl HA.out.2.1 HLa.out (by have := HNN.out; simp; omega) HA.out.2.2.size ?_; intro A5 c5 w5 l5 hl5 hlen5 ho5 hk5 hb5; have H5 := Lib.hid (And.intro hl5.out (And.intro ho5 (And.intro hk5 hb5))); clear hl5 ho5 hk5 hlen5 hb5)
            have HL5 := Lib.hid (show l5 = nmM y M (j + 1) by rw [H5.out.1, nmM, tAdd, HNN.out])
            have HS5 := Lib.hid (show tSum l5 ≤ 50000 by
              rw [HL5.out, nmM_sum]
              have := HM.out
              omega)
            have HT5 := Lib.hid (own_two HR.out.2.o2 HR.out.2.ap HA.out.1 H5.out.2.2.1 H5.out.2.2.2)
            have HK5 := Lib.hid (show Keeps w2 w5 [] from HA.out.2.2.trans H5.out.2.2.1 fun g hg hlt => by
              have := (HA.out.2.1.rows g hg).1
              omega)
            refine (tJoinL_any w5 A5 _ c5 l5 rfl H5.out.2.1.lies1.2 HS5.out).mono ?_
            rintro e w6 ⟨rfl, rfl⟩
            have hn'3 : n' ≤ 3 := by
              have := HR.out.2.o2.lies1.1
              rw [nmO_len] at this
              omega
            obtain ⟨Wb, hWb⟩ : ∃ Wb, w5.alloc (.cells #[.string ⟨(tJoin l5).toArray⟩] 9) = Wb := ⟨_, rfl⟩
            have rb : Row Wb w5.heap.size 9 #[.string ⟨(tJoin l5).toArray⟩] := by rw [← hWb]; exact Row.new _ _ _
            have kb : Keeps w5 Wb [] := by rw [← hWb]; exact Keeps.alloc _ _
            have HLb := Lib.hid (show Lies Wb Wb.heap.size (some ⟨w5.heap.size, 0, none⟩) ([tJoin l5].flatMap txtV) from lies_of_row rb rfl)
            have HC := Lib.hid (And.intro kb (And.intro (HT5.out.1.keeps kb) (HK5.out.then_ kb)))
            clear rb kb
            go_wp2_with (at_builtin; refine wpList_append_N elemTxt encTxt rfl (.tmp 60) (.tmp 63) rfl w2.heap.size (.slice A' n' c') (some ⟨w5.heap.size, 0, none⟩) 1 1 (nmO y M j) [tJoin l5] rfl rfl rfl HC.out.2.1 HLb.out (by rw [nmO_len]; simp; omega) HC.out.2.2.size ?_; intro A7 c7 w7 l7 hl7 hlen7 ho7 hk7 hb7; have H7 := Lib.hid (And.intro hl7.out (And.intro ho7 (And.intro hk7 hb7))); clear hl7 ho7 hk7 hlen7 hb7)
            have hT7 := own_two H5.out.2.1 (fun g h1 h2 => HT5.out.2 g h2 h1) HC.out.1 H7.out.2.2.1 H7.out.2.2.2
            refine ⟨⟨j + 1, l5.length, l7.length, c5, c7, A5, A7, by omega, by go_num, rfl, rfl, Lib.hid ⟨(fun h => by cases h), ?_, ?_, fun g h1 h2 => hT7.2 g h2 h1, ?_⟩⟩, by simp [intOf]; omega⟩
            · rw [← HL5.out]; exact hT7.1
            · rw [nmO, ← HL5.out, ← H7.out.1]; exact H7.out.2.1
            · exact HC.out.2.2.trans H7.out.2.2.1 fun g hg hlt => by
                have := (HC.out.2.1.rows g hg).1
                omega
          · obtain rfl : j = 2 := by omega
            have HE := Lib.hid (show NN = nmO y M 2 by rw [HN.out, if_pos rfl])
            go_wp2_with fail
            go_ret
            obtain ⟨e1, _⟩ := HR.out.2.o2.lies1
            rw [HE.out]
            exact ⟨A', c', by rw [← e1]; rfl, by rw [← e1]; exact ownN_base HR.out.2.o2 H2.out.2.2.size, H2.out.2.2.then_ HR.out.2.k⟩
end Go.Proofs.YtbjoobanbejgbaaDoor

namespace Go.Proofs.YtbjoobanbejgbaaDoor
open Go.RowKit Go.Shelf

theorem tLevelsL_any (w : World) (s : List UInt8) (hs : s.length ≤ 60000) (hm : MaxL w) : Calls Tryd.prog 19 #[.string ⟨s.toArray⟩] w fun e w' => ∃ b, e = .returned (.slice (some ⟨b, 0, none⟩) (tLev s).length (tLev s).length) ∧ Lies w' w'.heap.size (some ⟨b, 0, none⟩) (txL (tLev s)) ∧ Keeps w w' [] :=
  (tLevels_any w s hs hm).mono (by
    rintro e w' ⟨rfl, rfl⟩
    exact ⟨_, rfl, txL_lies (Row.new _ _ _), Keeps.alloc _ _⟩)
set_option maxRecDepth 100000 in
set_option maxHeartbeats 2000000 in
theorem topicTells_any (w : World) (s : List UInt8) (hm : MaxL w) : Calls Tryd.prog 6 #[.string ⟨s.toArray⟩] w (TruePost w true) := by
  have HM := Lib.hid hm
  have HK := Lib.hid (Keeps.refl w [])
  clear hm
  by_cases hs : 300 < s.length
  · have hsb : decide ((s.length : Int) > 300) = true := decide_eq_true (by omega)
    go_enter Tryd.func6, Tryd.ntmps6
    go_wp2_with fail
    refine (known13_any _ (HM.out.keeps HK.out)).mono ?_
    rintro e w9 ⟨rfl, hk⟩
    replace HK := Lib.hid (HK.out.then_ hk)
    clear hk
    go_wp2_with fail
    go_ret
    exact ⟨rfl, HK.out⟩
  · have hsb : decide ((s.length : Int) > 300) = false := decide_eq_false (by omega)
    have HL := Lib.hid (show s.length ≤ 300 by omega)
    obtain ⟨n, hn⟩ : ∃ n, tName s = n := ⟨_, rfl⟩
    obtain ⟨f, hf⟩ : ∃ f, tFilter s = f := ⟨_, rfl⟩
    have HNF := Lib.hid (show f = false → n = false from fun h => by
      rw [← hn, ← Bool.not_eq_true]
      intro h2
      rw [name_filter h2] at hf
      rw [← hf] at h
      cases h)
    have C1 := Lib.hid (fun w : World => tName_any w s (by omega))
    have C2 := Lib.hid (fun w : World => rName_any w s (by omega))
    have C3 := Lib.hid (fun (w : World) h => tFilter_any w s (by omega) h)
    have C4 := Lib.hid (fun w : World => rFilter_any w s (by omega))
    have C5 := Lib.hid (fun w : World => tPlain_any w s (by omega))
    rw [hn] at C1 C2 C5
    rw [hf] at C3 C4
    clear hn hf
    go_enter Tryd.func6, Tryd.ntmps6
    go_wp2_with fail
    refine (C1.out _).mono ?_
    rintro e w9 ⟨rfl, hk⟩
    replace HK := Lib.hid (HK.out.then_ hk)
    clear hk
    go_wp2_with fail
    refine (C2.out _).mono ?_
    rintro e w9 ⟨rfl, hk⟩
    replace HK := Lib.hid (HK.out.then_ hk)
    clear hk
    go_wp2_with fail
    refine (C3.out _ (HM.out.keeps HK.out)).mono ?_
    rintro e w9 ⟨rfl, hk⟩
    replace HK := Lib.hid (HK.out.then_ hk)
    clear hk
    go_wp2_with fail
    refine (C4.out _).mono ?_
    rintro e w9 ⟨rfl, hk⟩
    replace HK := Lib.hid (HK.out.then_ hk)
    clear hk
    go_wp2_with fail
    refine (C5.out _).mono ?_
    rintro e w9 ⟨rfl, hk⟩
    replace HK := Lib.hid (HK.out.then_ hk)
    clear hk
    go_wp2_with fail
    refine (C4.out _).mono ?_
    rintro e w9 ⟨rfl, hk⟩
    replace HK := Lib.hid (HK.out.then_ hk)
    clear hk
    cases f with
    | false =>
      obtain rfl := HNF.out rfl
      go_wp2_with fail
      refine (tLevelsL_any _ s (by have := HL.out; omega) (HM.out.keeps HK.out)).mono ?_
      rintro e w9 ⟨b, rfl, hL1, hk⟩
      replace HK := Lib.hid (HK.out.then_ hk)
      have HL1 := Lib.hid hL1
      clear hL1 hk
      go_wp2_with fail
      refine (rLevels_any _ s (by have := HL.out; omega)).mono ?_
      rintro e w10 ⟨A, c, rfl, -, hL2, hk⟩
      replace HK := Lib.hid (HK.out.then_ hk)
      have HS := Lib.hid (tSame_any w10 _ _ (tLev s).length c _ _ (HL1.out.below (hk.below (Nat.le_refl _) (by simp)) |>.mono hk.size) hL2 (by have := tLev_len s; have := HL.out; omega) (by have := tLev_len s; have := HL.out; omega))
      rw [beq_self_eq_true] at HS
      clear hL2 hk HL1
      go_wp2_with fail
      refine (HS.out).mono ?_
      rintro e w9 ⟨rfl, hk⟩
      replace HK := Lib.hid (HK.out.then_ hk)
      clear hk
      go_wp2_with fail
      refine (known13_any _ (HM.out.keeps HK.out)).mono ?_
      rintro e w9 ⟨rfl, hk⟩
      replace HK := Lib.hid (HK.out.then_ hk)
      clear hk
      go_wp2_with fail
      go_ret
      exact ⟨rfl, HK.out⟩
    | true =>
      go_wp2_with fail
      refine (C2.out _).mono ?_
      rintro e w9 ⟨rfl, hk⟩
      replace HK := Lib.hid (HK.out.then_ hk)
      clear hk
      go_wp2_with fail
      refine (tLevelsL_any _ s (by have := HL.out; omega) (HM.out.keeps HK.out)).mono ?_
      rintro e w9 ⟨b, rfl, hL1, hk⟩
      replace HK := Lib.hid (HK.out.then_ hk)
      have HL1 := Lib.hid hL1
      clear hL1 hk
      go_wp2_with fail
      refine (rLevels_any _ s (by have := HL.out; omega)).mono ?_
      rintro e w10 ⟨A, c, rfl, -, hL2, hk⟩
      replace HK := Lib.hid (HK.out.then_ hk)
      have HS := Lib.hid (tSame_any w10 _ _ (tLev s).length c _ _ (HL1.out.below (hk.below (Nat.le_refl _) (by simp)) |>.mono hk.size) hL2 (by have := tLev_len s; have := HL.out; omega) (by have := tLev_len s; have := HL.out; omega))
      rw [beq_self_eq_true] at HS
      clear hL2 hk HL1
      go_wp2_with fail
      refine (HS.out).mono ?_
      rintro e w9 ⟨rfl, hk⟩
      replace HK := Lib.hid (HK.out.then_ hk)
      clear hk
      go_wp2_with fail
      refine (known13_any _ (HM.out.keeps HK.out)).mono ?_
      rintro e w9 ⟨rfl, hk⟩
      replace HK := Lib.hid (HK.out.then_ hk)
      clear hk
      go_wp2_with fail
      go_ret
      exact ⟨rfl, HK.out⟩
end Go.Proofs.YtbjoobanbejgbaaDoor
