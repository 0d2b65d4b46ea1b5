/- Packages of packets, plain: what the statements say of their bytes. The law PacketApart. -/
import Derived.Test.YtahbikfbjenfpaaGreatDoorPa13
import Derived.Test.YtahbikfbjenfpaaGreatDoorPa40

namespace Go.Proofs.YtahbikfbjenfpaaGreatDoor
open Go

theorem apart_take {p q : Pk} (hp : pkOk p = true) (hq : pkOk q = true) {n : Nat} (hn : n = min (pkRaw p).length (pkRaw q).length) : (pkRaw p).take n = (pkRaw q).take n ↔ p = q := by
 refine ⟨fun h => ?_, fun h => by rw [h]⟩
 rcases Nat.le_total (pkRaw p).length (pkRaw q).length with hle | hle
 ·rw [Nat.min_eq_left hle] at hn
  subst hn
  rw [List.take_length] at h
  refine (pk_apart hp hq (r := (pkRaw q).drop (pkRaw p).length) (r' := []) ?_ (.inr rfl)).1
  rw [List.append_nil]
  conv => lhs; lhs; rw [h]
  exact List.take_append_drop _ _
 ·rw [Nat.min_eq_right hle] at hn
  subst hn
  rw [List.take_length] at h
  refine (pk_apart hp hq (r := []) (r' := (pkRaw p).drop (pkRaw q).length) ?_ (.inl rfl)).1
  rw [List.append_nil]
  conv => rhs; lhs; rw [← h]
  exact (List.take_append_drop _ _).symm
/-- Dup and Retain turned. -/
def pkTurn (p : Pk) : Pk := { p with dup := !p.dup, ret := !p.ret }
theorem turn_kind {p : Pk} (hp : pkOk p = true) (hq : pkOk (pkTurn p) = true) : p.k = 3 := by
 obtain ⟨_, _, h3⟩ := pkOk_parts hp
 obtain ⟨_, _, g3⟩ := pkOk_parts hq
 by_cases e : p.k = 3
 ·exact e
 exfalso
 have key : ∀ x : Pk, x.k ≠ 3 → pkAlone x = x → x.dup = false := by
  intro x hx h
  rw [← h]
  unfold pkAlone
  rw [if_neg hx]
  iterate 5
   split
   ·rfl
  split <;> rfl
 have h4 := key p e h3
 have g4 := key (pkTurn p) e g3
 unfold pkTurn at g4
 simp [h4] at g4
theorem turn_body (p : Pk) (h : p.k = 3) : pkBody (pkTurn p) = pkBody p := by
 unfold pkBody pkTurn
 simp only [h]
 rfl
theorem turn_bits : ∀ a b : Bool, ∀ n : Fin 3, (lnB (16 * 3 + (pkB (!a) 8 + pkB (!b) 1 + 2 * n.val))).toNat = ((lnB (16 * 3 + (pkB a 8 + pkB b 1 + 2 * n.val))).toNat ^^^ 9) := by decide
/-- Turned, the first byte alone differs, by 9. -/
theorem turn_raw {p : Pk} (hp : pkOk p = true) (hq : pkOk (pkTurn p) = true) : ∃ x y t, pkRaw p = x :: t ∧ pkRaw (pkTurn p) = y :: t ∧ y.toNat = x.toNat ^^^ 9 := by
 have hk := turn_kind hp hq
 obtain ⟨_, h2, _⟩ := pkOk_parts hp
 obtain ⟨_, _, hf, _⟩ := pk_fit3 hk h2
 refine ⟨_, lnB (16 * (pkTurn p).k.toNat + pkF (pkTurn p)), _, rfl, ?_, ?_⟩
 ·unfold pkRaw
  rw [turn_body p hk]
 ·have e1 : pkF p = pkPub p := by unfold pkF; rw [if_pos hk]
  have e2 : pkF (pkTurn p) = pkPub (pkTurn p) := by unfold pkF; rw [if_pos (show (pkTurn p).k = 3 from hk)]
  have e3 : (pkTurn p).k = 3 := hk
  rw [e1, e2, e3, hk]
  obtain ⟨n, hn⟩ : ∃ n : Fin 3, p.q.toNat = n.val := ⟨⟨p.q.toNat, by omega⟩, rfl⟩
  unfold pkPub pkTurn
  simp only
  rw [hn]
  exact turn_bits p.dup p.ret n
/-- How many bytes differ. -/
def diffs : List UInt8 → List UInt8 → Nat
 | x :: l, y :: m => (if x = y then 0 else 1) + diffs l m
 | _, _ => 0
theorem diffs_pre (a l m : List UInt8) : diffs (a ++ l) (a ++ m) = diffs l m := by
 induction a with
 | nil => rfl
 | cons x a ih => rw [List.cons_append, List.cons_append, diffs, if_pos rfl, ih, Nat.zero_add]
theorem diffs_self (l : List UInt8) : diffs l l = 0 := by
 have := diffs_pre l [] []
 rw [List.append_nil] at this
 rw [this]
 rfl
theorem diffs_zero : ∀ (l m : List UInt8), l.length = m.length → diffs l m = 0 → l = m
 | [], [], _, _ => rfl
 | x :: l, y :: m, h, e => by
  unfold diffs at e
  split at e
  ·rename_i hx
   rw [hx, diffs_zero l m (by simpa using h) (by omega)]
  ·omega
 | [], _ :: _, h, _ => by simp at h
 | _ :: _, [], h, _ => by simp at h
theorem diffs_step : ∀ (l m : List UInt8) (i : Nat) (h : i < l.length) (h' : i < m.length), diffs (l.take (i + 1)) (m.take (i + 1)) = diffs (l.take i) (m.take i) + (if l[i] = m[i] then 0 else 1)
 | x :: l, y :: m, 0, _, _ => by
  simp only [List.take_succ_cons, List.take_zero, diffs, List.getElem_cons_zero]
  omega
 | x :: l, y :: m, i + 1, h, h' => by
  have := diffs_step l m i (by simpa using h) (by simpa using h')
  simp only [List.take_succ_cons, diffs, List.getElem_cons_succ] at this ⊢
  omega
 | [], _, _, h, _ => by simp at h
 | _ :: _, [], _, _, h => by simp at h
theorem diffs_le (l m : List UInt8) : diffs l m ≤ l.length := by
 induction l generalizing m with
 | nil => simp [diffs]
 | cons x l ih =>
  cases m with
  | nil => simp [diffs]
  | cons y m =>
   have := ih m
   unfold diffs
   simp only [List.length_cons]
   split <;> omega
/-- With another ID. -/
def pkId2 (p : Pk) (n : Int) : Pk := { p with id := n }
theorem id_two {A B : List UInt8} (m n : Int) (x : UInt8) (f : Nat → List UInt8) : diffs (x :: (f (A ++ (pkTwo m ++ B)).length ++ (A ++ (pkTwo m ++ B)))) (x :: (f (A ++ (pkTwo n ++ B)).length ++ (A ++ (pkTwo n ++ B)))) ≤ 2 ∧ (x :: (f (A ++ (pkTwo m ++ B)).length ++ (A ++ (pkTwo m ++ B)))).length = (x :: (f (A ++ (pkTwo n ++ B)).length ++ (A ++ (pkTwo n ++ B)))).length := by
 obtain ⟨a, b, e1⟩ := two_bytes m
 obtain ⟨c, d, e2⟩ := two_bytes n
 have hl : (A ++ (pkTwo m ++ B)).length = (A ++ (pkTwo n ++ B)).length := by rw [e1, e2]; simp
 have he : ∀ u v : List UInt8, u.length = v.length → (x :: (f u.length ++ u)).length = (x :: (f v.length ++ v)).length := fun u v h => by simp [h]
 refine ⟨?_, he _ _ hl⟩
 rw [hl]
 unfold diffs
 rw [if_pos rfl, diffs_pre, diffs_pre, e1, e2]
 simp only [List.cons_append, List.nil_append, diffs, diffs_self]
 split <;> split <;> omega
theorem id_raw {p : Pk} {n : Int} (hp : pkOk p = true) (hq : pkOk (pkId2 p n) = true) : (pkRaw p).length = (pkRaw (pkId2 p n)).length ∧ diffs (pkRaw p) (pkRaw (pkId2 p n)) ≤ 2 ∧ (diffs (pkRaw p) (pkRaw (pkId2 p n)) = 0 ↔ p.id = n) := by
 have key : (pkRaw p).length = (pkRaw (pkId2 p n)).length ∧ diffs (pkRaw p) (pkRaw (pkId2 p n)) ≤ 2 := by
  by_cases hid : p.id = n
  ·have : pkId2 p n = p := by unfold pkId2; rw [← hid]
   rw [this, diffs_self]
   exact ⟨rfl, by omega⟩
  ·have h0 : ∀ x : Pk, pkAlone x = x → (x.k = 1 ∨ x.k = 2 ∨ x.k = 12 ∨ x.k = 13 ∨ x.k = 14) → x.id = 0 := by
    intro x h hk
    rw [← h]
    unfold pkAlone
    rcases hk with e | e | e | e | e
    ·rw [if_pos e]; rfl
    ·rw [if_neg (by omega), if_pos e]; rfl
    ·rw [if_neg (by omega), if_neg (by omega), if_neg (by omega), if_neg (by omega), if_neg (by omega), if_neg (by omega), if_pos (.inl e)]; rfl
    ·rw [if_neg (by omega), if_neg (by omega), if_neg (by omega), if_neg (by omega), if_neg (by omega), if_neg (by omega), if_pos (.inr (.inl e))]; rfl
    ·rw [if_neg (by omega), if_neg (by omega), if_neg (by omega), if_neg (by omega), if_neg (by omega), if_neg (by omega), if_pos (.inr (.inr e))]; rfl
   obtain ⟨h1, h2, h3⟩ := pkOk_parts hp
   obtain ⟨g1, g2, g3⟩ := pkOk_parts hq
   have hF : pkF (pkId2 p n) = pkF p := rfl
   have hK : (pkId2 p n).k = p.k := rfl
   have fin : ∀ A B, pkBody p = A ++ (pkTwo p.id ++ B) → pkBody (pkId2 p n) = A ++ (pkTwo n ++ B) → (pkRaw p).length = (pkRaw (pkId2 p n)).length ∧ diffs (pkRaw p) (pkRaw (pkId2 p n)) ≤ 2 := fun A B e1 e2 => by
    unfold pkRaw
    rw [e1, e2, hF, hK]
    have := id_two (A := A) (B := B) p.id n (lnB (16 * p.k.toNat + pkF p)) lnRaw
    exact ⟨this.2, this.1⟩
   have no : (p.k = 1 ∨ p.k = 2 ∨ p.k = 12 ∨ p.k = 13 ∨ p.k = 14) → False := fun hk => hid ((h0 p h3 hk).trans (h0 (pkId2 p n) g3 hk).symm)
   rcases pk_kinds h1 with e | e | e | e | e | e | e | e
   ·exact (no (.inl e)).elim
   ·exact (no (.inr (.inl e))).elim
   ·obtain ⟨_, _, hq0, hi0, hz⟩ := pk_fit3 e h2
    by_cases hq : p.q = 0
    ·have hz2 := (pk_fit3 (p := pkId2 p n) e g2).2.2.2.2 hq
     exact absurd ((hz hq).1.trans hz2.1.symm) hid
    ·have hpos : decide (0 < p.q) = true := by simp; omega
     refine fin (pkTx p.t) p.b ?_ ?_
     ·rw [pkBody3 e, hpos]
      rfl
     ·rw [pkBody3 (p := pkId2 p n) e, show decide (0 < (pkId2 p n).q) = true from hpos]
      rfl
   ·exact fin [] _ (pkBody8 e) (pkBody8 (p := pkId2 p n) e)
   ·exact fin [] _ (pkBody9 e) (pkBody9 (p := pkId2 p n) e)
   ·exact fin [] _ (pkBody10 e) (pkBody10 (p := pkId2 p n) e)
   ·exact (no (by omega)).elim
   ·exact fin [] [] ((pkBody4 e).trans (by simp)) ((pkBody4 (p := pkId2 p n) e).trans (by simp [pkId2]))
 refine ⟨key.1, key.2, fun h => ?_, fun h => ?_⟩
 ·have := pk_unique hp hq (diffs_zero _ _ key.1 h)
  rw [this]
  rfl
 ·have : pkId2 p n = p := by unfold pkId2; rw [← h]
  rw [this, diffs_self]
/-- The lists of two, one behind the other. -/
def pkJoin (p q : Pk) : Pk := { p with wants := p.wants ++ q.wants, codes := p.codes ++ q.codes, fs := p.fs ++ q.fs }
def pkMuch (p : Pk) : Nat := p.wants.length + p.codes.length + p.fs.length
theorem many_join {α : Type} {l m : List α} {is : α → Bool} (hl : pkMany l is = true) (hm : pkMany m is = true) : pkMany (l ++ m) is = decide ((l ++ m).length ≤ 8) := by
 obtain ⟨h1, _, h3⟩ := pkMany_parts hl
 obtain ⟨_, _, g3⟩ := pkMany_parts hm
 unfold pkMany
 have e1 : decide (1 ≤ (l ++ m).length) = true := by simp; omega
 have e2 : (l ++ m).all is = true := by
  rw [List.all_eq_true]
  intro x hx
  rcases List.mem_append.1 hx with hx | hx
  ·exact h3 x hx
  ·exact g3 x hx
 rw [e1, e2]
 simp
theorem join_ok {p q : Pk} (hp : pkOk p = true) (hq : pkOk q = true) (hk : p.k = q.k) : pkOk (pkJoin p q) = decide (pkMuch (pkJoin p q) ≤ 8) := by
 obtain ⟨h1, h2, h3⟩ := pkOk_parts hp
 obtain ⟨g1, g2, g3⟩ := pkOk_parts hq
 have hK : (pkJoin p q).k = p.k := rfl
 unfold pkOk
 rw [hK, h1, Bool.true_and]
 have none : ∀ x : Pk, pkAlone x = x → x.k ≠ 8 → x.k ≠ 9 → x.k ≠ 10 → x.wants = [] ∧ x.codes = [] ∧ x.fs = [] := by
  intro x h a1 a2 a3
  rw [← h]
  unfold pkAlone
  rw [if_neg a1, if_neg a2, if_neg a3]
  iterate 3
   split
   ·exact ⟨rfl, rfl, rfl⟩
  split <;> exact ⟨rfl, rfl, rfl⟩
 by_cases e : p.k = 8 ∨ p.k = 9 ∨ p.k = 10
 ·have one : ∀ x : Pk, pkAlone x = x → (x.k = 8 → x.codes = [] ∧ x.fs = []) ∧ (x.k = 9 → x.wants = [] ∧ x.fs = []) ∧ (x.k = 10 → x.wants = [] ∧ x.codes = []) := by
   intro x h
   refine ⟨fun a => ?_, fun a => ?_, fun a => ?_⟩
   all_goals
    rw [← h]
    unfold pkAlone
    simp only [a]
    exact ⟨rfl, rfl⟩
  have mid : ∀ x : Pk, pkMay x = true → (x.k = 8 → pkId x = true ∧ pkMany x.wants (fun w => tFilter w.1 && pkIn w.2 0 2) = true) ∧ (x.k = 9 → pkId x = true ∧ pkMany x.codes (fun c => pkIn c 0 2 || c == 128) = true) ∧ (x.k = 10 → pkId x = true ∧ pkMany x.fs tFilter = true) := by
   intro x h
   refine ⟨fun a => ?_, fun a => ?_, fun a => ?_⟩
   all_goals
    unfold pkMay at h
    rw [a] at h
    simpa using h
  rcases e with e | e | e
  ·obtain ⟨c1, c2⟩ := (one p h3).1 e
   obtain ⟨d1, d2⟩ := (one q g3).1 (by omega)
   obtain ⟨i1, i2⟩ := (mid p h2).1 e
   obtain ⟨_, j2⟩ := (mid q g2).1 (by omega)
   have ha : pkAlone (pkJoin p q) = pkJoin p q := by
    have hp' := h3
    unfold pkAlone at hp' ⊢
    rw [hK]
    simp only [e] at hp' ⊢
    simp only [pkJoin, c1, c2, d1, d2, List.append_nil]
    conv => rhs; rw [← hp']
    simp [pkZ]
   have hm : pkMay (pkJoin p q) = decide ((p.wants ++ q.wants).length ≤ 8) := by
    unfold pkMay
    rw [hK, if_neg (by omega), if_neg (by omega), if_neg (by omega), if_pos e]
    rw [show pkId (pkJoin p q) = pkId p from rfl, i1, Bool.true_and]
    exact many_join i2 j2
   rw [ha, hm, decide_eq_true rfl, Bool.and_true]
   unfold pkMuch pkJoin
   simp [c1, c2, d1, d2]
  ·obtain ⟨c1, c2⟩ := (one p h3).2.1 e
   obtain ⟨d1, d2⟩ := (one q g3).2.1 (by omega)
   obtain ⟨i1, i2⟩ := (mid p h2).2.1 e
   obtain ⟨_, j2⟩ := (mid q g2).2.1 (by omega)
   have ha : pkAlone (pkJoin p q) = pkJoin p q := by
    have hp' := h3
    unfold pkAlone at hp' ⊢
    rw [hK]
    simp only [e] at hp' ⊢
    simp only [pkJoin, c1, c2, d1, d2, List.append_nil]
    conv => rhs; rw [← hp']
    simp [pkZ]
   have hm : pkMay (pkJoin p q) = decide ((p.codes ++ q.codes).length ≤ 8) := by
    unfold pkMay
    rw [hK, if_neg (by omega), if_neg (by omega), if_neg (by omega), if_neg (by omega), if_pos e]
    rw [show pkId (pkJoin p q) = pkId p from rfl, i1, Bool.true_and]
    exact many_join i2 j2
   rw [ha, hm, decide_eq_true rfl, Bool.and_true]
   unfold pkMuch pkJoin
   simp [c1, c2, d1, d2]
  ·obtain ⟨c1, c2⟩ := (one p h3).2.2 e
   obtain ⟨d1, d2⟩ := (one q g3).2.2 (by omega)
   obtain ⟨i1, i2⟩ := (mid p h2).2.2 e
   obtain ⟨_, j2⟩ := (mid q g2).2.2 (by omega)
   have ha : pkAlone (pkJoin p q) = pkJoin p q := by
    have hp' := h3
    unfold pkAlone at hp' ⊢
    rw [hK]
    simp only [e] at hp' ⊢
    simp only [pkJoin, c1, c2, d1, d2, List.append_nil]
    conv => rhs; rw [← hp']
    simp [pkZ]
   have hm : pkMay (pkJoin p q) = decide ((p.fs ++ q.fs).length ≤ 8) := by
    unfold pkMay
    rw [hK, if_neg (by omega), if_neg (by omega), if_neg (by omega), if_neg (by omega), if_neg (by omega), if_pos e]
    rw [show pkId (pkJoin p q) = pkId p from rfl, i1, Bool.true_and]
    exact many_join i2 j2
   rw [ha, hm, decide_eq_true rfl, Bool.and_true]
   unfold pkMuch pkJoin
   simp [c1, c2, d1, d2]
 ·obtain ⟨c1, c2, c3⟩ := none p h3 (by omega) (by omega) (by omega)
  obtain ⟨d1, d2, d3⟩ := none q g3 (by omega) (by omega) (by omega)
  have hj : pkJoin p q = p := by
   unfold pkJoin
   rw [c1, c2, c3, d1, d2, d3, List.append_nil, List.append_nil, List.append_nil]
   conv => lhs; rw [← c1]
   conv => lhs; rw [← c2]
   conv => lhs; rw [← c3]
  rw [hj, h2, h3, decide_eq_true rfl]
  unfold pkMuch
  rw [c1, c2, c3]
  rfl
end Go.Proofs.YtahbikfbjenfpaaGreatDoor

namespace Go.Proofs.YtahbikfbjenfpaaGreatDoor
open Go.RowKit Go.Shelf

/-- A whole struct is read out of its box. -/
theorem wpList_loadX {P : Program} {Q : Exit → Act → World → Prop} {ops : Array Oper} {op : Oper} {rest : List Oper} {a : Act} {w : World} {ty : TypeId} {x : Operand} {b : Nat} {X : Array Value} {d : TypeDesc} (hw : Region.wanted op (yielded ops a.tmps) = true) (ho : op.op = .load ty x)
  (hx : a.eval x = .pointer (some ⟨b, 0, none⟩)) (hr : Row w b ty X) (hu : P.underlying ty = some d) (hd : d.isRow = true) (hi : (P.info? ty).map (·.size) = some X.size)
  (h : wpList P ops Q rest (a.put op.dst (.agg X)) w) : wpList P ops Q (op :: rest) a w :=
 wpList_loadg hw ty x ho b 0 hx X.toList d (range_row hr) hu hd (by rw [Array.length_toList]; exact hi) h
/-- What a packet does in few and in Raw. -/
structure PkA (w : World) (p : Pk) (X : Array Value) : Prop where
 sz : (Tryz.prog.info? 29).map (·.size) = some X.size
 few : ∀ W, Keeps w W [] → Calls Tryz.prog 9 #[.agg X] W (FewPost W p)
 raw : ∀ W, Keeps w W [] → PkFewP p → Calls Tryz.prog 11 #[.agg X] W (RawPost W p)
set_option maxRecDepth 100000 in
theorem PkA.of {w : World} {p : Pk} {sw sc sf : Value} (hm : MaxL w) (hl : PkL w p sw sc sf) (hk1 : -9223372036854775808 ≤ p.k) (hk2 : p.k ≤ 9223372036854775807) (hb : p.t.length + p.c.length + p.u.length ≤ 9223372036854775807) {X : Array Value} (hX : Value.agg X = pkV p sw sc sf) : PkA w p X := by
 refine ⟨?_, fun W hk => ?_, fun W hk hf => ?_⟩
 ·injection hX with hX
  rw [hX]
  kernel_rfl
 ·rw [hX]
  exact pkFew_any p sw sc sf W (hl.keeps hk) hb
 ·rw [hX]
  exact pkRaw_any p sw sc sf W (hl.keeps hk) hf.sm (hm.keeps hk) hk1 hk2
/-- What Raw answers, in parts. -/
theorem RawPost.parts {w w' : World} {p : Pk} {e : Ending} (h : RawPost w p e w') : ∃ A n c, ∃ z : Int, e = .returned (.tuple #[.slice A n c, .int .i64 z]) ∧ Keeps w w' [] ∧ ((pkOk p = true ∧ z = 0 ∧ n = (pkRaw p).length ∧ Owned w' w.heap.size (.slice A n c) (pkRaw p)) ∨ (pkOk p = false ∧ z = 2)) := by
 unfold RawPost at h
 split at h
 ·rename_i ho
  obtain ⟨v, rfl, hv, hk⟩ := h
  obtain ⟨A, c, rfl, _, _⟩ := own_slice hv
  exact ⟨A, _, c, 0, rfl, hk, .inl ⟨ho, rfl, rfl, hv⟩⟩
 ·rename_i ho
  obtain ⟨rfl, hk⟩ := h
  exact ⟨none, 0, 0, 2, rfl, hk, .inr ⟨by simpa using ho, rfl⟩⟩
theorem str_bytes (a : List UInt8) : (⟨a.toArray⟩ : ByteArray).toList = a := by rw [Lib.toList_data]
theorem pkRaw_pos (p : Pk) : 0 < (pkRaw p).length := by unfold pkRaw; simp
/-- What is known of two boxes. -/
structure TwoSt (w W : World) (a b : Nat) (X Y : Array Value) : Prop where
 k : Keeps w W []
 r1 : Row W a 29 X
 r2 : Row W b 29 Y
theorem TwoSt.go {w W W' : World} {a b : Nat} {X Y : Array Value} (h : TwoSt w W a b X Y) (hk : Keeps W W' []) : TwoSt w W' a b X Y := ⟨h.k.then_ hk, h.r1.keeps hk, h.r2.keeps hk⟩
set_option maxRecDepth 100000 in
set_option maxHeartbeats 4000000 in
theorem apart_walk (p q : Pk) (X Y : Array Value) (w : World) (hm : MaxL w) (h1 : PkA w p X) (h2 : PkA w q Y) (hs : ∀ W, Keeps w W [] → PkFewP p → Calls Tryz.prog 17 #[.agg X, .agg Y] W (TruePost W (decide (p = q)))) : Calls Tryz.prog 5 #[.agg X, .agg Y] w (TruePost w true) := by
 have HKN := Lib.hid (show ∀ W, Keeps w W [] → Calls Tryz.prog 10 #[] W (TruePost W true) from fun W hk => known16_any W (hm.keeps hk))
 have H1 := Lib.hid h1
 have H2 := Lib.hid h2
 have HSM := Lib.hid hs
 clear hm h1 h2 hs
 go_enter Tryz.func5, Tryz.ntmps5
 go_upto_region 1 with fail
 have HS := Lib.hid (show TwoSt w ((w.alloc (.cells X 29)).alloc (.cells Y 29)) w.heap.size (w.heap.size + 1) X Y from ⟨(Keeps.alloc _ _).then_alloc _, (Row.new _ _ _).alloc _, by have := Row.new (w.alloc (.cells X 29)) 29 Y; rwa [World.size_alloc] at this⟩)
 generalize (w.alloc (.cells X 29)).alloc (.cells Y 29) = W0 at HS ⊢
 go_wp2_with (first | (refine wpList_loadX (by kernel_rfl) rfl rfl HS.out.r1 Tryz.underlying29 rfl H1.out.sz ?_) | (refine wpList_loadX (by kernel_rfl) rfl rfl HS.out.r2 Tryz.underlying29 rfl H2.out.sz ?_))
 refine (H1.out.few _ HS.out.k).mono ?_
 rintro e w1 ⟨hk, ⟨hf1, rfl⟩ | ⟨hf1, rfl⟩⟩
 case inr =>
  replace HS := Lib.hid (HS.out.go hk)
  clear hk hf1
  go_wp2_with fail
  refine (HKN.out _ HS.out.k).mono ?_
  rintro e w9 ⟨rfl, hk⟩
  replace HS := Lib.hid (HS.out.go hk)
  clear hk
  go_wp2_with fail
  go_ret
  exact ⟨rfl, HS.out.k⟩
 have HF1 := Lib.hid hf1
 replace HS := Lib.hid (HS.out.go hk)
 clear hk hf1
 go_wp2_with (first | (refine wpList_loadX (by kernel_rfl) rfl rfl HS.out.r1 Tryz.underlying29 rfl H1.out.sz ?_) | (refine wpList_loadX (by kernel_rfl) rfl rfl HS.out.r2 Tryz.underlying29 rfl H2.out.sz ?_))
 refine (H2.out.few _ HS.out.k).mono ?_
 rintro e w2 ⟨hk, ⟨hf2, rfl⟩ | ⟨hf2, rfl⟩⟩
 case inr =>
  replace HS := Lib.hid (HS.out.go hk)
  clear hk hf2
  go_wp2_with fail
  refine (HKN.out _ HS.out.k).mono ?_
  rintro e w9 ⟨rfl, hk⟩
  replace HS := Lib.hid (HS.out.go hk)
  clear hk
  go_wp2_with fail
  go_ret
  exact ⟨rfl, HS.out.k⟩
 have HF2 := Lib.hid hf2
 replace HS := Lib.hid (HS.out.go hk)
 clear hk hf2
 go_wp2_with (first | (refine wpList_loadX (by kernel_rfl) rfl rfl HS.out.r1 Tryz.underlying29 rfl H1.out.sz ?_) | (refine wpList_loadX (by kernel_rfl) rfl rfl HS.out.r2 Tryz.underlying29 rfl H2.out.sz ?_))
 refine (H1.out.raw _ HS.out.k HF1.out).mono ?_
 intro e w3 hp
 obtain ⟨A1, n1, c1, z1, rfl, hk, hr1⟩ := hp.parts
 replace HS := Lib.hid (HS.out.go hk)
 have HR1 := Lib.hid hr1
 clear hk hr1 hp
 go_wp2_with (first | (refine wpList_loadX (by kernel_rfl) rfl rfl HS.out.r1 Tryz.underlying29 rfl H1.out.sz ?_) | (refine wpList_loadX (by kernel_rfl) rfl rfl HS.out.r2 Tryz.underlying29 rfl H2.out.sz ?_))
 refine (H2.out.raw _ HS.out.k HF2.out).mono ?_
 intro e w4 hp
 obtain ⟨A2, n2, c2, z2, rfl, hk, hr2⟩ := hp.parts
 replace HS := Lib.hid (HS.out.go hk)
 have HR2 := Lib.hid hr2
 have HK4 := Lib.hid hk
 clear hk hr2 hp
 by_cases hz1 : z1 = 0
 case neg =>
  have hb1 : (z1 != 0) = true := by simpa using hz1
  go_wp2_with fail
  refine (HKN.out _ HS.out.k).mono ?_
  rintro e w9 ⟨rfl, hk⟩
  replace HS := Lib.hid (HS.out.go hk)
  clear hk
  go_wp2_with fail
  go_ret
  exact ⟨rfl, HS.out.k⟩
 by_cases hz2 : z2 = 0
 case neg =>
  have hb1 : (z1 != 0) = false := by simpa using hz1
  have hb2 : (z2 != 0) = true := by simpa using hz2
  go_wp2_with fail
  refine (HKN.out _ HS.out.k).mono ?_
  rintro e w9 ⟨rfl, hk⟩
  replace HS := Lib.hid (HS.out.go hk)
  clear hk
  go_wp2_with fail
  go_ret
  exact ⟨rfl, HS.out.k⟩
 subst hz1 hz2
 rcases HR1.out with ⟨o1, _, rfl, hv1⟩ | ⟨_, h⟩
 case inr => cases h
 rcases HR2.out with ⟨o2, _, rfl, hv2⟩ | ⟨_, h⟩
 case inr => cases h
 replace hv1 := own_keep hv1 HK4.out (by simp)
 obtain ⟨b1, f1, rfl, _, _⟩ := Lies.of_own hv1 (by rw [List.length_map]; exact pkRaw_pos p)
 obtain ⟨b2, f2, rfl, _, _⟩ := Lies.of_own hv2 (by rw [List.length_map]; exact pkRaw_pos q)
 have hc1 : (pkRaw p).length ≤ c1 := by
  obtain ⟨_, _, e, h, _⟩ := own_slice hv1
  injection e with _ _ e
  omega
 have hc2 : (pkRaw q).length ≤ c2 := by
  obtain ⟨_, _, e, h, _⟩ := own_slice hv2
  injection e with _ _ e
  omega
 have HT := Lib.hid (fun (n : Nat) (hn : n = min (pkRaw p).length (pkRaw q).length) => apart_take o1 o2 hn)
 have HEQ := Lib.hid (show p = q → (pkRaw p).length = (pkRaw q).length from fun h => by rw [h])
 have HL1 := Lib.hid (Lies.of_own hv1)
 have HL2 := Lib.hid (Lies.of_own hv2)
 clear hv1 hv2 o1 o2 HR1 HR2 HK4
 obtain ⟨L1, hL1⟩ : ∃ L, pkRaw p = L := ⟨_, rfl⟩
 obtain ⟨L2, hL2⟩ : ∃ L, pkRaw q = L := ⟨_, rfl⟩
 rw [hL1] at hc1 HT HEQ HL1 ⊢
 rw [hL2] at hc2 HT HEQ HL2 ⊢
 clear hL1 hL2
 obtain ⟨N, hN⟩ : ∃ N : Nat, N = min L1.length L2.length := ⟨_, rfl⟩
 have hmin : min (L1.length : Int) (L2.length : Int) = (N : Int) := by omega
 go_upto_region 8 with fail
 have HT2 := Lib.hid (HT.out N hN)
 have g1 : N ≤ c1 := by omega
 have g2 : N ≤ c2 := by omega
 have HNL := Lib.hid (show (L1.take N).length = N ∧ (L2.take N).length = N by simp; omega)
 rw [← hN]
 clear hN hmin HT
 obtain ⟨S1, hS1⟩ : ∃ S : ByteArray, S = ⟨(L1.take N).toArray⟩ := ⟨_, rfl⟩
 obtain ⟨S2, hS2⟩ : ∃ S : ByteArray, S = ⟨(L2.take N).toArray⟩ := ⟨_, rfl⟩
 have CV1 := fun (W : World) (hk : Keeps w4 W []) => (show (convert 32 9 (.slice (some ⟨b1, f1, none⟩) N c1)).run Tryz.prog W = .ok (.string S1) W from by
  have hl := ((HL1.out.keep hk (Nat.le_refl _) (by simp)).take N)
  rw [← List.map_take] at hl
  have := conv_str W _ (some ⟨b1, f1, none⟩) c1 _ hl
  rw [HNL.out.1] at this
  rw [this, hS1])
 have CV2 := fun (W : World) (hk : Keeps w4 W []) => (show (convert 32 9 (.slice (some ⟨b2, f2, none⟩) N c2)).run Tryz.prog W = .ok (.string S2) W from by
  have hl := ((HL2.out.keep hk (Nat.le_refl _) (by simp)).take N)
  rw [← List.map_take] at hl
  have := conv_str W _ (some ⟨b2, f2, none⟩) c2 _ hl
  rw [HNL.out.2] at this
  rw [this, hS2])
 obtain ⟨z, hz⟩ : ∃ z, (S1.toList == S2.toList) = z := ⟨_, rfl⟩
 have HZ := Lib.hid (show z = decide (p = q) from by
  rw [← hz, hS1, hS2, str_bytes, str_bytes]
  have := HT2.out
  by_cases hpq : p = q
  ·rw [decide_eq_true hpq]
   simpa using this.2 hpq
  ·rw [decide_eq_false hpq]
   have h : ¬ L1.take N = L2.take N := fun h => hpq (this.1 h)
   simpa using h)
 clear hS1 hS2
 refine wp_region_keeps _ (by kernel_rfl) rfl (by kernel_rfl) ?_
 iterate 3
  refine ls ?_
  simp only [addEnt]
 apply loose_is
 ·intro W vals hW hkn
  simp only [knows] at hkn
  try simp only [and_true] at hkn
  clear hkn; have m := CV1 W hW
  refine ⟨?_⟩
  simp only [fill]
  go_simp
  first | exact ⟨Keeps.refl _ _, rfl⟩ | exact ⟨Keeps.alloc _ _, rfl⟩
 iterate 3
  simp only [addEnt]
  refine ls ?_
 simp only [addEnt]
 apply loose_is
 ·intro W vals hW hkn
  simp only [knows] at hkn
  try simp only [and_true] at hkn
  clear hkn; have m := CV2 W hW
  refine ⟨?_⟩
  simp only [fill]
  go_simp
  first | exact ⟨Keeps.refl _ _, rfl⟩ | exact ⟨Keeps.alloc _ _, rfl⟩
 iterate 2
  simp only [addEnt]
  refine ls ?_
 simp only [addEnt]
 refine loose_nil (fun W vals hW hkn => ?_)
 simp only [knowsAll] at hkn
 try simp only [and_true] at hkn
 simp only [fill, Act.put, List.setIfInBounds_toArray, List.set_cons_succ, List.set_cons_zero]
 clear hkn CV1 CV2
 replace HS := Lib.hid (HS.out.go hW)
 clear hW
 go_wp2_with (first | (refine wpList_loadX (by kernel_rfl) rfl rfl HS.out.r1 Tryz.underlying29 rfl H1.out.sz ?_) | (refine wpList_loadX (by kernel_rfl) rfl rfl HS.out.r2 Tryz.underlying29 rfl H2.out.sz ?_))
 refine (HSM.out _ HS.out.k HF1.out).mono ?_
 rintro e w5 ⟨rfl, hk⟩
 replace HS := Lib.hid (HS.out.go hk)
 rw [← HZ.out]
 clear hk
 cases z with
 | false =>
  go_wp2_with fail
  refine (HKN.out _ HS.out.k).mono ?_
  rintro e w9 ⟨rfl, hk⟩
  replace HS := Lib.hid (HS.out.go hk)
  clear hk
  go_wp2_with fail
  go_ret
  exact ⟨rfl, HS.out.k⟩
 | true =>
  have hl : ((L1.length : Int) == (L2.length : Int)) = true := by
   rw [HEQ.out (of_decide_eq_true HZ.out.symm)]
   exact beq_self_eq_true _
  go_wp2_with fail
  refine (HKN.out _ HS.out.k).mono ?_
  rintro e w9 ⟨rfl, hk⟩
  replace HS := Lib.hid (HS.out.go hk)
  clear hk
  go_wp2_with fail
  go_ret
  exact ⟨rfl, HS.out.k⟩
theorem packetApart_any (p q : Pk) (sw sc sf sw1 sc1 sf1 : Value) (w : World) (hm : MaxL w) (h1 : PkL w p sw sc sf) (h2 : PkL w q sw1 sc1 sf1) (hk : -9223372036854775808 ≤ p.k ∧ p.k ≤ 9223372036854775807) (hk' : -9223372036854775808 ≤ q.k ∧ q.k ≤ 9223372036854775807)
  (hb : p.t.length + p.c.length + p.u.length ≤ 9223372036854775807) (hb' : q.t.length + q.c.length + q.u.length ≤ 9223372036854775807) : Calls Tryz.prog 5 #[pkV p sw sc sf, pkV q sw1 sc1 sf1] w (TruePost w true) :=
 apart_walk p q _ _ w hm (PkA.of hm h1 hk.1 hk.2 hb rfl) (PkA.of hm h2 hk'.1 hk'.2 hb' rfl) fun W hk hf =>
  pkSame_any p q sw sc sf sw1 sc1 sf1 W (h1.keeps hk) (h2.keeps hk) ⟨by have := hf.lw; omega, by have := hf.lc; omega, by have := hf.lf; omega⟩
end Go.Proofs.YtahbikfbjenfpaaGreatDoor
