/- append onto lists of numbers of the call's own. -/
import Derived.Test.YtanbdkfkkochgaaPa18

namespace Go.Proofs.Ytanbdkfkkochgaa
open Go.RowKit Go.Maps Go.Shelf

/-- A slice type of whole numbers. -/
def IntElem (t e : TypeId) : Prop := ∃ i : TypeInfo, Try.prog.underlying t = some (.slice e) ∧ Try.prog.info? e = some i ∧ i.zero = some (.int .i64 0) ∧ i.size = 1 ∧ i.bytes = 8
abbrev OwnL {α : Type} (w : World) (base : Nat) (e : TypeId) (f : α → Value) (v : Value) (l : List α) : Prop := w.ownsRow base e 1 v l.length (l.map f)
section
variable {α : Type} {f : α → Value} {t e : TypeId} {w w' : World} {B : Nat}
theorem OwnL.slice {v : Value} {l : List α} (h : OwnL w B e f v l) : ∃ A c, v = .slice A l.length c := by
  obtain ⟨A, c, rfl, _⟩ := own_slice h
  exact ⟨A, c, rfl⟩
theorem OwnL.lies {A : Option Addr} {c : Nat} {l : List α} (h : OwnL w B e f (.slice A l.length c) l) : Lies w w.heap.size A (l.map f) := Lies.of_own h
theorem OwnL.base {B' : Nat} {v : Value} {l : List α} (h : OwnL w B e f v l) (hB : B' ≤ B) : OwnL w B' e f v l := own_base h hB
theorem OwnL.keep {S : List Nat} {v : Value} {l : List α} (h : OwnL w B e f v l) (hk : Keeps w w' S) (hS : ∀ x ∈ S, x < B) : OwnL w' B e f v l := own_keep h hk fun g hg hm => by
  have := hS g hm
  rcases h.2 with ⟨rfl, _⟩ | ⟨gb, cap, cur, rfl, e2, _⟩
  · cases hg
  · have : gb = g := by simpa [Value.ownBlock] using hg
    omega
theorem OwnL.keeps {v : Value} {l : List α} (h : OwnL w B e f v l) (hk : Keeps w w' []) : OwnL w' B e f v l := h.keep hk (by simp)
theorem OwnL.apart {s : Nat} {v : Value} {l : List α} (h : OwnL w B e f v l) (ha : Apart w w' s) (hs : s < B) : OwnL w' B e f v l := by
  refine ⟨h.1, ?_⟩
  rcases h.2 with h | ⟨gb, cap, cur, e1, e2, hh, r⟩
  · exact .inl h
  · exact .inr ⟨gb, cap, cur, e1, e2, ha.row hh (by omega), r⟩
theorem OwnL.far {v : Value} {l : List α} (h : OwnL w B e f v l) : ∀ g ∈ v.ownBlock.toList, B ≤ g ∧ g < w.heap.size := fun g hg => by
  rcases h.2 with ⟨rfl, _⟩ | ⟨gb, cap, cur, rfl, e2, hh, _⟩
  · simp [Value.ownBlock] at hg
  · obtain rfl : g = gb := by simpa [Value.ownBlock] using hg
    exact ⟨e2, (Array.getElem?_eq_some_iff.1 hh).1⟩
theorem OwnL.rows {v : Value} {l : List α} (h : OwnL w B e f v l) : ∀ g ∈ v.ownBlock.toList, B ≤ g ∧ ∃ cs, Row w g e cs := fun g hg => by
  rcases h.2 with ⟨rfl, _⟩ | ⟨gb, cap, cur, rfl, e2, hh, _⟩
  · simp [Value.ownBlock] at hg
  · obtain rfl : g = gb := by simpa [Value.ownBlock] using hg
    exact ⟨e2, cur, hh⟩
/-- A space outlives stores into blocks of cells. -/
theorem SpIn.cells {w0 : World} {s most : Nat} {L M S : List Nat} (h : SpIn w0 w s most L M) (hk : Keeps w w' S) (hS : ∀ x ∈ S, w0.heap.size ≤ x ∧ x ≠ s ∧ ∃ t cs, Row w x t cs) : SpIn w0 w' s most L M := by
  obtain ⟨⟨m1, m2, h1, h2, h3⟩, h4, h5⟩ := h
  refine ⟨⟨m1, m2, h1.keep hk (fun hm => (hS _ hm).2.1 rfl) (fun hm => ?_) (fun hm => ?_), h2, h3⟩, h4, h5.trans hk fun x hx hlt => ?_⟩
  · obtain ⟨_, _, t, cs, hr⟩ := hS _ hm
    exact IMap.ne_row h1.p1 hr rfl
  · obtain ⟨_, _, t, cs, hr⟩ := hS _ hm
    exact IMap.ne_row h1.p2 hr rfl
  · have := (hS x hx).1
    omega
theorem SpIn.appended {w0 : World} {s most : Nat} {L M : List Nat} {v : Value} {l : List α} (h : SpIn w0 w s most L M) (ho : OwnL w B e f v l) (hs : s < B) (hB : w0.heap.size ≤ B) (hk : Keeps w w' v.ownBlock.toList) : SpIn w0 w' s most L M :=
  h.cells hk fun x hx => by
    obtain ⟨h1, cs, hr⟩ := ho.rows x hx
    exact ⟨by omega, by omega, _, cs, hr⟩
theorem OwnL.nil' (w : World) (base : Nat) : OwnL w base e f (.slice none 0 0) ([] : List α) := ⟨rfl, .inl ⟨rfl, rfl⟩⟩
theorem run_append_list (E : IntElem t e) (hf : ∀ a, (f a).oneCell' = true) (base : Nat) (v : Value) (A : Option Addr) (c : Nat) (l1 l2 : List α) (ty : TypeId) (hown : OwnL w base e f v l1) (hb : Lies w w.heap.size A (l2.map f)) (hlen : l1.length + l2.length ≤ 1000000) (hbase : base ≤ w.heap.size) :
    ∃ A' c' w', (Builtin.append_ #[t, t] ty #[v, .slice A l2.length c]).run Try.prog w = .ok (.slice A' (l1 ++ l2).length c') w' ∧ OwnL w' base e f (.slice A' (l1 ++ l2).length c') (l1 ++ l2) ∧ Keeps w w' v.ownBlock.toList ∧
      ((Value.slice A' (l1 ++ l2).length c').ownBlock = v.ownBlock ∨ (Value.slice A' (l1 ++ l2).length c').ownBlock = some w.heap.size) := by
  obtain ⟨i0, ht, hi, hz0, hz1, hz2⟩ := E
  obtain ⟨v', w', hrun, h2, h3, h4⟩ := run_append_lies' (P := Try.prog) w base t ty e i0 (.int .i64 0) 8 ht hi hz0 hz1 hz2 rfl v l1.length (l1.map f) hown w.heap.size A l2.length c (l2.map f) (by simp) hb (fun u hu => by obtain ⟨a, _, rfl⟩ := List.mem_map.1 hu; exact hf a) (by unfold maxLen; omega) (by omega) hbase
  have h5 : (l1 ++ l2).length = l1.length + l2.length := List.length_append
  have h6 : OwnL w' base e f v' (l1 ++ l2) := by unfold OwnL; rw [h5, List.map_append]; exact h2
  obtain ⟨A', c', rfl, _, _⟩ := own_slice h6
  exact ⟨A', c', w', hrun, h6, Keeps.of_grown h3, h4⟩
theorem wpList_append_list {ops : Array Oper} {rest : List Oper} {o : Oper} {a : Act} {Q : Exit → Act → World → Prop} (hgd : o.guard = none) (s x : Operand) (E : IntElem t e) (hf : ∀ a, (f a).oneCell' = true)
    (ho : o.op = .call { callee := .builtin .append, args := #[s, x], argTypes := #[t, t] })
    (base : Nat) (v : Value) (A : Option Addr) (c : Nat) (l1 l2 : List α) (hs : a.eval s = v) (hx : a.eval x = .slice A l2.length c) (hown : OwnL w base e f v l1) (hb : Lies w w.heap.size A (l2.map f)) (hlen : l1.length + l2.length ≤ 1000000) (hbase : base ≤ w.heap.size)
    (h : ∀ A c w' l, Hid (l = l1 ++ l2) → (l.length ≤ l1.length + l2.length ∧ l1.length + l2.length ≤ l.length) → OwnL w' base e f (.slice A l.length c) l → Keeps w w' v.ownBlock.toList → ((Value.slice A l.length c).ownBlock = v.ownBlock ∨ (Value.slice A l.length c).ownBlock = some w.heap.size) →
      wpList Try.prog ops Q rest (a.put o.dst (.slice A l.length c)) w') : wpList Try.prog ops Q (o :: rest) a w := by
  refine wpList_plain hgd fun K hK => ?_
  obtain ⟨A, c, w', hrun, h2, h3, h4⟩ := run_append_list E hf base v A c l1 l2 o.type hown hb hlen hbase
  unfold Oper.wp execOp
  simp only [ho, resolve, invoke, builtin, Sem.run_bind, Sem.run_pure, Result.andThen_ok, List.map_toArray, List.map_cons, List.map_nil, hs, hx, hrun]
  exact hK _ _ (h A c w' _ (Lib.hid rfl) ⟨by simp, by simp⟩ h2 h3 h4)
theorem step_append_list {ops : Array Oper} {o : Oper} {a : Act} {K : Act → World → Prop} {Q : Exit → Act → World → Prop} {E' : Prop} (hgd : o.guard = none) (s x : Operand) (E : IntElem t e) (hf : ∀ a, (f a).oneCell' = true)
    (ho : o.op = .call { callee := .builtin .append, args := #[s, x], argTypes := #[t, t] })
    (base : Nat) (v : Value) (A : Option Addr) (c : Nat) (l1 l2 : List α) (hs : a.eval s = v) (hx : a.eval x = .slice A l2.length c) (hown : OwnL w base e f v l1) (hb : Lies w w.heap.size A (l2.map f)) (hlen : l1.length + l2.length ≤ 1000000) (hbase : base ≤ w.heap.size)
    (h : ∀ A c w' l, Hid (l = l1 ++ l2) → (l.length ≤ l1.length + l2.length ∧ l1.length + l2.length ≤ l.length) → OwnL w' base e f (.slice A l.length c) l → Keeps w w' v.ownBlock.toList → ((Value.slice A l.length c).ownBlock = v.ownBlock ∨ (Value.slice A l.length c).ownBlock = some w.heap.size) →
      K (a.put o.dst (.slice A l.length c)) w') :
    if Region.wanted o (yielded ops a.tmps) = true then Oper.wp Try.prog o a w K Q else E' := by
  have hw : Region.wanted o (yielded ops a.tmps) = true := by simp [Region.wanted, hgd]
  rw [if_pos hw]
  obtain ⟨A, c, w', hrun, h2, h3, h4⟩ := run_append_list E hf base v A c l1 l2 o.type hown hb hlen hbase
  unfold Oper.wp execOp
  simp only [ho, resolve, invoke, builtin, Sem.run_bind, Sem.run_pure, Result.andThen_ok, List.map_toArray, List.map_cons, List.map_nil, hs, hx, hrun]
  exact h A c w' _ (Lib.hid rfl) ⟨by simp, by simp⟩ h2 h3 h4
theorem OwnL.cap {A : Option Addr} {n c : Nat} {l : List α} (h : OwnL w B e f (.slice A n c) l) : n = l.length ∧ l.length ≤ c ∧ c ≤ maxLen := by
  rcases h.2 with ⟨hv, h0⟩ | ⟨gb, cap, cur, hv, _, _, h1, h2, _⟩
  · injection hv with _ h3 h4
    subst h3 h4
    exact ⟨h0.symm, by omega, by simp [maxLen]⟩
  · injection hv with _ h3 h4
    subst h3 h4
    exact ⟨rfl, h1, h2⟩
/-- append onto nil at an operation of a region that draws its order. -/
theorem opOk_append_new {ops : Array Oper} {o : Oper} {a : Act} {φ' : Value → World → Prop} (E : IntElem t e) (hf : ∀ a, (f a).oneCell' = true) (hgd : o.guard = none) (s x : Operand)
    (ho : o.op = .call { callee := .builtin .append, args := #[s, x], argTypes := #[t, t] }) (A : Option Addr) (n c : Nat) (l2 : List α) (hn : l2.length = n) (hs : a.eval s = .slice none 0 0) (hx : a.eval x = .slice A n c) (hb : Lies w w.heap.size A (l2.map f)) (hlen : l2.length ≤ 1000000) (hB : B ≤ w.heap.size)
    (hφ : Hid (∀ u w', (∃ A' c', u = .slice A' n c' ∧ OwnL w' B e f u l2) → φ' u w')) : opOk Try.prog KeepsAll ops a o φ' w := by
  refine ⟨?_⟩
  have hw : Region.wanted o (yielded ops a.tmps) = true := by simp [Region.wanted, hgd]
  rw [if_pos hw]
  subst hn
  obtain ⟨A', c', w', hrun, h2, h3, h4⟩ := run_append_list (w := w) E hf B (.slice none 0 0) A c [] l2 o.type (OwnL.nil' w B) hb (by simpa using hlen) hB
  unfold execOp
  simp only [ho, resolve, invoke, builtin, Sem.run_bind, Sem.run_pure, Result.andThen_ok, List.map_toArray, List.map_cons, List.map_nil, hs, hx, hrun]
  exact ⟨h3, hφ.out _ _ ⟨A', c', rfl, h2⟩⟩
theorem OwnL.nil (w : World) (base : Nat) : OwnL w base e f (.slice none 0 0) ([] : List α) := ⟨rfl, .inl ⟨rfl, rfl⟩⟩
end
theorem elemI64 : IntElem 23 2 := by
  obtain ⟨i0, hi, hz0, hz1, hz2⟩ := info_parts infoI64
  exact ⟨i0, by kernel_rfl, hi, hz0, hz1, hz2⟩
theorem one_i64 (x : Int) : (Value.int .i64 x).oneCell' = true := rfl
theorem one_nat (x : Nat) : (Value.int .i64 (x : Int)).oneCell' = true := rfl
end Go.Proofs.Ytanbdkfkkochgaa
