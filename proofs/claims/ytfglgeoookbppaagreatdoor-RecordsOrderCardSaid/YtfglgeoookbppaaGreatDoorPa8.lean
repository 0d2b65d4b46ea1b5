/- Bytes as a string; bytes held against each other. -/
import Derived.Test.YtfglgeoookbppaaGreatDoorPa5
import Derived.Laws.BytesArg
import Derived.Laws.Cells

namespace Go.Proofs.YtfglgeoookbppaaGreatDoor
open Go.RowKit

/-- Bytes as a string's value. -/
def strV (l : List UInt8) : Value := .string ⟨l.toArray⟩
theorem strV_inj {a b : List UInt8} : (⟨a.toArray⟩ : ByteArray) = ⟨b.toArray⟩ ↔ a = b := by
  constructor
  · intro h
    injection h with h
    injection h
  · rintro rfl; rfl
theorem undString : Tryz.prog.underlying 9 = some .string := by kernel_rfl
theorem undByte : Tryz.prog.underlying 5 = some (.int .u8) := by kernel_rfl

set_option maxRecDepth 100000 in
theorem conv_str (w : World) (B : Nat) (A : Option Addr) (c : Nat) (l : List UInt8) (h : Lies w B A (l.map byteV)) :
    (convert 39 9 (.slice A l.length c)).run Tryz.prog w = .ok (.string ⟨l.toArray⟩) w := by
  rcases A with _ | ad
  · have hl : l = [] := by
      rcases l with _ | ⟨x, l⟩
      · rfl
      · obtain ⟨b, o, e, _⟩ := h (by simp)
        cases e
    subst hl
    exact run_convert_bytes_nil w _ _ undBytes undByte _ _ _ undString
  · by_cases hl : l = []
    · subst hl
      simp only [List.length_nil]
      rw [run_convert_bytes_string w _ _ _ _ _ _ undBytes undByte undString]
      rw [run_bytesToString w ad 0 c [] (by simpa using run_loadCells_list (P := Tryz.prog) w ad [] (fun j v hj => by simp at hj))]
      rfl
    · obtain ⟨b, o, e, _, hc⟩ := h (by simpa using List.length_pos_iff.2 hl)
      injection e with e
      subst e
      have := run_convert_bytes_arg (P := Tryz.prog) w 39 5 undBytes undByte b o l.length c (l.map fun b => (b.toNat : Int)) (by simp)
        (fun i hi => by
          rw [hc i (.int .u8 ((l[i]).toNat : Int)) (by simp [hi, byteV])]
          simp [List.getD, hi]) _ undString
      rw [this]
      congr 3
      unfold strOfNums
      congr 1
      rw [List.map_map]
      congr 1
      refine (List.map_congr_left (g := id) ?_).trans (List.map_id _)
      intro y _
      simp

section
variable (w : World)
/-- append of bytes onto bytes of the call's own. -/
theorem run_append_bytes (base : Nat) (v u : Value) (l1 l2 : List UInt8) (ty : TypeId) (hown : Owned w base v l1) (hb : Bytes w w.heap.size u l2) (hlen : l1.length + l2.length ≤ 140737488355328) (hbase : base ≤ w.heap.size) :
    ∃ A c w', (Builtin.append_ #[39, 39] ty #[v, u]).run Tryz.prog w = .ok (.slice A (l1 ++ l2).length c) w' ∧ Owned w' base (.slice A (l1 ++ l2).length c) (l1 ++ l2) ∧ Keeps w w' v.ownBlock.toList ∧
      ((Value.slice A (l1 ++ l2).length c).ownBlock = v.ownBlock ∨ (Value.slice A (l1 ++ l2).length c).ownBlock = some w.heap.size) := by
  obtain ⟨i0, hi, hz0, hz1, hz2⟩ := info_parts infoByte
  obtain ⟨A, c, rfl, hc, hnil, hcm, hl2, hL⟩ := hb
  obtain ⟨v', w', hrun, h2, h3, h4⟩ := run_append_lies' (P := Tryz.prog) w base 39 ty 5 i0 (.int .u8 0) 1 undBytes hi hz0 hz1 hz2 rfl v l1.length (l1.map byteV) hown w.heap.size A l2.length c (l2.map byteV) (by simp) hL (byteV_one l2) (by simp [maxLen]; omega) (by omega) hbase
  have h5 : (l1 ++ l2).length = l1.length + l2.length := List.length_append
  have h6 : Owned w' base v' (l1 ++ l2) := by unfold Owned; rw [h5, List.map_append]; exact h2
  obtain ⟨A', c', rfl, _, _⟩ := own_slice h6
  exact ⟨A', c', w', hrun, h6, Keeps.of_grown h3, h4⟩

theorem wpList_append_bytes {ops : Array Oper} {rest : List Oper} {o : Oper} {a : Act} {Q : Exit → Act → World → Prop} (hgd : o.guard = none) (s x : Operand)
    (ho : o.op = .call { callee := .builtin .append, args := #[s, x], argTypes := #[39, 39] })
    (base : Nat) (v u : Value) (l1 l2 : List UInt8) (hs : a.eval s = v) (hx : a.eval x = u) (hown : Owned w base v l1) (hb : Bytes w w.heap.size u l2) (hlen : l1.length + l2.length ≤ 140737488355328) (hbase : base ≤ w.heap.size)
    (h : ∀ A c w' l, Hid (l = l1 ++ l2) → (l.length ≤ l1.length + l2.length ∧ l1.length + l2.length ≤ l.length) → Owned w' base (.slice A l.length c) l → Keeps w w' v.ownBlock.toList → ((Value.slice A l.length c).ownBlock = v.ownBlock ∨ (Value.slice A l.length c).ownBlock = some w.heap.size) →
      wpList Tryz.prog ops Q rest (a.put o.dst (.slice A l.length c)) w') : wpList Tryz.prog ops Q (o :: rest) a w := by
  refine wpList_plain hgd fun K hK => ?_
  obtain ⟨A, c, w', hrun, h2, h3, h4⟩ := run_append_bytes w base v u l1 l2 o.type hown hb hlen hbase
  unfold Oper.wp execOp
  simp only [ho, resolve, invoke, builtin, Sem.run_bind, Sem.run_pure, Result.andThen_ok, List.map_toArray, List.map_cons, List.map_nil, hs, hx, hrun]
  exact hK _ _ (h A c w' _ (Lib.hid rfl) ⟨by simp, by simp⟩ h2 h3 h4)

theorem step_append_bytes {ops : Array Oper} {o : Oper} {a : Act} {K : Act → World → Prop} {Q : Exit → Act → World → Prop} {E : Prop} (hgd : o.guard = none) (s x : Operand)
    (ho : o.op = .call { callee := .builtin .append, args := #[s, x], argTypes := #[39, 39] })
    (base : Nat) (v u : Value) (l1 l2 : List UInt8) (hs : a.eval s = v) (hx : a.eval x = u) (hown : Owned w base v l1) (hb : Bytes w w.heap.size u l2) (hlen : l1.length + l2.length ≤ 140737488355328) (hbase : base ≤ w.heap.size)
    (h : ∀ A c w' l, Hid (l = l1 ++ l2) → (l.length ≤ l1.length + l2.length ∧ l1.length + l2.length ≤ l.length) → Owned w' base (.slice A l.length c) l → Keeps w w' v.ownBlock.toList → ((Value.slice A l.length c).ownBlock = v.ownBlock ∨ (Value.slice A l.length c).ownBlock = some w.heap.size) →
      K (a.put o.dst (.slice A l.length c)) w') :
    if Region.wanted o (yielded ops a.tmps) = true then Oper.wp Tryz.prog o a w K Q else E := by
  have hw : Region.wanted o (yielded ops a.tmps) = true := by simp [Region.wanted, hgd]
  rw [if_pos hw]
  obtain ⟨A, c, w', hrun, h2, h3, h4⟩ := run_append_bytes w base v u l1 l2 o.type hown hb hlen hbase
  unfold Oper.wp execOp
  simp only [ho, resolve, invoke, builtin, Sem.run_bind, Sem.run_pure, Result.andThen_ok, List.map_toArray, List.map_cons, List.map_nil, hs, hx, hrun]
  exact h A c w' _ (Lib.hid rfl) ⟨by simp, by simp⟩ h2 h3 h4
end
end Go.Proofs.YtfglgeoookbppaaGreatDoor
