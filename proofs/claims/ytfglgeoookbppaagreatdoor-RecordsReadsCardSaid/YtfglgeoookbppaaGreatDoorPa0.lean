/- Words for memory: a block that is known whole, a slice that reads as a list, what a call keeps. What an argument reads as: the same behind a call that leaves its places alone. The cell that holds the greatest length of a needle. Layer 19: a law's row and card out of its walk. A region that draws its order and whose operations may hand back new memory, each operation met once: what it finds is told of the temporaries that it reads alone. Small words: a callee that leaves the world as it was, met inside a region; what is kept over draws. Walks: a copy of bytes. Facts on the types of bytes in this program. A region whose operations each keep what was there, each operation met once. -/
import Derived.WalkKit
import Derived.WalkSpells
import Derived.WalkLawsBesides
import Derived.Lib.Hide
import Derived.Maps.AppendAt
import Derived.Deep.AppendLies
import Derived.Deep.Draws
import Derived.Deep.QuietTactic
import Derived.BigQuiet
import Derived.OneCell
import Derived.ChangeReads
import Derived.ChangeOld
import Derived.ChangeSame
import Derived.Test.YtfglgeoookbppaaGreatDoorRows
import Derived.Test.YtfglgeoookbppaaGreatDoorCards
import Derived.Test.YtfglgeoookbppaaGreatDoorTie
import Derived.Deep.DeepHandedRow
import Derived.Deep.DeepWitnessRowRef
import Derived.Lib.LaidIn
import Derived.Lib.LaidU8
import Derived.Shelf.Vars
import Derived.SizedLaws
import Derived.SevenTiedAt
import Derived.ProofKit
import Derived.Orders
import Derived.Calls
import Derived.StillTailTactics
import Derived.Deep.Quiet
import Derived.Test.YtfglgeoookbppaaGreatDoorProg

namespace Go.Proofs.YtfglgeoookbppaaGreatDoor
open Go.RowKit

/-- Block g is just the cells cs of element type t, none of them frozen. -/
def Row (w : World) (g : Nat) (t : TypeId) (cs : Array Value) : Prop := w.heap[g]? = some (.cells cs t (0, 0))

/-- What a call leaves alone: all blocks but those of S. -/
structure Keeps (w w' : World) (S : List Nat) : Prop where
 os : w'.os = w.os
 tape : w'.tape = w.tape
 output : w'.output = w.output
 size : w.heap.size ≤ w'.heap.size
 block : ∀ k, k < w.heap.size → k ∉ S → w'.heap[k]? = w.heap[k]?

section
variable {w w' w'' : World} {S T : List Nat}
theorem Keeps.refl (w : World) (S : List Nat) : Keeps w w S := ⟨rfl, rfl, rfl, Nat.le_refl _, fun _ _ _ => rfl⟩
theorem Keeps.trans (h : Keeps w w' S) (k : Keeps w' w'' T) (hT : ∀ x, x ∈ T → x < w.heap.size → x ∈ S) : Keeps w w'' S :=
 ⟨k.os.trans h.os, k.tape.trans h.tape, k.output.trans h.output, Nat.le_trans h.size k.size,
 fun i hi hs => (k.block i (Nat.lt_of_lt_of_le hi h.size) (fun hm => hs (hT i hm hi))).trans (h.block i hi hs)⟩
theorem Keeps.weaken (h : Keeps w w' S) (hT : ∀ x, x ∈ S → x < w.heap.size → x ∈ T) : Keeps w w' T :=
 ⟨h.os, h.tape, h.output, h.size, fun k hk ht => h.block k hk (fun hm => ht (hT k hm hk))⟩
theorem Keeps.drewN (w : World) (n : Nat) : Keeps w (w.drewN n) [] := ⟨rfl, rfl, rfl, Nat.le_refl _, fun _ _ _ => rfl⟩
theorem Keeps.drew (w : World) : Keeps w w.drew [] := ⟨rfl, rfl, rfl, Nat.le_refl _, fun _ _ _ => rfl⟩
theorem Keeps.alloc (w : World) (o : Obj) : Keeps w (w.alloc o) [] := ⟨rfl, rfl, rfl, by simp, fun k hk _ => Below.heap_alloc _ _ _ hk⟩
theorem Keeps.setCell (w : World) (p : Addr) (u : Value) : Keeps w (w.setCell p u) [p.block] :=
 ⟨rfl, rfl, rfl, by simp [World.setCell], fun k _ hs => Below.heap_setCell _ _ _ _ (by simpa using hs)⟩
theorem Keeps.of_grown {row : Option Nat} (h : w.grownBy w' row) : Keeps w w' row.toList :=
 ⟨h.os, h.tape, h.output, h.size, fun k hk hs => h.block k hk (fun e => hs (by rw [← e]; simp))⟩
theorem Keeps.of_below (h : Below w.heap.size w w') : Keeps w w' [] := ⟨h.os, h.tape, h.output, h.size, fun k hk _ => h.block k hk⟩
theorem Keeps.below {B : Nat} (h : Keeps w w' S) (hB : B ≤ w.heap.size) (hS : ∀ x, x ∈ S → B ≤ x) : Below B w w' :=
 ⟨h.os, h.tape, h.output, h.size, fun k hk => h.block k (by omega) (fun hm => by have := hS k hm; omega)⟩
theorem Keeps.cell (h : Keeps w w' S) {p : Addr} (hp : p.block < w.heap.size) (hs : p.block ∉ S) : w'.cell? p = w.cell? p := World.cell?_of_block (w := w) (h.block p.block hp hs)
theorem Keeps.frozen (h : Keeps w w' S) {p : Addr} (hp : p.block < w.heap.size) (hs : p.block ∉ S) : w'.frozen? p = w.frozen? p := World.frozen?_of_block (w := w) (h.block p.block hp hs)
end

section
variable {w w' : World} {g : Nat} {t : TypeId} {cs : Array Value} {S : List Nat}
theorem Row.lt (h : Row w g t cs) : g < w.heap.size := by
 rcases Nat.lt_or_ge g w.heap.size with hlt | hge
 ·exact hlt
 ·unfold Row at h; rw [Array.getElem?_eq_none hge] at h; cases h
theorem Row.cell (h : Row w g t cs) (i : Nat) : w.cell? ⟨g, i, none⟩ = cs[i]? := cell_of_row w g i cs t (0, 0) h
theorem Row.frozen (h : Row w g t cs) (i : Nat) : w.frozen? ⟨g, i, none⟩ = false := by
 unfold Row at h
 simp [World.frozen?, h]
theorem Row.new (w : World) (t : TypeId) (cs : Array Value) : Row (w.alloc (.cells cs t)) w.heap.size t cs := heap_alloc_new w _
theorem Row.alloc (h : Row w g t cs) (o : Obj) : Row (w.alloc o) g t cs := (Below.heap_alloc w o g h.lt).trans h
theorem Row.drewN (h : Row w g t cs) (n : Nat) : Row (w.drewN n) g t cs := h
theorem Row.store (h : Row w g t cs) (i : Nat) (u : Value) : Row (w.setCell ⟨g, i, none⟩ u) g t (cs.setIfInBounds i u) := by
 unfold Row at h ⊢
 simp [World.setCell, Array.getElem?_modify, h]
theorem Row.far (h : Row w g t cs) {p : Addr} (hp : g ≠ p.block) (u : Value) : Row (w.setCell p u) g t cs := (Below.heap_setCell w p u g hp).trans h
theorem Row.keep (h : Row w g t cs) (hk : Keeps w w' S) (hs : g ∉ S) : Row w' g t cs := (hk.block g h.lt hs).trans h
theorem Row.below {B : Nat} (h : Row w g t cs) (hb : Below B w w') (hg : g < B) : Row w' g t cs := (hb.block g hg).trans h
theorem Row.ne_type {g' : Nat} {t' : TypeId} {cs' : Array Value} (h : Row w g t cs) (h' : Row w g' t' cs') (hne : t ≠ t') : g ≠ g' := by
 rintro rfl
 unfold Row at h h'
 rw [h] at h'
 injection h' with h'
 injection h' with _ ht
 exact hne ht
end

/-- A byte as a cell holds it. -/
def byteV (b : UInt8) : Value := .int .u8 (b.toNat : Int)

/-- The cells from A on read as xs (one cell each), in a block below B; nothing is asked of A where xs is empty. -/
def Lies (w : World) (B : Nat) (A : Option Addr) (xs : List Value) : Prop :=
 0 < xs.length → ∃ b o, A = some ⟨b, o, none⟩ ∧ b < B ∧ ∀ i u, xs[i]? = some u → w.cell? ⟨b, o + i, none⟩ = some u

section
variable {w w' : World} {B B' : Nat} {A : Option Addr} {xs : List Value} {S : List Nat}
theorem Lies.nil (w : World) (B : Nat) (A : Option Addr) : Lies w B A [] := fun h => absurd h (by simp)
theorem Lies.mono (h : Lies w B A xs) (hB : B ≤ B') : Lies w B' A xs := fun hn => by
 obtain ⟨b, o, e, hb, hc⟩ := h hn
 exact ⟨b, o, e, by omega, hc⟩
theorem Lies.cells (h : Lies w B A xs) (hk : ∀ p : Addr, p.block < B → w'.cell? p = w.cell? p) : Lies w' B A xs := fun hn => by
 obtain ⟨b, o, e, hb, hc⟩ := h hn
 exact ⟨b, o, e, hb, fun i u hu => (hk ⟨b, o + i, none⟩ hb).trans (hc i u hu)⟩
theorem Lies.below (h : Lies w B A xs) (hb : Below B w w') : Lies w' B A xs := h.cells fun _ hp => hb.cell hp
theorem Lies.keep (h : Lies w B A xs) (hk : Keeps w w' S) (hB : B ≤ w.heap.size) (hs : ∀ x, x ∈ S → B ≤ x) : Lies w' B A xs := h.below (hk.below hB hs)
theorem Lies.keep' (h : Lies w B A xs) (hk : Keeps w w' S) (hB : B ≤ w.heap.size) (hs : ∀ b o, A = some ⟨b, o, none⟩ → b ∉ S) : Lies w' B A xs := fun hn => by
 obtain ⟨b, o, e, hb, hc⟩ := h hn
 exact ⟨b, o, e, hb, fun i u hu => (hk.cell (p := ⟨b, o + i, none⟩) (by simp; omega) (hs b o e)).trans (hc i u hu)⟩
theorem Lies.at_ (h : Lies w B A xs) {k : Nat} (hk : k < xs.length) : ∃ b o, A = some ⟨b, o, none⟩ ∧ b < B ∧ w.cell? ⟨b, o + k, none⟩ = some xs[k] := by
 obtain ⟨b, o, e, hb, hc⟩ := h (by omega)
 exact ⟨b, o, e, hb, hc k _ (List.getElem?_eq_getElem hk)⟩
theorem Lies.cut (h : Lies w B A xs) {k cap : Nat} (hc : xs.length ≤ cap) :
  Lies w B (if cap = k then A else A.map (·.add k)) (xs.drop k) := fun hn => by
 have hl : k < xs.length := by simp at hn; omega
 obtain ⟨b, o, rfl, hb, hcell⟩ := h (by omega)
 rw [if_neg (by omega)]
 refine ⟨b, o + k, ?_, hb, fun i u hu => ?_⟩
 ·unfold Addr.add; split
  ·rename_i h0; subst h0; simp
  ·simp
 ·rw [Nat.add_assoc]; exact hcell _ u (by rw [← hu, List.getElem?_drop])
theorem Lies.take (h : Lies w B A xs) (k : Nat) : Lies w B A (xs.take k) := fun hn => by
 obtain ⟨b, o, rfl, hb, hcell⟩ := h (by simp at hn; omega)
 exact ⟨b, o, rfl, hb, fun i u hu => hcell i u (by
  rw [List.getElem?_take] at hu
  split at hu
  ·exact hu
  ·cases hu)⟩
theorem Lies.of_own {base : Nat} {e : TypeId} {n c : Nat} (h : w.ownsRow base e 1 (.slice A n c) n xs) : Lies w w.heap.size A xs := fun hn => by
 have hl : xs.length = n := by simpa using h.1
 obtain ⟨g, cap, hv, _, hlt⟩ := h.form (by omega)
 have hA : A = some ⟨g, 0, none⟩ := by injection hv
 subst hA
 refine ⟨g, 0, rfl, hlt, fun i u hu => ?_⟩
 have := h.cells (g := g) rfl i u hu
 rw [← this]
 unfold Addr.add
 split
 ·rename_i h0; subst h0; rfl
 ·rfl
end

theorem bytes_len (l : List UInt8) : (l.map byteV).length = l.length := by simp
theorem byteV_one (l : List UInt8) : ∀ u ∈ l.map byteV, u.oneCell' = true := by
 intro u hu
 obtain ⟨x, _, rfl⟩ := List.mem_map.1 hu
 rfl
theorem byteV_get (l : List UInt8) {k : Nat} (h : k < l.length) : (l.map byteV)[k]'(by simpa using h) = .int .u8 (l[k].toNat : Int) := by simp [byteV]

section
variable {P : Program} (w : World)
/-- append onto a row of the call's own (or onto nil), the source nil, empty or not. -/
theorem run_append_lies' (base : Nat) (t ty e : TypeId) (i : TypeInfo) (z : Value) (bytes : Nat) (ht : P.underlying t = some (.slice e)) (hi : P.info? e = some i) (hz : i.zero = some z)
  (hsize : i.size = 1) (hby : i.bytes = bytes) (hzs : z.cells.size = 1)
  (v : Value) (n : Nat) (xs : List Value) (hown : w.ownsRow base e 1 v n xs)
  (B : Nat) (A : Option Addr) (m c : Nat) (news : List Value) (hm : news.length = m) (hr : Lies w B A news) (h1 : ∀ u ∈ news, u.oneCell' = true)
  (h63 : n + m ≤ maxLen) (hbytes : (n + m) * bytes ≤ 140737488355328) (hbase : base ≤ w.heap.size) :
  ∃ v' w', (Builtin.append_ #[t, t] ty #[v, .slice A m c]).run P w = .ok v' w' ∧ w'.ownsRow base e 1 v' (n + m) (xs ++ news) ∧ w.grownBy w' v.ownBlock ∧
   (v'.ownBlock = v.ownBlock ∨ v'.ownBlock = some w.heap.size) := by
 have nothing : m = 0 → A = none → ∃ v' w', (Builtin.append_ #[t, t] ty #[v, .slice A m c]).run P w = .ok v' w' ∧ w'.ownsRow base e 1 v' (n + m) (xs ++ news) ∧ w.grownBy w' v.ownBlock ∧
   (v'.ownBlock = v.ownBlock ∨ v'.ownBlock = some w.heap.size) := by
  rintro rfl rfl
  have hn : news = [] := List.eq_nil_of_length_eq_zero hm
  subst hn
  refine ⟨v, w, ?_, by simpa using hown, ⟨rfl, rfl, rfl, Nat.le_refl _, fun _ _ _ => rfl⟩, .inl rfl⟩
  rcases hown.2 with ⟨rfl, rfl⟩ | ⟨g, cap, cur, rfl, _, _, hnc, _⟩
  ·simp [Builtin.append_, run_underlying ht, sizeOf, typeInfo, hi, Builtin.lenOf, Builtin.firstCells]
  ·simp [Builtin.append_, run_underlying ht, sizeOf, typeInfo, hi, Builtin.lenOf, Builtin.firstCells, hnc, storeCells]
 rcases Nat.eq_zero_or_pos m with h0 | h0
 ·rcases A with _ | ad
  ·exact nothing h0 rfl
  ·have hn : news = [] := List.eq_nil_of_length_eq_zero (by omega)
   subst hn
   obtain ⟨v', w', hrun, h2, h3, _, h5⟩ := run_append_own_at (P := P) w base t ty e i z 1 bytes ht hi hz hsize hby hzs (by omega) v n xs hown ad m c [] (by simpa using hm) (fun j u hu => by simp at hu) h1 h63 hbytes hbase
   exact ⟨v', w', hrun, h2, h3, h5⟩
 ·obtain ⟨b, o, rfl, _, hc⟩ := hr (by omega)
  obtain ⟨v', w', hrun, h2, h3, _, h5⟩ := run_append_own_at (P := P) w base t ty e i z 1 bytes ht hi hz hsize hby hzs (by omega) v n xs hown ⟨b, o, none⟩ m c news (by simpa using hm)
   (fun j u hu => by
    rw [← hc j u hu]
    unfold Addr.add
    split
    ·rename_i h0; subst h0; rfl
    ·rfl) h1 h63 hbytes hbase
  exact ⟨v', w', hrun, h2, h3, h5⟩

theorem wpList_append_lies' {ops : Array Oper} {rest : List Oper} {o : Oper} {a : Act} {Q : Exit → Act → World → Prop} (hgd : o.guard = none) (s x : Operand) (t : TypeId)
  (ho : o.op = .call { callee := .builtin .append, args := #[s, x], argTypes := #[t, t] })
  (base : Nat) (e : TypeId) (i : TypeInfo) (z : Value) (bytes : Nat) (ht : P.underlying t = some (.slice e)) (hi : P.info? e = some i) (hz : i.zero = some z)
  (hsize : i.size = 1) (hby : i.bytes = bytes) (hzs : z.cells.size = 1)
  (v : Value) (n : Nat) (xs : List Value) (hs : a.eval s = v) (hown : w.ownsRow base e 1 v n xs)
  (B : Nat) (A : Option Addr) (m c : Nat) (news : List Value) (hx : a.eval x = .slice A m c) (hm : news.length = m) (hr : Lies w B A news) (h1 : ∀ u ∈ news, u.oneCell' = true)
  (h63 : n + m ≤ maxLen) (hbytes : (n + m) * bytes ≤ 140737488355328) (hbase : base ≤ w.heap.size)
  (h : ∀ v' w', w'.ownsRow base e 1 v' (n + m) (xs ++ news) → w.grownBy w' v.ownBlock → (v'.ownBlock = v.ownBlock ∨ v'.ownBlock = some w.heap.size) → wpList P ops Q rest (a.put o.dst v') w') : wpList P ops Q (o :: rest) a w := by
 refine wpList_plain hgd fun K hK => ?_
 obtain ⟨v', w', hrun, h2, h3, h4⟩ := run_append_lies' (P := P) w base t o.type e i z bytes ht hi hz hsize hby hzs v n xs hown B A m c news hm hr h1 h63 hbytes hbase
 unfold Oper.wp execOp
 simp only [ho, resolve, invoke, builtin, Sem.run_bind, Sem.run_pure, Result.andThen_ok, List.map_toArray, List.map_cons, List.map_nil, hs, hx, hrun]
 exact hK _ _ (h v' w' h2 h3 h4)
end

section
variable {P : Program} (w : World)
/-- The same at an operation of a region that draws its order. -/
theorem step_append_lies' {ops : Array Oper} {o : Oper} {a : Act} {K : Act → World → Prop} {Q : Exit → Act → World → Prop} {E : Prop} (hgd : o.guard = none) (s x : Operand) (t : TypeId)
  (ho : o.op = .call { callee := .builtin .append, args := #[s, x], argTypes := #[t, t] })
  (base : Nat) (e : TypeId) (i : TypeInfo) (z : Value) (bytes : Nat) (ht : P.underlying t = some (.slice e)) (hi : P.info? e = some i) (hz : i.zero = some z)
  (hsize : i.size = 1) (hby : i.bytes = bytes) (hzs : z.cells.size = 1)
  (v : Value) (n : Nat) (xs : List Value) (hs : a.eval s = v) (hown : w.ownsRow base e 1 v n xs)
  (B : Nat) (A : Option Addr) (m c : Nat) (news : List Value) (hx : a.eval x = .slice A m c) (hm : news.length = m) (hr : Lies w B A news) (h1 : ∀ u ∈ news, u.oneCell' = true)
  (h63 : n + m ≤ maxLen) (hbytes : (n + m) * bytes ≤ 140737488355328) (hbase : base ≤ w.heap.size)
  (h : ∀ v' w', w'.ownsRow base e 1 v' (n + m) (xs ++ news) → w.grownBy w' v.ownBlock → (v'.ownBlock = v.ownBlock ∨ v'.ownBlock = some w.heap.size) → K (a.put o.dst v') w') :
  if Region.wanted o (yielded ops a.tmps) = true then Oper.wp P o a w K Q else E := by
 have hw : Region.wanted o (yielded ops a.tmps) = true := by simp [Region.wanted, hgd]
 rw [if_pos hw]
 obtain ⟨v', w', hrun, h2, h3, h4⟩ := run_append_lies' (P := P) w base t o.type e i z bytes ht hi hz hsize hby hzs v n xs hown B A m c news hm hr h1 h63 hbytes hbase
 unfold Oper.wp execOp
 simp only [ho, resolve, invoke, builtin, Sem.run_bind, Sem.run_pure, Result.andThen_ok, List.map_toArray, List.map_cons, List.map_nil, hs, hx, hrun]
 exact h v' w' h2 h3 h4
end

/-- The value of an owned row, taken apart. -/
theorem own_slice {w : World} {base : Nat} {e : TypeId} {v : Value} {n : Nat} {xs : List Value} (h : w.ownsRow base e 1 v n xs) : ∃ A c, v = .slice A n c ∧ n ≤ c ∧ c ≤ maxLen := by
 rcases h.2 with ⟨rfl, rfl⟩ | ⟨g, cap, cur, rfl, _, _, hnc, hcm, _⟩
 ·exact ⟨none, 0, rfl, Nat.le_refl _, by simp [maxLen]⟩
 ·exact ⟨_, cap, rfl, hnc, hcm⟩
theorem own_keep {w w' : World} {base : Nat} {e : TypeId} {v : Value} {n : Nat} {xs : List Value} {S : List Nat} (h : w.ownsRow base e 1 v n xs) (hk : Keeps w w' S) (hs : ∀ g, v.ownBlock = some g → g ∉ S) : w'.ownsRow base e 1 v n xs := by
 obtain ⟨h1, h2⟩ := h
 refine ⟨h1, ?_⟩
 rcases h2 with h2 | ⟨g, cap, cur, hv, hg, hh, r⟩
 ·exact .inl h2
 ·subst hv
  have hlt : g < w.heap.size := (Array.getElem?_eq_some_iff.1 hh).1
  exact .inr ⟨g, cap, cur, rfl, hg, (hk.block g hlt (hs g rfl)).trans hh, r⟩
theorem own_base {w : World} {base base' : Nat} {e : TypeId} {v : Value} {n : Nat} {xs : List Value} (h : w.ownsRow base e 1 v n xs) (hb : base' ≤ base) : w.ownsRow base' e 1 v n xs := by
 obtain ⟨h1, h2⟩ := h
 refine ⟨h1, ?_⟩
 rcases h2 with h2 | ⟨g, cap, cur, hv, hg, hh, r⟩
 ·exact .inl h2
 ·exact .inr ⟨g, cap, cur, hv, Nat.le_trans hb hg, hh, r⟩
theorem own_ne_row {w : World} {base : Nat} {e : TypeId} {v : Value} {n : Nat} {xs : List Value} {g : Nat} {t : TypeId} {cs : Array Value} (h : w.ownsRow base e 1 v n xs) (hg : Row w g t cs) (hne : e ≠ t) : v.ownBlock ≠ some g := by
 rcases h.2 with ⟨rfl, _⟩ | ⟨g', cap, cur, rfl, _, hh, _⟩
 ·simp [Value.ownBlock]
 ·intro he
  have : g' = g := by simpa [Value.ownBlock] using he
  subst this
  exact Row.ne_type (t := e) hh hg hne rfl
end Go.Proofs.YtfglgeoookbppaaGreatDoor

namespace Go.Proofs.YtfglgeoookbppaaGreatDoor
open Go.RowKit Go.ChangeShapes Go.WideShapes

section
variable {H : Type} {enc : TypeId × Value → H} {P : Program} {w w' : World} {base : Nat} {sp : Nat → Bool} {held : Bool}

/-- A list of types that holds its types' parts; the elements of its slices take up a cell at least. -/
def closedB (P : Program) (L : List TypeId) : Bool := L.all fun t => match P.underlying t with
 | some (.pointer e) => L.contains e
 | some (.slice e) => L.contains e && decide (0 < P.cellsOf e)
 | some (.struct fs) => fs.toList.all fun f => L.contains f.type
 | some (.array _ e) => L.contains e
 | some (.map _ e) => L.contains e
 | _ => true
theorem closedB_spec {L : List TypeId} (h : closedB P L = true) {t : TypeId} (ht : t ∈ L) : match P.underlying t with
 | some (.pointer e) => e ∈ L
 | some (.slice e) => e ∈ L ∧ 0 < P.cellsOf e
 | some (.struct fs) => ∀ f ∈ fs.toList, f.type ∈ L
 | some (.array _ e) => e ∈ L
 | some (.map _ e) => e ∈ L
 | _ => True := by
 have h1 := (List.all_eq_true.1 h) t ht
 revert h1
 cases P.underlying t with
 | none => exact fun _ => trivial
 | some d =>
  cases d <;> simp
  intro h f hf
  obtain ⟨i, hi, rfl⟩ := Array.mem_iff_getElem.1 hf
  exact h i hi

theorem mem_places {a : Addr} {n i : Nat} (h : i < n) : ∃ p ∈ MemPlace.row a n, p.block = a.block := ⟨_, MemPlace.mem_row.2 ⟨i, h, rfl⟩, rfl⟩

/-- One step: the spare cells are asked for where a place of the datum says so. -/
theorem trodStep_spare {L : List TypeId} (hz : closedB P L = true) {r r' : TypeId → List Value → Option (DataW H × List MemPlace)}
  (hr : ∀ t ∈ L, ∀ cs x, r t cs = some x → (∀ p ∈ x.2, sp p.block = true) → r' t cs = some x) {t : TypeId} (hT : t ∈ L) {cs : List Value} {x : DataW H × List MemPlace}
  (h : DataW.trodStep enc P w base (fun _ => true) true r t cs = some x) (hs : ∀ p ∈ x.2, sp p.block = true) : DataW.trodStep enc P w base sp true r' t cs = some x := by
 have hk := closedB_spec hz hT
 unfold DataW.trodStep at h ⊢
 split at h
 all_goals first | exact h | skip
 all_goals rename_i hu; simp only [hu] at hk
 ·obtain ⟨y, hy, rfl⟩ := Option.map_eq_some_iff.1 h
  obtain ⟨cs', hc, hv⟩ := Option.bind_eq_some_iff.1 hy
  have h1 := hr _ hk _ _ hv (fun p hp => hs p (List.mem_append_right _ hp))
  simp only [hc, Option.bind_some, h1, Option.map_some]
 ·rename_i e a len cap
  simp only at h ⊢
  split at h
  ·rename_i hc
   rw [if_pos hc]
   simp only [if_true] at h
   obtain ⟨elems, he, h2⟩ := Option.bind_eq_some_iff.1 h
   obtain ⟨rest, hre, rfl⟩ := Option.map_eq_some_iff.1 h2
   have hel : elems.length = len := by simpa using mapM_some_length he
   have hrl : rest.length = cap - len := by simpa using mapM_some_length hre
   have up : ∀ i y, y ∈ elems ++ rest → (w.cells? base (a.add (i * P.cellsOf e)) (P.cellsOf e)).bind (r e) = some y → (w.cells? base (a.add (i * P.cellsOf e)) (P.cellsOf e)).bind (r' e) = some y := by
    intro i y hy hv
    obtain ⟨cs', hc', hy'⟩ := Option.bind_eq_some_iff.1 hv
    rw [hc', Option.bind_some]
    exact hr _ hk.1 _ _ hy' (fun p hp => hs p (List.mem_append_right _ (List.mem_flatMap.2 ⟨y, hy, hp⟩)))
   have m1 := mapM_carry he (g := fun i => (w.cells? base (a.add (i * P.cellsOf e)) (P.cellsOf e)).bind (r' e)) (fun i y _ hy hv => up i y (List.mem_append_left _ hy) hv)
   have m2 := mapM_carry hre (g := fun j => (w.cells? base (a.add ((len + j) * P.cellsOf e)) (P.cellsOf e)).bind (r' e)) (fun j y _ hy hv => up (len + j) y (List.mem_append_right _ hy) hv)
   rw [m1, Option.bind_some]
   by_cases hsp : sp a.block = true
   ·rw [if_pos hsp, m2]; rfl
   ·have hzero : cap - len = 0 := by
     rcases Nat.eq_zero_or_pos (cap - len) with h0 | h0
     ·exact h0
     ·exfalso
      have hpos := hk.2
      obtain ⟨p, hp, hb⟩ := mem_places (a := a) (n := (elems.length + rest.length) * P.cellsOf e) (i := 0) (Nat.mul_pos (by omega) hpos)
      exact hsp (hb ▸ hs p (List.mem_append_left _ hp))
    have hrn : rest = [] := List.eq_nil_of_length_eq_zero (by omega)
    subst hrn
    rw [if_neg hsp]; rfl
  ·cases h
 ·split at h
  ·rename_i hc
   rw [if_pos hc]
   obtain ⟨xs, hx, rfl⟩ := Option.map_eq_some_iff.1 h
   exact Option.map_eq_some_iff.2 ⟨xs, mapM_carry hx (fun f y hf hy hv => hr _ (by first | exact hk f hf | exact hk) _ _ hv (fun p hp => hs p (List.mem_flatMap.2 ⟨y, hy, hp⟩))), rfl⟩
  ·cases h
 ·split at h
  ·rename_i hc
   rw [if_pos hc]
   obtain ⟨xs, hx, rfl⟩ := Option.map_eq_some_iff.1 h
   exact Option.map_eq_some_iff.2 ⟨xs, mapM_carry hx (fun f y hf hy hv => hr _ (by first | exact hk f hf | exact hk) _ _ hv (fun p hp => hs p (List.mem_flatMap.2 ⟨y, hy, hp⟩))), rfl⟩
  ·cases h
 ·rename_i k e b
  split at h
  ·rename_i es clock hb
   split at h
   ·rename_i hc
    obtain ⟨entries, he, hd⟩ := Option.bind_eq_some_iff.1 h
    simp only at hd
    split at hd
    ·rename_i hris
     have hx := Option.some.inj hd
     subst hx
     rw [if_pos hc]
     refine Option.bind_eq_some_iff.2 ⟨entries, mapM_carry he (fun x y _ hy hv => ?_), by simp [hris]⟩
     obtain ⟨key, hkey, hv2⟩ := Option.bind_eq_some_iff.1 hv
     refine Option.bind_eq_some_iff.2 ⟨key, hkey, ?_⟩
     split at hv2
     ·rename_i hf
      rw [if_pos hf]
      obtain ⟨q, hq, rfl⟩ := Option.map_eq_some_iff.1 hv2
      rw [hr _ hk _ _ hq (fun p hp => hs p (List.mem_cons_of_mem _ (List.mem_flatMap.2 ⟨_, hy, hp⟩)))]; rfl
     ·cases hv2
    ·cases hd
   ·cases h
  ·cases h

theorem trod_spare {L : List TypeId} (hz : closedB P L = true) : ∀ (n : Nat) (t : TypeId), t ∈ L → ∀ (cs : List Value) (x : DataW H × List MemPlace),
  DataW.trod enc P w base (fun _ => true) true n t cs = some x → (∀ p ∈ x.2, sp p.block = true) → DataW.trod enc P w base sp true n t cs = some x
 | 0, _, _, _, _, h, _ => by simp [DataW.trod] at h
 | n + 1, t, hT, cs, x, h, hs => by
  rw [DataW.trod_step] at h ⊢
  exact trodStep_spare hz (fun t ht cs x => trod_spare hz n t ht cs x) hT h hs

theorem Trod.kept {L : List TypeId} (hz : closedB P L = true) {t : TypeId} (hT : t ∈ L) {v : Value} {d : DataW H} {ps : List MemPlace} (h : DataW.Trod enc P w base (fun _ => true) true t v d ps)
  (hs : ∀ p ∈ ps, w.sameAt w' p ∧ sp p.block = true) : DataW.Trod enc P w' base sp true t v d ps := by
 obtain ⟨n, hn⟩ := h
 exact ⟨n, DataW.trod_carry n _ _ _ (trod_spare hz n _ hT _ _ hn (fun p hp => (hs p hp).2)) (fun p hp => (hs p hp).1)⟩
theorem TrodAll.kept {L : List TypeId} (hz : closedB P L = true) : ∀ {ts : List TypeId} {vs : List Value} {ds : List (DataW H)} {ps : List MemPlace}, (∀ t ∈ ts, t ∈ L) → DataW.TrodAll enc P w base (fun _ => true) true ts vs ds ps →
  (∀ p ∈ ps, w.sameAt w' p ∧ sp p.block = true) → DataW.TrodAll enc P w' base sp true ts vs ds ps
 | [], [], [], _, _, h, _ => h
 | _ :: _, _ :: _, _ :: _, _, hT, ⟨p, q, h, hs, e⟩, hp => ⟨p, q, Trod.kept hz (hT _ (by simp)) h (fun x hx => hp x (e ▸ List.mem_append_left _ hx)), TrodAll.kept hz (fun t ht => hT t (by simp [ht])) hs (fun x hx => hp x (e ▸ List.mem_append_right _ hx)), e⟩

theorem Keeps.sameAt (h : Keeps w w' []) {p : MemPlace} (hp : p.block < w.heap.size) : w.sameAt w' p := by
 cases p with
 | cell b off => exact h.cell (p := ⟨b, off, none⟩) hp (by simp)
 | map b => exact h.block b hp (by simp)
end

section
variable {H : Type} {enc : TypeId × Value → H} {P : Program}
/-- A law has returned true and kept what was there: its row's last part. -/
theorem law_post {L : List TypeId} (hz : closedB P L = true) {f : Func} {s : ChangeSpec} {apart fresh handsOn : Bool} {W W' : World} {args : Array Value} {ds : List (DataW H)} {before : List MemPlace} {tb : TypeId}
  (hW : DataW.Whole enc P f.params.toList [] apart W args.toList ds [] before) (hv : s.vars = []) (hT : ∀ t ∈ f.params.toList, t ∈ L) (hr : f.resultTypes = #[tb]) (hb : P.underlying tb = some .bool)
  (hs : s.fn H ds = { results := [.lit (.bool true)], args := ds }) (hk : Keeps W W' []) : s.post enc P f apart fresh handsOn false W args (.bool true) W' := by
 have hlt : ∀ p ∈ before, p.block < W.heap.size := fun p hp => hW.lt p hp
 obtain ⟨p, q, hA, hV, rfl, hz1, hn⟩ := hW
 have hq : q = [] := (trodVars_none hV).2
 subst hq
 rw [List.append_nil] at hlt hz1 hn
 have hargs : ∀ sp : Nat → Bool, (∀ x ∈ p, sp x.block = true) → DataW.TrodAll enc P W' 0 sp true f.params.toList args.toList ds p := fun sp hsp =>
  TrodAll.kept hz hT hA (fun x hx => ⟨hk.sameAt (hlt x hx), hsp x hx⟩)
 have hres : ∀ (b : Nat) (sp : Nat → Bool) (hd : Bool), DataW.TrodAll enc P W' b sp hd f.resultTypes.toList ((Value.bool true).resultList f.resultTypes.size) [.lit (.bool true)] [] := fun b sp hd => by
  rw [hr]; exact trodAll_mk1 (shut_bool hb _)
 refine ⟨ds, [], p ++ [], [], p, [], ⟨p, [], hA, by rw [hv]; exact hV, rfl, by simpa using hz1, by simpa using hn⟩, ?_, ?_, ?_, ?_, fun h => by cases h⟩
 ·rw [List.append_nil, hs]; exact hres _ _ _
 ·rw [List.append_nil, hs]; exact hargs _ (fun x hx => by simpa using hlt x hx)
 ·rw [List.append_nil, hs, hv]; rfl
 ·refine World.keptBut_mono (fun x hx => ⟨by simpa using hx, Or.inr (Or.inl hx)⟩) ((hk.below (Nat.le_refl _) (by simp)).frame (· ∈ p))
end
end Go.Proofs.YtfglgeoookbppaaGreatDoor

namespace Go.Proofs.YtfglgeoookbppaaGreatDoor
open Go.RowKit

/-- The greatest length's cell holds some number. -/
def MaxL (w : World) : Prop := ∃ m : Int, w.cell? ⟨1, 0, none⟩ = some (.int .i64 m)
theorem MaxL.keep {w w' : World} {S : List Nat} (h : MaxL w) (hk : Keeps w w' S) (hs : 1 ∉ S) : MaxL w' := by
 obtain ⟨m, hm⟩ := h
 exact ⟨m, (hk.cell (p := ⟨1, 0, none⟩) (by
  show 1 < w.heap.size
  rcases Nat.lt_or_ge 1 w.heap.size with h | h
  ·exact h
  ·simp [World.cell?, Array.getElem?_eq_none h] at hm) hs).trans hm⟩
theorem MaxL.keeps {w w' : World} (h : MaxL w) (hk : Keeps w w' []) : MaxL w' := h.keep hk (by simp)
end Go.Proofs.YtfglgeoookbppaaGreatDoor

namespace Go.Proofs.YtfglgeoookbppaaGreatDoor
open Go.ChangeShapes Go.WideShapes Go.ChangeAt Go.RowKit

theorem Tryz.own : ownKnob Tryz.prog.godebug = none := by kernel_rfl
theorem undBool : Tryz.prog.underlying 4 = some .bool := by kernel_rfl

/-- The world's shape tells that MaxLen holds some number. -/
theorem maxL_of_shaped {W : World} (h : W.ShapedOpen Tryz.prog) : MaxL W :=
 cell_of_shapedOpen_int (g := 1) (t := 3) (zero := #[.int .i64 0]) (k := .i64) h (by decide +kernel) (by kernel_rfl) rfl (by kernel_rfl) (by kernel_rfl) (by kernel_rfl)

/-- The witness: the settled world, the two tables holding what their initialisers lay. -/
noncomputable def laidWorld (os : Os) : World :=
 let w0 := World.holding Tryz.prog os ⟨#[], #[], []⟩
 let put (h : Array Obj) (g : Nat) (cs : Array Value) : Array Obj := h.modify g fun
  | .cells _ t frozen => .cells cs t frozen
  | o => o
 let h1 := put w0.heap 2 (Lib.firstTab.map fun z => Value.int .u8 z).toArray
 let h2 := put h1 3 ((List.range 16).flatMap fun i => [Value.int .u8 (Lib.accLo i), Value.int .u8 (Lib.accHi i)]).toArray
 { w0 with heap := h2 }
theorem laid_met (os : Os) (args : Array Value) : laidMet Tryz.prog Rows.recordsSumsRow.laid ((laidWorld os).forCall (fun _ _ => 0) ⟨#[], args, []⟩).memory :=
 (LaidIn.of_run [3, 2] 8 (by kernel_rfl) (by kernel_rfl) (by kernel_rfl) (by kernel_rfl)).met
end Go.Proofs.YtfglgeoookbppaaGreatDoor

namespace Go.Proofs.YtfglgeoookbppaaGreatDoor

/-- What is known of a temporary of a region: its very value, or something that held in the world in which it came up. -/
structure Ent where
 t : Option Tmp
 c : Option Value
 rd : List Tmp
 φ : List Value → Value → World → Prop

section
variable (P : Program) (R : World → World → Prop) (w0 : World) (ops : Array Oper) (vals : Tmp → Value)

def fill : List Ent → Act → Act
 | [], a => a
 | ⟨some t, some v, _, _⟩ :: l, a => (fill l a).put (some t) v
 | ⟨some t, none, _, _⟩ :: l, a => (fill l a).put (some t) (vals t)
 | ⟨none, _, _, _⟩ :: l, a => fill l a

def knows (rs : List Tmp) (W : World) : List Ent → Prop
 | [] => True
 | ⟨_, some _, _, _⟩ :: l => knows rs W l
 | ⟨none, none, _, _⟩ :: l => knows rs W l
 | ⟨some t, none, rd, φ⟩ :: l => (t ∈ rs → ∃ W0, R w0 W0 ∧ R W0 W ∧ φ (rd.map vals) (vals t) W0) ∧ knows rs W l

def knowsAll (W : World) : List Ent → Prop
 | [] => True
 | ⟨_, some _, _, _⟩ :: l => knowsAll W l
 | ⟨none, none, rd, φ⟩ :: l => (∃ u W0, R w0 W0 ∧ R W0 W ∧ φ (rd.map vals) u W0) ∧ knowsAll W l
 | ⟨some t, none, rd, φ⟩ :: l => (∃ W0, R w0 W0 ∧ R W0 W ∧ φ (rd.map vals) (vals t) W0) ∧ knowsAll W l

def looseUpon (w : World) (φ : Value → World → Prop) : Result Next → Prop
 | .ok (.value u) w' => R w w' ∧ φ u w'
 | .ok .skip w' => R w w' ∧ φ undef w'
 | .ok (.enter f args) w' => R w w' ∧ Calls P f args w' (fun e w'' => ∃ v, e = .returned v ∧ R w' w'' ∧ φ v w'')
 | .ok (.row row args) w' => R w w' ∧ Rows P row args w' (fun v w'' => R w' w'' ∧ φ v w'')
 | _ => False

structure opOk (a : Act) (o : Oper) (φ : Value → World → Prop) (W : World) : Prop where
 out : if Region.wanted o (yielded ops a.tmps) then looseUpon P R W φ ((execOp a.eval o).run P W) else φ undef W

def entOf (c : Option Value) (φ : Value → World → Prop) : Value → World → Prop := match c with
 | some v => fun u _ => u = v
 | none => φ
def addEnt (d : Option Tmp) (c : Option Value) (rd : List Tmp) (φ : List Value → Value → World → Prop) (env : List Ent) : List Ent := ⟨d, c, rd, φ⟩ :: env

/-- A temporary whose every writer an operation waits for. -/
def waitsB (ops : Array Oper) (o : Oper) (t : Tmp) : Bool := (List.range ops.size).all fun k => match ops[k]? with
 | some o' => o'.dst != some t || o.after.any (fun e => Region.binds .any e && e.on == k)
 | none => true
theorem waitsB_spec {ops : Array Oper} {o : Oper} {t : Tmp} (h : waitsB ops o t = true) {k : Nat} {o' : Oper} (ho : ops[k]? = some o') (hd : o'.dst = some t) : ∃ e ∈ o.after, Region.binds .any e = true ∧ e.on = k := by
 unfold waitsB at h
 have := List.all_eq_true.1 h k (List.mem_range.2 (Array.getElem?_eq_some_iff.1 ho).1)
 simp only [ho, hd, bne_self_eq_false, Bool.false_or] at this
 obtain ⟨e, he, hb⟩ := Array.any_eq_true'.1 this
 simp only [Bool.and_eq_true, beq_iff_eq] at hb
 exact ⟨e, he, hb.1, hb.2⟩

def wpLoose (a0 : Act) (Q : List Ent → Prop) : List Oper → List Ent → Prop
 | [], env => Q env
 | o :: rest, env => ∃ c rd φ, (∀ t ∈ rd, waitsB ops o t = true) ∧ (∀ W vals, R w0 W → knows R w0 vals (o.looksAt ops) W env → opOk P R ops (fill vals env a0) o (entOf c (φ (rd.map vals))) W) ∧ wpLoose a0 Q rest (addEnt o.dst c rd φ env)

/-- Each operation's temporaries come up ahead of it, by an edge; no two have one place. -/
def looseB (n : Nat) (ops : Array Oper) : Bool :=
 Region.noSelect ops &&
 (List.range ops.size).all fun i => match ops[i]? with
  | none => true
  | some o =>
   (match o.dst with
    | some d => decide (d < n) && (List.range ops.size).all (fun j => j == i || (match ops[j]? with | some o' => o'.dst != some d | none => true))
    | none => true) &&
   o.after.all (fun e => !Region.binds .any e || decide (e.on < i)) &&
   (o.looksAt ops).all (fun t => (List.range ops.size).all fun k => match ops[k]? with
    | some o' => o'.dst != some t || (decide (k < i) && o.after.any (fun e => Region.binds .any e && e.on == k)) || (decide (i < k) && o'.after.any (fun e => Region.binds .any e && e.on == i))
    | none => true)
end

section
variable {P : Program} {R : World → World → Prop} {w0 : World} {ops : Array Oper} {vals : Tmp → Value}

theorem looseB_spec {n : Nat} (h : looseB n ops = true) :
  Region.noSelect ops = true ∧
  (∀ (i : Nat) (o : Oper) (d : Tmp), ops[i]? = some o → o.dst = some d → d < n) ∧
  (∀ (i j : Nat) (o o' : Oper) (d : Tmp), ops[i]? = some o → ops[j]? = some o' → o.dst = some d → o'.dst = some d → i = j) ∧
  (∀ (i : Nat) (o : Oper), ops[i]? = some o → ∀ e ∈ o.after, Region.binds .any e = true → e.on < i) ∧
  (∀ (i : Nat) (o : Oper) (t : Tmp) (k : Nat) (o' : Oper), ops[i]? = some o → t ∈ o.looksAt ops → ops[k]? = some o' → o'.dst = some t → (k < i ∧ ∃ e ∈ o.after, Region.binds .any e = true ∧ e.on = k) ∨ (i < k ∧ ∃ e ∈ o'.after, Region.binds .any e = true ∧ e.on = i)) := by
 unfold looseB at h
 simp only [Bool.and_eq_true, List.all_eq_true, List.mem_range] at h
 obtain ⟨h0, h⟩ := h
 have lt : ∀ {i : Nat} {o : Oper}, ops[i]? = some o → i < ops.size := fun ho => (Array.getElem?_eq_some_iff.1 ho).1
 refine ⟨h0, ?_, ?_, ?_, ?_⟩
 ·intro i o d ho hd
  have := h i (lt ho)
  simp only [ho, hd, Bool.and_eq_true, decide_eq_true_eq] at this
  exact this.1.1.1
 ·intro i j o o' d ho ho' hd hd'
  have := h i (lt ho)
  simp only [ho, hd, Bool.and_eq_true, List.all_eq_true, List.mem_range] at this
  have := this.1.1.2 j (lt ho')
  simp only [ho', hd', Bool.or_eq_true, beq_iff_eq, bne_self_eq_false, Bool.false_eq_true, or_false] at this
  exact this.symm
 ·intro i o ho e he hb
  have := h i (lt ho)
  simp only [ho, Bool.and_eq_true] at this
  have := (Array.all_eq_true_iff_forall_mem.1 this.1.2) e he
  simpa [hb] using this
 ·intro i o t k o' ho ht ho' hd
  have := h i (lt ho)
  simp only [ho, Bool.and_eq_true, List.all_eq_true, List.mem_range] at this
  have := this.2 t ht k (lt ho')
  simp only [ho', hd, bne_self_eq_false, Bool.false_or, Bool.or_eq_true, Bool.and_eq_true, decide_eq_true_eq] at this
  rcases this with ⟨hk, ha⟩ | ⟨hk, ha⟩
  ·obtain ⟨e, he, hb⟩ := Array.any_eq_true'.1 ha
   simp only [Bool.and_eq_true, beq_iff_eq] at hb
   exact .inl ⟨hk, e, he, hb.1, hb.2⟩
  ·obtain ⟨e, he, hb⟩ := Array.any_eq_true'.1 ha
   simp only [Bool.and_eq_true, beq_iff_eq] at hb
   exact .inr ⟨hk, e, he, hb.1, hb.2⟩

/-- The lexical walk's findings, told by number. -/
theorem wpLoose_table {a0 : Act} {Q : List Ent → Prop} : ∀ (l : List Oper) (env : List Ent), wpLoose P R w0 ops a0 Q l env →
  ∃ (E : Nat → List Ent) (c : Nat → Option Value) (rd : Nat → List Tmp) (φ : Nat → List Value → Value → World → Prop), E 0 = env ∧
   (∀ k o, l[k]? = some o → E (k + 1) = addEnt o.dst (c k) (rd k) (φ k) (E k) ∧ (∀ t ∈ rd k, waitsB ops o t = true) ∧ ∀ W vals, R w0 W → knows R w0 vals (o.looksAt ops) W (E k) → opOk P R ops (fill vals (E k) a0) o (entOf (c k) (φ k ((rd k).map vals))) W) ∧ Q (E l.length)
 | [], env, h => ⟨fun _ => env, fun _ => none, fun _ => [], fun _ _ _ _ => True, rfl, fun k o ho => by simp at ho, h⟩
 | o :: rest, env, h => by
  obtain ⟨c, rd, φ, h0, h1, h2⟩ := h
  obtain ⟨E, c', rd', φ', e0, hs, hq⟩ := wpLoose_table rest _ h2
  refine ⟨fun | 0 => env | k + 1 => E k, fun | 0 => c | k + 1 => c' k, fun | 0 => rd | k + 1 => rd' k, fun | 0 => φ | k + 1 => φ' k, rfl, ?_, hq⟩
  intro k o' ho'
  cases k with
  | zero =>
   simp only [List.getElem?_cons_zero, Option.some.injEq] at ho'
   subst ho'
   exact ⟨e0, h0, h1⟩
  | succ k => exact hs k o' (by simpa using ho')

theorem put_get_ne {a : Act} {d t : Tmp} {v : Value} (h : d ≠ t) : (a.put (some d) v).tmps[t]? = a.tmps[t]? := by simp [Act.put, Array.getElem?_setIfInBounds_ne h]
theorem put_get_eq {a : Act} {d : Tmp} {v : Value} (h : d < a.tmps.size) : (a.put (some d) v).tmps[d]? = some v := by simp [Act.put, h]
theorem put_size (a : Act) (d : Option Tmp) (v : Value) : (a.put d v).tmps.size = a.tmps.size := by cases d <;> simp [Act.put]
theorem put_defs (a : Act) (d : Option Tmp) (v : Value) : (a.put d v).defers = a.defers := by cases d <;> simp [Act.put]
theorem fill_size : ∀ (l : List Ent) (a : Act), (fill vals l a).tmps.size = a.tmps.size ∧ (fill vals l a).defers = a.defers
 | [], a => ⟨rfl, rfl⟩
 | ⟨some t, some v, _, φ⟩ :: l, a => by simp only [fill, put_size, put_defs]; exact fill_size l a
 | ⟨some t, none, _, φ⟩ :: l, a => by simp only [fill, put_size, put_defs]; exact fill_size l a
 | ⟨none, _, _, φ⟩ :: l, a => by simp only [fill]; exact fill_size l a

theorem fill_far (a0 : Act) {E : Nat → List Ent} {c : Nat → Option Value} {rd : Nat → List Tmp} {φ : Nat → List Value → Value → World → Prop} (e0 : E 0 = [])
  (hs : ∀ k o, ops[k]? = some o → E (k + 1) = addEnt o.dst (c k) (rd k) (φ k) (E k)) (t : Tmp) : ∀ k, k ≤ ops.size → (∀ j o, j < k → ops[j]? = some o → o.dst ≠ some t) → (fill vals (E k) a0).tmps[t]? = a0.tmps[t]?
 | 0, _, _ => by rw [e0]; rfl
 | k + 1, hk, h => by
  have ih := fill_far a0 e0 hs t k (by omega) (fun j o hj ho => h j o (by omega) ho)
  have ho : ops[k]? = some ops[k] := Array.getElem?_eq_getElem (by omega)
  rw [hs k _ ho]
  have hne := h k _ (by omega) ho
  unfold addEnt
  cases hd : ops[k].dst with
  | none => simp only [fill]; exact ih
  | some d =>
   have : d ≠ t := fun e => hne (by rw [hd, e])
   cases c k <;> simp only [fill, put_get_ne this, ih]

theorem fill_near (a0 : Act) {E : Nat → List Ent} {c : Nat → Option Value} {rd : Nat → List Tmp} {φ : Nat → List Value → Value → World → Prop}
  (hs : ∀ k o, ops[k]? = some o → E (k + 1) = addEnt o.dst (c k) (rd k) (φ k) (E k)) (hd : ∀ (i j : Nat) (o o' : Oper) (d : Tmp), ops[i]? = some o → ops[j]? = some o' → o.dst = some d → o'.dst = some d → i = j) (t : Tmp) (ht : t < a0.tmps.size)
  (j : Nat) (o : Oper) (ho : ops[j]? = some o) (hdst : o.dst = some t) : ∀ k, k ≤ ops.size → j < k → (fill vals (E k) a0).tmps[t]? = some (match c j with | some v => v | none => vals t)
 | 0, _, h => by omega
 | k + 1, hk, hj => by
  have hok : ops[k]? = some ops[k] := Array.getElem?_eq_getElem (by omega)
  rw [hs k _ hok]
  by_cases hjk : j = k
  ·subst hjk
   obtain rfl : ops[j] = o := by rw [hok] at ho; exact Option.some.inj ho
   unfold addEnt
   simp only [hdst]
   cases c j <;> simp only [fill] <;> exact put_get_eq (by rw [(fill_size _ _).1]; exact ht)
  ·have ih := fill_near a0 hs hd t ht j o ho hdst k (by omega) (by omega)
   unfold addEnt
   cases hdk : ops[k].dst with
   | none => simp only [fill]; exact ih
   | some d =>
    have : d ≠ t := fun e => hjk (hd j k o _ t ho hok hdst (by rw [hdk, e]))
    cases c k <;> simp only [fill, put_get_ne this, ih]

theorem knows_table {E : Nat → List Ent} {c : Nat → Option Value} {rd : Nat → List Tmp} {φ : Nat → List Value → Value → World → Prop} (e0 : E 0 = []) {W : World}
  (hs : ∀ k o, ops[k]? = some o → E (k + 1) = addEnt o.dst (c k) (rd k) (φ k) (E k)) (rs : List Tmp) : ∀ k, k ≤ ops.size → (∀ j o t, j < k → ops[j]? = some o → o.dst = some t → t ∈ rs → c j = none → ∃ W0, R w0 W0 ∧ R W0 W ∧ φ j ((rd j).map vals) (vals t) W0) → knows R w0 vals rs W (E k)
 | 0, _, _ => by rw [e0]; trivial
 | k + 1, hk, h => by
  have ih := knows_table e0 hs rs k (by omega) (fun j o t hj => h j o t (by omega))
  have hok : ops[k]? = some ops[k] := Array.getElem?_eq_getElem (by omega)
  rw [hs k _ hok]
  unfold addEnt
  cases hdk : ops[k].dst with
  | none => cases hc : c k <;> exact ih
  | some d =>
   cases hc : c k with
   | some v => exact ih
   | none => exact ⟨fun hm => h k _ d (by omega) hok hdk hm hc, ih⟩
theorem knowsAll_table {E : Nat → List Ent} {c : Nat → Option Value} {rd : Nat → List Tmp} {φ : Nat → List Value → Value → World → Prop} (e0 : E 0 = []) {W : World}
  (hs : ∀ k o, ops[k]? = some o → E (k + 1) = addEnt o.dst (c k) (rd k) (φ k) (E k)) : ∀ k, k ≤ ops.size → (∀ j o t, j < k → ops[j]? = some o → o.dst = some t → c j = none → ∃ W0, R w0 W0 ∧ R W0 W ∧ φ j ((rd j).map vals) (vals t) W0) →
  (∀ j o, j < k → ops[j]? = some o → o.dst = none → c j = none → ∃ u W0, R w0 W0 ∧ R W0 W ∧ φ j ((rd j).map vals) u W0) → knowsAll R w0 vals W (E k)
 | 0, _, _, _ => by rw [e0]; trivial
 | k + 1, hk, h, hn => by
  have ih := knowsAll_table e0 hs k (by omega) (fun j o t hj => h j o t (by omega)) (fun j o hj => hn j o (by omega))
  have hok : ops[k]? = some ops[k] := Array.getElem?_eq_getElem (by omega)
  rw [hs k _ hok]
  unfold addEnt
  cases hdk : ops[k].dst with
  | none =>
   cases hc : c k with
   | some v => exact ih
   | none => exact ⟨hn k _ (by omega) hok hdk hc, ih⟩
  | some d =>
   cases hc : c k with
   | some v => exact ih
   | none => exact ⟨h k _ d (by omega) hok hdk hc, ih⟩

/-- Two frames that agree where an operation looks. -/
theorem opOk_congr {a a' : Act} {o : Oper} {φ : Value → World → Prop} {W : World} (hsel : ∀ cs b, o.op ≠ .select cs b) (h : ∀ t ∈ o.looksAt ops, a.tmps[t]? = a'.tmps[t]?) (hh : opOk P R ops a o φ W) : opOk P R ops a' o φ W := by
 have he : execOp a.eval o = execOp a'.eval o := execOp_congr o hsel fun x hx => by
  cases x with
  | tmp t =>
   have := h t (List.mem_append_left _ (List.mem_filterMap.2 ⟨.tmp t, by simpa using hx, rfl⟩))
   simp [Act.eval, this]
  | _ => rfl
 have hy : Region.wanted o (yielded ops a.tmps) = Region.wanted o (yielded ops a'.tmps) := by
  unfold Region.wanted
  cases hg : o.guard with
  | none => rfl
  | some gw =>
   obtain ⟨g, want⟩ := gw
   have : yielded ops a.tmps g = yielded ops a'.tmps g := by
    unfold yielded
    cases ht : (ops[g]?).bind (·.dst) with
    | none => rfl
    | some t =>
     have := h t (List.mem_append_right _ (by simp [hg, ht]))
     simp [this]
   simp only [this]
 obtain ⟨hh⟩ := hh
 rw [he, hy] at hh
 exact ⟨hh⟩

def unlisted (listed : Array Bool) : Nat := listed.toList.count false
theorem unlisted_set {listed : Array Bool} {i : Nat} (h : listed.getD i true = false) : unlisted (listed.setIfInBounds i true) + 1 = unlisted listed ∧ i < listed.size := by
 have hi : i < listed.size := by
  rcases Nat.lt_or_ge i listed.size with h' | h'
  ·exact h'
  ·simp [Array.getElem?_eq_none h'] at h
 refine ⟨?_, hi⟩
 have hv : listed.toList[i]'(by simpa using hi) = false := by simpa [hi] using h
 unfold unlisted
 have hpos : 0 < listed.toList.count false := List.count_pos_iff.2 (hv ▸ List.getElem_mem _)
 rw [Array.toList_setIfInBounds, List.count_set (by simpa using hi), hv]
 simp
 have : 0 < Array.count false listed := by simpa using hpos
 omega

/-- What stands while the region runs. -/
structure LooseInv (R : World → World → Prop) (w0 : World) (ops : Array Oper) (a0 : Act) (c : Nat → Option Value) (rd : Nat → List Tmp) (φ : Nat → List Value → Value → World → Prop) (listed : Array Bool) (a : Act) (W : World) : Prop where
 world : R w0 W
 defers : a.defers = a0.defers
 size : a.tmps.size = a0.tmps.size
 lsize : listed.size = ops.size
 off : ∀ t, (∀ k o, ops[k]? = some o → o.dst = some t → listed.getD k false = false) → a.tmps[t]? = a0.tmps[t]?
 on : ∀ k o d, ops[k]? = some o → o.dst = some d → listed.getD k false = true → ∃ v, a.tmps[d]? = some v ∧ ∃ W0, R w0 W0 ∧ R W0 W ∧ entOf (c k) (φ k ((rd k).map fun t => a.tmps.getD t undef)) v W0
 onn : ∀ k o, ops[k]? = some o → o.dst = none → listed.getD k false = true → ∃ u W0, R w0 W0 ∧ R W0 W ∧ entOf (c k) (φ k ((rd k).map fun t => a.tmps.getD t undef)) u W0
 dep : ∀ k o, ops[k]? = some o → listed.getD k false = true → ∀ e ∈ o.after, Region.binds .any e = true → listed.getD e.on false = true

theorem looseInv_next {n : Nat} {a0 : Act} {c : Nat → Option Value} {rd : Nat → List Tmp} {φ : Nat → List Value → Value → World → Prop} {listed : Array Bool} {a : Act} {W W' : World} (htr : ∀ x y z, R x y → R y z → R x z) (hrf : ∀ x, R x x)
  (hB : looseB n ops = true) (hrd : ∀ k o, ops[k]? = some o → ∀ t ∈ rd k, waitsB ops o t = true) (hn : a0.tmps.size = n) (hI : LooseInv R w0 ops a0 c rd φ listed a W) {i : Nat} {o : Oper} (ho : ops[i]? = some o) (hl : listed.getD i true = false) (hall : ∀ e ∈ o.after, Region.binds .any e = true → listed.getD e.on false = true) (v : Value) (hR : R W W') (hv : entOf (c i) (φ i ((rd i).map fun t => a.tmps.getD t undef)) v W') :
  LooseInv R w0 ops a0 c rd φ (listed.setIfInBounds i true) (a.put o.dst v) W' := by
 obtain ⟨_, b1, b2, b3, b4⟩ := looseB_spec hB
 have hil : listed.getD i false = false := by
  have hi := (unlisted_set hl).2
  simpa [hi] using hl
 -- what an operation that is listed reads stays
 have keep : ∀ k o', ops[k]? = some o' → (k = i ∨ listed.getD k false = true) → ((rd k).map fun t => (a.put o.dst v).tmps.getD t undef) = (rd k).map fun t => a.tmps.getD t undef := by
  intro k o' ho' hk
  refine List.map_congr_left fun t ht => ?_
  replace ht := hrd k o' ho' t ht
  cases hd : o.dst with
  | none => rfl
  | some d =>
   have hne : d ≠ t := by
    rintro rfl
    obtain ⟨e, he, hb, hon⟩ := waitsB_spec ht ho hd
    rcases hk with rfl | hk
    ·rw [ho] at ho'
     injection ho' with ho'
     subst ho'
     have := hall e he hb
     rw [hon, hil] at this
     cases this
    ·have := hI.dep k o' ho' hk e he hb
     rw [hon, hil] at this
     cases this
   have := put_get_ne (a := a) (v := v) hne
   simp only [Array.getD_eq_getD_getElem?, this]
 refine ⟨htr _ _ _ hI.world hR, by rw [put_defs, hI.defers], by rw [put_size, hI.size], by simp [hI.lsize], ?_, ?_, ?_, ?_⟩
 ·intro t h
  have hne : o.dst ≠ some t := fun hd => by
   have := h i o ho hd
   have hi := (unlisted_set hl).2
   simp [hi] at this
  have e : (a.put o.dst v).tmps[t]? = a.tmps[t]? := by
   cases hd : o.dst with
   | none => rfl
   | some d => exact put_get_ne (fun e => hne (by rw [hd, e]))
  rw [e]
  refine hI.off t (fun k o' ho' hd' => ?_)
  have := h k o' ho' hd'
  have hki : i ≠ k := fun e => by subst e; rw [ho] at ho'; injection ho' with ho'; subst ho'; exact hne hd'
  rwa [getD_set_ne _ hki] at this
 ·intro k o' d ho' hd' hk
  by_cases hki : i = k
  ·subst hki
   rw [ho] at ho'
   injection ho' with ho'
   subst ho'
   rw [keep i o ho (.inl rfl)]
   rw [hd']
   exact ⟨v, put_get_eq (by rw [hI.size, hn]; exact b1 i o d ho hd'), W', htr _ _ _ hI.world hR, hrf _, hv⟩
  ·rw [getD_set_ne _ hki] at hk
   obtain ⟨u, hu, W0, h1, h2, h3⟩ := hI.on k o' d ho' hd' hk
   rw [keep k o' ho' (.inr hk)]
   refine ⟨u, ?_, W0, h1, htr _ _ _ h2 hR, h3⟩
   cases hd : o.dst with
   | none => exact hu
   | some d2 =>
    rw [put_get_ne (fun e => hki (b2 i k o o' d ho ho' (by rw [hd, e]) hd'))]
    exact hu
 ·intro k o' ho' hd' hk
  by_cases hki : i = k
  ·subst hki
   rw [ho] at ho'
   injection ho' with ho'
   subst ho'
   rw [keep i o ho (.inl rfl)]
   exact ⟨v, W', htr _ _ _ hI.world hR, hrf _, hv⟩
  ·rw [getD_set_ne _ hki] at hk
   obtain ⟨u, W0, h1, h2, h3⟩ := hI.onn k o' ho' hd' hk
   rw [keep k o' ho' (.inr hk)]
   exact ⟨u, W0, h1, htr _ _ _ h2 hR, h3⟩
 ·intro k o' ho' hk e he hb
  have hmono : ∀ m, listed.getD m false = true → (listed.setIfInBounds i true).getD m false = true := by
   intro m hm
   by_cases hmi : i = m
   ·subst hmi
    rw [hil] at hm
    cases hm
   ·rw [getD_set_ne _ hmi]; exact hm
  by_cases hki : i = k
  ·subst hki
   rw [ho] at ho'
   injection ho' with ho'
   subst ho'
   exact hmono _ (hall e he hb)
  ·rw [getD_set_ne _ hki] at hk
   exact hmono _ (hI.dep k o' ho' hk e he hb)

theorem loose_sound {n : Nat} {a0 : Act} {c : Nat → Option Value} {rd : Nat → List Tmp} {φ : Nat → List Value → Value → World → Prop} {E : Nat → List Ent} {Q : Exit → Act → World → Prop} (htr : ∀ x y z, R x y → R y z → R x z) (hrf : ∀ x, R x x)
  (hB : looseB n ops = true) (hn : a0.tmps.size = n) (e0 : E 0 = [])
  (hs : ∀ k o, ops[k]? = some o → E (k + 1) = addEnt o.dst (c k) (rd k) (φ k) (E k) ∧ (∀ t ∈ rd k, waitsB ops o t = true) ∧ ∀ W vals, R w0 W → knows R w0 vals (o.looksAt ops) W (E k) → opOk P R ops (fill vals (E k) a0) o (entOf (c k) (φ k ((rd k).map vals))) W)
  (hq : ∀ W vals, R w0 W → knowsAll R w0 vals W (E ops.size) → Q .normal (fill vals (E ops.size) a0) W) :
  ∀ (fuel : Nat) (listed : Array Bool) (a : Act) (W : World), unlisted listed ≤ fuel → LooseInv R w0 ops a0 c rd φ listed a W → wpAny P .any ops Q fuel listed a W := by
 obtain ⟨b0, b1, b2, b3, b4⟩ := looseB_spec hB
 have hs1 := fun k o ho => (hs k o ho).1
 have hrd := fun k o ho => (hs k o ho).2.1
 have fin : ∀ (listed : Array Bool) (a : Act) (W : World), LooseInv R w0 ops a0 c rd φ listed a W → Region.ready .any ops listed = [] → Q .normal a W := by
  intro listed a W hI hr
  have hall : ∀ m k, k < m → k < ops.size → listed.getD k false = true := by
   intro m
   induction m with
   | zero => intro k h; omega
   | succ m ih =>
    intro k hk hks
    cases hl : listed.getD k false with
    | true => rfl
    | false =>
     exfalso
     have ho : ops[k]? = some ops[k] := Array.getElem?_eq_getElem hks
     have hl' : listed.getD k true = false := by
      have : k < listed.size := by rw [hI.lsize]; exact hks
      simpa [this] using hl
     have : k ∈ Region.ready .any ops listed := mem_ready.2 ⟨hl', _, ho, fun e he hb => by
      have hlt := b3 k _ ho e he hb
      exact ih e.on (by omega) (by omega)⟩
     rw [hr] at this
     cases this
  have hq := hq W (fun t => a.tmps.getD t undef) hI.world (knowsAll_table e0 hs1 ops.size (Nat.le_refl _) (fun j o t hj ho hd hc => by
   obtain ⟨v, hv, W0, h1, h2, h3⟩ := hI.on j o t ho hd (hall (j + 1) j (by omega) hj)
   refine ⟨W0, h1, h2, ?_⟩
   have : a.tmps.getD t undef = v := by simp [hv]
   show φ j _ (a.tmps.getD t undef) W0
   rw [this]
   simpa [entOf, hc] using h3) (fun j o hj ho hd hc => by
   obtain ⟨u, W0, h1, h2, h3⟩ := hI.onn j o ho hd (hall (j + 1) j (by omega) hj)
   exact ⟨u, W0, h1, h2, by simpa [entOf, hc] using h3⟩))
  have hea : fill (fun t => a.tmps.getD t undef) (E ops.size) a0 = a := by
   obtain ⟨s1, s2⟩ := fill_size (vals := fun t => a.tmps.getD t undef) (E ops.size) a0
   have ht : (fill (fun t => a.tmps.getD t undef) (E ops.size) a0).tmps = a.tmps := by
    refine Array.ext_getElem? fun t => ?_
    by_cases hd : ∃ (k : Nat) (o : Oper), ops[k]? = some o ∧ o.dst = some t
    ·obtain ⟨k, o, ho, hd⟩ := hd
     have hk := (Array.getElem?_eq_some_iff.1 ho).1
     rw [fill_near a0 hs1 b2 t (by rw [hn]; exact b1 k o t ho hd) k o ho hd ops.size (Nat.le_refl _) hk]
     obtain ⟨v, hv, W0, _, _, h3⟩ := hI.on k o t ho hd (hall (k + 1) k (by omega) hk)
     rw [hv]
     cases hc : c k with
     | none => simp [hv]
     | some u => simp [entOf, hc] at h3; simp [h3]
    ·rw [fill_far a0 e0 hs1 t ops.size (Nat.le_refl _) (fun j o _ ho hdd => hd ⟨j, o, ho, hdd⟩)]
     exact (hI.off t (fun k o ho hdd => absurd ⟨k, o, ho, hdd⟩ hd)).symm
   have hd' : (fill (fun t => a.tmps.getD t undef) (E ops.size) a0).defers = a.defers := by rw [s2, hI.defers]
   generalize fill (fun t => a.tmps.getD t undef) (E ops.size) a0 = b at *
   obtain ⟨bt, bd⟩ := b
   obtain ⟨at_, ad⟩ := a
   simp only at ht hd'
   rw [ht, hd']
  rwa [hea] at hq
 intro fuel
 induction fuel with
 | zero =>
  intro listed a W hu hI
  have hr : Region.ready .any ops listed = [] := by
   cases h : Region.ready .any ops listed with
   | nil => rfl
   | cons i l =>
    have hm : i ∈ Region.ready .any ops listed := by rw [h]; exact List.mem_cons_self
    have := (unlisted_set (mem_ready.1 hm).1).1
    omega
  exact ⟨hr, fin listed a W hI hr⟩
 | succ fuel ih =>
  intro listed a W hu hI
  refine ⟨fin listed a W hI, fun i hi => ?_⟩
  obtain ⟨hl, o, ho, hall⟩ := mem_ready.1 hi
  have hus := (unlisted_set hl).1
  have hi' : i < ops.size := (Array.getElem?_eq_some_iff.1 ho).1
  have hop := (hs i o ho).2.2 W (fun t => a.tmps.getD t undef) hI.world (knows_table e0 hs1 (o.looksAt ops) i (by omega) (fun j o' t hj ho' hd ht hc => by
   obtain ⟨_, e, he, hb, hon⟩ := (b4 i o t j o' ho ht ho' hd).resolve_right (fun h => absurd h.1 (by omega))
   obtain ⟨v, hv, W0, h1, h2, h3⟩ := hI.on j o' t ho' hd (hon ▸ hall e he hb)
   refine ⟨W0, h1, h2, ?_⟩
   have : a.tmps.getD t undef = v := by simp [hv]
   show φ j _ (a.tmps.getD t undef) W0
   rw [this]
   simpa [entOf, hc] using h3))
  have hop := opOk_congr (a' := a) (Region.noSelect_spec b0 i o · · ho) (fun t ht => by
   by_cases hd : ∃ (k : Nat) (o' : Oper), ops[k]? = some o' ∧ o'.dst = some t
   ·obtain ⟨k, o', ho', hd⟩ := hd
    rcases b4 i o t k o' ho ht ho' hd with ⟨hk, e, he, hb, hon⟩ | ⟨hk, e, he, hb, hon⟩
    case inr =>
     rw [fill_far a0 e0 hs1 t i (by omega) (fun j o2 hj ho2 hdd => by have := b2 j k o2 o' t ho2 ho' hdd hd; omega)]
     refine (hI.off t (fun k2 o2 ho2 hdd => ?_)).symm
     obtain rfl := b2 k2 k o2 o' t ho2 ho' hdd hd
     cases hlk : listed.getD k2 false with
     | false => rfl
     | true =>
      have := hI.dep k2 o' ho' hlk e he hb
      rw [hon] at this
      have hil : listed.getD i false = false := by
       have hi := (unlisted_set hl).2
       simpa [hi] using hl
      rw [hil] at this
      cases this
    rw [fill_near a0 hs1 b2 t (by rw [hn]; exact b1 k o' t ho' hd) k o' ho' hd i (by omega) hk]
    obtain ⟨v, hv, W0, _, _, h3⟩ := hI.on k o' t ho' hd (hon ▸ hall e he hb)
    rw [hv]
    cases hc : c k with
    | none => simp [hv]
    | some u => simp [entOf, hc] at h3; simp [h3]
   ·rw [fill_far a0 e0 hs1 t i (by omega) (fun j o' _ ho' hdd => hd ⟨j, o', ho', hdd⟩)]
    exact (hI.off t (fun k o' ho' hdd => absurd ⟨k, o', ho', hdd⟩ hd)).symm) hop
  have next : ∀ v W', R W W' → entOf (c i) (φ i ((rd i).map fun t => a.tmps.getD t undef)) v W' → wpAny P .any ops Q fuel (listed.setIfInBounds i true) (a.put o.dst v) W' := fun v W' hR hv =>
   ih _ _ _ (by omega) (looseInv_next htr hrf hB hrd hn hI ho hl hall v hR hv)
  unfold wpOp
  simp only [ho]
  replace hop := hop.out
  split
  ·rename_i hw
   simp only [hw, if_true] at hop
   left
   unfold Oper.wp
   generalize (execOp a.eval o).run P W = r at *
   cases r with
   | ok x w' =>
    cases x <;> simp only [looseUpon] at hop <;> simp only [Oper.upon]
    ·exact next _ _ hop.1 hop.2
    ·exact next _ _ hop.1 hop.2
    ·exact hop.2.mono fun e w'' ⟨v, he, hR, hv⟩ => by subst he; exact next _ _ (htr _ _ _ hop.1 hR) hv
    ·exact hop.2.mono fun v w'' ⟨hR, hv⟩ => next _ _ (htr _ _ _ hop.1 hR) hv
   | halt x w' => simp only [looseUpon] at hop
  ·rename_i hw
   simp only [hw] at hop
   exact next _ _ (hrf _) hop

/-- **Each operation met once serves every order.** -/
theorem wp_region_loose {id : Nat} {Q : Exit → Act → World → Prop} {a : Act} {w : World} {l : List Oper} (R : World → World → Prop) (w0 : World) (n : Nat) (hm : P.follows .mixedOrders = true) (hn : a.tmps.size = n) (hB : looseB n l.toArray = true)
  (hrf : ∀ x, R x x) (htr : ∀ x y z, R x y → R y z → R x z) (h0 : R w0 w.drew)
  (h : wpLoose P R w0 l.toArray a (fun env => ∀ W vals, R w0 W → knowsAll R w0 vals W env → Q .normal (fill vals env a) W) l []) : (Code.region id l.toArray true).wp P Q a w := by
 obtain ⟨E, c, rd, φ, e0, hs, hq⟩ := wpLoose_table l [] h
 refine wp_region_any hm (loose_sound (w0 := w0) htr hrf hB hn e0 (fun k o ho => hs k o (by simpa using ho)) (by simpa using hq) _ _ _ _ (by unfold unlisted; simp) ⟨h0, rfl, rfl, by simp, fun _ _ => rfl, fun k o d ho _ hk => ?_, fun k o ho _ hk => ?_, fun k o ho hk => ?_⟩) <;>
 ·exfalso
  by_cases h' : k < l.length <;> simp [h'] at hk
end
end Go.Proofs.YtfglgeoookbppaaGreatDoor

namespace Go.Proofs.YtfglgeoookbppaaGreatDoor
open Go.RowKit

theorem Calls.quiet_same' {P : Program} {f : FuncId} {args : Array Value} {w : World} {n : Nat} {v : Value}
  (h : Calls P f args (w.drewN n) fun e w' => e = .returned v ∧ w.drewN n = w') : Calls P f args (w.drewN n) fun e w'' => e = .returned v ∧ ∃ m, w'' = w.drewN m :=
 h.mono fun _ _ ⟨he, hm⟩ => ⟨he, n, hm.symm⟩
theorem Keeps.then_alloc {w w' : World} {S : List Nat} (h : Keeps w w' S) (o : Obj) : Keeps w (w'.alloc o) S := h.trans (Keeps.alloc _ _) (by simp)
theorem Keeps.then_drew {w w' : World} {S : List Nat} (h : Keeps w w' S) : Keeps w w'.drew S := h.trans (Keeps.drew _) (by simp)
theorem Keeps.then_drewN {w w' : World} {S : List Nat} (h : Keeps w w' S) (n : Nat) : Keeps w (w'.drewN n) S := h.trans (Keeps.drewN _ _) (by simp)
theorem Keeps.then_set {w w' : World} {S : List Nat} (h : Keeps w w' S) (p : Addr) (u : Value) (hp : w.heap.size ≤ p.block) : Keeps w (w'.setCell p u) S :=
 h.trans (Keeps.setCell _ _ _) (fun x hx hl => by simp at hx; omega)
theorem Keeps.then_ {w w' w'' : World} {S : List Nat} (h : Keeps w w' S) (k : Keeps w' w'' []) : Keeps w w'' S := h.trans k (by simp)
/-- The size kept in mind as a bound. -/
theorem Keeps.le {w w' : World} {S : List Nat} (h : Keeps w w' S) {n : Nat} (hn : n ≤ w.heap.size) : n ≤ w'.heap.size := Nat.le_trans hn h.size

section
variable {P : Program}
/-- The region's law at whatever class of worlds, its operations written out. -/
theorem wp_region_mild {id : Nat} {Q : Exit → Act → World → Prop} {a : Act} {w : World} {l : List Oper} (C : World → Prop) (hm : P.follows .mixedOrders = true) (hB : Region.lexB .any l.toArray = true) (hC : C w.drew)
  (h : wpQuiet P l.toArray C (fun a' => ∀ w', C w' → Q .normal a' w') l a) : (Code.region id l.toArray true).wp P Q a w :=
 wp_region_quiet (C := C) hm hB hC (by simpa using h)
/-- The rest of a region, some of whose operations have come up. -/
theorem wpAny_mild {ops : Array Oper} {Q' : Exit → Act → World → Prop} {a : Act} {w : World} {listed : Array Bool} (C : World → Prop) (k : Nat) (l : List Oper) (hl : ∀ j, l[j]? = ops[k + j]?) (hs : Region.noSelect ops = true) (hB : Region.lexFrom .any ops l.length k listed = true) (hC : C w)
  (h : wpQuiet P ops C (fun a' => ∀ w', C w' → Q' .normal a' w') l a) : wpAny P .any ops Q' l.length listed a w :=
 wpAny_of_quiet (Q := fun a' => ∀ w', C w' → Q' .normal a' w') (fun _ w' hw' h => h w' hw') _ _ _ _ hC (wpAnyQ_lex hs l k listed a hl hB h)
/-- An operation that is wanted; one that is not. -/
theorem wpQuiet_want {ops : Array Oper} {C : World → Prop} {Q : Act → Prop} {a : Act} {o : Oper} {rest : List Oper} (hw : Region.wanted o (yielded ops a.tmps) = true)
  (h : ∀ K : Act → Prop, (∀ a, wpQuiet P ops C Q rest a → K a) → ∃ v, (∀ w, C w → o.quietAt P a C w v) ∧ K (a.put o.dst v)) : wpQuiet P ops C Q (o :: rest) a := by
 unfold wpQuiet
 rw [if_pos hw]
 exact h _ fun _ h => h
theorem wpQuiet_pass {ops : Array Oper} {C : World → Prop} {Q : Act → Prop} {a : Act} {o : Oper} {rest : List Oper} (hw : Region.wanted o (yielded ops a.tmps) = false)
  (h : wpQuiet P ops C Q rest (a.put o.dst undef)) : wpQuiet P ops C Q (o :: rest) a := by
 unfold wpQuiet
 rw [if_neg (by rw [hw]; simp)]
 exact h
end
end Go.Proofs.YtfglgeoookbppaaGreatDoor

namespace Go.Proofs.YtfglgeoookbppaaGreatDoor
open Go.RowKit

theorem infoByte : (Tryz.prog.info? 5).map (fun i => (i.zero, i.size, i.bytes)) = some (some (.int .u8 0), 1, 1) := by kernel_rfl
theorem undBytes : Tryz.prog.underlying 39 = some (.slice 5) := by kernel_rfl

/-- The slice value v reads as the bytes l. -/
def Bytes (w : World) (B : Nat) (v : Value) (l : List UInt8) : Prop :=
 ∃ A c, v = .slice A l.length c ∧ l.length ≤ c ∧ (A = none → c = 0) ∧ c ≤ maxLen ∧ l.length ≤ 140737488351232 ∧ Lies w B A (l.map byteV)

/-- v is a row of the call's own (from block base on) that reads as the bytes l. -/
abbrev Owned (w : World) (base : Nat) (v : Value) (l : List UInt8) : Prop := w.ownsRow base 5 1 v l.length (l.map byteV)

theorem Bytes.below {w w' : World} {B : Nat} {v : Value} {l : List UInt8} (h : Bytes w B v l) (hb : Below B w w') : Bytes w' B v l := by
 obtain ⟨A, c, h1, h2, h3, h4, h5, h6⟩ := h
 exact ⟨A, c, h1, h2, h3, h4, h5, h6.below hb⟩
theorem Bytes.lies {w : World} {B n c : Nat} {A : Option Addr} {l : List UInt8} (h : Bytes w B (.slice A n c) l) : Lies w B A (l.map byteV) := by
 obtain ⟨A', c', h1, h2, h3, h4, h5, h6⟩ := h
 injection h1 with e1 e2 e3
 subst e1
 exact h6
theorem Bytes.mono {w : World} {B B' : Nat} {v : Value} {l : List UInt8} (h : Bytes w B v l) (hB : B ≤ B') : Bytes w B' v l := by
 obtain ⟨A, c, h1, h2, h3, h4, h5, h6⟩ := h
 exact ⟨A, c, h1, h2, h3, h4, h5, h6.mono hB⟩
theorem Bytes.len {w : World} {B : Nat} {v : Value} {l : List UInt8} (h : Bytes w B v l) : l.length ≤ 140737488351232 := by
 obtain ⟨A, c, h1, h2, h3, h4, h5, h6⟩ := h
 exact h5
theorem Owned.bytes {w : World} {base : Nat} {v : Value} {l : List UInt8} (h : Owned w base v l) (hl : l.length ≤ 140737488351232) : Bytes w w.heap.size v l := by
 obtain ⟨A, c, rfl, h1, h2⟩ := own_slice h
 refine ⟨A, c, rfl, h1, ?_, h2, hl, Lies.of_own h⟩
 rintro rfl
 rcases h.2 with ⟨hv, _⟩ | ⟨g, cap, cur, hv, _⟩
 ·injection hv
 ·cases hv
theorem Owned.block {w : World} {base n c : Nat} {ad : Addr} {l : List UInt8} (h : w.ownsRow base 5 1 (.slice (some ad) n c) n (l.map byteV)) : base ≤ ad.block ∧ ad.block < w.heap.size := h.lt _ rfl
theorem Owned.parts {w : World} {base : Nat} {v : Value} {l : List UInt8} (h : Owned w base v l) : ∃ A c, v = .slice A l.length c ∧ l.length ≤ c ∧ c ≤ maxLen ∧ (A = none → c = 0) ∧ Lies w w.heap.size A (l.map byteV) := by
 obtain ⟨A, c, rfl, h1, h2⟩ := own_slice h
 refine ⟨A, c, rfl, h1, h2, ?_, Lies.of_own h⟩
 rintro rfl
 rcases h.2 with ⟨hv, _⟩ | ⟨g, cap, cur, hv, _⟩
 ·injection hv
 ·cases hv

theorem run_empty_own (w : World) (base : Nat) (hb : base ≤ w.heap.size) : (w.alloc (.cells #[] 5)).ownsRow base 5 1 (.slice (some ⟨w.heap.size, 0, none⟩) 0 0) 0 [] :=
 ⟨rfl, .inr ⟨w.heap.size, 0, #[], rfl, hb, heap_alloc_new w _, Nat.le_refl _, by simp [maxLen], rfl, rfl⟩⟩
end Go.Proofs.YtfglgeoookbppaaGreatDoor

namespace Go.Proofs.YtfglgeoookbppaaGreatDoor

/-- All that was there stays. -/
abbrev KeepsAll (w w' : World) : Prop := Keeps w w' []

theorem Bytes.keeps {w w' : World} {v : Value} {l : List UInt8} (h : Bytes w w.heap.size v l) (hk : Keeps w w' []) : Bytes w' w'.heap.size v l := (h.below (hk.below (Nat.le_refl _) (by simp))).mono hk.size
theorem Lies.keeps {w w' : World} {A : Option Addr} {xs : List Value} (h : Lies w w.heap.size A xs) (hk : Keeps w w' []) : Lies w' w'.heap.size A xs := (h.below (hk.below (Nat.le_refl _) (by simp))).mono hk.size
theorem Row.keeps {w w' : World} {g : Nat} {t : TypeId} {cs : Array Value} (h : Row w g t cs) (hk : Keeps w w' []) : Row w' g t cs := h.keep hk (by simp)

section
variable {P : Program} {R : World → World → Prop} {w0 : World} {ops : Array Oper} {a0 : Act} {Q : List Ent → Prop} {o : Oper} {rest : List Oper} {env : List Ent}

theorem loose_nil (h : Q env) : wpLoose P R w0 ops a0 Q [] env := h
/-- One operation whose value is known. -/
theorem loose_is (v : Value) (h : ∀ W vals, R w0 W → knows R w0 vals (o.looksAt ops) W env → opOk P R ops (fill vals env a0) o (fun u _ => u = v) W)
  (hk : wpLoose P R w0 ops a0 Q rest (addEnt o.dst (some v) [] (fun _ _ _ => True) env)) : wpLoose P R w0 ops a0 Q (o :: rest) env :=
 ⟨some v, [], _, (fun _ h => nomatch h), h, hk⟩
/-- One operation of whose value something is known. -/
theorem loose_has (φ : Value → World → Prop) (h : ∀ W vals, R w0 W → knows R w0 vals (o.looksAt ops) W env → ∀ φ' : Value → World → Prop, RowKit.Hid (∀ u w, φ u w → φ' u w) → opOk P R ops (fill vals env a0) o φ' W)
  (hk : wpLoose P R w0 ops a0 Q rest (addEnt o.dst none [] (fun _ => φ) env)) : wpLoose P R w0 ops a0 Q (o :: rest) env :=
 ⟨none, [], fun _ => φ, (fun _ h => nomatch h), fun W vals hW hkn => h W vals hW hkn φ (Lib.hid fun _ _ h => h), hk⟩
/-- One operation of whose value, and of what it read, something is known. -/
theorem loose_had (rd : List Tmp) (φ : List Value → Value → World → Prop) (hrd : rd.all (waitsB ops o) = true) (h : ∀ W vals, R w0 W → knows R w0 vals (o.looksAt ops) W env → ∀ φ' : Value → World → Prop, RowKit.Hid (∀ u w, φ (rd.map vals) u w → φ' u w) → opOk P R ops (fill vals env a0) o φ' W)
  (hk : wpLoose P R w0 ops a0 Q rest (addEnt o.dst none rd φ env)) : wpLoose P R w0 ops a0 Q (o :: rest) env :=
 ⟨none, rd, φ, fun t ht => List.all_eq_true.1 hrd t ht, fun W vals hW hkn => h W vals hW hkn _ (Lib.hid fun _ _ h => h), hk⟩
/-- One operation that is not wanted. -/
theorem loose_off (hw : ∀ vals : Tmp → Value, Region.wanted o (yielded ops (fill vals env a0).tmps) = false) (hk : wpLoose P R w0 ops a0 Q rest (addEnt o.dst (some undef) [] (fun _ _ _ => True) env)) : wpLoose P R w0 ops a0 Q (o :: rest) env :=
 ⟨some undef, [], fun _ _ _ => True, (fun _ h => nomatch h), fun W vals _ _ => ⟨by rw [hw vals]; exact rfl⟩, hk⟩
theorem looseUpon_calls {W : World} {φ : Value → World → Prop} {f : FuncId} {args : Array Value} (h : Calls P f args W (fun e w'' => ∃ v, e = .returned v ∧ Keeps W w'' [] ∧ φ v w'')) :
  looseUpon P KeepsAll W φ (.ok (.enter f args) W) := ⟨Keeps.refl _ _, h⟩
theorem looseUpon_has {W : World} {φ φ' : Value → World → Prop} {f : FuncId} {args : Array Value} (hφ : RowKit.Hid (∀ u w, φ u w → φ' u w)) (h : Calls P f args W (fun e w'' => ∃ v, e = .returned v ∧ Keeps W w'' [] ∧ φ v w'')) :
  looseUpon P KeepsAll W φ' (.ok (.enter f args) W) := ⟨Keeps.refl _ _, h.mono fun _ _ ⟨v, he, hk, hv⟩ => ⟨v, he, hk, hφ.out _ _ hv⟩⟩
theorem looseUpon_value {W W' : World} {φ φ' : Value → World → Prop} {v : Value} (hφ : RowKit.Hid (∀ u w, φ u w → φ' u w)) (hk : Keeps W W' []) (h : φ v W') : looseUpon P KeepsAll W φ' (.ok (.value v) W') := ⟨hk, hφ.out _ _ h⟩
theorem wp_region_keeps {id : Nat} {Q : Exit → Act → World → Prop} {a : Act} {w : World} {l : List Oper} (n : Nat) (hm : P.follows .mixedOrders = true) (hn : a.tmps.size = n) (hB : looseB n l.toArray = true)
  (h : wpLoose P KeepsAll w l.toArray a (fun env => ∀ W vals, Keeps w W [] → knowsAll KeepsAll w vals W env → Q .normal (fill vals env a) W) l []) : (Code.region id l.toArray true).wp P Q a w :=
 wp_region_loose KeepsAll w n hm hn hB (fun _ => Keeps.refl _ _) (fun _ _ _ h k => h.trans k (by simp)) (Keeps.drew _) h
end
end Go.Proofs.YtfglgeoookbppaaGreatDoor
