/- Package disk: a disk in memory; none, New. -/
import Derived.Test.YtehlabdbbbbopaaPa11
import Derived.Test.YtehlabdbbbbopaaPa13
import Derived.Test.YtehlabdbbbbopaaLays

namespace Go.Proofs.Ytehlabdbbbbopaa
open Go.RowKit Go.Maps

/-- A disk in plain words. -/
structure Dk where
  pages : Nat
  kind : Int
  left : Int
  lasts : Int → Option (List UInt8)
  now : Int → Option (List UInt8)
  waits : List (Int × List UInt8)
  dead : Bool
  steps : Int
def pageF (f : Int → Option (List UInt8)) : Int → Option Value := fun x => (f x).map leafV
/-- Which pages there may be. -/
def PagesOk (n : Nat) (f : Int → Option (List UInt8)) : Prop := ∀ x b, f x = some b → 0 ≤ x ∧ x < n ∧ b.length = 256
structure DkOk (D : Dk) : Prop where
  p2 : 2 ≤ D.pages
  p4 : D.pages ≤ 4096
  l : PagesOk D.pages D.lasts
  n : PagesOk D.pages D.now
  w : ∀ p ∈ D.waits, 0 ≤ p.1 ∧ p.1 < D.pages ∧ p.2.length = 256
  k : 0 ≤ D.kind ∧ D.kind ≤ 2
  s : -9223372036854775808 ≤ D.steps ∧ D.steps ≤ 9223372036854775807
  lf : -9223372036854775808 ≤ D.left ∧ D.left ≤ 9223372036854775807 ∧ (D.kind = 0 ∨ 0 ≤ D.left)
abbrev DMap (w : World) (b : Nat) (f : Int → Option (List UInt8)) : Prop := IMap w Try.prog 3 b (pageF f)
def dkRow (D : Dk) (m1 m2 : Nat) (V : Value) : Array Value := #[.int .i64 D.kind, .int .i64 D.left, .int .i64 (D.pages : Nat), .map (some m1), .map (some m2), V, .bool D.dead, .int .i64 D.steps]
structure DkAt (W : World) (d m1 m2 : Nat) (V : Value) (D : Dk) : Prop where
  row : Row W d 67 (dkRow D m1 m2 V)
  l : DMap W m1 D.lasts
  n : DMap W m2 D.now
  w : WaitsAt W 0 V D.waits
  ne : m1 ≠ m2
  ok : DkOk D
theorem imap_ne_row {P : Program} {k : TypeId} {W : World} {b g : Nat} {t : TypeId} {cs : Array Value} {f : Int → Option Value} (h : IMap W P k b f) (hr : Row W g t cs) : b ≠ g := by
  rintro rfl
  obtain ⟨D, ⟨es, clock, hb, _⟩, _⟩ := h
  rw [hr] at hb
  cases hb
theorem DkAt.keep {W W' : World} {d m1 m2 : Nat} {V : Value} {D : Dk} {S : List Nat} (h : DkAt W d m1 m2 V D) (hk : Keeps W W' S) (hd : d ∉ S) (h1 : m1 ∉ S) (h2 : m2 ∉ S) (hS : ∀ x ∈ S, ∀ cs, ¬ Row W x 75 cs) : DkAt W' d m1 m2 V D :=
  ⟨h.row.keep hk hd, h.l.keep hk h1, h.n.keep hk h2, h.w.keep hk hS, h.ne, h.ok⟩
theorem DkAt.keeps {W W' : World} {d m1 m2 : Nat} {V : Value} {D : Dk} (h : DkAt W d m1 m2 V D) (hk : Keeps W W' []) : DkAt W' d m1 m2 V D := h.keep hk (by simp) (by simp) (by simp) (by simp)
set_option maxRecDepth 100000 in
theorem dkNone_nil (w : World) : Calls Try.prog 28 #[.pointer none] w fun e w' => e = .returned (.bool true) ∧ w = w' := by
  go_enter Try.func28, Try.ntmps28
  go_wp2
  go_ret
  exact ⟨rfl, rfl⟩
set_option maxRecDepth 100000 in
theorem dkNone_at (w : World) (d : Nat) (cs : Array Value) (p : Option Nat) (hr : Row w d 67 cs) (hc : cs[4]? = some (.map p)) :
    Calls Try.prog 28 #[.pointer (some ⟨d, 0, none⟩)] w fun e w' => e = .returned (.bool p.isNone) ∧ w = w' := by
  have c1 := (hr.cell 4).trans hc
  have hq := fun w => run_eql_map_nil_sl (P := Try.prog) w 64 _ _ p undDisk
  go_enter Try.func28, Try.ntmps28
  go_wp2
  go_ret
  exact ⟨rfl, rfl⟩
theorem dkNone_any {w : World} {d m1 m2 : Nat} {V : Value} {D : Dk} (h : DkAt w d m1 m2 V D) : Calls Try.prog 28 #[.pointer (some ⟨d, 0, none⟩)] w fun e w' => e = .returned (.bool false) ∧ w = w' :=
  dkNone_at w d _ (some m2) h.row rfl
end Go.Proofs.Ytehlabdbbbbopaa
