/- Package disk: the operations at a disk made since a world. Package disk, plain: which pages a crash goes over; two writes and what a crash leaves of them. -/
import Derived.Test.YtehlabdbbbbopaaPa23
import Derived.Test.YtehlabdbbbbopaaPa24

namespace Go.Proofs.Ytehlabdbbbbopaa
open Go.RowKit Go.Maps

/-- A disk made since a world. -/
structure DkIn (w0 W : World) (d : Nat) (D : Dk) : Prop where
  at_ : ∃ m1 m2 V, DkAt W d m1 m2 V D ∧ w0.heap.size ≤ m1 ∧ w0.heap.size ≤ m2
  f : w0.heap.size ≤ d
  h : Keeps w0 W []
section
variable {w0 w w' : World} {d : Nat} {D D' : Dk}
theorem DkIn.keeps (h : DkIn w0 w d D) (hk : Keeps w w' []) : DkIn w0 w' d D := by
  obtain ⟨⟨m1, m2, V, h1, h2, h3⟩, h4, h5⟩ := h
  exact ⟨⟨m1, m2, V, h1.keeps hk, h2, h3⟩, h4, h5.trans hk (by simp)⟩
theorem DkIn.lt (h : DkIn w0 w d D) : d < w.heap.size := by
  obtain ⟨⟨m1, m2, V, h1, h2, h3⟩, h4, h5⟩ := h
  exact h1.row.lt
theorem DkIn.ok (h : DkIn w0 w d D) : DkOk D := by
  obtain ⟨⟨m1, m2, V, h1, h2, h3⟩, h4, h5⟩ := h
  exact h1.ok
theorem DkIn.row (h : DkIn w0 w d D) : ∃ cs, Row w d 67 cs := by
  obtain ⟨⟨m1, m2, V, h1, h2, h3⟩, h4, h5⟩ := h
  exact ⟨_, h1.row⟩
theorem DkIn.base (h : DkIn w w' d D) (hk : Keeps w0 w []) : DkIn w0 w' d D := by
  obtain ⟨⟨m1, m2, V, h1, h2, h3⟩, h4, h5⟩ := h
  have := hk.size
  exact ⟨⟨m1, m2, V, h1, by omega, by omega⟩, by omega, hk.trans h5 (by simp)⟩
/-- Another block is written. -/
theorem DkIn.box {b : Nat} {t : TypeId} {cs : Array Value} (h : DkIn w0 w d D) (hb : w0.heap.size ≤ b) (hr : Row w b t cs) (ht : t ≠ 67) (ht' : t ≠ 75) (hk : Keeps w w' [b]) : DkIn w0 w' d D := by
  obtain ⟨⟨m1, m2, V, h1, h2, h3⟩, h4, h5⟩ := h
  have e1 := imap_ne_row h1.l hr
  have e2 := imap_ne_row h1.n hr
  have e3 := Row.ne_type h1.row hr ht.symm
  exact ⟨⟨m1, m2, V, h1.keep hk (by simpa using e3) (by simpa using e1) (by simpa using e2) (fun x hx cs hc => by obtain rfl := List.mem_singleton.1 hx; exact Row.ne_type hc hr ht'.symm rfl), h2, h3⟩, h4, h5.trans hk (fun y hy hlt => by simp at hy; omega)⟩
theorem DkIn.post {m1 m2 : Nat} {V : Value} {r : Nat × Dk} {e : Ending} (h : DkAt w d m1 m2 V D) (f1 : w0.heap.size ≤ m1) (f2 : w0.heap.size ≤ m2) (f : w0.heap.size ≤ d) (hk : Keeps w0 w []) (p : DkPost w d m1 m2 r e w') : e = .returned (.int .i64 (r.1 : Nat)) ∧ DkIn w0 w' d r.2 ∧ Apart w w' d := by
  obtain ⟨he, n1, V', hp, hn, hk'⟩ := p
  have hsz := hk.size
  refine ⟨he, ⟨⟨n1, m2, V', hp, ?_, f2⟩, f, hk.trans hk' (fun y hy hlt => by simp at hy; omega)⟩, m2, fun t cs hr => imap_ne_row h.n hr rfl, hk'⟩
  rcases hn with rfl | hn <;> omega
theorem dkWrite_dk (h : DkIn w0 w d D) (page : Int) (A : Option Addr) (n c : Nat) (bs : List UInt8) (hn : bs.length = n) (hA : Lies w w.heap.size A (bs.map byteV)) (hl : D.waits.length ≤ 1000000) : Calls Try.prog 13 #[.pointer (some ⟨d, 0, none⟩), .int .i64 page, .slice A n c] w fun e w' =>
    e = .returned (.int .i64 ((D.write page bs).1 : Nat)) ∧ DkIn w0 w' d (D.write page bs).2 ∧ Apart w w' d := by
  obtain ⟨⟨m1, m2, V, h1, h2, h3⟩, h4, h5⟩ := h
  exact (dkWrite_any w d m1 m2 V D h1 page A n c bs hn hA hl).mono fun e w' hp => DkIn.post h1 h2 h3 h4 h5 hp
theorem dkFlush_dk (h : DkIn w0 w d D) : Calls Try.prog 12 #[.pointer (some ⟨d, 0, none⟩)] w fun e w' =>
    e = .returned (.int .i64 (D.flush.1 : Nat)) ∧ DkIn w0 w' d D.flush.2 ∧ Apart w w' d := by
  obtain ⟨⟨m1, m2, V, h1, h2, h3⟩, h4, h5⟩ := h
  exact (dkFlush_any w d m1 m2 V D h1).mono fun e w' hp => DkIn.post h1 h2 h3 h4 h5 hp
theorem dkArm_dk (h : DkIn w0 w d D) (kind steps : Int) (hs : -9223372036854775808 ≤ steps ∧ steps ≤ 9223372036854775807) : Calls Try.prog 11 #[.pointer (some ⟨d, 0, none⟩), .int .i64 kind, .int .i64 steps] w fun e w' =>
    e = .returned (.int .i64 ((D.arm kind steps).1 : Nat)) ∧ DkIn w0 w' d (D.arm kind steps).2 ∧ Apart w w' d := by
  obtain ⟨⟨m1, m2, V, h1, h2, h3⟩, h4, h5⟩ := h
  refine (dkArm_any w d m1 m2 V D h1 kind steps hs).mono ?_
  rintro e w' ⟨he, hp, hk⟩
  exact DkIn.post h1 h2 h3 h4 h5 ⟨he, m1, V, hp, .inl rfl, hk.weaken (by simp)⟩
theorem dkRead_dk (h : DkIn w0 w d D) (page : Int) : Calls Try.prog 21 #[.pointer (some ⟨d, 0, none⟩), .int .i64 page] w (ReadPost w D page) := by
  obtain ⟨⟨m1, m2, V, h1, h2, h3⟩, h4, h5⟩ := h
  exact dkRead_any w d m1 m2 V D h1 page
theorem dkDead_dk (h : DkIn w0 w d D) : Calls Try.prog 15 #[.pointer (some ⟨d, 0, none⟩)] w fun e w' => e = .returned (.bool D.dead) ∧ w = w' := by
  obtain ⟨⟨m1, m2, V, h1, h2, h3⟩, h4, h5⟩ := h
  exact dkDead_any h1
theorem dkPages_dk (h : DkIn w0 w d D) : Calls Try.prog 27 #[.pointer (some ⟨d, 0, none⟩)] w fun e w' => e = .returned (.int .i64 (D.pages : Nat)) ∧ w = w' := by
  obtain ⟨⟨m1, m2, V, h1, h2, h3⟩, h4, h5⟩ := h
  exact dkPages_any h1
theorem dkWaits_dk (h : DkIn w0 w d D) : Calls Try.prog 25 #[.pointer (some ⟨d, 0, none⟩)] w fun e w' => e = .returned (.int .i64 (D.waits.length : Nat)) ∧ w = w' := by
  obtain ⟨⟨m1, m2, V, h1, h2, h3⟩, h4, h5⟩ := h
  exact dkWaits_any h1
theorem dkSteps_dk (h : DkIn w0 w d D) : Calls Try.prog 16 #[.pointer (some ⟨d, 0, none⟩)] w fun e w' => e = .returned (.int .i64 D.steps) ∧ w = w' := by
  obtain ⟨⟨m1, m2, V, h1, h2, h3⟩, h4, h5⟩ := h
  exact dkSteps_any h1
theorem dkCrash_dk (h : DkIn w0 w d D) (hl : D.waits.length ≤ 1000000) (A : Option Addr) (cap : Nat) (picks : List Int) (hp : Lies w w.heap.size A (picks.map encZ)) (hcap : picks.length ≤ cap) :
    Calls Try.prog 19 #[.pointer (some ⟨d, 0, none⟩), .slice A picks.length cap] w fun e w' => ∃ c, e = .returned (.tuple #[.pointer (some ⟨c, 0, none⟩), .int .i64 0]) ∧ DkIn w w' c (D.crash picks) := by
  obtain ⟨⟨m1, m2, V, h1, h2, h3⟩, h4, h5⟩ := h
  refine (dkCrash_any h1 hl A cap picks hp hcap).mono ?_
  rintro e w' ⟨c, n1, n2, rfl, a1, a2, a3, a4, a5⟩
  exact ⟨c, rfl, ⟨n1, n2, _, a1, a3, a4⟩, a2, a5⟩
theorem dkCopy_dk (h : DkIn w0 w d D) :
    Calls Try.prog 20 #[.pointer (some ⟨d, 0, none⟩)] w fun e w' => ∃ c, e = .returned (.pointer (some ⟨c, 0, none⟩)) ∧ DkIn w w' c D := by
  obtain ⟨⟨m1, m2, V, h1, h2, h3⟩, h4, h5⟩ := h
  refine (dkCopy_any w d m1 m2 V D h1).mono ?_
  rintro e w' ⟨c, n1, n2, rfl, a1, a2, a3, a4, a5⟩
  exact ⟨c, rfl, ⟨n1, n2, _, a1, a3, a4⟩, a2, a5⟩
theorem dkNew_dk (w : World) (pages : Int) : Calls Try.prog 10 #[.int .i64 pages] w fun e w' =>
    if 2 ≤ pages ∧ pages ≤ 4096 then ∃ d, e = .returned (.tuple #[.pointer (some ⟨d, 0, none⟩), .int .i64 0]) ∧ DkIn w w' d (Dk.fresh pages.toNat) else e = .returned (.tuple #[.pointer none, .int .i64 2]) ∧ Keeps w w' [] := by
  refine (dkNew_any w pages).mono ?_
  intro e w' h
  unfold DkMade at h
  split at h
  · rename_i hp
    rw [if_pos hp]
    obtain ⟨d, m1, m2, rfl, a1, a2, a3, a4, a5⟩ := h
    exact ⟨d, rfl, ⟨m1, m2, _, a1, a3, a4⟩, a2, a5⟩
  · rename_i hp
    rw [if_neg hp]
    exact h
end
end Go.Proofs.Ytehlabdbbbbopaa

namespace Go.Proofs.Ytehlabdbbbbopaa
open Go.RowKit Go.Maps

theorem pagesOf_far {L : List (Int × List UInt8)} {x : Int} (h : ∀ p ∈ L, p.1 ≠ x) : pagesOf L x = [] := by
  unfold pagesOf
  rw [List.filter_eq_nil_iff.2 (fun p hp => by simpa using h p hp)]
  rfl
theorem secKeys_lt {L : List (Int × List UInt8)} {n : Nat} (h : ∀ p ∈ L, p.1 < n) (hn : n ≤ 4096) : secKeys L = ((List.range n).map (fun k : Nat => (k : Int))).filter fun x => !(pagesOf L x).isEmpty := by
  unfold secKeys
  obtain ⟨m, hm⟩ : ∃ m, 4096 = n + m := ⟨4096 - n, by omega⟩
  rw [hm, List.range_add, List.map_append, List.filter_append]
  rw [show List.filter (fun x => !(pagesOf L x).isEmpty) (List.map (fun k : Nat => (k : Int)) (List.map (fun x => n + x) (List.range m))) = [] from List.filter_eq_nil_iff.2 fun x hx => by
    obtain ⟨a, ha, rfl⟩ := List.mem_map.1 hx
    obtain ⟨c, _, rfl⟩ := List.mem_map.1 ha
    rw [pagesOf_far fun p hp e => by have := h p hp; omega]
    simp]
  simp
/-- Two writes of page 0. -/
def pgA : List UInt8 := List.replicate 256 97
def pgB : List UInt8 := List.replicate 256 98
def two1 : Dk := { Dk.fresh 2 with now := fun x => if x = 0 then some pgA else none, waits := [(0, pgA)], steps := 1 }
def two2 : Dk := { Dk.fresh 2 with now := fun x => if x = 0 then some pgB else none, waits := [(0, pgA), (0, pgB)], steps := 2 }
def twoM : Int → Option (List UInt8) := fun y => if y = 0 then some (graft (graft nought pgA 0) pgB 1) else none
def two3 : Dk := { Dk.fresh 2 with lasts := twoM, now := twoM }
theorem two_1 : (Dk.fresh 2).write 0 pgA = (0, two1) := by
  have h : pgA.length = 256 := List.length_replicate ..
  unfold Dk.write
  rw [if_neg (by simp [h]), if_neg (by show ¬ ((0 : Int) < 0 ∨ ((2 : Nat) : Int) ≤ 0); omega), if_neg (by simp [Dk.code, Dk.fresh])]
  unfold two1 Dk.ticked Dk.wrote Dk.counted Dk.fresh
  simp only [if_true, List.nil_append, Prod.mk.injEq, true_and, Dk.mk.injEq]
  exact IntWalk.wrap64_in _ (by omega)
theorem two_2 : two1.write 0 pgB = (0, two2) := by
  have h : pgB.length = 256 := List.length_replicate ..
  unfold Dk.write
  rw [if_neg (by simp [h]), if_neg (by show ¬ ((0 : Int) < 0 ∨ ((2 : Nat) : Int) ≤ 0); omega), if_neg (by simp [Dk.code, two1, Dk.fresh])]
  unfold two2 two1 Dk.ticked Dk.wrote Dk.counted Dk.fresh
  simp only [if_true, List.cons_append, List.nil_append, Prod.mk.injEq, true_and, Dk.mk.injEq]
  refine ⟨funext fun x => ?_, IntWalk.wrap64_in _ (by omega)⟩
  split <;> rfl
theorem two_keys : secList two2.waits = four 0 := by
  unfold secList
  rw [secKeys_lt (n := 2) (fun p hp => by simp [two2] at hp; rcases hp with rfl | rfl <;> simp) (by omega)]
  rfl
theorem two_3 : two2.crash [1, 2, 0] = two3 := by
  have hp : pagesOf two2.waits 0 = [pgA, pgB] := rfl
  have h : secRun two2.waits (secList two2.waits) two2.lasts [1, 2, 0] = (twoM, []) := by
    rw [two_keys]
    unfold secRun four
    simp only [List.foldl_cons, List.foldl_nil]
    unfold secStep
    simp only [hp, List.length_cons, List.length_nil]
    rw [if_neg (by decide)]
    simp only
    rw [if_neg (by decide)]
    simp only
    rw [if_pos (by decide)]
    simp only [if_true, Prod.mk.injEq, and_true]
    funext y
    unfold twoM
    by_cases hy : y = 0
    · rw [if_pos hy, if_pos hy]; rfl
    · rw [if_neg hy, if_neg hy, if_neg hy]; rfl
  unfold Dk.crash two3
  rw [h]
  rfl
set_option maxRecDepth 100000 in
theorem two_page : two3.page 0 = List.replicate 64 97 ++ List.replicate 64 98 ++ List.replicate 128 0 := by
  show graft (graft nought pgA 0) pgB 1 = _
  kernel_rfl
def two4 : Dk := { two3 with kind := 2, left := 0 }
def two5 : Dk := { two4 with kind := 0, left := 0 }
theorem two_4 : two3.arm 2 0 = (0, two4) := by rfl
theorem two_5 : two4.flush = (121, two5) := by rfl
theorem two_6 : two5.flush.1 = 0 := by rfl
end Go.Proofs.Ytehlabdbbbbopaa
