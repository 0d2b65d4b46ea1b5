/- Walks over package page (layer 4): Look, where the bytes are not as many as a page has. -/
import Derived.Test.YthepcoifcoinoaaLook2
namespace Go.Proofs.Ythepcoifcoinoaa
open Go.RowKit

/-- What Look tells where there is no page. -/
def noLook (why : Int) : Value := .tuple #[.int .i64 0, .agg #[.int .i64 0, .int .i64 0, .int .i64 0, .slice none 0 0], .int .i64 why]

theorem look_results (t : Array Value) (W : World) (b2 b3 b4 : Nat) (num k tx nx err : Int) (bv : Value) (h2 : t.getD 2 undef = .pointer (some ⟨b2, 0, none⟩)) (h3 : t.getD 3 undef = .pointer (some ⟨b3, 0, none⟩)) (h4 : t.getD 4 undef = .pointer (some ⟨b4, 0, none⟩))
    (r2 : Row W b2 2 #[.int .i64 num]) (r3 : Row W b3 26 #[.int .i64 k, .int .i64 tx, .int .i64 nx, bv]) (r4 : Row W b4 27 #[.int .i64 err]) :
    (results Try.f14 t).run Try.prog W = .ok (.tuple #[.int .i64 num, .agg #[.int .i64 k, .int .i64 tx, .int .i64 nx, bv], .int .i64 err]) W := by
  have c2 := r2.cell 0
  have c30 := r3.cell 0
  have c31 := r3.cell 1
  have c32 := r3.cell 2
  have c33 := r3.cell 3
  have c4 := r4.cell 0
  rw [Array.getD_eq_getD_getElem?] at h2 h3 h4
  simp at c2 c30 c31 c32 c33 c4
  simp [results, Try.results14, go_sem, h2, h3, h4, c2, c30, c31, c32, c33, c4]

theorem look_doorR (w W : World) (t : Array Value) (b2 b3 b4 : Nat) (why : Int) (x2 q0 q1 q2 q3 x4 : Value) (h2 : t.getD 2 undef = .pointer (some ⟨b2, 0, none⟩)) (h3 : t.getD 3 undef = .pointer (some ⟨b3, 0, none⟩)) (h4 : t.getD 4 undef = .pointer (some ⟨b4, 0, none⟩))
    (r2 : Row W b2 2 #[x2]) (r3 : Row W b3 26 #[q0, q1, q2, q3]) (r4 : Row W b4 27 #[x4]) (hk : Keeps w W []) (g2 : w.heap.size ≤ b2) (g3 : w.heap.size ≤ b3) (g4 : w.heap.size ≤ b4) (R : Ending → World → Prop) (hR : ∀ w', Keeps w w' [] → R (.returned (noLook why)) w') :
    bodyPostD Try.prog Try.f14 R (Exit.panic [{ v := stopV why, recovered := false }])
      { tmps := t, defers := [{ target := .fn (.func 35) #[.pointer (some ⟨b2, 0, none⟩), .pointer (some ⟨b3, 0, none⟩), .pointer (some ⟨b4, 0, none⟩)], args := #[] }] } W := by
  refine leaves_cons (f := 35) (args := #[.pointer (some ⟨b2, 0, none⟩), .pointer (some ⟨b3, 0, none⟩), .pointer (some ⟨b4, 0, none⟩)]) (by simp) (by simp [go_sem]) ?_
  refine (lookDeferred_stop b2 b3 b4 why [] W _ _ _ _ _ _ r2 r3 r4).mono ?_
  rintro e u' w'' ⟨rfl, rfl, hk2, s2, s3, s4⟩
  have hr := look_results t w'' b2 b3 b4 0 0 0 0 why (.slice none 0 0) h2 h3 h4 s2 s3 s4
  have hkk : Keeps w w'' [] := hk.trans hk2 (fun x hx hl => by simp at hx; omega)
  exact ⟨_, hr, hR _ hkk⟩

theorem look_door (w W : World) (t : Array Value) (b2 b3 b4 : Nat) (why : Int) (x2 q0 q1 q2 q3 x4 : Value) (h2 : t.getD 2 undef = .pointer (some ⟨b2, 0, none⟩)) (h3 : t.getD 3 undef = .pointer (some ⟨b3, 0, none⟩)) (h4 : t.getD 4 undef = .pointer (some ⟨b4, 0, none⟩))
    (r2 : Row W b2 2 #[x2]) (r3 : Row W b3 26 #[q0, q1, q2, q3]) (r4 : Row W b4 27 #[x4]) (hk : Keeps w W []) (g2 : w.heap.size ≤ b2) (g3 : w.heap.size ≤ b3) (g4 : w.heap.size ≤ b4) :
    bodyPostD Try.prog Try.f14 (fun e w' => e = .returned (noLook why) ∧ Keeps w w' []) (Exit.panic [{ v := stopV why, recovered := false }])
      { tmps := t, defers := [{ target := .fn (.func 35) #[.pointer (some ⟨b2, 0, none⟩), .pointer (some ⟨b3, 0, none⟩), .pointer (some ⟨b4, 0, none⟩)], args := #[] }] } W := by
  refine leaves_cons (f := 35) (args := #[.pointer (some ⟨b2, 0, none⟩), .pointer (some ⟨b3, 0, none⟩), .pointer (some ⟨b4, 0, none⟩)]) (by simp) (by simp [go_sem]) ?_
  refine (lookDeferred_stop b2 b3 b4 why [] W _ _ _ _ _ _ r2 r3 r4).mono ?_
  rintro e u' w'' ⟨rfl, rfl, hk2, s2, s3, s4⟩
  have hr := look_results t w'' b2 b3 b4 0 0 0 0 why (.slice none 0 0) h2 h3 h4 s2 s3 s4
  have hkk : Keeps w w'' [] := hk.trans hk2 (fun x hx hl => by simp at hx; omega)
  simp [Leaves, settle, hr, noLook, hkk]

theorem look_door_ok (w W : World) (t : Array Value) (b2 b3 b4 : Nat) (num k tx nx err : Int) (bv : Value) (h2 : t.getD 2 undef = .pointer (some ⟨b2, 0, none⟩)) (h3 : t.getD 3 undef = .pointer (some ⟨b3, 0, none⟩)) (h4 : t.getD 4 undef = .pointer (some ⟨b4, 0, none⟩))
    (r2 : Row W b2 2 #[.int .i64 num]) (r3 : Row W b3 26 #[.int .i64 k, .int .i64 tx, .int .i64 nx, bv]) (r4 : Row W b4 27 #[.int .i64 err]) (R : Ending → World → Prop)
    (hR : R (.returned (.tuple #[.int .i64 num, .agg #[.int .i64 k, .int .i64 tx, .int .i64 nx, bv], .int .i64 err])) W) :
    bodyPostD Try.prog Try.f14 R Exit.ret
      { tmps := t, defers := [{ target := .fn (.func 35) #[.pointer (some ⟨b2, 0, none⟩), .pointer (some ⟨b3, 0, none⟩), .pointer (some ⟨b4, 0, none⟩)], args := #[] }] } W := by
  refine leaves_cons (f := 35) (args := #[.pointer (some ⟨b2, 0, none⟩), .pointer (some ⟨b3, 0, none⟩), .pointer (some ⟨b4, 0, none⟩)]) (by simp) (by simp [go_sem]) ?_
  refine (lookDeferred_idle ⟨b2, 0, none⟩ ⟨b3, 0, none⟩ ⟨b4, 0, none⟩ W).mono ?_
  rintro e u' w'' ⟨rfl, rfl, rfl⟩
  have hr := look_results t W b2 b3 b4 num k tx nx err bv h2 h3 h4 r2 r3 r4
  exact ⟨_, hr, hR⟩

/-- The three boxes of Look's results, as they are made. -/
theorem look_boxes (w : World) : ∃ W, W = (((w.alloc (.cells #[.int .i64 0] 2)).alloc (.cells #[.int .i64 0, .int .i64 0, .int .i64 0, .slice none 0 0] 26)).alloc (.cells #[.int .i64 0] 27)) ∧
    Row W w.heap.size 2 #[.int .i64 0] ∧ Row W (w.heap.size + 1) 26 #[.int .i64 0, .int .i64 0, .int .i64 0, .slice none 0 0] ∧ Row W (w.heap.size + 1 + 1) 27 #[.int .i64 0] ∧ Keeps w W [] ∧ W.heap.size = w.heap.size + 3 := by
  refine ⟨_, rfl, ((Row.new _ _ _).alloc _).alloc _, ?_, ?_, ((Keeps.alloc _ _).trans (Keeps.alloc _ _) (by simp)).trans (Keeps.alloc _ _) (by simp), by simp⟩
  · have := (Row.new (w.alloc (.cells #[.int .i64 0] 2)) 26 #[.int .i64 0, .int .i64 0, .int .i64 0, .slice none 0 0]).alloc (.cells #[.int .i64 0] 27)
    rwa [World.size_alloc] at this
  · have := Row.new ((w.alloc (.cells #[.int .i64 0] 2)).alloc (.cells #[.int .i64 0, .int .i64 0, .int .i64 0, .slice none 0 0] 26)) 27 #[.int .i64 0]
    rwa [World.size_alloc, World.size_alloc] at this

set_option maxRecDepth 100000 in
set_option maxHeartbeats 2000000 in
theorem look_len (w : World) (A : Option Addr) (len c : Nat) (h : ¬ len = 256) (hlen : len ≤ 140737488351232) :
    Calls Try.prog 14 #[.slice A len c] w fun e w' => e = .returned (noLook 2) ∧ Keeps w w' [] := by
  have hmf : ∀ (fn : Fn) (first cap : Array Value) (w : World), (Instr.makeFunc fn first cap).run Try.prog w = .ok (.func fn first cap) w := fun _ _ _ _ => rfl
  have hb : (((len : Nat) : Int) == 256) = false := by simp; omega
  clear h
  go_enter_defers Try.func14, Try.ntmps14
  go_wp2_with (go_at_call 36; refine (must_no _ _).mono ?_; rintro e w1 ⟨rfl, rfl⟩)
  obtain ⟨W, hW, r2, r3, r4, hk, _⟩ := look_boxes w
  rw [← hW]
  exact look_door w W _ _ _ _ 2 _ _ _ _ _ _ rfl rfl rfl r2 r3 r4 hk (by omega) (by omega) (by omega)
end Go.Proofs.Ythepcoifcoinoaa
