/- Walks over package page (layer 4): giving up, and what is deferred. Walks over package page (layer 4): Look's two closures; are all of some bytes noughts. Walks over package page (layer 4): Look, where the bytes are not as many as a page has. -/
import Derived.Test.YthepcoifcoinoaaPRa15
import Derived.Recover
import Derived.Defers
import Derived.BigRegion

namespace Go.Proofs.Ythepcoifcoinoaa
open Go.RowKit

/-- What is given up with. -/
def stopV (why : Int) : Value := .iface 69 (.agg #[.int .i64 why])

set_option maxRecDepth 100000 in
set_option maxHeartbeats 400000 in
theorem must_yes (why : Int) (w : World) :
    Calls Try.prog 36 #[.bool true, .int .i64 why] w fun e w' => e = .returned (.tuple #[]) ∧ w = w' := by
  go_enter Try.func36, Try.ntmps36
  go_wp2
  go_end0
  exact ⟨rfl, rfl⟩

set_option maxRecDepth 100000 in
set_option maxHeartbeats 400000 in
theorem must_no (why : Int) (w : World) :
    Calls Try.prog 36 #[.bool false, .int .i64 why] w fun e w' => e = .panicked [{ v := stopV why, recovered := false }] ∧ w = w' := by
  go_enter Try.func36, Try.ntmps36
  go_wp2
  exact ⟨rfl, rfl, rfl⟩

set_option maxRecDepth 100000 in
set_option maxHeartbeats 1000000 in
theorem lookDeferred_idle (a2 a3 a4 : Addr) (w : World) :
    CallsD Try.prog 35 #[.pointer (some a2), .pointer (some a3), .pointer (some a4)] .returning w fun e u' w' => e = .returned (.tuple #[]) ∧ u' = .returning ∧ w = w' := by
  refine callsD_of_wpS Try.func35 rfl fun c₀ cs hu => ?_
  apply wpS_seq
  apply wpS_region
  simp [wpOpsS, go_sem, recoverD, hu, Try.ntmps35, Exit.thenS]
  refine wpS_of_wp ?_
  go_wp2
  cases c₀
  simp_all [bodyPostS, results, Try.results35]

set_option maxRecDepth 100000 in
set_option maxHeartbeats 2000000 in
theorem lookDeferred_stop (b2 b3 b4 : Nat) (why : Int) (older : List PanicEntry) (w : World) (x2 x4 q0 q1 q2 q3 : Value)
    (h2 : Row w b2 2 #[x2]) (h3 : Row w b3 26 #[q0, q1, q2, q3]) (h4 : Row w b4 27 #[x4]) :
    CallsD Try.prog 35 #[.pointer (some ⟨b2, 0, none⟩), .pointer (some ⟨b3, 0, none⟩), .pointer (some ⟨b4, 0, none⟩)] (.panicking ({ v := stopV why, recovered := false } :: older)) w fun e u' w' =>
      e = .returned (.tuple #[]) ∧ u' = .panicking ({ v := stopV why, recovered := true } :: older) ∧ Keeps w w' [b2, b3, b4] ∧
        Row w' b2 2 #[.int .i64 0] ∧ Row w' b3 26 #[.int .i64 0, .int .i64 0, .int .i64 0, .slice none 0 0] ∧ Row w' b4 27 #[.int .i64 why] := by
  have c2 := h2.cell 0
  have f2 := h2.frozen 0
  have c4 := h4.cell 0
  have f4 := h4.frozen 0
  have hp0 : w.cell? ⟨b3, 0, none⟩ = some q0 := h3.cell 0
  have hp1 : w.cell? ⟨b3, 1, none⟩ = some q1 := h3.cell 1
  have hp2 : w.cell? ⟨b3, 2, none⟩ = some q2 := h3.cell 2
  have hp3 : w.cell? ⟨b3, 3, none⟩ = some q3 := h3.cell 3
  have g0 := h3.frozen 0
  have g1 := h3.frozen 1
  have g2 := h3.frozen 2
  have g3 := h3.frozen 3
  have l2 := h2.lt
  have l3 := h3.lt
  have l4 := h4.lt
  have n23 : b2 ≠ b3 := h2.ne_type h3 (by decide)
  have n24 : b2 ≠ b4 := h2.ne_type h4 (by decide)
  have n34 : b3 ≠ b4 := h3.ne_type h4 (by decide)
  have H := Lib.hid (And.intro h2 (And.intro h3 h4))
  clear h2 h3 h4
  refine callsD_of_wpS Try.func35 rfl fun c₀ cs hu => ?_
  apply wpS_seq
  apply wpS_region
  unfold stopV at hu
  simp [wpOpsS, go_sem, recoverD, hu, Try.ntmps35, Exit.thenS]
  refine wpS_of_wp ?_
  have hta : ∀ w : World, (Instr.typeAssert (.iface 69 (.agg #[.int .i64 why])) 20 69 true).run Try.prog w = .ok (.tuple #[.agg #[.int .i64 why], .bool true]) w := fun _ => by kernel_rfl
  simp only [Array.replicate_succ, Array.replicate_zero, List.push_toArray, List.nil_append, List.cons_append, List.setIfInBounds_toArray, List.set_cons_succ, List.set_cons_zero, List.append_toArray]
  go_wp2_with fail
  go_region
  go_wp2
  obtain ⟨h2, h3, h4⟩ := H.out
  have hrow3 : Row (((((w.setCell ⟨b2, 0, none⟩ (.int .i64 0)).setCell ⟨b3, 0, none⟩ (.int .i64 0)).setCell ⟨b3, 1, none⟩ (.int .i64 0)).setCell ⟨b3, 2, none⟩ (.int .i64 0)).setCell ⟨b3, 3, none⟩ (.slice none 0 0)) b3 26 #[.int .i64 0, .int .i64 0, .int .i64 0, .slice none 0 0] := by
    exact ((((h3.far (p := ⟨b2, 0, none⟩) (Ne.symm n23) (.int .i64 0)).store 0 (.int .i64 0)).store 1 (.int .i64 0)).store 2 (.int .i64 0)).store 3 (.slice none 0 0)
  have hrow2 : Row (((((w.setCell ⟨b2, 0, none⟩ (.int .i64 0)).setCell ⟨b3, 0, none⟩ (.int .i64 0)).setCell ⟨b3, 1, none⟩ (.int .i64 0)).setCell ⟨b3, 2, none⟩ (.int .i64 0)).setCell ⟨b3, 3, none⟩ (.slice none 0 0)) b2 2 #[.int .i64 0] :=
    ((((h2.store 0 (.int .i64 0)).far (p := ⟨b3, 0, none⟩) n23 _).far (p := ⟨b3, 1, none⟩) n23 _).far (p := ⟨b3, 2, none⟩) n23 _).far (p := ⟨b3, 3, none⟩) n23 _
  have hrow4 : Row (((((w.setCell ⟨b2, 0, none⟩ (.int .i64 0)).setCell ⟨b3, 0, none⟩ (.int .i64 0)).setCell ⟨b3, 1, none⟩ (.int .i64 0)).setCell ⟨b3, 2, none⟩ (.int .i64 0)).setCell ⟨b3, 3, none⟩ (.slice none 0 0)) b4 27 #[x4] :=
    ((((h4.far (p := ⟨b2, 0, none⟩) (Ne.symm n24) _).far (p := ⟨b3, 0, none⟩) (Ne.symm n34) _).far (p := ⟨b3, 1, none⟩) (Ne.symm n34) _).far (p := ⟨b3, 2, none⟩) (Ne.symm n34) _).far (p := ⟨b3, 3, none⟩) (Ne.symm n34) _
  have hk : Keeps w (((((w.setCell ⟨b2, 0, none⟩ (.int .i64 0)).setCell ⟨b3, 0, none⟩ (.int .i64 0)).setCell ⟨b3, 1, none⟩ (.int .i64 0)).setCell ⟨b3, 2, none⟩ (.int .i64 0)).setCell ⟨b3, 3, none⟩ (.slice none 0 0)) [b2, b3, b4] :=
    ((((((Keeps.setCell w ⟨b2, 0, none⟩ _).weaken (T := [b2, b3, b4]) (by simp)).trans (Keeps.setCell _ ⟨b3, 0, none⟩ _) (by simp)).trans (Keeps.setCell _ ⟨b3, 1, none⟩ _) (by simp)).trans (Keeps.setCell _ ⟨b3, 2, none⟩ _) (by simp)).trans (Keeps.setCell _ ⟨b3, 3, none⟩ _) (by simp))
  generalize (((((w.setCell ⟨b2, 0, none⟩ (.int .i64 0)).setCell ⟨b3, 0, none⟩ (.int .i64 0)).setCell ⟨b3, 1, none⟩ (.int .i64 0)).setCell ⟨b3, 2, none⟩ (.int .i64 0)).setCell ⟨b3, 3, none⟩ (.slice none 0 0)) = W at *
  have hlW := hk.size
  refine ⟨rfl, _, rfl, .tuple #[], by simp [results, Try.results35], rfl, rfl, ?_, ?_, ?_, ?_⟩
  · exact ((hk.trans (Keeps.setCell _ ⟨b4, 0, none⟩ _) (by simp)).trans (Keeps.alloc _ _) (by simp)).trans (Keeps.drew _) (by simp)
  · exact ((hrow2.far (p := ⟨b4, 0, none⟩) n24 _).alloc _)
  · exact ((hrow3.far (p := ⟨b4, 0, none⟩) n34 _).alloc _)
  · exact ((hrow4.store 0 _).alloc _)
end Go.Proofs.Ythepcoifcoinoaa

namespace Go.Proofs.Ythepcoifcoinoaa
open Go.RowKit

set_option maxRecDepth 100000 in
set_option maxHeartbeats 1000000 in
theorem lookTake_any (w : World) (base r bx k : Nat) (K : Int) (hK : K = k) (l : List UInt8) (hb : w.cell? ⟨bx, 0, none⟩ = some (.pointer (some ⟨r, 0, none⟩))) (h : Rd w base r l) (hk1 : 1 ≤ k) (hk8 : k ≤ 8) (hkl : k ≤ l.length) :
    Calls Try.prog 38 #[.int .i64 K, .pointer (some ⟨bx, 0, none⟩)] w fun e w' => e = .returned (.int .i64 (wrap64 (beN (l.take k) : Nat))) ∧ Rd w' base r (l.drop k) ∧ Keeps w w' [r] := by
  subst hK
  have H := Lib.hid h
  clear h
  go_enter Try.func38, Try.ntmps38
  go_wp2_with fail
  refine (rdNumber_any w base r k l H.out hk1 hk8 hkl).mono ?_
  rintro e w1 ⟨rfl, hr1, hk1⟩
  have H1 := Lib.hid (And.intro hr1 hk1)
  clear hr1 hk1
  go_wp2
  go_ret
  exact ⟨rfl, H1.out.1, H1.out.2⟩

set_option maxRecDepth 100000 in
set_option maxHeartbeats 400000 in
theorem lookIs_any (w : World) (x : Nat) :
    Calls Try.prog 44 #[.int .u8 x] w fun e w' => e = .returned (.bool ((x : Int) != 0)) ∧ w = w' := by
  go_enter Try.func44, Try.ntmps44
  go_wp2
  go_ret
  exact ⟨rfl, rfl⟩

def allZero (l : List UInt8) : Bool := l.all (· == 0)

set_option maxRecDepth 100000 in
set_option maxHeartbeats 1000000 in
theorem indexFunc_any (w : World) (A : Option Addr) (c : Nat) (l : List UInt8) (hL : Lies w w.heap.size A (l.map byteV)) (hlen : l.length ≤ 140737488351232) :
    Calls Try.prog 77 #[.slice A l.length c, .func (.func 44) #[] #[]] w fun e w' => ∃ i : Int, e = .returned (.int .i64 i) ∧ ((-1 ≤ i ∧ i ≤ l.length) ∧ decide (0 ≤ i) = !allZero l) ∧ w = w' := by
  have HL := Lib.hid hL
  clear hL
  go_enter Try.func77, Try.ntmps77
  go_wp2
  go_loop [5, 8] (fun _ i => ∃ k : Nat, k ≤ l.length ∧ i = .int .i64 k ∧ allZero (l.take k) = true) (fun _ i => l.length - (intOf i).toNat)
  case atStart => exact ⟨0, by omega, rfl, rfl⟩
  case round =>
    obtain ⟨k, hk, rfl, hz⟩ := hrel
    have HZ := Lib.hid hz
    clear hz
    by_cases hlt : k < l.length
    · obtain ⟨b, o, rfl, hb, hcx⟩ := HL.out.at_ (k := k) (by simpa using hlt)
      rw [byteV_get l hlt] at hcx
      have HX := Lib.hid (show l[k].toNat = 0 ↔ l[k] = 0 from ⟨fun h => UInt8.toNat_inj.1 h, fun h => by rw [h]; rfl⟩)
      have HS := Lib.hid (List.take_succ_eq_append_getElem hlt)
      have hmem : l[k] ∈ l := List.getElem_mem hlt
      have HM := Lib.hid hmem
      clear hmem
      generalize l[k] = y at *
      by_cases hy : y.toNat = 0
      · have hyb : (((y.toNat : Nat) : Int) != 0) = false := by simp [hy]
        have HY := Lib.hid hy
        have HYB := Lib.hid hyb
        clear hy hyb
        go_wp2_with (go_at_call 44; refine (lookIs_any _ y.toNat).mono ?_; rintro e w1 ⟨rfl, rfl⟩; rw [HYB.out])
        refine ⟨⟨k + 1, by omega, by go_num, ?_⟩, by simp [intOf]; omega⟩
        rw [HS.out]
        have h0 := HX.out.1 HY.out
        have hz := HZ.out
        unfold allZero at hz ⊢
        simp [hz, h0]
      · have hyb : (((y.toNat : Nat) : Int) != 0) = true := by simp; omega
        have HY := Lib.hid hy
        have HYB := Lib.hid hyb
        clear hy hyb
        go_wp2_with (go_at_call 44; refine (lookIs_any _ y.toNat).mono ?_; rintro e w1 ⟨rfl, rfl⟩; rw [HYB.out])
        go_ret
        refine ⟨k, rfl, ⟨by omega, ?_⟩, rfl⟩
        have hne : y ≠ 0 := fun h => HY.out (HX.out.2 h)
        have : allZero l = false := by
          unfold allZero
          rw [List.all_eq_false]
          exact ⟨y, HM.out, by simpa using hne⟩
        rw [this]; simp
    · obtain rfl : k = l.length := by omega
      have hz := HZ.out
      rw [List.take_length] at hz
      have HZ' := Lib.hid hz
      clear hz
      go_wp2
      go_ret
      refine ⟨-1, rfl, ⟨by omega, by rw [HZ'.out]; rfl⟩, rfl⟩

set_option maxRecDepth 100000 in
set_option maxHeartbeats 400000 in
theorem none_any (w : World) (A : Option Addr) (c : Nat) (l : List UInt8) (hL : Lies w w.heap.size A (l.map byteV)) (hlen : l.length ≤ 140737488351232) :
    Calls Try.prog 43 #[.slice A l.length c, .func (.func 44) #[] #[]] w fun e w' => e = .returned (.bool (allZero l)) ∧ w = w' := by
  have HL := Lib.hid hL
  clear hL
  go_enter Try.func43, Try.ntmps43
  go_wp2_with (first | (go_at_call 67; go_in) | (go_at_call 77; refine (indexFunc_any _ A c l HL.out hlen).mono ?_; rintro e w1 ⟨i, rfl, ⟨⟨hi1, hi2⟩, hi⟩, rfl⟩; have HI := Lib.hid hi; clear hi))
  all_goals go_wp2
  all_goals go_ret
  all_goals have hi := HI.out
  all_goals (refine ⟨ret_bool ?_, rfl⟩)
  all_goals (cases hz : allZero l <;> simp [hz] at hi <;> simp <;> omega)
end Go.Proofs.Ythepcoifcoinoaa

namespace Go.Proofs.Ythepcoifcoinoaa
open Go.RowKit

/-- What Look tells where there is no page. -/
def noLook (why : Int) : Value := .tuple #[.int .i64 0, .agg #[.int .i64 0, .int .i64 0, .int .i64 0, .slice none 0 0], .int .i64 why]

theorem look_results (t : Array Value) (W : World) (b2 b3 b4 : Nat) (num k tx nx err : Int) (bv : Value) (h2 : t.getD 2 undef = .pointer (some ⟨b2, 0, none⟩)) (h3 : t.getD 3 undef = .pointer (some ⟨b3, 0, none⟩)) (h4 : t.getD 4 undef = .pointer (some ⟨b4, 0, none⟩))
    (r2 : Row W b2 2 #[.int .i64 num]) (r3 : Row W b3 26 #[.int .i64 k, .int .i64 tx, .int .i64 nx, bv]) (r4 : Row W b4 27 #[.int .i64 err]) :
    (results Try.f14 t).run Try.prog W = .ok (.tuple #[.int .i64 num, .agg #[.int .i64 k, .int .i64 tx, .int .i64 nx, bv], .int .i64 err]) W := by
  have c2 := r2.cell 0
  have c30 := r3.cell 0
  have c31 := r3.cell 1
  have c32 := r3.cell 2
  have c33 := r3.cell 3
  have c4 := r4.cell 0
  rw [Array.getD_eq_getD_getElem?] at h2 h3 h4
  simp at c2 c30 c31 c32 c33 c4
  simp [results, Try.results14, go_sem, h2, h3, h4, c2, c30, c31, c32, c33, c4]

theorem look_doorR (w W : World) (t : Array Value) (b2 b3 b4 : Nat) (why : Int) (x2 q0 q1 q2 q3 x4 : Value) (h2 : t.getD 2 undef = .pointer (some ⟨b2, 0, none⟩)) (h3 : t.getD 3 undef = .pointer (some ⟨b3, 0, none⟩)) (h4 : t.getD 4 undef = .pointer (some ⟨b4, 0, none⟩))
    (r2 : Row W b2 2 #[x2]) (r3 : Row W b3 26 #[q0, q1, q2, q3]) (r4 : Row W b4 27 #[x4]) (hk : Keeps w W []) (g2 : w.heap.size ≤ b2) (g3 : w.heap.size ≤ b3) (g4 : w.heap.size ≤ b4) (R : Ending → World → Prop) (hR : ∀ w', Keeps w w' [] → R (.returned (noLook why)) w') :
    bodyPostD Try.prog Try.f14 R (Exit.panic [{ v := stopV why, recovered := false }])
      { tmps := t, defers := [{ target := .fn (.func 35) #[.pointer (some ⟨b2, 0, none⟩), .pointer (some ⟨b3, 0, none⟩), .pointer (some ⟨b4, 0, none⟩)], args := #[] }] } W := by
  refine leaves_cons (f := 35) (args := #[.pointer (some ⟨b2, 0, none⟩), .pointer (some ⟨b3, 0, none⟩), .pointer (some ⟨b4, 0, none⟩)]) (by simp) (by simp [go_sem]) ?_
  refine (lookDeferred_stop b2 b3 b4 why [] W _ _ _ _ _ _ r2 r3 r4).mono ?_
  rintro e u' w'' ⟨rfl, rfl, hk2, s2, s3, s4⟩
  have hr := look_results t w'' b2 b3 b4 0 0 0 0 why (.slice none 0 0) h2 h3 h4 s2 s3 s4
  have hkk : Keeps w w'' [] := hk.trans hk2 (fun x hx hl => by simp at hx; omega)
  exact ⟨_, hr, hR _ hkk⟩

theorem look_door (w W : World) (t : Array Value) (b2 b3 b4 : Nat) (why : Int) (x2 q0 q1 q2 q3 x4 : Value) (h2 : t.getD 2 undef = .pointer (some ⟨b2, 0, none⟩)) (h3 : t.getD 3 undef = .pointer (some ⟨b3, 0, none⟩)) (h4 : t.getD 4 undef = .pointer (some ⟨b4, 0, none⟩))
    (r2 : Row W b2 2 #[x2]) (r3 : Row W b3 26 #[q0, q1, q2, q3]) (r4 : Row W b4 27 #[x4]) (hk : Keeps w W []) (g2 : w.heap.size ≤ b2) (g3 : w.heap.size ≤ b3) (g4 : w.heap.size ≤ b4) :
    bodyPostD Try.prog Try.f14 (fun e w' => e = .returned (noLook why) ∧ Keeps w w' []) (Exit.panic [{ v := stopV why, recovered := false }])
      { tmps := t, defers := [{ target := .fn (.func 35) #[.pointer (some ⟨b2, 0, none⟩), .pointer (some ⟨b3, 0, none⟩), .pointer (some ⟨b4, 0, none⟩)], args := #[] }] } W := by
  refine leaves_cons (f := 35) (args := #[.pointer (some ⟨b2, 0, none⟩), .pointer (some ⟨b3, 0, none⟩), .pointer (some ⟨b4, 0, none⟩)]) (by simp) (by simp [go_sem]) ?_
  refine (lookDeferred_stop b2 b3 b4 why [] W _ _ _ _ _ _ r2 r3 r4).mono ?_
  rintro e u' w'' ⟨rfl, rfl, hk2, s2, s3, s4⟩
  have hr := look_results t w'' b2 b3 b4 0 0 0 0 why (.slice none 0 0) h2 h3 h4 s2 s3 s4
  have hkk : Keeps w w'' [] := hk.trans hk2 (fun x hx hl => by simp at hx; omega)
  simp [Leaves, settle, hr, noLook, hkk]

theorem look_door_ok (_w W : World) (t : Array Value) (b2 b3 b4 : Nat) (num k tx nx err : Int) (bv : Value) (h2 : t.getD 2 undef = .pointer (some ⟨b2, 0, none⟩)) (h3 : t.getD 3 undef = .pointer (some ⟨b3, 0, none⟩)) (h4 : t.getD 4 undef = .pointer (some ⟨b4, 0, none⟩))
    (r2 : Row W b2 2 #[.int .i64 num]) (r3 : Row W b3 26 #[.int .i64 k, .int .i64 tx, .int .i64 nx, bv]) (r4 : Row W b4 27 #[.int .i64 err]) (R : Ending → World → Prop)
    (hR : R (.returned (.tuple #[.int .i64 num, .agg #[.int .i64 k, .int .i64 tx, .int .i64 nx, bv], .int .i64 err])) W) :
    bodyPostD Try.prog Try.f14 R Exit.ret
      { tmps := t, defers := [{ target := .fn (.func 35) #[.pointer (some ⟨b2, 0, none⟩), .pointer (some ⟨b3, 0, none⟩), .pointer (some ⟨b4, 0, none⟩)], args := #[] }] } W := by
  refine leaves_cons (f := 35) (args := #[.pointer (some ⟨b2, 0, none⟩), .pointer (some ⟨b3, 0, none⟩), .pointer (some ⟨b4, 0, none⟩)]) (by simp) (by simp [go_sem]) ?_
  refine (lookDeferred_idle ⟨b2, 0, none⟩ ⟨b3, 0, none⟩ ⟨b4, 0, none⟩ W).mono ?_
  rintro e u' w'' ⟨rfl, rfl, rfl⟩
  have hr := look_results t W b2 b3 b4 num k tx nx err bv h2 h3 h4 r2 r3 r4
  exact ⟨_, hr, hR⟩

/-- The three boxes of Look's results, as they are made. -/
theorem look_boxes (w : World) : ∃ W, W = (((w.alloc (.cells #[.int .i64 0] 2)).alloc (.cells #[.int .i64 0, .int .i64 0, .int .i64 0, .slice none 0 0] 26)).alloc (.cells #[.int .i64 0] 27)) ∧
    Row W w.heap.size 2 #[.int .i64 0] ∧ Row W (w.heap.size + 1) 26 #[.int .i64 0, .int .i64 0, .int .i64 0, .slice none 0 0] ∧ Row W (w.heap.size + 1 + 1) 27 #[.int .i64 0] ∧ Keeps w W [] ∧ W.heap.size = w.heap.size + 3 := by
  refine ⟨_, rfl, ((Row.new _ _ _).alloc _).alloc _, ?_, ?_, ((Keeps.alloc _ _).trans (Keeps.alloc _ _) (by simp)).trans (Keeps.alloc _ _) (by simp), by simp⟩
  · have := (Row.new (w.alloc (.cells #[.int .i64 0] 2)) 26 #[.int .i64 0, .int .i64 0, .int .i64 0, .slice none 0 0]).alloc (.cells #[.int .i64 0] 27)
    rwa [World.size_alloc] at this
  · have := Row.new ((w.alloc (.cells #[.int .i64 0] 2)).alloc (.cells #[.int .i64 0, .int .i64 0, .int .i64 0, .slice none 0 0] 26)) 27 #[.int .i64 0]
    rwa [World.size_alloc, World.size_alloc] at this

set_option maxRecDepth 100000 in
set_option maxHeartbeats 2000000 in
theorem look_len (w : World) (A : Option Addr) (len c : Nat) (h : ¬ len = 256) (_hlen : len ≤ 140737488351232) :
    Calls Try.prog 14 #[.slice A len c] w fun e w' => e = .returned (noLook 2) ∧ Keeps w w' [] := by
  have hmf : ∀ (fn : Fn) (first cap : Array Value) (w : World), (Instr.makeFunc fn first cap).run Try.prog w = .ok (.func fn first cap) w := fun _ _ _ _ => rfl
  have hb : (((len : Nat) : Int) == 256) = false := by simp; omega
  clear h
  go_enter_defers Try.func14, Try.ntmps14
  go_wp2_with (go_at_call 36; refine (must_no _ _).mono ?_; rintro e w1 ⟨rfl, rfl⟩)
  obtain ⟨W, hW, r2, r3, r4, hk, _⟩ := look_boxes w
  rw [← hW]
  exact look_door w W _ _ _ _ 2 _ _ _ _ _ _ rfl rfl rfl r2 r3 r4 hk (by omega) (by omega) (by omega)
end Go.Proofs.Ythepcoifcoinoaa
