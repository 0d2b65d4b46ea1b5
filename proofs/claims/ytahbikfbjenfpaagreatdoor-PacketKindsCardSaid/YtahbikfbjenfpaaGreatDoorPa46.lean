/- The law PacketKinds. -/
import Derived.Test.YtahbikfbjenfpaaGreatDoorPa41
import Derived.Test.YtahbikfbjenfpaaGreatDoorPa44
import Derived.Test.YtahbikfbjenfpaaGreatDoorPa45

namespace Go.Proofs.YtahbikfbjenfpaaGreatDoor
open Go.RowKit Go.Shelf

/-- The names as the statement lists them. -/
abbrev nmA : Array Value := #[.string ⟨#[99, 111, 110, 110, 101, 99, 116]⟩, .string ⟨#[99, 111, 110, 110, 97, 99, 107]⟩, .string ⟨#[112, 117, 98, 108, 105, 115, 104]⟩, .string ⟨#[112, 117, 98, 97, 99, 107]⟩, .string ⟨#[112, 117, 98, 114, 101, 99]⟩, .string ⟨#[112, 117, 98, 114, 101, 108]⟩, .string ⟨#[112, 117, 98, 99, 111, 109, 112]⟩, .string ⟨#[115, 117, 98, 115, 99, 114, 105, 98, 101]⟩, .string ⟨#[115, 117, 98, 97, 99, 107]⟩, .string ⟨#[117, 110, 115, 117, 98, 115, 99, 114, 105, 98, 101]⟩, .string ⟨#[117, 110, 115, 117, 98, 97, 99, 107]⟩, .string ⟨#[112, 105, 110, 103, 114, 101, 113]⟩, .string ⟨#[112, 105, 110, 103, 114, 101, 115, 112]⟩, .string ⟨#[100, 105, 115, 99, 111, 110, 110, 101, 99, 116]⟩]
theorem nm_at {n : Nat} (h : n < 14) : nmA[n]? = some (.string ⟨(pkText ((n : Int) + 1)).toArray⟩) := by
 obtain rfl | rfl | rfl | rfl | rfl | rfl | rfl | rfl | rfl | rfl | rfl | rfl | rfl | rfl : n = 0 ∨ n = 1 ∨ n = 2 ∨ n = 3 ∨ n = 4 ∨ n = 5 ∨ n = 6 ∨ n = 7 ∨ n = 8 ∨ n = 9 ∨ n = 10 ∨ n = 11 ∨ n = 12 ∨ n = 13 := by omega
 all_goals rfl
/-- What the statement asks. -/
structure KindsIn (w : World) (p q : Pk) (X Y : Array Value) : Prop where
 a1 : PkA w p X
 a2 : PkA w q Y
 kn : ∀ W, Keeps w W [] → Calls Tryz.prog 10 #[] W (TruePost W true)
 s1 : ∀ W, Keeps w W [] → PkFewP p → Calls Tryz.prog 17 #[.agg X, .agg Y] W (TruePost W (decide (p = q)))
 s2 : ∀ W, Keeps w W [] → PkFewP p → Calls Tryz.prog 16 #[.agg X, .agg Y] W (TruePost W (decide (p = q)))
 s3 : ∀ W, Keeps w W [] → PkFewP p → Calls Tryz.prog 17 #[.agg X, .agg X] W (TruePost W true)
set_option maxRecDepth 100000 in
set_option maxHeartbeats 8000000 in
theorem kinds_walk (k : Int) (p q : Pk) (X Y : Array Value) (w : World) (h : KindsIn w p q X Y) : Calls Tryz.prog 8 #[.int .i64 k, .agg X, .agg Y] w (TruePost w true) := by
 have HI := Lib.hid h
 have H1 := Lib.hid h.a1
 have H2 := Lib.hid h.a2
 have HKN := Lib.hid h.kn
 clear h
 go_enter Tryz.func8, Tryz.ntmps8
 go_upto_region 1 with fail
 have HS := Lib.hid (show TwoSt w ((w.alloc (.cells X 29)).alloc (.cells Y 29)) w.heap.size (w.heap.size + 1) X Y from ⟨(Keeps.alloc _ _).then_alloc _, (Row.new _ _ _).alloc _, by have := Row.new (w.alloc (.cells X 29)) 29 Y; rwa [World.size_alloc] at this⟩)
 generalize (w.alloc (.cells X 29)).alloc (.cells Y 29) = W0 at HS ⊢
 go_wp2_with (first | (refine wpList_loadX (by kernel_rfl) rfl rfl HS.out.r1 Tryz.underlying29 rfl H1.out.sz ?_) | (refine wpList_loadX (by kernel_rfl) rfl rfl HS.out.r2 Tryz.underlying29 rfl H2.out.sz ?_))
 refine (H1.out.few _ HS.out.k).mono ?_
 rintro e w1 ⟨hk, ⟨hf1, rfl⟩ | ⟨hf1, rfl⟩⟩
 case inr =>
  replace HS := Lib.hid (HS.out.go hk)
  clear hk hf1
  go_wp2_with fail
  refine (HKN.out _ HS.out.k).mono ?_
  rintro e w9 ⟨rfl, hk⟩
  replace HS := Lib.hid (HS.out.go hk)
  clear hk
  go_wp2_with fail
  go_ret
  exact ⟨rfl, HS.out.k⟩
 have HF1 := Lib.hid hf1
 replace HS := Lib.hid (HS.out.go hk)
 clear hk hf1
 go_wp2_with (first | (refine wpList_loadX (by kernel_rfl) rfl rfl HS.out.r1 Tryz.underlying29 rfl H1.out.sz ?_) | (refine wpList_loadX (by kernel_rfl) rfl rfl HS.out.r2 Tryz.underlying29 rfl H2.out.sz ?_))
 refine (H2.out.few _ HS.out.k).mono ?_
 rintro e w2 ⟨hk, ⟨hf2, rfl⟩ | ⟨hf2, rfl⟩⟩
 case inr =>
  replace HS := Lib.hid (HS.out.go hk)
  clear hk hf2
  go_wp2_with fail
  refine (HKN.out _ HS.out.k).mono ?_
  rintro e w9 ⟨rfl, hk⟩
  replace HS := Lib.hid (HS.out.go hk)
  clear hk
  go_wp2_with fail
  go_ret
  exact ⟨rfl, HS.out.k⟩
 replace HS := Lib.hid (HS.out.go hk)
 clear hk hf2 H1 H2 HKN
 go_upto_region 4 with fail
 obtain ⟨V, hV⟩ : ∃ V, w2.alloc (.cells nmA 9) = V := ⟨_, rfl⟩
 have kv : Keeps w2 V [] := by rw [← hV]; exact Keeps.alloc _ _
 have rv : Row V w2.heap.size 9 nmA := by rw [← hV]; exact Row.new _ _ _
 try rw [hV]
 obtain ⟨g, hg⟩ : ∃ g, w2.heap.size = g := ⟨_, rfl⟩
 rw [hg] at rv ⊢
 replace HS := Lib.hid (HS.out.go kv)
 have HRV := Lib.hid rv
 clear kv rv hV hg
 by_cases hin : 1 ≤ k ∧ k ≤ 14
 ·obtain ⟨n, rfl⟩ : ∃ n : Nat, k = (n : Int) + 1 := ⟨(k - 1).toNat, by omega⟩
  have hn : n < 14 := by omega
  have hc := fun (W : World) (hk : Keeps V W []) => ((HRV.out.keeps hk).cell n).trans (nm_at hn)
  have hT := pkText_any ((n : Int) + 1) V
  rw [show pkTextE ((n : Int) + 1) = 0 from if_pos hin] at hT
  obtain ⟨S, hS⟩ : ∃ S : ByteArray, S = ⟨(pkText ((n : Int) + 1)).toArray⟩ := ⟨_, rfl⟩
  rw [← hS] at hT
  rw [← hS] at hc
  clear hS
  go_wp2_with fail
  refine hT.mono ?_
  rintro e w3 ⟨rfl, hk⟩
  replace HS := Lib.hid (HS.out.go hk)
  have m := hc w3 hk
  clear hk hc hT
  have x1 : (1 : Int) ≤ (n : Int) + 1 := by omega
  have x2 : (n : Int) + 1 ≤ 14 := by omega
  have x3 : IntKind.i64.wrap ((n : Int) + 1 - 1) = (n : Int) := by rw [show (n : Int) + 1 - 1 = n by omega]; exact IntWalk.i64_in _ ⟨by omega, by omega⟩
  go_upto_region 8 with fail
  obtain ⟨k, hk⟩ : ∃ k, (n : Int) + 1 = k := ⟨_, rfl⟩
  rw [hk] at x1 x2 hin ⊢
  clear x3 m hk hn
  have b6 := x1
  clear b6
  by_cases q1 : k = 1
  ·have b1 : (k == 1) = true := by simpa using q1
   have HAS := Lib.hid (show pkAsks k = true by subst q1; rfl)
   clear q1 x1 x2
   go_upto_region 9 with fail
   obtain ⟨S, hS⟩ : ∃ S, decide (p = q) = S := ⟨_, rfl⟩
   have C1 := Lib.hid (show ∀ W, Keeps w W [] → Calls Tryz.prog 17 #[.agg X, .agg Y] W (TruePost W S) from fun W hk => by rw [← hS]; exact HI.out.s1 W hk HF1.out)
   have C2 := Lib.hid (show ∀ W, Keeps w W [] → Calls Tryz.prog 16 #[.agg X, .agg Y] W (TruePost W S) from fun W hk => by rw [← hS]; exact HI.out.s2 W hk HF1.out)
   clear hS
   refine wp_region_keeps _ (by kernel_rfl) rfl (by kernel_rfl) ?_
   refine lq (.int .i64 k) ?_
   refine lc 20 #[.int .i64 k] (.bool true) (fun W _ => by have h := pkAsks_any k W; rw [HAS.out] at h; exact h) ?_
   iterate 3
    refine lq (.bool true) ?_
   refine lx (fun W hW => HS.out.r1.keeps hW) Tryz.underlying29 HI.out.a1.sz ?_
   refine lx (fun W hW => HS.out.r2.keeps hW) Tryz.underlying29 HI.out.a2.sz ?_
   refine lc 17 #[.agg X, .agg Y] (.bool S) (fun W hW => C1.out W (HS.out.k.then_ hW)) ?_
   refine lx (fun W hW => HS.out.r1.keeps hW) Tryz.underlying29 HI.out.a1.sz ?_
   refine lx (fun W hW => HS.out.r2.keeps hW) Tryz.underlying29 HI.out.a2.sz ?_
   refine lc 16 #[.agg X, .agg Y] (.bool S) (fun W hW => C2.out W (HS.out.k.then_ hW)) ?_
   refine lq (.bool true) ?_ (h := by intro _ _; cases S <;> kernel_rfl)
   iterate 2
    refine lq (.bool true) ?_
   iterate 2
    refine lx (fun W hW => HS.out.r1.keeps hW) Tryz.underlying29 HI.out.a1.sz ?_
   refine lc 17 #[.agg X, .agg X] (.bool true) (fun W hW => HI.out.s3 W (HS.out.k.then_ hW) HF1.out) ?_
   iterate 2
    refine lq (.bool true) ?_
   refine lc 10 #[] (.bool true) (fun W hW => HI.out.kn W (HS.out.k.then_ hW)) ?_
   iterate 2
    refine lq (.bool true) ?_
   refine loose_nil (fun W vals hW hkn => ?_)
   simp only [addEnt, knowsAll] at hkn
   try simp only [and_true] at hkn
   simp only [addEnt, fill, Act.put, List.setIfInBounds_toArray, List.set_cons_succ, List.set_cons_zero]
   clear hkn
   replace HS := Lib.hid (HS.out.go hW)
   clear hW
   go_wp2_with fail
   go_ret
   exact ⟨rfl, HS.out.k⟩
  have b1 : (k == 1) = false := by simpa using q1
  by_cases q2 : 3 ≤ k ∧ k ≤ 8
  ·have b2 : decide (k ≥ 3) = true := by simp; omega
   have b3 : decide (k ≤ 8) = true := by simp; omega
   have HAS := Lib.hid (show pkAsks k = true by
    obtain rfl | rfl | rfl | rfl | rfl | rfl : k = 3 ∨ k = 4 ∨ k = 5 ∨ k = 6 ∨ k = 7 ∨ k = 8 := by omega
    all_goals rfl)
   clear q1 q2 x1 x2
   go_upto_region 9 with fail
   obtain ⟨S, hS⟩ : ∃ S, decide (p = q) = S := ⟨_, rfl⟩
   have C1 := Lib.hid (show ∀ W, Keeps w W [] → Calls Tryz.prog 17 #[.agg X, .agg Y] W (TruePost W S) from fun W hk => by rw [← hS]; exact HI.out.s1 W hk HF1.out)
   have C2 := Lib.hid (show ∀ W, Keeps w W [] → Calls Tryz.prog 16 #[.agg X, .agg Y] W (TruePost W S) from fun W hk => by rw [← hS]; exact HI.out.s2 W hk HF1.out)
   clear hS
   refine wp_region_keeps _ (by kernel_rfl) rfl (by kernel_rfl) ?_
   refine lq (.int .i64 k) ?_
   refine lc 20 #[.int .i64 k] (.bool true) (fun W _ => by have h := pkAsks_any k W; rw [HAS.out] at h; exact h) ?_
   iterate 3
    refine lq (.bool true) ?_
   refine lx (fun W hW => HS.out.r1.keeps hW) Tryz.underlying29 HI.out.a1.sz ?_
   refine lx (fun W hW => HS.out.r2.keeps hW) Tryz.underlying29 HI.out.a2.sz ?_
   refine lc 17 #[.agg X, .agg Y] (.bool S) (fun W hW => C1.out W (HS.out.k.then_ hW)) ?_
   refine lx (fun W hW => HS.out.r1.keeps hW) Tryz.underlying29 HI.out.a1.sz ?_
   refine lx (fun W hW => HS.out.r2.keeps hW) Tryz.underlying29 HI.out.a2.sz ?_
   refine lc 16 #[.agg X, .agg Y] (.bool S) (fun W hW => C2.out W (HS.out.k.then_ hW)) ?_
   refine lq (.bool true) ?_ (h := by intro _ _; cases S <;> kernel_rfl)
   iterate 2
    refine lq (.bool true) ?_
   iterate 2
    refine lx (fun W hW => HS.out.r1.keeps hW) Tryz.underlying29 HI.out.a1.sz ?_
   refine lc 17 #[.agg X, .agg X] (.bool true) (fun W hW => HI.out.s3 W (HS.out.k.then_ hW) HF1.out) ?_
   iterate 2
    refine lq (.bool true) ?_
   refine lc 10 #[] (.bool true) (fun W hW => HI.out.kn W (HS.out.k.then_ hW)) ?_
   iterate 2
    refine lq (.bool true) ?_
   refine loose_nil (fun W vals hW hkn => ?_)
   simp only [addEnt, knowsAll] at hkn
   try simp only [and_true] at hkn
   simp only [addEnt, fill, Act.put, List.setIfInBounds_toArray, List.set_cons_succ, List.set_cons_zero]
   clear hkn
   replace HS := Lib.hid (HS.out.go hW)
   clear hW
   go_wp2_with fail
   go_ret
   exact ⟨rfl, HS.out.k⟩
  by_cases q3 : k = 10
  ·have b2 : decide (k ≥ 3) = true := by simp; omega
   have b3 : decide (k ≤ 8) = false := by simp; omega
   have b4 : (k == 10) = true := by simpa using q3
   have HAS := Lib.hid (show pkAsks k = true by subst q3; rfl)
   clear q1 q2 q3 x1 x2
   go_upto_region 9 with fail
   obtain ⟨S, hS⟩ : ∃ S, decide (p = q) = S := ⟨_, rfl⟩
   have C1 := Lib.hid (show ∀ W, Keeps w W [] → Calls Tryz.prog 17 #[.agg X, .agg Y] W (TruePost W S) from fun W hk => by rw [← hS]; exact HI.out.s1 W hk HF1.out)
   have C2 := Lib.hid (show ∀ W, Keeps w W [] → Calls Tryz.prog 16 #[.agg X, .agg Y] W (TruePost W S) from fun W hk => by rw [← hS]; exact HI.out.s2 W hk HF1.out)
   clear hS
   refine wp_region_keeps _ (by kernel_rfl) rfl (by kernel_rfl) ?_
   refine lq (.int .i64 k) ?_
   refine lc 20 #[.int .i64 k] (.bool true) (fun W _ => by have h := pkAsks_any k W; rw [HAS.out] at h; exact h) ?_
   iterate 3
    refine lq (.bool true) ?_
   refine lx (fun W hW => HS.out.r1.keeps hW) Tryz.underlying29 HI.out.a1.sz ?_
   refine lx (fun W hW => HS.out.r2.keeps hW) Tryz.underlying29 HI.out.a2.sz ?_
   refine lc 17 #[.agg X, .agg Y] (.bool S) (fun W hW => C1.out W (HS.out.k.then_ hW)) ?_
   refine lx (fun W hW => HS.out.r1.keeps hW) Tryz.underlying29 HI.out.a1.sz ?_
   refine lx (fun W hW => HS.out.r2.keeps hW) Tryz.underlying29 HI.out.a2.sz ?_
   refine lc 16 #[.agg X, .agg Y] (.bool S) (fun W hW => C2.out W (HS.out.k.then_ hW)) ?_
   refine lq (.bool true) ?_ (h := by intro _ _; cases S <;> kernel_rfl)
   iterate 2
    refine lq (.bool true) ?_
   iterate 2
    refine lx (fun W hW => HS.out.r1.keeps hW) Tryz.underlying29 HI.out.a1.sz ?_
   refine lc 17 #[.agg X, .agg X] (.bool true) (fun W hW => HI.out.s3 W (HS.out.k.then_ hW) HF1.out) ?_
   iterate 2
    refine lq (.bool true) ?_
   refine lc 10 #[] (.bool true) (fun W hW => HI.out.kn W (HS.out.k.then_ hW)) ?_
   iterate 2
    refine lq (.bool true) ?_
   refine loose_nil (fun W vals hW hkn => ?_)
   simp only [addEnt, knowsAll] at hkn
   try simp only [and_true] at hkn
   simp only [addEnt, fill, Act.put, List.setIfInBounds_toArray, List.set_cons_succ, List.set_cons_zero]
   clear hkn
   replace HS := Lib.hid (HS.out.go hW)
   clear hW
   go_wp2_with fail
   go_ret
   exact ⟨rfl, HS.out.k⟩
  have b4 : (k == 10) = false := by simpa using q3
  by_cases q4 : k = 12
  ·have b2 : decide (k ≥ 3) = true := by simp; omega
   have b3 : decide (k ≤ 8) = false := by simp; omega
   have b5 : (k == 12) = true := by simpa using q4
   have HAS := Lib.hid (show pkAsks k = true by subst q4; rfl)
   clear q1 q2 q3 q4 x1 x2
   go_upto_region 9 with fail
   obtain ⟨S, hS⟩ : ∃ S, decide (p = q) = S := ⟨_, rfl⟩
   have C1 := Lib.hid (show ∀ W, Keeps w W [] → Calls Tryz.prog 17 #[.agg X, .agg Y] W (TruePost W S) from fun W hk => by rw [← hS]; exact HI.out.s1 W hk HF1.out)
   have C2 := Lib.hid (show ∀ W, Keeps w W [] → Calls Tryz.prog 16 #[.agg X, .agg Y] W (TruePost W S) from fun W hk => by rw [← hS]; exact HI.out.s2 W hk HF1.out)
   clear hS
   refine wp_region_keeps _ (by kernel_rfl) rfl (by kernel_rfl) ?_
   refine lq (.int .i64 k) ?_
   refine lc 20 #[.int .i64 k] (.bool true) (fun W _ => by have h := pkAsks_any k W; rw [HAS.out] at h; exact h) ?_
   iterate 3
    refine lq (.bool true) ?_
   refine lx (fun W hW => HS.out.r1.keeps hW) Tryz.underlying29 HI.out.a1.sz ?_
   refine lx (fun W hW => HS.out.r2.keeps hW) Tryz.underlying29 HI.out.a2.sz ?_
   refine lc 17 #[.agg X, .agg Y] (.bool S) (fun W hW => C1.out W (HS.out.k.then_ hW)) ?_
   refine lx (fun W hW => HS.out.r1.keeps hW) Tryz.underlying29 HI.out.a1.sz ?_
   refine lx (fun W hW => HS.out.r2.keeps hW) Tryz.underlying29 HI.out.a2.sz ?_
   refine lc 16 #[.agg X, .agg Y] (.bool S) (fun W hW => C2.out W (HS.out.k.then_ hW)) ?_
   refine lq (.bool true) ?_ (h := by intro _ _; cases S <;> kernel_rfl)
   iterate 2
    refine lq (.bool true) ?_
   iterate 2
    refine lx (fun W hW => HS.out.r1.keeps hW) Tryz.underlying29 HI.out.a1.sz ?_
   refine lc 17 #[.agg X, .agg X] (.bool true) (fun W hW => HI.out.s3 W (HS.out.k.then_ hW) HF1.out) ?_
   iterate 2
    refine lq (.bool true) ?_
   refine lc 10 #[] (.bool true) (fun W hW => HI.out.kn W (HS.out.k.then_ hW)) ?_
   iterate 2
    refine lq (.bool true) ?_
   refine loose_nil (fun W vals hW hkn => ?_)
   simp only [addEnt, knowsAll] at hkn
   try simp only [and_true] at hkn
   simp only [addEnt, fill, Act.put, List.setIfInBounds_toArray, List.set_cons_succ, List.set_cons_zero]
   clear hkn
   replace HS := Lib.hid (HS.out.go hW)
   clear hW
   go_wp2_with fail
   go_ret
   exact ⟨rfl, HS.out.k⟩
  have b5 : (k == 12) = false := by simpa using q4
  by_cases q5 : k = 14
  ·have b2 : decide (k ≥ 3) = true := by simp; omega
   have b3 : decide (k ≤ 8) = false := by simp; omega
   have b6 : (k == 14) = true := by simpa using q5
   have HAS := Lib.hid (show pkAsks k = true by subst q5; rfl)
   clear q1 q2 q3 q4 q5 x1 x2
   go_upto_region 9 with fail
   obtain ⟨S, hS⟩ : ∃ S, decide (p = q) = S := ⟨_, rfl⟩
   have C1 := Lib.hid (show ∀ W, Keeps w W [] → Calls Tryz.prog 17 #[.agg X, .agg Y] W (TruePost W S) from fun W hk => by rw [← hS]; exact HI.out.s1 W hk HF1.out)
   have C2 := Lib.hid (show ∀ W, Keeps w W [] → Calls Tryz.prog 16 #[.agg X, .agg Y] W (TruePost W S) from fun W hk => by rw [← hS]; exact HI.out.s2 W hk HF1.out)
   clear hS
   refine wp_region_keeps _ (by kernel_rfl) rfl (by kernel_rfl) ?_
   refine lq (.int .i64 k) ?_
   refine lc 20 #[.int .i64 k] (.bool true) (fun W _ => by have h := pkAsks_any k W; rw [HAS.out] at h; exact h) ?_
   iterate 3
    refine lq (.bool true) ?_
   refine lx (fun W hW => HS.out.r1.keeps hW) Tryz.underlying29 HI.out.a1.sz ?_
   refine lx (fun W hW => HS.out.r2.keeps hW) Tryz.underlying29 HI.out.a2.sz ?_
   refine lc 17 #[.agg X, .agg Y] (.bool S) (fun W hW => C1.out W (HS.out.k.then_ hW)) ?_
   refine lx (fun W hW => HS.out.r1.keeps hW) Tryz.underlying29 HI.out.a1.sz ?_
   refine lx (fun W hW => HS.out.r2.keeps hW) Tryz.underlying29 HI.out.a2.sz ?_
   refine lc 16 #[.agg X, .agg Y] (.bool S) (fun W hW => C2.out W (HS.out.k.then_ hW)) ?_
   refine lq (.bool true) ?_ (h := by intro _ _; cases S <;> kernel_rfl)
   iterate 2
    refine lq (.bool true) ?_
   iterate 2
    refine lx (fun W hW => HS.out.r1.keeps hW) Tryz.underlying29 HI.out.a1.sz ?_
   refine lc 17 #[.agg X, .agg X] (.bool true) (fun W hW => HI.out.s3 W (HS.out.k.then_ hW) HF1.out) ?_
   iterate 2
    refine lq (.bool true) ?_
   refine lc 10 #[] (.bool true) (fun W hW => HI.out.kn W (HS.out.k.then_ hW)) ?_
   iterate 2
    refine lq (.bool true) ?_
   refine loose_nil (fun W vals hW hkn => ?_)
   simp only [addEnt, knowsAll] at hkn
   try simp only [and_true] at hkn
   simp only [addEnt, fill, Act.put, List.setIfInBounds_toArray, List.set_cons_succ, List.set_cons_zero]
   clear hkn
   replace HS := Lib.hid (HS.out.go hW)
   clear hW
   go_wp2_with fail
   go_ret
   exact ⟨rfl, HS.out.k⟩
  have b6 : (k == 14) = false := by simpa using q5
  have HAS := Lib.hid (show pkAsks k = false by
   obtain rfl | rfl | rfl | rfl : k = 2 ∨ k = 9 ∨ k = 11 ∨ k = 13 := by omega
   all_goals rfl)
  by_cases q6 : 3 ≤ k
  ·have b2 : decide (k ≥ 3) = true := by simp; omega
   have b3 : decide (k ≤ 8) = false := by simp; omega
   clear q1 q2 q3 q4 q5 q6 x1 x2
   go_upto_region 9 with fail
   obtain ⟨S, hS⟩ : ∃ S, decide (p = q) = S := ⟨_, rfl⟩
   have C1 := Lib.hid (show ∀ W, Keeps w W [] → Calls Tryz.prog 17 #[.agg X, .agg Y] W (TruePost W S) from fun W hk => by rw [← hS]; exact HI.out.s1 W hk HF1.out)
   have C2 := Lib.hid (show ∀ W, Keeps w W [] → Calls Tryz.prog 16 #[.agg X, .agg Y] W (TruePost W S) from fun W hk => by rw [← hS]; exact HI.out.s2 W hk HF1.out)
   clear hS
   refine wp_region_keeps _ (by kernel_rfl) rfl (by kernel_rfl) ?_
   refine lq (.int .i64 k) ?_
   refine lc 20 #[.int .i64 k] (.bool false) (fun W _ => by have h := pkAsks_any k W; rw [HAS.out] at h; exact h) ?_
   refine lq (.bool false) ?_
   iterate 2
    refine lq (.bool true) ?_
   refine lx (fun W hW => HS.out.r1.keeps hW) Tryz.underlying29 HI.out.a1.sz ?_
   refine lx (fun W hW => HS.out.r2.keeps hW) Tryz.underlying29 HI.out.a2.sz ?_
   refine lc 17 #[.agg X, .agg Y] (.bool S) (fun W hW => C1.out W (HS.out.k.then_ hW)) ?_
   refine lx (fun W hW => HS.out.r1.keeps hW) Tryz.underlying29 HI.out.a1.sz ?_
   refine lx (fun W hW => HS.out.r2.keeps hW) Tryz.underlying29 HI.out.a2.sz ?_
   refine lc 16 #[.agg X, .agg Y] (.bool S) (fun W hW => C2.out W (HS.out.k.then_ hW)) ?_
   refine lq (.bool true) ?_ (h := by intro _ _; cases S <;> kernel_rfl)
   iterate 2
    refine lq (.bool true) ?_
   iterate 2
    refine lx (fun W hW => HS.out.r1.keeps hW) Tryz.underlying29 HI.out.a1.sz ?_
   refine lc 17 #[.agg X, .agg X] (.bool true) (fun W hW => HI.out.s3 W (HS.out.k.then_ hW) HF1.out) ?_
   iterate 2
    refine lq (.bool true) ?_
   refine lc 10 #[] (.bool true) (fun W hW => HI.out.kn W (HS.out.k.then_ hW)) ?_
   iterate 2
    refine lq (.bool true) ?_
   refine loose_nil (fun W vals hW hkn => ?_)
   simp only [addEnt, knowsAll] at hkn
   try simp only [and_true] at hkn
   simp only [addEnt, fill, Act.put, List.setIfInBounds_toArray, List.set_cons_succ, List.set_cons_zero]
   clear hkn
   replace HS := Lib.hid (HS.out.go hW)
   clear hW
   go_wp2_with fail
   go_ret
   exact ⟨rfl, HS.out.k⟩
  ·have b2 : decide (k ≥ 3) = false := by simp; omega
   clear q1 q2 q3 q4 q5 q6 x1 x2
   go_upto_region 9 with fail
   obtain ⟨S, hS⟩ : ∃ S, decide (p = q) = S := ⟨_, rfl⟩
   have C1 := Lib.hid (show ∀ W, Keeps w W [] → Calls Tryz.prog 17 #[.agg X, .agg Y] W (TruePost W S) from fun W hk => by rw [← hS]; exact HI.out.s1 W hk HF1.out)
   have C2 := Lib.hid (show ∀ W, Keeps w W [] → Calls Tryz.prog 16 #[.agg X, .agg Y] W (TruePost W S) from fun W hk => by rw [← hS]; exact HI.out.s2 W hk HF1.out)
   clear hS
   refine wp_region_keeps _ (by kernel_rfl) rfl (by kernel_rfl) ?_
   refine lq (.int .i64 k) ?_
   refine lc 20 #[.int .i64 k] (.bool false) (fun W _ => by have h := pkAsks_any k W; rw [HAS.out] at h; exact h) ?_
   refine lq (.bool false) ?_
   iterate 2
    refine lq (.bool true) ?_
   refine lx (fun W hW => HS.out.r1.keeps hW) Tryz.underlying29 HI.out.a1.sz ?_
   refine lx (fun W hW => HS.out.r2.keeps hW) Tryz.underlying29 HI.out.a2.sz ?_
   refine lc 17 #[.agg X, .agg Y] (.bool S) (fun W hW => C1.out W (HS.out.k.then_ hW)) ?_
   refine lx (fun W hW => HS.out.r1.keeps hW) Tryz.underlying29 HI.out.a1.sz ?_
   refine lx (fun W hW => HS.out.r2.keeps hW) Tryz.underlying29 HI.out.a2.sz ?_
   refine lc 16 #[.agg X, .agg Y] (.bool S) (fun W hW => C2.out W (HS.out.k.then_ hW)) ?_
   refine lq (.bool true) ?_ (h := by intro _ _; cases S <;> kernel_rfl)
   iterate 2
    refine lq (.bool true) ?_
   iterate 2
    refine lx (fun W hW => HS.out.r1.keeps hW) Tryz.underlying29 HI.out.a1.sz ?_
   refine lc 17 #[.agg X, .agg X] (.bool true) (fun W hW => HI.out.s3 W (HS.out.k.then_ hW) HF1.out) ?_
   iterate 2
    refine lq (.bool true) ?_
   refine lc 10 #[] (.bool true) (fun W hW => HI.out.kn W (HS.out.k.then_ hW)) ?_
   iterate 2
    refine lq (.bool true) ?_
   refine loose_nil (fun W vals hW hkn => ?_)
   simp only [addEnt, knowsAll] at hkn
   try simp only [and_true] at hkn
   simp only [addEnt, fill, Act.put, List.setIfInBounds_toArray, List.set_cons_succ, List.set_cons_zero]
   clear hkn
   replace HS := Lib.hid (HS.out.go hW)
   clear hW
   go_wp2_with fail
   go_ret
   exact ⟨rfl, HS.out.k⟩
 ·have hT := pkText_any k V
  rw [show pkTextE k = 2 from if_neg hin, show pkText k = [] from if_neg hin] at hT
  go_wp2_with fail
  refine hT.mono ?_
  rintro e w3 ⟨rfl, hk⟩
  replace HS := Lib.hid (HS.out.go hk)
  clear hk hT
  have HAS := Lib.hid (show pkAsks k = false by
   unfold pkAsks
   rw [decide_eq_false hin]
   rfl)
  have b1 : (k == 1) = false := by
   have : ¬ k = 1 := by omega
   simpa using this
  have b4 : (k == 10) = false := by
   have : ¬ k = 10 := by omega
   simpa using this
  have b5 : (k == 12) = false := by
   have : ¬ k = 12 := by omega
   simpa using this
  have b6 : (k == 14) = false := by
   have : ¬ k = 14 := by omega
   simpa using this
  by_cases q6 : 1 ≤ k
  ·have b2 : decide (k ≥ 3) = true := by simp; omega
   have b3 : decide (k ≤ 8) = false := by simp; omega
   have b7 : decide (k ≥ 1) = true := by simp; omega
   have b8 : decide (k ≤ 14) = false := by simp; omega
   clear q6 hin
   go_upto_region 9 with fail
   obtain ⟨S, hS⟩ : ∃ S, decide (p = q) = S := ⟨_, rfl⟩
   have C1 := Lib.hid (show ∀ W, Keeps w W [] → Calls Tryz.prog 17 #[.agg X, .agg Y] W (TruePost W S) from fun W hk => by rw [← hS]; exact HI.out.s1 W hk HF1.out)
   have C2 := Lib.hid (show ∀ W, Keeps w W [] → Calls Tryz.prog 16 #[.agg X, .agg Y] W (TruePost W S) from fun W hk => by rw [← hS]; exact HI.out.s2 W hk HF1.out)
   clear hS
   refine wp_region_keeps _ (by kernel_rfl) rfl (by kernel_rfl) ?_
   refine lq (.int .i64 k) ?_
   refine lc 20 #[.int .i64 k] (.bool false) (fun W _ => by have h := pkAsks_any k W; rw [HAS.out] at h; exact h) ?_
   refine lq (.bool false) ?_
   iterate 2
    refine lq (.bool true) ?_
   refine lx (fun W hW => HS.out.r1.keeps hW) Tryz.underlying29 HI.out.a1.sz ?_
   refine lx (fun W hW => HS.out.r2.keeps hW) Tryz.underlying29 HI.out.a2.sz ?_
   refine lc 17 #[.agg X, .agg Y] (.bool S) (fun W hW => C1.out W (HS.out.k.then_ hW)) ?_
   refine lx (fun W hW => HS.out.r1.keeps hW) Tryz.underlying29 HI.out.a1.sz ?_
   refine lx (fun W hW => HS.out.r2.keeps hW) Tryz.underlying29 HI.out.a2.sz ?_
   refine lc 16 #[.agg X, .agg Y] (.bool S) (fun W hW => C2.out W (HS.out.k.then_ hW)) ?_
   refine lq (.bool true) ?_ (h := by intro _ _; cases S <;> kernel_rfl)
   iterate 2
    refine lq (.bool true) ?_
   iterate 2
    refine lx (fun W hW => HS.out.r1.keeps hW) Tryz.underlying29 HI.out.a1.sz ?_
   refine lc 17 #[.agg X, .agg X] (.bool true) (fun W hW => HI.out.s3 W (HS.out.k.then_ hW) HF1.out) ?_
   iterate 2
    refine lq (.bool true) ?_
   refine lc 10 #[] (.bool true) (fun W hW => HI.out.kn W (HS.out.k.then_ hW)) ?_
   iterate 2
    refine lq (.bool true) ?_
   refine loose_nil (fun W vals hW hkn => ?_)
   simp only [addEnt, knowsAll] at hkn
   try simp only [and_true] at hkn
   simp only [addEnt, fill, Act.put, List.setIfInBounds_toArray, List.set_cons_succ, List.set_cons_zero]
   clear hkn
   replace HS := Lib.hid (HS.out.go hW)
   clear hW
   go_wp2_with fail
   go_ret
   exact ⟨rfl, HS.out.k⟩
  ·have b2 : decide (k ≥ 3) = false := by simp; omega
   have b7 : decide (k ≥ 1) = false := by simp; omega
   clear q6 hin
   go_upto_region 9 with fail
   obtain ⟨S, hS⟩ : ∃ S, decide (p = q) = S := ⟨_, rfl⟩
   have C1 := Lib.hid (show ∀ W, Keeps w W [] → Calls Tryz.prog 17 #[.agg X, .agg Y] W (TruePost W S) from fun W hk => by rw [← hS]; exact HI.out.s1 W hk HF1.out)
   have C2 := Lib.hid (show ∀ W, Keeps w W [] → Calls Tryz.prog 16 #[.agg X, .agg Y] W (TruePost W S) from fun W hk => by rw [← hS]; exact HI.out.s2 W hk HF1.out)
   clear hS
   refine wp_region_keeps _ (by kernel_rfl) rfl (by kernel_rfl) ?_
   refine lq (.int .i64 k) ?_
   refine lc 20 #[.int .i64 k] (.bool false) (fun W _ => by have h := pkAsks_any k W; rw [HAS.out] at h; exact h) ?_
   refine lq (.bool false) ?_
   iterate 2
    refine lq (.bool true) ?_
   refine lx (fun W hW => HS.out.r1.keeps hW) Tryz.underlying29 HI.out.a1.sz ?_
   refine lx (fun W hW => HS.out.r2.keeps hW) Tryz.underlying29 HI.out.a2.sz ?_
   refine lc 17 #[.agg X, .agg Y] (.bool S) (fun W hW => C1.out W (HS.out.k.then_ hW)) ?_
   refine lx (fun W hW => HS.out.r1.keeps hW) Tryz.underlying29 HI.out.a1.sz ?_
   refine lx (fun W hW => HS.out.r2.keeps hW) Tryz.underlying29 HI.out.a2.sz ?_
   refine lc 16 #[.agg X, .agg Y] (.bool S) (fun W hW => C2.out W (HS.out.k.then_ hW)) ?_
   refine lq (.bool true) ?_ (h := by intro _ _; cases S <;> kernel_rfl)
   iterate 2
    refine lq (.bool true) ?_
   iterate 2
    refine lx (fun W hW => HS.out.r1.keeps hW) Tryz.underlying29 HI.out.a1.sz ?_
   refine lc 17 #[.agg X, .agg X] (.bool true) (fun W hW => HI.out.s3 W (HS.out.k.then_ hW) HF1.out) ?_
   iterate 2
    refine lq (.bool true) ?_
   refine lc 10 #[] (.bool true) (fun W hW => HI.out.kn W (HS.out.k.then_ hW)) ?_
   iterate 2
    refine lq (.bool true) ?_
   refine loose_nil (fun W vals hW hkn => ?_)
   simp only [addEnt, knowsAll] at hkn
   try simp only [and_true] at hkn
   simp only [addEnt, fill, Act.put, List.setIfInBounds_toArray, List.set_cons_succ, List.set_cons_zero]
   clear hkn
   replace HS := Lib.hid (HS.out.go hW)
   clear hW
   go_wp2_with fail
   go_ret
   exact ⟨rfl, HS.out.k⟩
theorem packetKinds_any (k : Int) (p q : Pk) (sw sc sf sw1 sc1 sf1 : Value) (w : World) (hm : MaxL w) (h1 : PkL w p sw sc sf) (h2 : PkL w q sw1 sc1 sf1) (hk : -9223372036854775808 ≤ p.k ∧ p.k ≤ 9223372036854775807) (hk' : -9223372036854775808 ≤ q.k ∧ q.k ≤ 9223372036854775807)
  (hb : p.t.length + p.c.length + p.u.length ≤ 9223372036854775807) (hb' : q.t.length + q.c.length + q.u.length ≤ 9223372036854775807) : Calls Tryz.prog 8 #[.int .i64 k, pkV p sw sc sf, pkV q sw1 sc1 sf1] w (TruePost w true) :=
 kinds_walk k p q _ _ w ⟨PkA.of hm h1 hk.1 hk.2 hb rfl, PkA.of hm h2 hk'.1 hk'.2 hb' rfl, fun W hW => known16_any W (hm.keeps hW),
  fun W hW hf => pkSame_any p q sw sc sf sw1 sc1 sf1 W (h1.keeps hW) (h2.keeps hW) ⟨by have := hf.lw; omega, by have := hf.lc; omega, by have := hf.lf; omega⟩,
  fun W hW hf => refSame_any p q sw sc sf sw1 sc1 sf1 W (h1.keeps hW) (h2.keeps hW) ⟨by have := hf.lw; omega, by have := hf.lc; omega, by have := hf.lf; omega⟩,
  fun W hW hf => by have h := pkSame_any p p sw sc sf sw sc sf W (h1.keeps hW) (h1.keeps hW) ⟨by have := hf.lw; omega, by have := hf.lc; omega, by have := hf.lf; omega⟩; rw [decide_eq_true rfl] at h; exact h⟩
end Go.Proofs.YtahbikfbjenfpaaGreatDoor
