/- Packages of packets, plain: what the statements say of their bytes. The law PacketApart. -/
import Derived.Test.YtahbikfbjenfpaaGreatDoorPa13
import Derived.Test.YtahbikfbjenfpaaGreatDoorPa40

namespace Go.Proofs.YtahbikfbjenfpaaGreatDoor
open Go

theorem apart_take {p q : Pk} (hp : pkOk p = true) (hq : pkOk q = true) {n : Nat} (hn : n = min (pkRaw p).length (pkRaw q).length) : (pkRaw p).take n = (pkRaw q).take n ↔ p = q := by
 refine ⟨fun h => ?_, fun h => by rw [h]⟩
 rcases Nat.le_total (pkRaw p).length (pkRaw q).length with hle | hle
 ·rw [Nat.min_eq_left hle] at hn
  subst hn
  rw [List.take_length] at h
  refine (pk_apart hp hq (r := (pkRaw q).drop (pkRaw p).length) (r' := []) ?_ (.inr rfl)).1
  rw [List.append_nil]
  conv => lhs; lhs; rw [h]
  exact List.take_append_drop _ _
 ·rw [Nat.min_eq_right hle] at hn
  subst hn
  rw [List.take_length] at h
  refine (pk_apart hp hq (r := []) (r' := (pkRaw p).drop (pkRaw q).length) ?_ (.inl rfl)).1
  rw [List.append_nil]
  conv => rhs; lhs; rw [← h]
  exact (List.take_append_drop _ _).symm
/-- Dup and Retain turned. -/
def pkTurn (p : Pk) : Pk := { p with dup := !p.dup, ret := !p.ret }
/-- How many bytes differ. -/
def diffs : List UInt8 → List UInt8 → Nat
 | x :: l, y :: m => (if x = y then 0 else 1) + diffs l m
 | _, _ => 0
/-- With another ID. -/
def pkId2 (p : Pk) (n : Int) : Pk := { p with id := n }
/-- The lists of two, one behind the other. -/
def pkJoin (p q : Pk) : Pk := { p with wants := p.wants ++ q.wants, codes := p.codes ++ q.codes, fs := p.fs ++ q.fs }
def pkMuch (p : Pk) : Nat := p.wants.length + p.codes.length + p.fs.length
end Go.Proofs.YtahbikfbjenfpaaGreatDoor

namespace Go.Proofs.YtahbikfbjenfpaaGreatDoor
open Go.RowKit Go.Shelf

/-- A whole struct is read out of its box. -/
theorem wpList_loadX {P : Program} {Q : Exit → Act → World → Prop} {ops : Array Oper} {op : Oper} {rest : List Oper} {a : Act} {w : World} {ty : TypeId} {x : Operand} {b : Nat} {X : Array Value} {d : TypeDesc} (hw : Region.wanted op (yielded ops a.tmps) = true) (ho : op.op = .load ty x)
  (hx : a.eval x = .pointer (some ⟨b, 0, none⟩)) (hr : Row w b ty X) (hu : P.underlying ty = some d) (hd : d.isRow = true) (hi : (P.info? ty).map (·.size) = some X.size)
  (h : wpList P ops Q rest (a.put op.dst (.agg X)) w) : wpList P ops Q (op :: rest) a w :=
 wpList_loadg hw ty x ho b 0 hx X.toList d (range_row hr) hu hd (by rw [Array.length_toList]; exact hi) h
/-- What a packet does in few and in Raw. -/
structure PkA (w : World) (p : Pk) (X : Array Value) : Prop where
 sz : (Tryz.prog.info? 29).map (·.size) = some X.size
 few : ∀ W, Keeps w W [] → Calls Tryz.prog 9 #[.agg X] W (FewPost W p)
 raw : ∀ W, Keeps w W [] → PkFewP p → Calls Tryz.prog 11 #[.agg X] W (RawPost W p)
set_option maxRecDepth 100000 in
theorem PkA.of {w : World} {p : Pk} {sw sc sf : Value} (hm : MaxL w) (hl : PkL w p sw sc sf) (hk1 : -9223372036854775808 ≤ p.k) (hk2 : p.k ≤ 9223372036854775807) (hb : p.t.length + p.c.length + p.u.length ≤ 9223372036854775807) {X : Array Value} (hX : Value.agg X = pkV p sw sc sf) : PkA w p X := by
 refine ⟨?_, fun W hk => ?_, fun W hk hf => ?_⟩
 ·injection hX with hX
  rw [hX]
  kernel_rfl
 ·rw [hX]
  exact pkFew_any p sw sc sf W (hl.keeps hk) hb
 ·rw [hX]
  exact pkRaw_any p sw sc sf W (hl.keeps hk) hf.sm (hm.keeps hk) hk1 hk2
/-- What Raw answers, in parts. -/
theorem RawPost.parts {w w' : World} {p : Pk} {e : Ending} (h : RawPost w p e w') : ∃ A n c, ∃ z : Int, e = .returned (.tuple #[.slice A n c, .int .i64 z]) ∧ Keeps w w' [] ∧ ((pkOk p = true ∧ z = 0 ∧ n = (pkRaw p).length ∧ Owned w' w.heap.size (.slice A n c) (pkRaw p)) ∨ (pkOk p = false ∧ z = 2)) := by
 unfold RawPost at h
 split at h
 ·rename_i ho
  obtain ⟨v, rfl, hv, hk⟩ := h
  obtain ⟨A, c, rfl, _, _⟩ := own_slice hv
  exact ⟨A, _, c, 0, rfl, hk, .inl ⟨ho, rfl, rfl, hv⟩⟩
 ·rename_i ho
  obtain ⟨rfl, hk⟩ := h
  exact ⟨none, 0, 0, 2, rfl, hk, .inr ⟨by simpa using ho, rfl⟩⟩
theorem str_bytes (a : List UInt8) : (⟨a.toArray⟩ : ByteArray).toList = a := by rw [Lib.toList_data]
theorem pkRaw_pos (p : Pk) : 0 < (pkRaw p).length := by unfold pkRaw; simp
/-- What is known of two boxes. -/
structure TwoSt (w W : World) (a b : Nat) (X Y : Array Value) : Prop where
 k : Keeps w W []
 r1 : Row W a 29 X
 r2 : Row W b 29 Y
theorem TwoSt.go {w W W' : World} {a b : Nat} {X Y : Array Value} (h : TwoSt w W a b X Y) (hk : Keeps W W' []) : TwoSt w W' a b X Y := ⟨h.k.then_ hk, h.r1.keeps hk, h.r2.keeps hk⟩
set_option maxRecDepth 100000 in
set_option maxHeartbeats 4000000 in
theorem apart_walk (p q : Pk) (X Y : Array Value) (w : World) (hm : MaxL w) (h1 : PkA w p X) (h2 : PkA w q Y) (hs : ∀ W, Keeps w W [] → PkFewP p → Calls Tryz.prog 17 #[.agg X, .agg Y] W (TruePost W (decide (p = q)))) : Calls Tryz.prog 5 #[.agg X, .agg Y] w (TruePost w true) := by
 have HKN := Lib.hid (show ∀ W, Keeps w W [] → Calls Tryz.prog 10 #[] W (TruePost W true) from fun W hk => known16_any W (hm.keeps hk))
 have H1 := Lib.hid h1
 have H2 := Lib.hid h2
 have HSM := Lib.hid hs
 clear hm h1 h2 hs
 go_enter Tryz.func5, Tryz.ntmps5
 go_upto_region 1 with fail
 have HS := Lib.hid (show TwoSt w ((w.alloc (.cells X 29)).alloc (.cells Y 29)) w.heap.size (w.heap.size + 1) X Y from ⟨(Keeps.alloc _ _).then_alloc _, (Row.new _ _ _).alloc _, by have := Row.new (w.alloc (.cells X 29)) 29 Y; rwa [World.size_alloc] at this⟩)
 generalize (w.alloc (.cells X 29)).alloc (.cells Y 29) = W0 at HS ⊢
 go_wp2_with (first | (refine wpList_loadX (by kernel_rfl) rfl rfl HS.out.r1 Tryz.underlying29 rfl H1.out.sz ?_) | (refine wpList_loadX (by kernel_rfl) rfl rfl HS.out.r2 Tryz.underlying29 rfl H2.out.sz ?_))
 refine (H1.out.few _ HS.out.k).mono ?_
 rintro e w1 ⟨hk, ⟨hf1, rfl⟩ | ⟨hf1, rfl⟩⟩
 case inr =>
  replace HS := Lib.hid (HS.out.go hk)
  clear hk hf1
  go_wp2_with fail
  refine (HKN.out _ HS.out.k).mono ?_
  rintro e w9 ⟨rfl, hk⟩
  replace HS := Lib.hid (HS.out.go hk)
  clear hk
  go_wp2_with fail
  go_ret
  exact ⟨rfl, HS.out.k⟩
 have HF1 := Lib.hid hf1
 replace HS := Lib.hid (HS.out.go hk)
 clear hk hf1
 go_wp2_with (first | (refine wpList_loadX (by kernel_rfl) rfl rfl HS.out.r1 Tryz.underlying29 rfl H1.out.sz ?_) | (refine wpList_loadX (by kernel_rfl) rfl rfl HS.out.r2 Tryz.underlying29 rfl H2.out.sz ?_))
 refine (H2.out.few _ HS.out.k).mono ?_
 rintro e w2 ⟨hk, ⟨hf2, rfl⟩ | ⟨hf2, rfl⟩⟩
 case inr =>
  replace HS := Lib.hid (HS.out.go hk)
  clear hk hf2
  go_wp2_with fail
  refine (HKN.out _ HS.out.k).mono ?_
  rintro e w9 ⟨rfl, hk⟩
  replace HS := Lib.hid (HS.out.go hk)
  clear hk
  go_wp2_with fail
  go_ret
  exact ⟨rfl, HS.out.k⟩
 have HF2 := Lib.hid hf2
 replace HS := Lib.hid (HS.out.go hk)
 clear hk hf2
 go_wp2_with (first | (refine wpList_loadX (by kernel_rfl) rfl rfl HS.out.r1 Tryz.underlying29 rfl H1.out.sz ?_) | (refine wpList_loadX (by kernel_rfl) rfl rfl HS.out.r2 Tryz.underlying29 rfl H2.out.sz ?_))
 refine (H1.out.raw _ HS.out.k HF1.out).mono ?_
 intro e w3 hp
 obtain ⟨A1, n1, c1, z1, rfl, hk, hr1⟩ := hp.parts
 replace HS := Lib.hid (HS.out.go hk)
 have HR1 := Lib.hid hr1
 clear hk hr1 hp
 go_wp2_with (first | (refine wpList_loadX (by kernel_rfl) rfl rfl HS.out.r1 Tryz.underlying29 rfl H1.out.sz ?_) | (refine wpList_loadX (by kernel_rfl) rfl rfl HS.out.r2 Tryz.underlying29 rfl H2.out.sz ?_))
 refine (H2.out.raw _ HS.out.k HF2.out).mono ?_
 intro e w4 hp
 obtain ⟨A2, n2, c2, z2, rfl, hk, hr2⟩ := hp.parts
 replace HS := Lib.hid (HS.out.go hk)
 have HR2 := Lib.hid hr2
 have HK4 := Lib.hid hk
 clear hk hr2 hp
 by_cases hz1 : z1 = 0
 case neg =>
  have hb1 : (z1 != 0) = true := by simpa using hz1
  go_wp2_with fail
  refine (HKN.out _ HS.out.k).mono ?_
  rintro e w9 ⟨rfl, hk⟩
  replace HS := Lib.hid (HS.out.go hk)
  clear hk
  go_wp2_with fail
  go_ret
  exact ⟨rfl, HS.out.k⟩
 by_cases hz2 : z2 = 0
 case neg =>
  have hb1 : (z1 != 0) = false := by simpa using hz1
  have hb2 : (z2 != 0) = true := by simpa using hz2
  go_wp2_with fail
  refine (HKN.out _ HS.out.k).mono ?_
  rintro e w9 ⟨rfl, hk⟩
  replace HS := Lib.hid (HS.out.go hk)
  clear hk
  go_wp2_with fail
  go_ret
  exact ⟨rfl, HS.out.k⟩
 subst hz1 hz2
 rcases HR1.out with ⟨o1, _, rfl, hv1⟩ | ⟨_, h⟩
 case inr => cases h
 rcases HR2.out with ⟨o2, _, rfl, hv2⟩ | ⟨_, h⟩
 case inr => cases h
 replace hv1 := own_keep hv1 HK4.out (by simp)
 obtain ⟨b1, f1, rfl, _, _⟩ := Lies.of_own hv1 (by rw [List.length_map]; exact pkRaw_pos p)
 obtain ⟨b2, f2, rfl, _, _⟩ := Lies.of_own hv2 (by rw [List.length_map]; exact pkRaw_pos q)
 have hc1 : (pkRaw p).length ≤ c1 := by
  obtain ⟨_, _, e, h, _⟩ := own_slice hv1
  injection e with _ _ e
  omega
 have hc2 : (pkRaw q).length ≤ c2 := by
  obtain ⟨_, _, e, h, _⟩ := own_slice hv2
  injection e with _ _ e
  omega
 have HT := Lib.hid (fun (n : Nat) (hn : n = min (pkRaw p).length (pkRaw q).length) => apart_take o1 o2 hn)
 have HEQ := Lib.hid (show p = q → (pkRaw p).length = (pkRaw q).length from fun h => by rw [h])
 have HL1 := Lib.hid (Lies.of_own hv1)
 have HL2 := Lib.hid (Lies.of_own hv2)
 clear hv1 hv2 o1 o2 HR1 HR2 HK4
 obtain ⟨L1, hL1⟩ : ∃ L, pkRaw p = L := ⟨_, rfl⟩
 obtain ⟨L2, hL2⟩ : ∃ L, pkRaw q = L := ⟨_, rfl⟩
 rw [hL1] at hc1 HT HEQ HL1 ⊢
 rw [hL2] at hc2 HT HEQ HL2 ⊢
 clear hL1 hL2
 obtain ⟨N, hN⟩ : ∃ N : Nat, N = min L1.length L2.length := ⟨_, rfl⟩
 have hmin : min (L1.length : Int) (L2.length : Int) = (N : Int) := by omega
 go_upto_region 8 with fail
 have HT2 := Lib.hid (HT.out N hN)
 have g1 : N ≤ c1 := by omega
 have g2 : N ≤ c2 := by omega
 have HNL := Lib.hid (show (L1.take N).length = N ∧ (L2.take N).length = N by simp; omega)
 rw [← hN]
 clear hN hmin HT
 obtain ⟨S1, hS1⟩ : ∃ S : ByteArray, S = ⟨(L1.take N).toArray⟩ := ⟨_, rfl⟩
 obtain ⟨S2, hS2⟩ : ∃ S : ByteArray, S = ⟨(L2.take N).toArray⟩ := ⟨_, rfl⟩
 have CV1 := fun (W : World) (hk : Keeps w4 W []) => (show (convert 32 9 (.slice (some ⟨b1, f1, none⟩) N c1)).run Tryz.prog W = .ok (.string S1) W from by
  have hl := ((HL1.out.keep hk (Nat.le_refl _) (by simp)).take N)
  rw [← List.map_take] at hl
  have := conv_str W _ (some ⟨b1, f1, none⟩) c1 _ hl
  rw [HNL.out.1] at this
  rw [this, hS1])
 have CV2 := fun (W : World) (hk : Keeps w4 W []) => (show (convert 32 9 (.slice (some ⟨b2, f2, none⟩) N c2)).run Tryz.prog W = .ok (.string S2) W from by
  have hl := ((HL2.out.keep hk (Nat.le_refl _) (by simp)).take N)
  rw [← List.map_take] at hl
  have := conv_str W _ (some ⟨b2, f2, none⟩) c2 _ hl
  rw [HNL.out.2] at this
  rw [this, hS2])
 obtain ⟨z, hz⟩ : ∃ z, (S1.toList == S2.toList) = z := ⟨_, rfl⟩
 have HZ := Lib.hid (show z = decide (p = q) from by
  rw [← hz, hS1, hS2, str_bytes, str_bytes]
  have := HT2.out
  by_cases hpq : p = q
  ·rw [decide_eq_true hpq]
   simpa using this.2 hpq
  ·rw [decide_eq_false hpq]
   have h : ¬ L1.take N = L2.take N := fun h => hpq (this.1 h)
   simpa using h)
 clear hS1 hS2
 refine wp_region_keeps _ (by kernel_rfl) rfl (by kernel_rfl) ?_
 iterate 3
  refine ls ?_
  simp only [addEnt]
 apply loose_is
 ·intro W vals hW hkn
  simp only [knows] at hkn
  try simp only [and_true] at hkn
  clear hkn; have m := CV1 W hW
  refine ⟨?_⟩
  simp only [fill]
  go_simp
  first | exact ⟨Keeps.refl _ _, rfl⟩ | exact ⟨Keeps.alloc _ _, rfl⟩
 iterate 3
  simp only [addEnt]
  refine ls ?_
 simp only [addEnt]
 apply loose_is
 ·intro W vals hW hkn
  simp only [knows] at hkn
  try simp only [and_true] at hkn
  clear hkn; have m := CV2 W hW
  refine ⟨?_⟩
  simp only [fill]
  go_simp
  first | exact ⟨Keeps.refl _ _, rfl⟩ | exact ⟨Keeps.alloc _ _, rfl⟩
 iterate 2
  simp only [addEnt]
  refine ls ?_
 simp only [addEnt]
 refine loose_nil (fun W vals hW hkn => ?_)
 simp only [knowsAll] at hkn
 try simp only [and_true] at hkn
 simp only [fill, Act.put, List.setIfInBounds_toArray, List.set_cons_succ, List.set_cons_zero]
 clear hkn CV1 CV2
 replace HS := Lib.hid (HS.out.go hW)
 clear hW
 go_wp2_with (first | (refine wpList_loadX (by kernel_rfl) rfl rfl HS.out.r1 Tryz.underlying29 rfl H1.out.sz ?_) | (refine wpList_loadX (by kernel_rfl) rfl rfl HS.out.r2 Tryz.underlying29 rfl H2.out.sz ?_))
 refine (HSM.out _ HS.out.k HF1.out).mono ?_
 rintro e w5 ⟨rfl, hk⟩
 replace HS := Lib.hid (HS.out.go hk)
 rw [← HZ.out]
 clear hk
 cases z with
 | false =>
  go_wp2_with fail
  refine (HKN.out _ HS.out.k).mono ?_
  rintro e w9 ⟨rfl, hk⟩
  replace HS := Lib.hid (HS.out.go hk)
  clear hk
  go_wp2_with fail
  go_ret
  exact ⟨rfl, HS.out.k⟩
 | true =>
  have hl : ((L1.length : Int) == (L2.length : Int)) = true := by
   rw [HEQ.out (of_decide_eq_true HZ.out.symm)]
   exact beq_self_eq_true _
  go_wp2_with fail
  refine (HKN.out _ HS.out.k).mono ?_
  rintro e w9 ⟨rfl, hk⟩
  replace HS := Lib.hid (HS.out.go hk)
  clear hk
  go_wp2_with fail
  go_ret
  exact ⟨rfl, HS.out.k⟩
theorem packetApart_any (p q : Pk) (sw sc sf sw1 sc1 sf1 : Value) (w : World) (hm : MaxL w) (h1 : PkL w p sw sc sf) (h2 : PkL w q sw1 sc1 sf1) (hk : -9223372036854775808 ≤ p.k ∧ p.k ≤ 9223372036854775807) (hk' : -9223372036854775808 ≤ q.k ∧ q.k ≤ 9223372036854775807)
  (hb : p.t.length + p.c.length + p.u.length ≤ 9223372036854775807) (hb' : q.t.length + q.c.length + q.u.length ≤ 9223372036854775807) : Calls Tryz.prog 5 #[pkV p sw sc sf, pkV q sw1 sc1 sf1] w (TruePost w true) :=
 apart_walk p q _ _ w hm (PkA.of hm h1 hk.1 hk.2 hb rfl) (PkA.of hm h2 hk'.1 hk'.2 hb' rfl) fun W hk hf =>
  pkSame_any p q sw sc sf sw1 sc1 sf1 W (h1.keeps hk) (h2.keeps hk) ⟨by have := hf.lw; omega, by have := hf.lc; omega, by have := hf.lf; omega⟩
end Go.Proofs.YtahbikfbjenfpaaGreatDoor
