/- Walks over package wire (layer 3): a number written; the bytes told. Walks over package wire (layer 3): a text and a truth written. Package records: Value. Package records, plain: a row read back out of its key and its value. Package records, plain: a key and a value are no two rows'. -/
import Derived.Test.YtfglgeoookbppaaGreatDoorPa27
import Derived.Test.YtfglgeoookbppaaGreatDoorPa1
import Derived.Lib.AppendStr
import Derived.Test.YtfglgeoookbppaaGreatDoorPa22
import Derived.Test.YtfglgeoookbppaaGreatDoorPa26
import Derived.Test.YtfglgeoookbppaaGreatDoorPa13
import Derived.Test.YtfglgeoookbppaaGreatDoorPa16

namespace Go.Proofs.YtfglgeoookbppaaGreatDoor
open Go.RowKit

theorem owned_lt {w : World} {base : Nat} {v : Value} {l : List UInt8} (h : Owned w base v l) (g : Nat) (hg : v.ownBlock = some g) : base ≤ g ∧ g < w.heap.size := h.lt g hg

set_option maxRecDepth 100000 in
set_option maxHeartbeats 1000000 in
theorem wrNumber_any (w : World) (base p : Nat) (v : Value) (l : List UInt8) (n k : Nat) (h : WrB w base p v l) (hk1 : 1 ≤ k) (hk8 : k ≤ 8) (hn : n < 256 ^ k) (hlen : l.length + k ≤ 65536) (hbase : base ≤ w.heap.size) :
  Calls Tryz.prog 48 #[.pointer (some ⟨p, 0, none⟩), .int .u64 n, .int .i64 k] w fun e w' =>
   e = .returned (.int .i64 0) ∧ ∃ v', WrB w' base p v' (l ++ toBE k n) ∧ Keeps w w' (p :: v.ownBlock.toList) ∧ (v'.ownBlock = v.ownBlock ∨ ∀ g, v'.ownBlock = some g → w.heap.size ≤ g) := by
 have hw : withinB (k : Int) 1 8 = true := by simp [withinB]; omega
 have hn64 : n < 18446744073709551616 := by
  have h3 : 256 ^ k ≤ 256 ^ 8 := Nat.pow_le_pow_right (by omega) hk8
  have h4 : (256 : Nat) ^ 8 = 18446744073709551616 := by decide
  omega
 have hsh : decide ((0 : Int) < (n : Int) / 2 ^ (8 * k)) = false := by
  have h2 : (256 : Nat) ^ k = 2 ^ (8 * k) := by rw [Nat.pow_mul]
  rw [h2] at hn
  have h1 : n / 2 ^ (8 * k) = 0 := Nat.div_eq_of_lt hn
  have h3 : (n : Int) / 2 ^ (8 * k) = ((n / 2 ^ (8 * k) : Nat) : Int) := by rw [Int.natCast_ediv, Int.natCast_pow]; rfl
  rw [h3, h1]; rfl
 have H := Lib.hid h
 clear h hn
 have hplt := H.out.1.lt
 by_cases h8 : k < 8
 all_goals
  have hd8 := h8
  go_enter Tryz.func48, Tryz.ntmps48
  go_wp2_with fail
  go_step3
  go_wp2_with fail
  refine (wrNone_any _ _ _ H.out.1).mono ?_
  rintro e w1 ⟨rfl, rfl⟩
  go_wp2_with fail
  refine (wide_any _ _).mono ?_
  rintro e w1 ⟨rfl, rfl⟩
  rw [hw]
  go_wp2_with fail
  refine (laid_any _ n k hk1 hk8 hn64).mono ?_
  rintro e w1 ⟨u, rfl, ho, hk⟩
  have HO := Lib.hid (And.intro ho hk)
  clear ho hk
  go_wp2_with fail
  have hW1 : WrB w1 base p v l := H.out.keep HO.out.2 (by simp) (by simp)
  have hlt := HO.out.1.lt
  refine (wrPut_any w1 base p v u l (toBE k n) hW1 (HO.out.1.bytes (by rw [toBE_length]; omega)) (by rw [toBE_length]; exact hlen) (Nat.le_trans hbase HO.out.2.size)).mono ?_
  rintro e w2 ⟨rfl, v', hw2, hk2, hb2⟩
  have HF := Lib.hid (And.intro hw2 (And.intro hk2 hb2))
  clear hw2 hk2 hb2 hW1 hlt
  go_wp2
  rw [Exit.noGoto_ret]
  go_ret
  obtain ⟨hw2, hk2, hb2⟩ := HF.out
  refine ⟨rfl, v', hw2, (HO.out.2.weaken (T := p :: v.ownBlock.toList) (by simp)).trans hk2 (fun x hx _ => hx), ?_⟩
  rcases hb2 with hb2 | hb2
  ·exact .inl hb2
  ·exact .inr fun g hg => Nat.le_trans HO.out.2.size (hb2 g hg)

set_option maxRecDepth 100000 in
set_option maxHeartbeats 1000000 in
theorem wrBytes_any (w : World) (base p : Nat) (v : Value) (l : List UInt8) (h : WrB w base p v l) (hlen : l.length ≤ 140737488351232) :
  Calls Tryz.prog 51 #[.pointer (some ⟨p, 0, none⟩)] w fun e w' => ∃ v', e = .returned v' ∧ Owned w' w.heap.size v' l ∧ Keeps w w' [] := by
 have h0 := h.1.cell 0
 have hB := h.2.bytes hlen
 obtain ⟨A, c, rfl, hc, hcm, hnil, hL⟩ := h.2.parts
 have H := Lib.hid h
 have HB := Lib.hid hB
 clear h hB hnil hL
 go_enter Tryz.func51, Tryz.ntmps51
 go_wp2_with fail
 refine (wrNone_any _ _ _ H.out.1).mono ?_
 rintro e w1 ⟨rfl, rfl⟩
 go_wp2_with fail
 refine (clone_any _ _ _ HB.out).mono ?_
 rintro e w1 ⟨v', rfl, ho, hk⟩
 have HO := Lib.hid (And.intro ho hk)
 clear ho hk
 go_wp2
 go_ret
 exact ⟨v', rfl, HO.out.1, HO.out.2⟩
end Go.Proofs.YtfglgeoookbppaaGreatDoor

namespace Go.Proofs.YtfglgeoookbppaaGreatDoor
open Go.RowKit

theorem strCells_str (s : List UInt8) : Lib.strCells ⟨s.toArray⟩ = s.map byteV := by simp [Lib.strCells, byteV]
theorem size_str (s : List UInt8) : (⟨s.toArray⟩ : ByteArray).size = s.length := by simp [ByteArray.size]

/-- append of a text's bytes onto bytes of the call's own. -/
theorem wpList_append_str {ops : Array Oper} {rest : List Oper} {o : Oper} {a : Act} {w : World} {Q : Exit → Act → World → Prop} (hgd : o.guard = none) (sl x : Operand)
  (ho : o.op = .call { callee := .builtin .append, args := #[sl, x], argTypes := #[39, 9] })
  (base : Nat) (v : Value) (l s : List UInt8) (hs : a.eval sl = v) (hown : Owned w base v l) (hx : a.eval x = strV s) (hlen : l.length + s.length ≤ 140737488351232) (hbase : base ≤ w.heap.size)
  (h : ∀ v' w', Hid (Owned w' base v' (l ++ s) ∧ Keeps w w' v.ownBlock.toList) → wpList Tryz.prog ops Q rest (a.put o.dst v') w') : wpList Tryz.prog ops Q (o :: rest) a w := by
 obtain ⟨i0, hi, hz0, hz1, hz2⟩ := info_parts infoByte
 refine Lib.wpList_append_own_string w hgd sl x 39 9 ho base 5 i0 undBytes undString hi hz0 hz1 hz2 v l.length (l.map byteV) hs hown ⟨s.toArray⟩ hx (by rw [size_str]; simp [maxLen]; omega) (by rw [size_str]; omega) hbase ?_
 intro v' w' h1 h2 _
 refine h v' w' (Lib.hid ⟨?_, Keeps.of_grown h2⟩)
 unfold Owned
 rw [size_str, strCells_str] at h1
 rw [List.length_append, List.map_append]
 exact h1

set_option maxRecDepth 100000 in
set_option maxHeartbeats 1000000 in
theorem wrText_any (w : World) (base p : Nat) (v : Value) (l s : List UInt8) (h : WrB w base p v l) (hs : s.length ≤ 65535) (hlen : l.length + (2 + s.length) ≤ 65536) (hbase : base ≤ w.heap.size) :
  Calls Tryz.prog 49 #[.pointer (some ⟨p, 0, none⟩), strV s] w fun e w' =>
   e = .returned (.int .i64 0) ∧ ∃ v', WrB w' base p v' (l ++ (toBE 2 s.length ++ s)) ∧ Keeps w w' (p :: v.ownBlock.toList) ∧ (v'.ownBlock = v.ownBlock ∨ ∀ g, v'.ownBlock = some g → w.heap.size ≤ g) := by
 have hsz : (⟨s.toArray⟩ : ByteArray).size = s.length := size_str s
 have h16 : decide ((65535 : Int) < (s.length : Int)) = false := by simp; omega
 have hwr : IntKind.u64.wrap (s.length : Int) = (s.length : Int) := IntWalk.u64_in _ ⟨by omega, by omega⟩
 have H := Lib.hid h
 have HS := Lib.hid hs
 have HL := Lib.hid hlen
 clear h hs hlen
 have hplt := H.out.1.lt
 unfold strV
 go_enter Tryz.func49, Tryz.ntmps49
 go_wp2_with fail
 refine (wrNone_any _ _ _ H.out.1).mono ?_
 rintro e w1 ⟨rfl, rfl⟩
 go_wp2_with fail
 refine (laid_any _ s.length 2 (by omega) (by omega) (by have := HS.out; omega)).mono ?_
 rintro e w1 ⟨u, rfl, ho, hk⟩
 have HO := Lib.hid (And.intro ho hk)
 clear ho hk
 go_wp2_with (at_builtin; refine wpList_append_str rfl (.tmp 16) (.tmp 17) rfl w.heap.size u (toBE 2 s.length) s rfl HO.out.1 rfl (by have := HS.out; rw [toBE_length]; omega) HO.out.2.size ?_; intro u2 w2 HA)
 have hW : WrB w2 base p v l := (H.out.keep HO.out.2 (by simp) (by simp)).keep HA.out.2 (fun hm => by
   have := HO.out.1.lt p (by simpa using hm); omega) (fun g hg hm => by
   have h1 := HO.out.1.lt g (by simpa using hm)
   have h2 := H.out.2.lt g hg
   omega)
 have hk12 : Keeps w w2 [] := HO.out.2.trans HA.out.2 (fun x hx hlt => by
   have := HO.out.1.lt x (by simpa using hx); omega)
 have HW := Lib.hid (And.intro hW hk12)
 clear hW hk12
 go_wp2_with fail
 refine (wrPut_any w2 base p v u2 l (toBE 2 s.length ++ s) HW.out.1 (HA.out.1.bytes (by have := HS.out; simp [toBE_length]; omega)) (by have := HL.out; simp [toBE_length]; omega) (Nat.le_trans hbase HW.out.2.size)).mono ?_
 rintro e w3 ⟨rfl, v', hw2, hk2, hb2⟩
 have HF := Lib.hid (And.intro hw2 (And.intro hk2 hb2))
 clear hw2 hk2 hb2
 go_wp2
 go_ret
 obtain ⟨hw2, hk2, hb2⟩ := HF.out
 refine ⟨rfl, v', hw2, (HW.out.2.weaken (T := p :: v.ownBlock.toList) (by simp)).trans hk2 (fun x hx _ => hx), ?_⟩
 rcases hb2 with hb2 | hb2
 ·exact .inl hb2
 ·exact .inr fun g hg => Nat.le_trans HW.out.2.size (hb2 g hg)

set_option maxRecDepth 100000 in
set_option maxHeartbeats 1000000 in
theorem wrTruth_any (w : World) (base p : Nat) (v : Value) (l : List UInt8) (b : Bool) (h : WrB w base p v l) (hlen : l.length + 1 ≤ 65536) (hbase : base ≤ w.heap.size) :
  Calls Tryz.prog 50 #[.pointer (some ⟨p, 0, none⟩), .bool b] w fun e w' =>
   e = .returned (.int .i64 0) ∧ ∃ v', WrB w' base p v' (l ++ [bif b then 1 else 0]) ∧ Keeps w w' (p :: v.ownBlock.toList) ∧ (v'.ownBlock = v.ownBlock ∨ ∀ g, v'.ownBlock = some g → w.heap.size ≤ g) := by
 have H := Lib.hid h
 clear h
 cases b
 ·go_enter Tryz.func50, Tryz.ntmps50
  go_wp2_with fail
  refine (wrNumber_any w base p v l 0 1 H.out (by omega) (by omega) (by omega) hlen hbase).mono ?_
  rintro e w1 ⟨rfl, h1⟩
  have H1 := Lib.hid h1
  clear h1
  go_wp2
  go_ret
  exact ⟨rfl, H1.out⟩
 ·go_enter Tryz.func50, Tryz.ntmps50
  go_wp2_with fail
  refine (wrNumber_any w base p v l 1 1 H.out (by omega) (by omega) (by omega) hlen hbase).mono ?_
  rintro e w1 ⟨rfl, h1⟩
  have H1 := Lib.hid h1
  clear h1
  go_wp2
  go_ret
  exact ⟨rfl, H1.out⟩
end Go.Proofs.YtfglgeoookbppaaGreatDoor

namespace Go.Proofs.YtfglgeoookbppaaGreatDoor
open Go.RowKit Go.Shelf

/-- The bytes of a row's value. -/
def rcVal (x : Rw) : List UInt8 :=
 toBE 8 x.seq.toNat ++ (toBE 8 x.id.toNat ++ ((toBE 2 x.t.length ++ x.t) ++ ((toBE 2 x.b.length ++ x.b) ++ (toBE 1 x.q.toNat ++ ([bif x.r then 1 else 0] ++ toBE 1 x.s.toNat)))))
def rcValS (x : Rw) : List UInt8 := if rcOk x = true then rcVal x else []
theorem rc_fit {x : Rw} (h : rcOk x = true) : (0 ≤ x.seq ∧ x.seq ≤ 4611686018427387904) ∧ (0 ≤ x.id ∧ x.id ≤ 4611686018427387904) ∧ (0 ≤ x.q ∧ x.q ≤ 2) ∧ (0 ≤ x.s ∧ x.s ≤ 3) := by
 obtain ⟨k, c, seq, id, t, b, q, r, s⟩ := x
 have hi : rcIs k = true := by
  unfold rcOk at h
  rw [Bool.and_eq_true] at h
  exact h.1
 have hk : k = 1 ∨ k = 2 ∨ k = 3 ∨ k = 4 ∨ k = 5 := by
  unfold rcIs inN at hi
  simp only [Bool.and_eq_true, decide_eq_true_eq] at hi
  omega
 rcases hk with rfl | rfl | rfl | rfl | rfl
 ·rw [rok1] at h
  simp only [Bool.and_eq_true, decide_eq_true_eq, inN, beq_iff_eq] at h ⊢
  omega
 ·rw [rok2] at h
  simp only [Bool.and_eq_true, decide_eq_true_eq, inN, beq_iff_eq] at h ⊢
  omega
 ·rw [rok3] at h
  simp only [Bool.and_eq_true, Bool.or_eq_true, decide_eq_true_eq, inN, rcStage] at h ⊢
  omega
 ·rw [rok4] at h
  simp only [Bool.and_eq_true, decide_eq_true_eq, inN, beq_iff_eq] at h ⊢
  omega
 ·rw [rok5] at h
  simp only [Bool.and_eq_true, decide_eq_true_eq, inN, beq_iff_eq] at h ⊢
  omega
theorem rcVal_length (x : Rw) : (rcVal x).length = 23 + x.t.length + x.b.length := by
 simp [rcVal, toBE_length]
 omega

/-- A writer made since w0, that has written l. -/
def WrAt (w0 W : World) (l : List UInt8) : Prop := (∃ v, WrB W w0.heap.size w0.heap.size v l) ∧ Keeps w0 W []
theorem WrAt.step {w0 W w' : World} {v : Value} {l b : List UInt8} (h : WrB W w0.heap.size w0.heap.size v l) (hk : Keeps w0 W [])
  (h2 : ∃ v', WrB w' w0.heap.size w0.heap.size v' (l ++ b) ∧ Keeps W w' (w0.heap.size :: v.ownBlock.toList) ∧ (v'.ownBlock = v.ownBlock ∨ ∀ g, v'.ownBlock = some g → W.heap.size ≤ g)) : WrAt w0 w' (l ++ b) := by
 obtain ⟨v', h3, h4, _⟩ := h2
 refine ⟨⟨v', h3⟩, hk.trans h4 (fun x hx hlt => ?_)⟩
 simp only [List.mem_cons, Option.mem_toList] at hx
 rcases hx with rfl | hx
 ·omega
 ·have := h.2.lt x hx
  omega
theorem wrAt_number {w0 W : World} {l : List UInt8} (h : WrAt w0 W l) (n : Int) (k : Nat) (hn0 : 0 ≤ n) (hn : n < 256 ^ k) (hk1 : 1 ≤ k) (hk8 : k ≤ 8) (hlen : l.length + k ≤ 65536) :
  Calls Tryz.prog 48 #[.pointer (some ⟨w0.heap.size, 0, none⟩), .int .u64 n, .int .i64 k] W fun e w' => e = .returned (.int .i64 0) ∧ WrAt w0 w' (l ++ toBE k n.toNat) := by
 obtain ⟨⟨v, hv⟩, hk⟩ := h
 obtain ⟨m, rfl⟩ := Int.eq_ofNat_of_zero_le hn0
 exact (wrNumber_any W w0.heap.size w0.heap.size v l m k hv hk1 hk8 (by have e : ((256 ^ k : Nat) : Int) = 256 ^ k := Int.natCast_pow 256 k; rw [← e] at hn; exact Int.ofNat_lt.1 hn) hlen hk.size).mono (fun e w' h2 => ⟨h2.1, WrAt.step hv hk h2.2⟩)
theorem wrAt_text {w0 W : World} {l : List UInt8} (h : WrAt w0 W l) (s : List UInt8) (hs : s.length ≤ 65535) (hlen : l.length + (2 + s.length) ≤ 65536) :
  Calls Tryz.prog 49 #[.pointer (some ⟨w0.heap.size, 0, none⟩), strV s] W fun e w' => e = .returned (.int .i64 0) ∧ WrAt w0 w' (l ++ (toBE 2 s.length ++ s)) := by
 obtain ⟨⟨v, hv⟩, hk⟩ := h
 exact (wrText_any W w0.heap.size w0.heap.size v l s hv hs hlen hk.size).mono (fun e w' h2 => ⟨h2.1, WrAt.step hv hk h2.2⟩)
theorem wrAt_truth {w0 W : World} {l : List UInt8} (h : WrAt w0 W l) (b : Bool) (hlen : l.length + 1 ≤ 65536) :
  Calls Tryz.prog 50 #[.pointer (some ⟨w0.heap.size, 0, none⟩), .bool b] W fun e w' => e = .returned (.int .i64 0) ∧ WrAt w0 w' (l ++ [bif b then 1 else 0]) := by
 obtain ⟨⟨v, hv⟩, hk⟩ := h
 exact (wrTruth_any W w0.heap.size w0.heap.size v l b hv hlen hk.size).mono (fun e w' h2 => ⟨h2.1, WrAt.step hv hk h2.2⟩)

set_option maxRecDepth 100000 in
set_option maxHeartbeats 4000000 in
theorem rcValue_any (x : Rw) (w : World) (hx : x.Small) (hlen : x.t.length ≤ 3000 ∧ x.b.length ≤ 3000) (hM : MaxL w) (hk1 : -9223372036854775808 ≤ x.k) (hk2 : x.k ≤ 9223372036854775807) : Calls Tryz.prog 18 #[rwV x] w (KyPost w (rcValS x) (rcBegE x)) := by
 have C1 := Lib.hid (fun w h => rcCheck_any x w hx h hk1 hk2)
 have HM := Lib.hid hM
 obtain ⟨ok, hok⟩ : ∃ ok, rcOk x = ok := ⟨_, rfl⟩
 have HT := Lib.hid hok
 cases ok with
 | false =>
  clear hok hlen
  obtain ⟨k, c, seq, id, t, b, q, r, s⟩ := x
  obtain ⟨W0, hW0⟩ : ∃ W0, w.alloc (.cells #[.int .i64 k, .string ⟨c.toArray⟩, .int .i64 seq, .int .i64 id, .string ⟨t.toArray⟩, .string ⟨b.toArray⟩, .int .i64 q, .bool r, .int .i64 s] 25) = W0 := ⟨_, rfl⟩
  have k0 : Keeps w W0 [] := by rw [← hW0]; exact Keeps.alloc _ _
  have r0 : Row W0 w.heap.size 25 #[.int .i64 k, .string ⟨c.toArray⟩, .int .i64 seq, .int .i64 id, .string ⟨t.toArray⟩, .string ⟨b.toArray⟩, .int .i64 q, .bool r, .int .i64 s] := by rw [← hW0]; exact Row.new _ _ _
  have HR := Lib.hid (And.intro k0 r0)
  have x0 := r0.cell 0
  have x1 := r0.cell 1
  have x2 := r0.cell 2
  have x3 := r0.cell 3
  have x4 := r0.cell 4
  have x5 := r0.cell 5
  have x6 := r0.cell 6
  have x7 := r0.cell 7
  have x8 := r0.cell 8
  simp only [List.getElem?_toArray, List.getElem?_cons_zero, List.getElem?_cons_succ] at x0 x1 x2 x3 x4 x5 x6 x7 x8
  clear k0 r0
  go_enter Tryz.func18, Tryz.ntmps18
  go_wp2_with fail
  refine (C1.out _ (HM.out.keeps HR.out.1)).mono ?_
  rintro e w3 ⟨rfl, hk⟩
  rw [HT.out, if_neg (by simp)]
  have HK := Lib.hid (HR.out.1.then_ hk)
  clear hk x0 x1 x2 x3 x4 x5 x6 x7 x8 hW0
  go_wp2_with fail
  go_ret2
  exact ⟨by unfold rcValS rcBegE; rw [HT.out]; rfl, HK.out⟩
 | true =>
  have HF := Lib.hid (rc_fit hok)
  clear hok
  obtain ⟨k, c, seq, id, t, b, q, r, s⟩ := x
  simp only at hk1 hk2 HF
  have ws : IntKind.u64.wrap seq = seq := IntWalk.u64_in _ ⟨by have := HF.out; omega, by have := HF.out; omega⟩
  have wi : IntKind.u64.wrap id = id := IntWalk.u64_in _ ⟨by have := HF.out; omega, by have := HF.out; omega⟩
  have wq : IntKind.u64.wrap q = q := IntWalk.u64_in _ ⟨by have := HF.out; omega, by have := HF.out; omega⟩
  have wt : IntKind.u64.wrap s = s := IntWalk.u64_in _ ⟨by have := HF.out; omega, by have := HF.out; omega⟩
  simp only at hlen
  have HL := Lib.hid hlen
  clear hlen
  obtain ⟨W0, hW0⟩ : ∃ W0, w.alloc (.cells #[.int .i64 k, .string ⟨c.toArray⟩, .int .i64 seq, .int .i64 id, .string ⟨t.toArray⟩, .string ⟨b.toArray⟩, .int .i64 q, .bool r, .int .i64 s] 25) = W0 := ⟨_, rfl⟩
  have k0 : Keeps w W0 [] := by rw [← hW0]; exact Keeps.alloc _ _
  have r0 : Row W0 w.heap.size 25 #[.int .i64 k, .string ⟨c.toArray⟩, .int .i64 seq, .int .i64 id, .string ⟨t.toArray⟩, .string ⟨b.toArray⟩, .int .i64 q, .bool r, .int .i64 s] := by rw [← hW0]; exact Row.new _ _ _
  have HR := Lib.hid (And.intro k0 r0)
  have x0 := r0.cell 0
  have x1 := r0.cell 1
  have x2 := r0.cell 2
  have x3 := r0.cell 3
  have x4 := r0.cell 4
  have x5 := r0.cell 5
  have x6 := r0.cell 6
  have x7 := r0.cell 7
  have x8 := r0.cell 8
  simp only [List.getElem?_toArray, List.getElem?_cons_zero, List.getElem?_cons_succ] at x0 x1 x2 x3 x4 x5 x6 x7 x8
  clear k0 r0
  go_enter Tryz.func18, Tryz.ntmps18
  go_wp2_with fail
  refine (C1.out _ (HM.out.keeps HR.out.1)).mono ?_
  rintro e w3 ⟨rfl, hk⟩
  rw [HT.out, if_pos rfl]
  replace HR := Lib.hid (And.intro (HR.out.1.then_ hk) (HR.out.2.keeps hk))
  clear hk x0 x1 x2 x3 x4 x5 x6 x7 x8 hW0
  go_wp2_with fail
  refine (newWriter_any _).mono ?_
  rintro e w4 ⟨rfl, hw4, hk4⟩
  have H0 := Lib.hid (show WrAt w3 w4 [] from ⟨⟨_, hw4⟩, hk4⟩)
  clear hw4 hk4
  have RR := fun {W : World} {l : List UInt8} (h : WrAt w3 W l) => HR.out.2.keeps h.2
  have r1 := RR H0.out
  have y0 := r1.cell 0
  have y1 := r1.cell 1
  have y2 := r1.cell 2
  have y3 := r1.cell 3
  have y4 := r1.cell 4
  have y5 := r1.cell 5
  have y6 := r1.cell 6
  have y7 := r1.cell 7
  have y8 := r1.cell 8
  simp only [List.getElem?_toArray, List.getElem?_cons_zero, List.getElem?_cons_succ] at y0 y1 y2 y3 y4 y5 y6 y7 y8
  clear r1
  go_wp2_with fail
  refine (wrAt_number H0.out seq 8 (by have := HF.out; omega) (by have := HF.out; omega) (by omega) (by omega) (by simp)).mono ?_
  rintro e w5 ⟨rfl, h5⟩
  have H1 := Lib.hid h5
  clear h5 y0 y1 y2 y3 y4 y5 y6 y7 y8
  have r1 := RR H1.out
  have y0 := r1.cell 0
  have y1 := r1.cell 1
  have y2 := r1.cell 2
  have y3 := r1.cell 3
  have y4 := r1.cell 4
  have y5 := r1.cell 5
  have y6 := r1.cell 6
  have y7 := r1.cell 7
  have y8 := r1.cell 8
  simp only [List.getElem?_toArray, List.getElem?_cons_zero, List.getElem?_cons_succ] at y0 y1 y2 y3 y4 y5 y6 y7 y8
  clear r1
  go_wp2_with fail
  refine (wrAt_number H1.out id 8 (by have := HF.out; omega) (by have := HF.out; omega) (by omega) (by omega) (by simp [toBE_length])).mono ?_
  rintro e w6 ⟨rfl, h5⟩
  have H2 := Lib.hid h5
  clear h5 y0 y1 y2 y3 y4 y5 y6 y7 y8
  have r1 := RR H2.out
  have y0 := r1.cell 0
  have y1 := r1.cell 1
  have y2 := r1.cell 2
  have y3 := r1.cell 3
  have y4 := r1.cell 4
  have y5 := r1.cell 5
  have y6 := r1.cell 6
  have y7 := r1.cell 7
  have y8 := r1.cell 8
  simp only [List.getElem?_toArray, List.getElem?_cons_zero, List.getElem?_cons_succ] at y0 y1 y2 y3 y4 y5 y6 y7 y8
  clear r1
  go_wp2_with fail
  refine (wrAt_text H2.out t (by have := HL.out; omega) (by have := HL.out; simp [toBE_length]; omega)).mono ?_
  rintro e w7 ⟨rfl, h5⟩
  have H3 := Lib.hid h5
  clear h5 y0 y1 y2 y3 y4 y5 y6 y7 y8
  have r1 := RR H3.out
  have y0 := r1.cell 0
  have y1 := r1.cell 1
  have y2 := r1.cell 2
  have y3 := r1.cell 3
  have y4 := r1.cell 4
  have y5 := r1.cell 5
  have y6 := r1.cell 6
  have y7 := r1.cell 7
  have y8 := r1.cell 8
  simp only [List.getElem?_toArray, List.getElem?_cons_zero, List.getElem?_cons_succ] at y0 y1 y2 y3 y4 y5 y6 y7 y8
  clear r1
  go_wp2_with fail
  refine (wrAt_text H3.out b (by have := HL.out; omega) (by have := HL.out; simp [toBE_length]; omega)).mono ?_
  rintro e w8 ⟨rfl, h5⟩
  have H4 := Lib.hid h5
  clear h5 y0 y1 y2 y3 y4 y5 y6 y7 y8
  have r1 := RR H4.out
  have y0 := r1.cell 0
  have y1 := r1.cell 1
  have y2 := r1.cell 2
  have y3 := r1.cell 3
  have y4 := r1.cell 4
  have y5 := r1.cell 5
  have y6 := r1.cell 6
  have y7 := r1.cell 7
  have y8 := r1.cell 8
  simp only [List.getElem?_toArray, List.getElem?_cons_zero, List.getElem?_cons_succ] at y0 y1 y2 y3 y4 y5 y6 y7 y8
  clear r1
  go_wp2_with fail
  refine (wrAt_number H4.out q 1 (by have := HF.out; omega) (by have := HF.out; omega) (by omega) (by omega) (by have := HL.out; simp [toBE_length]; omega)).mono ?_
  rintro e w9 ⟨rfl, h5⟩
  have H5 := Lib.hid h5
  clear h5 y0 y1 y2 y3 y4 y5 y6 y7 y8
  have r1 := RR H5.out
  have y0 := r1.cell 0
  have y1 := r1.cell 1
  have y2 := r1.cell 2
  have y3 := r1.cell 3
  have y4 := r1.cell 4
  have y5 := r1.cell 5
  have y6 := r1.cell 6
  have y7 := r1.cell 7
  have y8 := r1.cell 8
  simp only [List.getElem?_toArray, List.getElem?_cons_zero, List.getElem?_cons_succ] at y0 y1 y2 y3 y4 y5 y6 y7 y8
  clear r1
  go_wp2_with fail
  refine (wrAt_truth H5.out r (by have := HL.out; simp [toBE_length]; omega)).mono ?_
  rintro e w10 ⟨rfl, h5⟩
  have H6 := Lib.hid h5
  clear h5 y0 y1 y2 y3 y4 y5 y6 y7 y8
  have r1 := RR H6.out
  have y0 := r1.cell 0
  have y1 := r1.cell 1
  have y2 := r1.cell 2
  have y3 := r1.cell 3
  have y4 := r1.cell 4
  have y5 := r1.cell 5
  have y6 := r1.cell 6
  have y7 := r1.cell 7
  have y8 := r1.cell 8
  simp only [List.getElem?_toArray, List.getElem?_cons_zero, List.getElem?_cons_succ] at y0 y1 y2 y3 y4 y5 y6 y7 y8
  clear r1
  go_wp2_with fail
  refine (wrAt_number H6.out s 1 (by have := HF.out; omega) (by have := HF.out; omega) (by omega) (by omega) (by have := HL.out; simp [toBE_length]; omega)).mono ?_
  rintro e w11 ⟨rfl, h5⟩
  have H7 := Lib.hid h5
  clear h5 y0 y1 y2 y3 y4 y5 y6 y7 y8 RR
  obtain ⟨L, hL⟩ : ∃ L, (([] ++ toBE 8 seq.toNat ++ toBE 8 id.toNat ++ (toBE 2 t.length ++ t) ++ (toBE 2 b.length ++ b) ++ toBE 1 q.toNat ++ [bif r then 1 else 0] ++ toBE 1 s.toNat : List UInt8)) = L := ⟨_, rfl⟩
  rw [hL] at H7
  have HLL := Lib.hid (show L = rcVal ⟨k, c, seq, id, t, b, q, r, s⟩ ∧ L.length ≤ 7000 from by
   have e : L = rcVal ⟨k, c, seq, id, t, b, q, r, s⟩ := by rw [← hL]; simp [rcVal]
   refine ⟨e, ?_⟩
   rw [e, rcVal_length]
   have := HL.out
   simp only
   omega)
  clear hL
  go_wp2_with fail
  obtain ⟨⟨v, hv⟩, hkk⟩ := H7.out
  refine (wrBytes_any _ _ _ v L hv (by have := HLL.out.2; omega)).mono ?_
  rintro e w12 ⟨v', rfl, ho, hk⟩
  have HZ := Lib.hid (HR.out.1.then_ (hkk.then_ hk))
  clear hv hkk
  obtain ⟨A, c9, rfl, hc, hcm, hnil, hLL⟩ := ho.parts
  have hcv := conv_str w12 _ A c9 L hLL
  clear ho hc hcm hnil hLL hk
  go_wp2_with fail
  go_ret2
  exact ⟨by unfold rcValS rcBegE; rw [HT.out, if_pos rfl, ← HLL.out.1]; rfl, HZ.out⟩
end Go.Proofs.YtfglgeoookbppaaGreatDoor

namespace Go.Proofs.YtfglgeoookbppaaGreatDoor
open Go.RowKit Go.Shelf

theorem kUnesc_mine (s t : List UInt8) : kUnesc (kEsc s ++ [0, 1] ++ t) = some (s, t) := by
 induction s with
 | nil => exact kUnesc_end t
 | cons b s ih =>
  by_cases hb : b = 0
  ·subst hb
   rw [show kEsc (0 :: s) ++ [0, 1] ++ t = 0 :: 255 :: (kEsc s ++ [0, 1] ++ t) by simp [kEsc], kUnesc_nought, ih]
   rfl
  ·rw [show kEsc (b :: s) ++ [0, 1] ++ t = b :: (kEsc s ++ [0, 1] ++ t) by simp [kEsc, hb], kUnesc_byte _ hb, ih]
   rfl
theorem kPar_text (s r : List UInt8) : kPar (kPart (kText s) ++ r) = (kPar r).map (kText s :: ·) := by
 show kPar ((3 : UInt8) :: ((kEsc s ++ [0, 1]) ++ r)) = _
 refine kPar_step (by decide) ?_
 show (kUnesc (kEsc s ++ [0, 1] ++ r)).map (fun (s, t) => ((⟨3, 0, 0, s⟩ : KP), t)) = _
 rw [kUnesc_mine]
 rfl
theorem kUp_small {n : Int} (h1 : -9223372036854775808 ≤ n) (h2 : n ≤ 9223372036854775807) : kUp n < 256 ^ 8 ∧ ((kUp n : Nat) : Int) - 9223372036854775808 = n := by
 unfold kUp
 have : (256 : Nat) ^ 8 = 18446744073709551616 := by decide
 omega
theorem take_front {a b : List UInt8} {k : Nat} (h : a.length = k) : (a ++ b).take k = a ∧ (a ++ b).drop k = b := by
 subst h
 simp
theorem kPar_int {n : Int} (h1 : -9223372036854775808 ≤ n) (h2 : n ≤ 9223372036854775807) (r : List UInt8) : kPar (kPart (kInt n) ++ r) = (kPar r).map (kInt n :: ·) := by
 show kPar ((1 : UInt8) :: (toBE 8 (kUp n) ++ r)) = _
 have hl := toBE_length 8 (kUp n)
 refine kPar_step (by decide) ?_
 unfold kRd
 rw [if_pos (by decide), if_pos (by rw [List.length_append]; omega), (take_front hl).1, (take_front hl).2, beN_toBE 8 _ (kUp_small h1 h2).1, (kUp_small h1 h2).2]
 rfl
def kPlain (p : KP) : Prop := (∃ s, p = kText s) ∨ ∃ n, p = kInt n ∧ -9223372036854775808 ≤ n ∧ n ≤ 9223372036854775807
theorem kPar_plain : ∀ (l : List KP), (∀ p ∈ l, kPlain p) → kPar (kRaw l) = some l
 | [], _ => kPar_nil
 | p :: l, h => by
  have ih := kPar_plain l (fun q hq => h q (List.mem_cons_of_mem _ hq))
  show kPar (kPart p ++ kRaw l) = _
  rcases h p (List.mem_cons_self ..) with ⟨s, rfl⟩ | ⟨n, rfl, h1, h2⟩
  ·rw [kPar_text, ih]; rfl
  ·rw [kPar_int h1 h2, ih]; rfl
/-- The text that comes first in a key. -/
def rcCl (l : List KP) : List UInt8 := match l.find? (fun p => p.k == 3) with | some p => p.s | none => []
theorem kPlain_text (s : List UInt8) : kPlain (kText s) := .inl ⟨s, rfl⟩
theorem kPlain_int {n : Int} (h1 : -9223372036854775808 ≤ n) (h2 : n ≤ 9223372036854775807) : kPlain (kInt n) := .inr ⟨n, rfl, h1, h2⟩
theorem kPlain_sum (t : List UInt8) : kPlain (rcSum t) := kPlain_int (by omega) (by have := crcSum_lt t; omega)
/-- What a row's key says, kind by kind. -/
theorem rc_keyIs {x : Rw} {p : Int} (h : rcFits x p = true) : (∀ q ∈ rcKeyL x p, kPlain q) ∧ rcCl (rcKeyL x p) = x.c ∧ (rcPlaced x.k = true → ∃ l, rcKeyL x p = l ++ [kInt p]) ∧ (rcPlaced x.k = false → p = 0) ∧ (0 ≤ p ∧ p ≤ 2147483648) := by
 have hf := h
 unfold rcFits at h
 simp only [Bool.and_eq_true, Bool.or_eq_true, decide_eq_true_eq] at h
 obtain ⟨hok, hp, hz⟩ := h
 have hp := inN_iff.1 hp
 have fit := rc_fit hok
 unfold rcOk at hok
 simp only [Bool.and_eq_true] at hok
 obtain ⟨h1, h2, h3⟩ := hok
 rw [rwEq_iff] at h3
 unfold rcIs at h1
 rw [inN_iff] at h1
 obtain ⟨k, c, seq, id, t, b, q, r, s⟩ := x
 simp only at fit h1 h2 h3 hz ⊢
 have e : k = 1 ∨ k = 2 ∨ k = 3 ∨ k = 4 ∨ k = 5 := by omega
 rcases e with rfl | rfl | rfl | rfl | rfl
 ·refine ⟨fun z hz => ?_, rfl, fun hh => absurd hh (by decide), fun _ => ?_, hp⟩
  ·obtain rfl : z = kText c := List.mem_singleton.1 hz
   exact kPlain_text c
  ·rcases hz with hz | hz
   ·exact hz
   ·exact absurd hz (by decide)
 ·refine ⟨fun z hz => ?_, rfl, fun _ => ⟨[kText c, rcSum t], rfl⟩, fun hh => absurd hh (by decide), hp⟩
  have hz : z ∈ [kText c, rcSum t, kInt p] := hz
  simp only [List.mem_cons, List.not_mem_nil, or_false] at hz
  rcases hz with rfl | rfl | rfl
  ·exact kPlain_text c
  ·exact kPlain_sum t
  ·exact kPlain_int (by omega) (by omega)
 ·refine ⟨fun z hz => ?_, rfl, fun hh => absurd hh (by decide), fun _ => ?_, hp⟩
  ·have hz : z ∈ [kText c, kInt seq] := hz
   simp only [List.mem_cons, List.not_mem_nil, or_false] at hz
   rcases hz with rfl | rfl
   ·exact kPlain_text c
   ·exact kPlain_int (by omega) (by omega)
  ·rcases hz with hz | hz
   ·exact hz
   ·exact absurd hz (by decide)
 ·refine ⟨fun z hz => ?_, rfl, fun hh => absurd hh (by decide), fun _ => ?_, hp⟩
  ·have hz : z ∈ [kText c, kInt id] := hz
   simp only [List.mem_cons, List.not_mem_nil, or_false] at hz
   rcases hz with rfl | rfl
   ·exact kPlain_text c
   ·exact kPlain_int (by omega) (by omega)
  ·rcases hz with hz | hz
   ·exact hz
   ·exact absurd hz (by decide)
 ·refine ⟨fun z hz => ?_, ?_, fun _ => ⟨[rcSum t], rfl⟩, fun hh => absurd hh (by decide), hp⟩
  ·have hz : z ∈ [rcSum t, kInt p] := hz
   simp only [List.mem_cons, List.not_mem_nil, or_false] at hz
   rcases hz with rfl | rfl
   ·exact kPlain_sum t
   ·exact kPlain_int (by omega) (by omega)
  ·have hc : ([] : List UInt8) = c := congrArg Rw.c h3
   rw [← hc]
   rfl
theorem rc_par {x : Rw} {p : Int} (h : rcFits x p = true) : kPar (kRaw (rcKeyL x p)) = some (rcKeyL x p) := kPar_plain _ (rc_keyIs h).1

/-- Numbers, texts, truths, read. -/
def rdN (k : Nat) (l : List UInt8) : Option (Nat × List UInt8) := if k ≤ l.length then some (beN (l.take k), l.drop k) else none
def rdTx (l : List UInt8) : Option (List UInt8 × List UInt8) := match rdN 2 l with
 | none => none
 | some (n, r) => if n ≤ r.length then some (r.take n, r.drop n) else none
def rdTr : List UInt8 → Option (Bool × List UInt8)
 | [] => none
 | b :: r => if b.toNat = 0 then some (false, r) else if b.toNat = 1 then some (true, r) else none
theorem rdN_app {k n : Nat} (h : n < 256 ^ k) (l : List UInt8) : rdN k (toBE k n ++ l) = some (n, l) := by
 have hl := toBE_length k n
 unfold rdN
 rw [if_pos (by rw [List.length_append]; omega), (take_front hl).1, (take_front hl).2, beN_toBE k n h]
theorem rdN_sound {k n : Nat} {l r : List UInt8} (h : rdN k l = some (n, r)) : l = toBE k n ++ r ∧ n < 256 ^ k ∧ k + r.length = l.length := by
 unfold rdN at h
 split at h
 ·rename_i hk
  injection h with h
  injection h with h1 h2
  subst h1 h2
  have hl : (l.take k).length = k := by rw [List.length_take]; omega
  refine ⟨by rw [toBE_beN _ _ hl, List.take_append_drop], ?_, by rw [List.length_drop]; omega⟩
  have := beN_lt (l.take k)
  rwa [hl] at this
 ·cases h
theorem rdTx_app {s : List UInt8} (h : s.length < 65536) (l : List UInt8) : rdTx ((toBE 2 s.length ++ s) ++ l) = some (s, l) := by
 unfold rdTx
 rw [List.append_assoc, rdN_app (by simpa using h)]
 simp only
 rw [if_pos (by rw [List.length_append]; omega), (take_front rfl).1, (take_front rfl).2]
theorem rdTx_sound {l s r : List UInt8} (h : rdTx l = some (s, r)) : l = (toBE 2 s.length ++ s) ++ r ∧ s.length < 65536 ∧ 2 + (s.length + r.length) = l.length := by
 unfold rdTx at h
 split at h
 ·cases h
 ·rename_i n r' hn
  split at h
  ·rename_i hle
   injection h with h
   injection h with h1 h2
   obtain ⟨g1, g2, g3⟩ := rdN_sound hn
   have hsl : s.length = n := by rw [← h1, List.length_take]; omega
   have hrl : r.length = r'.length - n := by rw [← h2, List.length_drop]
   refine ⟨?_, by simpa [hsl] using g2, by omega⟩
   rw [hsl, g1, List.append_assoc, ← h1, ← h2, List.take_append_drop]
  ·cases h
theorem rdTr_app (b : Bool) (l : List UInt8) : rdTr ([bif b then 1 else 0] ++ l) = some (b, l) := by cases b <;> rfl
theorem rdTr_sound {l r : List UInt8} {b : Bool} (h : rdTr l = some (b, r)) : l = [bif b then 1 else 0] ++ r ∧ 1 + r.length = l.length := by
 cases l with
 | nil => cases h
 | cons a l =>
  have h : (if a.toNat = 0 then some (false, l) else if a.toNat = 1 then some (true, l) else none) = some (b, r) := h
  by_cases h0 : a.toNat = 0
  ·rw [if_pos h0] at h
   injection h with h
   injection h with h1 h2
   subst h1 h2
   exact ⟨by rw [show a = 0 from UInt8.toNat_inj.1 h0]; rfl, by simp; omega⟩
  ·rw [if_neg h0] at h
   by_cases h1 : a.toNat = 1
   ·rw [if_pos h1] at h
    injection h with h
    injection h with h2 h3
    subst h2 h3
    exact ⟨by rw [show a = 1 from UInt8.toNat_inj.1 h1]; rfl, by simp; omega⟩
   ·rw [if_neg h1] at h
    cases h
/-- A value, read. -/
structure RvD where
 seq : Nat
 id : Nat
 t : List UInt8
 b : List UInt8
 q : Nat
 r : Bool
 s : Nat
 left : List UInt8
def rvDec (V : List UInt8) : Option RvD := (rdN 8 V).bind fun p1 => (rdN 8 p1.2).bind fun p2 => (rdTx p2.2).bind fun p3 => (rdTx p3.2).bind fun p4 => (rdN 1 p4.2).bind fun p5 => (rdTr p5.2).bind fun p6 => (rdN 1 p6.2).bind fun p7 => some ⟨p1.1, p2.1, p3.1, p4.1, p5.1, p6.1, p7.1, p7.2⟩
theorem rvDec_val {x : Rw} (h : rcOk x = true) (ht : x.t.length < 65536) (hb : x.b.length < 65536) : rvDec (rcVal x) = some ⟨x.seq.toNat, x.id.toNat, x.t, x.b, x.q.toNat, x.r, x.s.toNat, []⟩ := by
 have fit := rc_fit h
 have p8 : (256 : Nat) ^ 8 = 18446744073709551616 := by decide
 unfold rvDec rcVal
 rw [rdN_app (by rw [p8]; omega)]
 simp only [Option.bind_some]
 rw [rdN_app (by rw [p8]; omega)]
 simp only [Option.bind_some]
 rw [rdTx_app ht]
 simp only [Option.bind_some]
 rw [rdTx_app hb]
 simp only [Option.bind_some]
 rw [rdN_app (by simp; omega)]
 simp only [Option.bind_some]
 rw [rdTr_app]
 simp only [Option.bind_some]
 rw [show toBE 1 x.s.toNat = toBE 1 x.s.toNat ++ [] by simp, rdN_app (by simp; omega)]
 rfl
/-- All that a value says, step by step. -/
structure RvAll (V : List UInt8) (d : RvD) where
 V1 : List UInt8
 V2 : List UInt8
 V3 : List UInt8
 V4 : List UInt8
 V5 : List UInt8
 V6 : List UInt8
 e1 : rdN 8 V = some (d.seq, V1)
 e2 : rdN 8 V1 = some (d.id, V2)
 e3 : rdTx V2 = some (d.t, V3)
 e4 : rdTx V3 = some (d.b, V4)
 e5 : rdN 1 V4 = some (d.q, V5)
 e6 : rdTr V5 = some (d.r, V6)
 e7 : rdN 1 V6 = some (d.s, d.left)
theorem RvAll.dec {V : List UInt8} {d : RvD} (h : RvAll V d) : rvDec V = some d := by
 unfold rvDec
 simp only [h.e1, h.e2, h.e3, h.e4, h.e5, h.e6, h.e7, Option.bind_some]
theorem RvAll.is {V : List UInt8} {d : RvD} (h : RvAll V d) : V = toBE 8 d.seq ++ (toBE 8 d.id ++ ((toBE 2 d.t.length ++ d.t) ++ ((toBE 2 d.b.length ++ d.b) ++ (toBE 1 d.q ++ ([bif d.r then 1 else 0] ++ (toBE 1 d.s ++ d.left)))))) ∧ (d.seq < 18446744073709551616 ∧ d.id < 18446744073709551616 ∧ d.q < 256 ∧ d.s < 256) ∧ d.t.length < 65536 ∧ d.b.length < 65536 ∧ d.t.length + d.b.length ≤ V.length := by
 obtain ⟨a1, b1, c1⟩ := rdN_sound h.e1
 obtain ⟨a2, b2, c2⟩ := rdN_sound h.e2
 obtain ⟨a3, b3, c3⟩ := rdTx_sound h.e3
 obtain ⟨a4, b4, c4⟩ := rdTx_sound h.e4
 obtain ⟨a5, b5, c5⟩ := rdN_sound h.e5
 obtain ⟨a6, c6⟩ := rdTr_sound h.e6
 obtain ⟨a7, b7, c7⟩ := rdN_sound h.e7
 refine ⟨?_, ⟨by simpa using b1, by simpa using b2, by simpa using b5, by simpa using b7⟩, b3, b4, by omega⟩
 rw [← a7, ← a6, ← a5, ← a4, ← a3, ← a2, ← a1]
/-- Is that row at that place the one that a tree, a key, a value tell? -/
structure RvIs (T K V : List UInt8) (x : Rw) (p : Int) : Prop where
 fits : rcFits x p = true
 tree : rcTree x.k = T
 key : kRaw (rcKeyL x p) = K
 val : rcVal x = V
 t : x.t.length < 65536
 b : x.b.length < 65536
theorem rcFits_ok {x : Rw} {p : Int} (h : rcFits x p = true) : rcOk x = true := by
 unfold rcFits at h
 rw [Bool.and_eq_true] at h
 exact h.1
theorem rcOk_is {x : Rw} (h : rcOk x = true) : rcIs x.k = true := by
 unfold rcOk at h
 rw [Bool.and_eq_true] at h
 exact h.1
theorem rcTree_inj {a b : Int} (ha : rcIs a = true) (hb : rcIs b = true) (h : rcTree a = rcTree b) : a = b := by
 unfold rcIs at ha hb
 rw [inN_iff] at ha hb
 have e : a = 1 ∨ a = 2 ∨ a = 3 ∨ a = 4 ∨ a = 5 := by omega
 have e2 : b = 1 ∨ b = 2 ∨ b = 3 ∨ b = 4 ∨ b = 5 := by omega
 rcases e with rfl | rfl | rfl | rfl | rfl <;> rcases e2 with rfl | rfl | rfl | rfl | rfl <;> first | rfl | (exact absurd h (by decide))
/-- The last part's number. -/
def rcAt (k : Int) (l : List KP) : Int := if rcPlaced k = true then (l.getLast?.map KP.n).getD 0 else 0
theorem wrap_small {n : Int} (h : 0 ≤ n ∧ n ≤ 4611686018427387904) : wrap64 ((n.toNat : Nat) : Int) = n := by
 unfold wrap64
 omega
theorem wrap64_pos {n : Nat} (h : n < 18446744073709551616) (h0 : 0 ≤ wrap64 (n : Int) ∧ wrap64 (n : Int) ≤ 4611686018427387904) : (wrap64 (n : Int)).toNat = n := by
 unfold wrap64 at h0 ⊢
 omega
/-- Behind all that is read there is one row at most. -/
theorem rv_meets {T K V : List UInt8} {kd : Int} {l : List KP} {d : RvD} (hk : rcIs kd = true) (ht : rcTree kd = T) (hl : kPar K = some l) (hd : RvAll V d) {y : Rw} {q : Int} (h : RvIs T K V y q) :
  d.left = [] ∧ y = ⟨kd, rcCl l, wrap64 (d.seq : Int), wrap64 (d.id : Int), d.t, d.b, (d.q : Int), d.r, (d.s : Int)⟩ ∧ q = rcAt kd l := by
 have hok := rcFits_ok h.fits
 have fit := rc_fit hok
 have e1 := rvDec_val hok h.t h.b
 rw [h.val, hd.dec] at e1
 injection e1 with e1
 subst e1
 have e2 := rc_par h.fits
 rw [h.key, hl] at e2
 injection e2 with e2
 have e3 : y.k = kd := rcTree_inj (rcOk_is hok) hk (h.tree.trans ht.symm)
 obtain ⟨g1, g2, g3, g4, g5⟩ := rc_keyIs h.fits
 refine ⟨rfl, ?_, ?_⟩
 ·simp only
  rw [wrap_small fit.1, wrap_small fit.2.1, e2, g2, ← e3, show ((y.q.toNat : Nat) : Int) = y.q by omega, show ((y.s.toNat : Nat) : Int) = y.s by omega]
 ·unfold rcAt
  rw [← e3]
  cases hp : rcPlaced y.k with
  | true =>
   obtain ⟨l', e⟩ := g3 hp
   rw [if_pos rfl, e2, e]
   simp [kInt]
  | false => rw [if_neg (by simp)]; exact g4 hp
/-- What is read of a key and a value that a row fits is the row's. -/
theorem rv_sound {T K V : List UInt8} {kd : Int} {d : RvD} {x : Rw} {p : Int} (ht : rcTree kd = T) (hd : RvAll V d) (hx : x.k = kd ∧ x.seq = wrap64 (d.seq : Int) ∧ x.id = wrap64 (d.id : Int) ∧ x.t = d.t ∧ x.b = d.b ∧ x.q = d.q ∧ x.r = d.r ∧ x.s = d.s) (hl : d.left = []) (hf : rcFits x p = true) (hK : kRaw (rcKeyL x p) = K) : RvIs T K V x p := by
 have fit := rc_fit (rcFits_ok hf)
 obtain ⟨h1, h2, h3, h4, h5, h6, h7, h8⟩ := hx
 obtain ⟨a, b, t1, t2, _⟩ := hd.is
 have w1 : x.seq.toNat = d.seq := by
  rw [h2]
  exact wrap64_pos b.1 (by rw [← h2]; exact fit.1)
 have w2 : x.id.toNat = d.id := by
  rw [h3]
  exact wrap64_pos b.2.1 (by rw [← h3]; exact fit.2.1)
 refine ⟨hf, by rw [h1]; exact ht, hK, ?_, by rw [h4]; exact t1, by rw [h5]; exact t2⟩
 rw [a]
 unfold rcVal
 rw [w1, w2, h4, h5, h6, h7, h8, hl]
 simp
end Go.Proofs.YtfglgeoookbppaaGreatDoor

namespace Go.Proofs.YtfglgeoookbppaaGreatDoor
open Go.RowKit Go.Shelf

theorem rv_unique {T K V : List UInt8} {x y : Rw} {p q : Int} (h : RvIs T K V x p) (g : RvIs T K V y q) : y = x ∧ q = p := by
 have hx := rcFits_ok h.fits
 have hy := rcFits_ok g.fits
 have fx := rc_fit hx
 have fy := rc_fit hy
 have e1 := rvDec_val hx h.t h.b
 rw [h.val, ← g.val, rvDec_val hy g.t g.b] at e1
 injection e1 with e1
 injection e1 with a1 a2 a3 a4 a5 a6 a7
 have ek : y.k = x.k := rcTree_inj (rcOk_is hy) (rcOk_is hx) (g.tree.trans h.tree.symm)
 have e2 := rc_par h.fits
 rw [h.key, ← g.key, rc_par g.fits] at e2
 injection e2 with e2
 obtain ⟨_, c1, l1, z1, _⟩ := rc_keyIs h.fits
 obtain ⟨_, c2, l2, z2, _⟩ := rc_keyIs g.fits
 have ec : y.c = x.c := by rw [← c2, ← c1, e2]
 constructor
 ·obtain ⟨k, c, seq, id, t, b, q, r, s⟩ := x
  obtain ⟨k', c', seq', id', t', b', q', r', s'⟩ := y
  simp only at a1 a2 a3 a4 a5 a6 a7 ek ec fx fy
  have b1 : seq' = seq := by omega
  have b2 : id' = id := by omega
  have b5 : q' = q := by omega
  have b7 : s' = s := by omega
  subst ek ec b1 b2 a3 a4 b5 a6 b7
  rfl
 ·cases hp : rcPlaced x.k with
  | true =>
   obtain ⟨m, e3⟩ := l1 hp
   obtain ⟨m', e4⟩ := l2 (by rw [ek]; exact hp)
   rw [e2, e3] at e4
   have := congrArg List.getLast? e4
   simp [kInt] at this
   exact this.symm
  | false => rw [z1 hp, z2 (by rw [ek]; exact hp)]
theorem beg_key {x : Rw} {p : Int} : ∃ r, kRaw (rcKeyL x p) = kRaw (rcParts x.k x) ++ r := by
 unfold rcKeyL
 split
 ·exact ⟨_, kRaw_append _ _⟩
 ·exact ⟨[], by simp⟩
end Go.Proofs.YtfglgeoookbppaaGreatDoor
