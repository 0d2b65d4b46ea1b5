/- Package disk: pages held against each other; the keys of a map, gone over. Package disk: slices.Equal of what waits. Package disk: slices.Equal of what waits, walked. Package disk: Same. -/
import Derived.Test.YtehlabdbbbbopaaPa25
import Derived.Stop.BytesEq
import Derived.Maps.Range
import Derived.Maps.RangeWalk

namespace Go.Proofs.Ytehlabdbbbbopaa
open Go.RowKit Go.Maps

theorem leaf_eq (w : World) (d : Nat) {a b : List UInt8} (ha : a.length = 256) (hb : b.length = 256) : (Op.equalIn (d + 2) 72 (leafV a) (leafV b)).run Try.prog w = .ok (a == b) w :=
  run_equalIn_bytes w d 72 5 256 undLeaf (by kernel_rfl) (fun w => by kernel_rfl) a b ha hb
theorem eqGuard_leaf : Try.prog.eqGuardType Try.prog.depth 72 = false := by kernel_rfl
/-- Pages of two maps are alike at a key. -/
def AlikeAt (f g : Int → Option (List UInt8)) (x : Int) : Prop := (f x).getD nought = (g x).getD nought
theorem imap_range {w : World} {b : Nat} {f : Int → Option (List UInt8)} (h : DMap w b f) : ∃ (D : DataW Value) (n : Nat) (w' : World), (Instr.range 64 (.map (some b))).run Try.prog w = .ok (.pointer (some ⟨w.heap.size, 0, none⟩)) w' ∧
    w'.ranges Try.prog 3 heldR b w.heap.size n D (Maps.has D) (Maps.size D) ∧ Tells D (pageF f) ∧ Keeps w w' [] := by
  obtain ⟨D, hm, hT⟩ := h
  obtain ⟨w', h1, h2, h3, _⟩ := World.ownsMap.range hm (int_keyed undIntD) undDisk
  exact ⟨D, _, w', h1, h2, hT, Keeps.of_grown h3⟩
theorem tells_some {D : DataW Value} {f : Int → Option (List UInt8)} (hT : Tells D (pageF f)) {x : Int} {v : Value} (h : ∀ zd, D.atKey (.int .i64 x) zd = .held v) : f x ≠ none := fun e => by
  have h1 := hT.no x (by unfold pageF; rw [e]; rfl) .nil
  rw [h] at h1
  cases h1
theorem has_tells {D : DataW Value} {f : Int → Option (List UInt8)} (hT : Tells D (pageF f)) (x : Int) (h : f x ≠ none) : Maps.has D (.int .i64 x) = true := by
  rw [hT.has]
  unfold pageF
  cases hx : f x with
  | none => exact absurd hx h
  | some b => rfl
set_option maxRecDepth 100000 in
set_option maxHeartbeats 2000000 in
theorem alike_any (w : World) (b1 b2 : Nat) (f g : Int → Option (List UInt8)) (h1 : DMap w b1 f) (h2 : DMap w b2 g) {n1 n2 : Nat} (hf : PagesOk n1 f) (hg : PagesOk n2 g) (hn1 : n1 ≤ 4096) (hn2 : n2 ≤ 4096) :
    Calls Try.prog 41 #[.map (some b1), .map (some b2)] w fun e w' => ∃ r : Bool, e = .returned (.bool r) ∧ (r = true ↔ ∀ x, AlikeAt f g x) ∧ Keeps w w' [] := by
  have HL := Lib.hid (show (∀ x, ((f x).getD nought).length = 256) ∧ ∀ x, ((g x).getD nought).length = 256 from ⟨fun x => by
    cases hx : f x with
    | none => exact nought_length
    | some b => exact (hf x b hx).2.2, fun x => by
    cases hx : g x with
    | none => exact nought_length
    | some b => exact (hg x b hx).2.2⟩)
  have HB1 := Lib.hid (show ∀ x, f x ≠ none → 0 ≤ x ∧ x < 4096 from fun x hx => by
    obtain ⟨b, hb⟩ := Option.ne_none_iff_exists'.1 hx
    have := hf x b hb
    omega)
  have HB2 := Lib.hid (show ∀ x, g x ≠ none → 0 ≤ x ∧ x < 4096 from fun x hx => by
    obtain ⟨b, hb⟩ := Option.ne_none_iff_exists'.1 hx
    have := hg x b hb
    omega)
  obtain ⟨W1, hW1⟩ : ∃ W1, w.alloc (.cells #[.map (some b1), .map (some b2)] 64) = W1 := ⟨_, rfl⟩
  have k1 : Keeps w W1 [] := by rw [← hW1]; exact Keeps.alloc _ _
  have r1 : Row W1 w.heap.size 64 #[.map (some b1), .map (some b2)] := by rw [← hW1]; exact Row.new _ _ _
  have H1 : ∀ W, Keeps W1 W [] → DMap W b1 f := fun W hk => h1.keep (k1.then_ hk) (by simp)
  have H2 : ∀ W, Keeps W1 W [] → DMap W b2 g := fun W hk => h2.keep (k1.then_ hk) (by simp)
  have hb1 : b1 < W1.heap.size := (H1 W1 (Keeps.refl _ _)).lt
  have HR0 := Lib.hid r1
  have HRW := Lib.hid k1
  clear h1 h2 hf hg k1 r1
  go_enter Try.func41, Try.ntmps41
  go_wp2_with fail
  have HP0 := Lib.hid (show (1 ≤ 0 → ∀ x, f x ≠ none → AlikeAt f g x) ∧ (2 ≤ 0 → ∀ x, g x ≠ none → AlikeAt f g x) ∧ Keeps W1 W1 [] from ⟨fun h => absurd h (by omega), fun h => absurd h (by omega), Keeps.refl _ _⟩)
  go_loopw [12] (fun i wr => ∃ j : Nat, j ≤ 2 ∧ i = .int .i64 j ∧ Hid ((1 ≤ j → ∀ x, f x ≠ none → AlikeAt f g x) ∧ (2 ≤ j → ∀ x, g x ≠ none → AlikeAt f g x) ∧ Keeps W1 wr [])) (fun i _ => 2 - (intOf i).toNat)
  case atStart => exact ⟨0, by omega, rfl, HP0⟩
  case round =>
    clear HP0
    obtain ⟨j, hj, rfl, HR⟩ := hrel
    have qr := HR0.out.keeps HR.out.2.2
    have c0 := qr.cell 0
    have c1 := qr.cell 1
    simp only [List.getElem?_toArray, List.getElem?_cons_zero, List.getElem?_cons_succ] at c0 c1
    clear qr
    obtain rfl | rfl | rfl : j = 0 ∨ j = 1 ∨ j = 2 := by omega
    · skip
      obtain ⟨D, n, w4, hrun, hrg, hT, hk4⟩ := imap_range (H1 wr HR.out.2.2)
      have HJ := Lib.hid (And.intro hT (HR.out.2.2.then_ hk4))
      have HP := Lib.hid (show w4.ranges Try.prog 3 heldR b1 wr.heap.size n D (Maps.has D) (Maps.size D) ∧ (∀ x, f x ≠ none → Maps.has D (.int .i64 x) = false → AlikeAt f g x) ∧ Keeps W1 w4 [] from ⟨hrg, (fun x hx hh => by rw [has_tells hT x hx] at hh; cases hh), HR.out.2.2.then_ hk4⟩)
      have hrw := HR.out.2.2.size
      clear hrg hT hk4
      go_wp2_with fail
      clear hrun
      obtain ⟨wq, rfl⟩ : ∃ x, x = wr := ⟨_, rfl⟩
      go_loopw [] (fun w' => ∃ (left : Lit → Bool) (cnt : Nat), Hid (w'.ranges Try.prog 3 heldR b1 wq.heap.size n D left cnt ∧ (∀ x, f x ≠ none → left (.int .i64 x) = false → AlikeAt f g x) ∧ Keeps W1 w' [])) (fun w' => w'.rangeLeft b1 wq.heap.size)
      case atStart => exact ⟨_, _, HP⟩
      case round =>
        clear HP
        obtain ⟨left, cnt, HI⟩ := hrel
        have hml := World.ranges.left_eq HI.out.1
        rcases World.ranges.next HI.out.1 (int_keyed undIntD) 0 with ⟨_, hall, hrun⟩ | ⟨key, v, kl, y, w5, cnt5, hkey, hleft, hR, hat, hrun, hrg5, hlt5, hgr5, _, hen⟩
        · have hnx : ∀ ty, (Instr.next (.pointer (some ⟨wq.heap.size, 0, none⟩)) false ty).run Try.prog wr = _ := fun _ => hrun
          have HA := Lib.hid (show ∀ x, f x ≠ none → AlikeAt f g x from fun x hx => HI.out.2.1 x hx (hall _))
          clear hall hrun hml
          go_wp2_with fail
          exact ⟨⟨1, by omega, by go_num, Lib.hid ⟨fun _ => HA.out, fun h => absurd h (by omega), HI.out.2.2⟩⟩, by simp [intOf]⟩
        · obtain ⟨x, rfl, rfl, hwf⟩ := Maps.keyOf_int_inv undIntD hkey
          simp only [heldR, Option.some.injEq] at hR
          subst hR
          have hsome := tells_some HJ.out.1 hat
          have hx : -9223372036854775808 ≤ x ∧ x ≤ 9223372036854775807 := by have := HB1.out x hsome; omega
          have hk5 : Keeps W1 w5 [] := HI.out.2.2.trans (Keeps.of_grown hgr5) (fun z hz hlt => by simp at hz; omega)
          have hl1 := (H1 w5 hk5).look undIntD undDisk (zeroLeaf w5) (x := x) hx.1 hx.2 false
          have hl2 := (H2 w5 hk5).look undIntD undDisk (zeroLeaf w5) (x := x) hx.1 hx.2 false
          rw [if_neg (by decide), pageF_get] at hl1 hl2
          have hnx : ∀ ty, (Instr.next (.pointer (some ⟨wq.heap.size, 0, none⟩)) false ty).run Try.prog wr = _ := fun _ => hrun
          have hq := fun w => leaf_eq w 9998 (HL.out.1 x) (HL.out.2 x)
          have HN5 := Lib.hid (show w5.ranges Try.prog 3 heldR b1 wq.heap.size n D (fun z => left z && !z.sameKey (.int .i64 x)) cnt5 ∧ w5.rangeLeft b1 wq.heap.size < wr.rangeLeft b1 wq.heap.size ∧ Keeps W1 w5 [] from ⟨hrg5, by rw [World.ranges.left_eq hrg5, hml]; exact hlt5, hk5⟩)
          have hgd := eqGuard_leaf
          obtain ⟨X, hX⟩ : ∃ X, leafC ((f x).getD nought) = X := ⟨_, rfl⟩
          obtain ⟨Y, hY⟩ : ∃ Y, leafC ((g x).getD nought) = Y := ⟨_, rfl⟩
          rw [leafV, hX] at hl1
          rw [leafV, hY] at hl2
          rw [leafV, leafV, hX, hY] at hq
          clear hrun hrg5 hlt5 hgr5 hat hkey hleft hml hX hY
          by_cases hal : (f x).getD nought = (g x).getD nought
          · have hqt : ((f x).getD nought == (g x).getD nought) = true := by simpa using hal
            rw [hqt] at hq
            have HAL := Lib.hid (show AlikeAt f g x from hal)
            clear hqt hal
            go_wp2_with fail
            refine ⟨⟨_, cnt5, Lib.hid ⟨HN5.out.1, fun z hz hh => ?_, HN5.out.2.2⟩⟩, HN5.out.2.1⟩
            by_cases hzx : z = x
            · rw [hzx]; exact HAL.out
            · refine HI.out.2.1 z hz ?_
              have hsk : (Lit.int .i64 z).sameKey (.int .i64 x) = false := by
                cases hs : (Lit.int .i64 z).sameKey (.int .i64 x) with
                | false => rfl
                | true =>
                  have := WideAt.sameKey_eq hs
                  injection this with _ e
                  exact absurd e hzx
              rw [hsk] at hh
              simpa using hh
          · have hqf : ((f x).getD nought == (g x).getD nought) = false := by simpa using hal
            rw [hqf] at hq
            have HAL := Lib.hid (show ¬ AlikeAt f g x from hal)
            clear hqf hal
            go_wp2_with fail
            go_ret
            exact ⟨false, rfl, ⟨fun h => absurd h Bool.false_ne_true, fun h => absurd (h x) HAL.out⟩, HRW.out.then_ HN5.out.2.2⟩
    · skip
      obtain ⟨D, n, w4, hrun, hrg, hT, hk4⟩ := imap_range (H2 wr HR.out.2.2)
      have HJ := Lib.hid (And.intro hT (HR.out.2.2.then_ hk4))
      have HP := Lib.hid (show w4.ranges Try.prog 3 heldR b2 wr.heap.size n D (Maps.has D) (Maps.size D) ∧ (∀ x, g x ≠ none → Maps.has D (.int .i64 x) = false → AlikeAt f g x) ∧ Keeps W1 w4 [] from ⟨hrg, (fun x hx hh => by rw [has_tells hT x hx] at hh; cases hh), HR.out.2.2.then_ hk4⟩)
      have hrw := HR.out.2.2.size
      clear hrg hT hk4
      go_wp2_with fail
      clear hrun
      obtain ⟨wq, rfl⟩ : ∃ x, x = wr := ⟨_, rfl⟩
      go_loopw [] (fun w' => ∃ (left : Lit → Bool) (cnt : Nat), Hid (w'.ranges Try.prog 3 heldR b2 wq.heap.size n D left cnt ∧ (∀ x, g x ≠ none → left (.int .i64 x) = false → AlikeAt f g x) ∧ Keeps W1 w' [])) (fun w' => w'.rangeLeft b2 wq.heap.size)
      case atStart => exact ⟨_, _, HP⟩
      case round =>
        clear HP
        obtain ⟨left, cnt, HI⟩ := hrel
        have hml := World.ranges.left_eq HI.out.1
        rcases World.ranges.next HI.out.1 (int_keyed undIntD) 0 with ⟨_, hall, hrun⟩ | ⟨key, v, kl, y, w5, cnt5, hkey, hleft, hR, hat, hrun, hrg5, hlt5, hgr5, _, hen⟩
        · have hnx : ∀ ty, (Instr.next (.pointer (some ⟨wq.heap.size, 0, none⟩)) false ty).run Try.prog wr = _ := fun _ => hrun
          have HA := Lib.hid (show ∀ x, g x ≠ none → AlikeAt f g x from fun x hx => HI.out.2.1 x hx (hall _))
          clear hall hrun hml
          go_wp2_with fail
          exact ⟨⟨2, by omega, by go_num, Lib.hid ⟨fun _ => HR.out.1 (by omega), fun _ => HA.out, HI.out.2.2⟩⟩, by simp [intOf]⟩
        · obtain ⟨x, rfl, rfl, hwf⟩ := Maps.keyOf_int_inv undIntD hkey
          simp only [heldR, Option.some.injEq] at hR
          subst hR
          have hsome := tells_some HJ.out.1 hat
          have hx : -9223372036854775808 ≤ x ∧ x ≤ 9223372036854775807 := by have := HB2.out x hsome; omega
          have hk5 : Keeps W1 w5 [] := HI.out.2.2.trans (Keeps.of_grown hgr5) (fun z hz hlt => by simp at hz; omega)
          have hl1 := (H1 w5 hk5).look undIntD undDisk (zeroLeaf w5) (x := x) hx.1 hx.2 false
          have hl2 := (H2 w5 hk5).look undIntD undDisk (zeroLeaf w5) (x := x) hx.1 hx.2 false
          rw [if_neg (by decide), pageF_get] at hl1 hl2
          have hnx : ∀ ty, (Instr.next (.pointer (some ⟨wq.heap.size, 0, none⟩)) false ty).run Try.prog wr = _ := fun _ => hrun
          have hq := fun w => leaf_eq w 9998 (HL.out.1 x) (HL.out.2 x)
          have HN5 := Lib.hid (show w5.ranges Try.prog 3 heldR b2 wq.heap.size n D (fun z => left z && !z.sameKey (.int .i64 x)) cnt5 ∧ w5.rangeLeft b2 wq.heap.size < wr.rangeLeft b2 wq.heap.size ∧ Keeps W1 w5 [] from ⟨hrg5, by rw [World.ranges.left_eq hrg5, hml]; exact hlt5, hk5⟩)
          have hgd := eqGuard_leaf
          obtain ⟨X, hX⟩ : ∃ X, leafC ((f x).getD nought) = X := ⟨_, rfl⟩
          obtain ⟨Y, hY⟩ : ∃ Y, leafC ((g x).getD nought) = Y := ⟨_, rfl⟩
          rw [leafV, hX] at hl1
          rw [leafV, hY] at hl2
          rw [leafV, leafV, hX, hY] at hq
          clear hrun hrg5 hlt5 hgr5 hat hkey hleft hml hX hY
          by_cases hal : (f x).getD nought = (g x).getD nought
          · have hqt : ((f x).getD nought == (g x).getD nought) = true := by simpa using hal
            rw [hqt] at hq
            have HAL := Lib.hid (show AlikeAt f g x from hal)
            clear hqt hal
            go_wp2_with fail
            refine ⟨⟨_, cnt5, Lib.hid ⟨HN5.out.1, fun z hz hh => ?_, HN5.out.2.2⟩⟩, HN5.out.2.1⟩
            by_cases hzx : z = x
            · rw [hzx]; exact HAL.out
            · refine HI.out.2.1 z hz ?_
              have hsk : (Lit.int .i64 z).sameKey (.int .i64 x) = false := by
                cases hs : (Lit.int .i64 z).sameKey (.int .i64 x) with
                | false => rfl
                | true =>
                  have := WideAt.sameKey_eq hs
                  injection this with _ e
                  exact absurd e hzx
              rw [hsk] at hh
              simpa using hh
          · have hqf : ((f x).getD nought == (g x).getD nought) = false := by simpa using hal
            rw [hqf] at hq
            have HAL := Lib.hid (show ¬ AlikeAt f g x from hal)
            clear hqf hal
            go_wp2_with fail
            go_ret
            exact ⟨false, rfl, ⟨fun h => absurd h Bool.false_ne_true, fun h => absurd (h x) HAL.out⟩, HRW.out.then_ HN5.out.2.2⟩
    · have HA1 := Lib.hid (HR.out.1 (by omega))
      have HA2 := Lib.hid (HR.out.2.1 (by omega))
      have HK := Lib.hid HR.out.2.2
      go_wp2_with fail
      go_ret
      refine ⟨true, rfl, ⟨fun _ x => ?_, fun _ => rfl⟩, HRW.out.then_ HK.out⟩
      by_cases hfx : f x = none
      · by_cases hgx : g x = none
        · unfold AlikeAt
          rw [hfx, hgx]
        · exact HA2.out x hgx
      · exact HA1.out x hfx
end Go.Proofs.Ytehlabdbbbbopaa

namespace Go.Proofs.Ytehlabdbbbbopaa
open Go.RowKit Go.Maps

theorem part_page (w : World) (x : Int) (X : Array Value) : (part 3 (waitA x X) 0).run Try.prog w = .ok (.int .i64 x) w := by
  have he : (waitA x X)[0]? = some (.int .i64 x) := waitA_zero x X
  simp [part, isAgg, run_underlying undIntD, he]
theorem size_leaf (w : World) : (sizeOf 72).run Try.prog w = .ok 256 w := by kernel_rfl
theorem waitA_cut (x : Int) {X : Array Value} (hX : X.size = 256) : (waitA x X).extract 1 257 = X := by
  apply Array.toList_inj.1
  rw [Array.toList_extract]
  unfold waitA
  rw [Array.toList_append]
  simp [List.extract]
  exact List.take_of_length_le (by simp [hX])
theorem part_leaf (w : World) (x : Int) {X : Array Value} (hX : X.size = 256) : (part 72 (waitA x X) 1).run Try.prog w = .ok (.agg X) w := by
  have he := waitA_cut x hX
  generalize waitA x X = Y at he ⊢
  unfold part isAgg
  simp only [Sem.run_bind, run_underlying undLeaf, Result.andThen_ok, Sem.run_pure, if_true, size_leaf]
  rw [show 1 + 256 = 257 from rfl, he]
theorem wait_fields : (Try.prog.fieldsOf 75).toList.map (fun f => (f.name == "_", f.type, f.offset)) = [(false, 3, 0), (false, 72, 1)] := by kernel_rfl
theorem und_wait : Try.prog.underlying 75 = some (.struct (Try.prog.fieldsOf 75)) := by kernel_rfl
theorem held_wait : Try.prog.stoodInHeld 75 = false := by kernel_rfl
theorem eqFields_two {P : Program} {w : World} {d : Nat} {xs ys : Array Value} {f1 f2 : Field} {a1 b1 a2 b2 : Value} {r1 r2 : Bool} (m1 : f1.name ≠ "_") (m2 : f2.name ≠ "_") (h1 : (part f1.type xs f1.offset).run P w = .ok a1 w) (h2 : (part f1.type ys f1.offset).run P w = .ok b1 w) (h3 : (Op.equalIn d f1.type a1 b1).run P w = .ok r1 w)
    (h4 : (part f2.type xs f2.offset).run P w = .ok a2 w) (h5 : (part f2.type ys f2.offset).run P w = .ok b2 w) (h6 : (Op.equalIn d f2.type a2 b2).run P w = .ok r2 w) : (Op.eqFields d xs ys [f1, f2]).run P w = .ok (r1 && r2) w := by
  unfold Op.eqFields
  rw [if_pos m1]
  simp only [Sem.run_bind, h1, h2, h3, Result.andThen_ok]
  cases r1
  · simp
  · simp only [Bool.not_true, Bool.false_eq_true, if_false, Bool.true_and]
    unfold Op.eqFields
    rw [if_pos m2]
    simp only [Sem.run_bind, h4, h5, h6, Result.andThen_ok]
    cases r2
    · simp
    · simp [Op.eqFields]
theorem wait_eq (w : World) (d : Nat) {p q : Int × List UInt8} (hp : p.2.length = 256) (hq : q.2.length = 256) : (Op.equalIn (d + 3) 75 (.agg (waitA p.1 (leafC p.2))) (.agg (waitA q.1 (leafC q.2)))).run Try.prog w = .ok (p.1 == q.1 && p.2 == q.2) w := by
  have hf := wait_fields
  rw [run_equalIn_struct w (d + 2) 75 _ _ und_wait held_wait]
  generalize (Try.prog.fieldsOf 75).toList = fs at hf ⊢
  obtain ⟨f1, f2, rfl⟩ : ∃ f1 f2, fs = [f1, f2] := by
    have hl := congrArg List.length hf
    rw [List.length_map] at hl
    obtain ⟨f1, fs, rfl⟩ := List.exists_cons_of_length_pos (show 0 < fs.length by rw [hl]; decide)
    obtain ⟨f2, fs, rfl⟩ := List.exists_cons_of_length_pos (show 0 < fs.length by simp at hl; omega)
    exact ⟨f1, f2, by simp at hl; rw [hl]⟩
  simp only [List.map_cons, List.map_nil, List.cons.injEq, Prod.mk.injEq, and_true] at hf
  obtain ⟨⟨n1, t1, o1⟩, n2, t2, o2⟩ := hf
  have m1 : f1.name ≠ "_" := by simpa using n1
  have m2 : f2.name ≠ "_" := by simpa using n2
  refine eqFields_two m1 m2 (a1 := .int .i64 p.1) (b1 := .int .i64 q.1) (a2 := leafV p.2) (b2 := leafV q.2) ?_ ?_ ?_ ?_ ?_ ?_
  · rw [t1, o1]; exact part_page w _ _
  · rw [t1, o1]; exact part_page w _ _
  · rw [t1]; exact run_equalIn_int w (d + 1) 3 .i64 .i64 _ _ undIntD
  · rw [t2, o2]; exact part_leaf w _ (by rw [leafC_size, hp])
  · rw [t2, o2]; exact part_leaf w _ (by rw [leafC_size, hq])
  · rw [t2]; exact leaf_eq w d hp hq
end Go.Proofs.Ytehlabdbbbbopaa

namespace Go.Proofs.Ytehlabdbbbbopaa
open Go.RowKit Go.Maps

/-- A truth value is handed back. -/
def TruthOf (w : World) (Q : Prop) (e : Ending) (w' : World) : Prop := ∃ r : Bool, e = .returned (.bool r) ∧ (r = true ↔ Q) ∧ Keeps w w' []
theorem opOk_loadWait {R : World → World → Prop} {ops : Array Oper} {a : Act} {o : Oper} {W : World} (hgd : o.guard = none) (x : Operand) (ho : o.op = .load 75 x) (g off : Nat) (p : Int) (X XW : Array Value) (hXW : waitA p X = XW) (hX : X.size = 256) (hx : a.eval x = .pointer (some ⟨g, off, none⟩)) (hc : W.rangeAt g off (waitA p X).toList) (hR : R W W) :
    opOk Try.prog R ops a o (fun u _ => u = .agg XW) W := by
  subst hXW
  refine ⟨?_⟩
  rw [if_pos (by simp [Region.wanted, hgd])]
  have hrun := run_loadAt_mid (P := Try.prog) W g off 75 (waitA p X).toList _ hc und_wait rfl (by rw [Array.length_toList]; exact sizeWait hX)
  rw [Array.toArray_toList] at hrun
  unfold execOp
  simp only [ho, hx, Sem.run_bind, hrun, Result.andThen_ok, Sem.run_pure]
  exact ⟨hR, rfl⟩
theorem eqGuard_wait : Try.prog.eqGuardType Try.prog.depth 75 = false := by kernel_rfl
set_option maxRecDepth 100000 in
set_option maxHeartbeats 2000000 in
theorem equalW_any (w : World) (B1 B2 : Nat) (V U : Value) (l m : List (Int × List UInt8)) (h1 : WaitsAt w B1 V l) (h2 : WaitsAt w B2 U m) (hl : ∀ p ∈ l, p.2.length = 256) (hm : ∀ p ∈ m, p.2.length = 256) (hll : l.length ≤ 1000000) :
    Calls Try.prog 42 #[V, U] w (TruthOf w (l = m)) := by
  obtain ⟨A, c, rfl, -⟩ := h1.slice
  obtain ⟨A', c', rfl, -⟩ := h2.slice
  have HH := Lib.hid (And.intro h1 (And.intro h2 (And.intro hl hm)))
  clear h1 h2 hl hm
  by_cases hlm : (l.length : Int) = (m.length : Int)
  · have hlb : ((l.length : Int) != (m.length : Int)) = false := by simpa using hlm
    have HLM := Lib.hid (show l.length = m.length by omega)
    clear hlm
    go_enter Try.func42, Try.ntmps42
    go_wp2_with fail
    have HP := Lib.hid (show l.take 0 = m.take 0 ∧ Keeps w w [] from ⟨rfl, Keeps.refl _ _⟩)
    go_loopw [13] (fun i wr => ∃ k : Nat, k ≤ l.length ∧ i = .int .i64 k ∧ Hid (l.take k = m.take k ∧ Keeps w wr [])) (fun i _ => l.length - (intOf i).toNat)
    case atStart => exact ⟨0, by omega, rfl, HP⟩
    case round =>
      clear HP
      obtain ⟨k, hk, rfl, HR⟩ := hrel
      by_cases hkl : k < l.length
      · have hkm : k < m.length := by have := HLM.out; omega
        obtain ⟨⟨p, b⟩, hp⟩ : ∃ x, l[k] = x := ⟨_, rfl⟩
        obtain ⟨⟨q, e⟩, hq⟩ : ∃ x, m[k] = x := ⟨_, rfl⟩
        have hbl : b.length = 256 := by have := HH.out.2.2.1 _ (List.getElem_mem hkl); rw [hp] at this; exact this
        have hel : e.length = 256 := by have := HH.out.2.2.2 _ (List.getElem_mem hkm); rw [hq] at this; exact this
        obtain ⟨X, hX⟩ : ∃ X, leafC b = X := ⟨_, rfl⟩
        obtain ⟨Y, hY⟩ : ∃ Y, leafC e = Y := ⟨_, rfl⟩
        obtain ⟨g1, o1, rfl, hg1, hr1⟩ := WaitsAt.at_ (HH.out.1.keeps HR.out.2) HH.out.2.2.1 hkl hp hX
        obtain ⟨g2, o2, rfl, hg2, hr2⟩ := WaitsAt.at_ (HH.out.2.1.keeps HR.out.2) HH.out.2.2.2 hkm hq hY
        have hXs : X.size = 256 := by rw [← hX, leafC_size, hbl]
        have hYs : Y.size = 256 := by rw [← hY, leafC_size, hel]
        have hwe := fun w => wait_eq w 9997 (p := (p, b)) (q := (q, e)) hbl hel
        simp only [hX, hY] at hwe
        have HQ := Lib.hid (And.intro hr1 (And.intro hr2 (And.intro hXs (And.intro hYs (And.intro hp (And.intro hq (And.intro hg1 hg2)))))))
        obtain ⟨XW, hXW⟩ : ∃ XW, waitA p X = XW := ⟨_, rfl⟩
        obtain ⟨YW, hYW⟩ : ∃ YW, waitA q Y = YW := ⟨_, rfl⟩
        simp only [hXW, hYW] at hwe
        have HXW := Lib.hid (And.intro hXW hYW)
        have hgd := eqGuard_wait
        clear hr1 hr2 hXs hYs hp hq hg1 hg2 hX hY hXW hYW hbl hel
        have hkm' : (k : Int) < (m.length : Int) := by omega
        obtain ⟨r, hr⟩ : ∃ r, (p == q && b == e) = r := ⟨_, rfl⟩
        simp only [hr] at hwe
        have HRR := Lib.hid hr
        clear hr
        go_wp2_with fail
        refine wp_region_keeps _ (by kernel_rfl) rfl (by kernel_rfl) ?_
        apply loose_is
        · intro W vals hW hkn
          clear hkn
          refine ⟨?_⟩
          simp only [fill]
          go_simp
          first | exact ⟨Keeps.refl _ _, rfl⟩ | exact ⟨Keeps.alloc _ _, rfl⟩
        simp only [addEnt]
        apply loose_is
        · intro W vals hW hkn
          clear hkn
          refine ⟨?_⟩
          simp only [fill]
          go_simp
          first | exact ⟨Keeps.refl _ _, rfl⟩ | exact ⟨Keeps.alloc _ _, rfl⟩
        simp only [addEnt]
        apply loose_is
        · intro W vals hW hkn
          clear hkn
          refine ⟨?_⟩
          simp only [fill]
          go_simp
          first | exact ⟨Keeps.refl _ _, rfl⟩ | exact ⟨Keeps.alloc _ _, rfl⟩
        simp only [addEnt]
        apply loose_is
        · intro W vals hW hkn
          clear hkn
          exact opOk_loadWait rfl _ rfl g1 (o1 + k * 257) p X _ HXW.out.1 HQ.out.2.2.1 (by simp only [fill]; go_simp) (rangeAt_keep HQ.out.1 HQ.out.2.2.2.2.2.2.1 hW (by simp)) (Keeps.refl _ _)
        simp only [addEnt]
        apply loose_is
        · intro W vals hW hkn
          clear hkn
          refine ⟨?_⟩
          simp only [fill]
          go_simp
          first | exact ⟨Keeps.refl _ _, rfl⟩ | exact ⟨Keeps.alloc _ _, rfl⟩
        simp only [addEnt]
        apply loose_is
        · intro W vals hW hkn
          clear hkn
          refine ⟨?_⟩
          simp only [fill]
          go_simp
          first | exact ⟨Keeps.refl _ _, rfl⟩ | exact ⟨Keeps.alloc _ _, rfl⟩
        simp only [addEnt]
        apply loose_is
        · intro W vals hW hkn
          clear hkn
          refine ⟨?_⟩
          simp only [fill]
          go_simp
          first | exact ⟨Keeps.refl _ _, rfl⟩ | exact ⟨Keeps.alloc _ _, rfl⟩
        simp only [addEnt]
        apply loose_is
        · intro W vals hW hkn
          clear hkn
          exact opOk_loadWait rfl _ rfl g2 (o2 + k * 257) q Y _ HXW.out.2 HQ.out.2.2.2.1 (by simp only [fill]; go_simp) (rangeAt_keep HQ.out.2.1 HQ.out.2.2.2.2.2.2.2 hW (by simp)) (Keeps.refl _ _)
        simp only [addEnt]
        apply loose_is
        · intro W vals hW hkn
          clear hkn
          refine ⟨?_⟩
          simp only [fill]
          go_simp
          first | exact ⟨Keeps.refl _ _, rfl⟩ | exact ⟨Keeps.alloc _ _, rfl⟩
        simp only [addEnt]
        refine loose_nil (fun W vals hW hkn => ?_)
        simp only [knowsAll] at hkn
        try simp only [and_true] at hkn
        simp only [fill, Act.put, List.setIfInBounds_toArray, List.set_cons_succ, List.set_cons_zero]
        have HW := Lib.hid (show Keeps w W [] from HR.out.2.then_ hW)
        have htk : l.take (k + 1) = l.take k ++ [(p, b)] := by rw [List.take_succ_eq_append_getElem hkl, HQ.out.2.2.2.2.1]
        have htm : m.take (k + 1) = m.take k ++ [(q, e)] := by rw [List.take_succ_eq_append_getElem hkm, HQ.out.2.2.2.2.2.1]
        have HTK := Lib.hid (And.intro htk htm)
        clear hkn hW htk htm
        cases r with
        | true =>
          have hpb : p = q ∧ b = e := by have := HRR.out; simpa using this
          have HPB := Lib.hid hpb
          clear hpb
          go_wp2_with fail
          exact ⟨⟨k + 1, by omega, by go_num, Lib.hid ⟨by rw [HTK.out.1, HTK.out.2, HR.out.1, HPB.out.1, HPB.out.2], HW.out⟩⟩, by simp [intOf]; omega⟩
        | false =>
          have hpb : ¬ (p = q ∧ b = e) := by have := HRR.out; intro h; rw [h.1, h.2] at this; simp at this
          have HPB := Lib.hid hpb
          clear hpb
          go_wp2_with fail
          go_ret
          refine ⟨false, rfl, ⟨fun h => absurd h Bool.false_ne_true, fun h => ?_⟩, HW.out⟩
          subst h
          have e1 := HQ.out.2.2.2.2.1.symm.trans HQ.out.2.2.2.2.2.1
          injection e1 with e1 e2
          exact absurd ⟨e1, e2⟩ HPB.out
      · obtain rfl : k = l.length := by omega
        have hkm : ¬ (l.length : Int) < (l.length : Int) := by omega
        go_wp2_with fail
        go_ret
        refine ⟨true, rfl, ⟨fun _ => ?_, fun _ => rfl⟩, HR.out.2⟩
        have := HR.out.1
        rwa [List.take_length, HLM.out, List.take_length] at this
  · have hlb : ((l.length : Int) != (m.length : Int)) = true := by simpa using hlm
    have HLM := Lib.hid (show l ≠ m from fun h => hlm (by rw [h]))
    clear hlm
    go_enter Try.func42, Try.ntmps42
    go_wp2_with fail
    go_ret
    exact ⟨false, rfl, ⟨fun h => absurd h Bool.false_ne_true, fun h => absurd h HLM.out⟩, Keeps.refl _ _⟩
end Go.Proofs.Ytehlabdbbbbopaa

namespace Go.Proofs.Ytehlabdbbbbopaa
open Go.RowKit Go.Maps

/-- Two disks are the same. -/
structure SameD (D C : Dk) : Prop where
  k : D.kind = C.kind
  lf : D.left = C.left
  p : D.pages = C.pages
  dd : D.dead = C.dead
  l : ∀ x, AlikeAt D.lasts C.lasts x
  n : ∀ x, AlikeAt D.now C.now x
  w : D.waits = C.waits
theorem truth_dec {w : World} {Q : Prop} {B : Bool} (hB : B = true ↔ Q) {P : Program} {f : FuncId} {args : Array Value} (h : Calls P f args w (TruthOf w Q)) : Calls P f args w fun e w' => e = .returned (.bool B) ∧ Keeps w w' [] := by
  refine h.mono ?_
  rintro e w' ⟨r, rfl, hr, hk⟩
  refine ⟨?_, hk⟩
  have : r = B := by rw [Bool.eq_iff_iff, hr, hB]
  rw [this]
theorem bool_of (Q : Prop) : ∃ B : Bool, B = true ↔ Q := by
  by_cases h : Q
  · exact ⟨true, fun _ => h, fun _ => rfl⟩
  · exact ⟨false, fun h => absurd h Bool.false_ne_true, fun h' => absurd h' h⟩
set_option maxRecDepth 100000 in
set_option maxHeartbeats 4000000 in
theorem dkSame_any {w : World} {d m1 m2 d' m1' m2' : Nat} {V V' : Value} {D C : Dk} (h : DkAt w d m1 m2 V D) (h' : DkAt w d' m1' m2' V' C) (hl : D.waits.length ≤ 1000000) :
    Calls Try.prog 26 #[.pointer (some ⟨d, 0, none⟩), .pointer (some ⟨d', 0, none⟩)] w (TruthOf w (SameD D C)) := by
  have HH := Lib.hid (And.intro h (And.intro h' hl))
  obtain ⟨A, c, rfl, -⟩ := h.w.slice
  obtain ⟨A', c', rfl, -⟩ := h'.w.slice
  obtain ⟨B0, hB0⟩ : ∃ B : Bool, (D.kind == C.kind && D.left == C.left) = B := ⟨_, rfl⟩
  obtain ⟨B1, hB1⟩ : ∃ B : Bool, ((D.pages : Int) == (C.pages : Int)) = B := ⟨_, rfl⟩
  obtain ⟨B2, hB2⟩ : ∃ B : Bool, (D.dead == C.dead) = B := ⟨_, rfl⟩
  obtain ⟨B3, hB3⟩ := bool_of (∀ x, AlikeAt D.lasts C.lasts x)
  obtain ⟨B4, hB4⟩ := bool_of (∀ x, AlikeAt D.now C.now x)
  obtain ⟨B5, hB5⟩ := bool_of (D.waits = C.waits)
  have hp4 := h.ok.p4
  have hp4' := h'.ok.p4
  have HS3 := Lib.hid (fun (W : World) (hk : Keeps w W []) => truth_dec hB3 (alike_any W m1 m1' D.lasts C.lasts (h.l.keep hk (by simp)) (h'.l.keep hk (by simp)) h.ok.l h'.ok.l hp4 hp4'))
  have HS4 := Lib.hid (fun (W : World) (hk : Keeps w W []) => truth_dec hB4 (alike_any W m2 m2' D.now C.now (h.n.keep hk (by simp)) (h'.n.keep hk (by simp)) h.ok.n h'.ok.n hp4 hp4'))
  have HS5 := Lib.hid (fun (W : World) (hk : Keeps w W []) => truth_dec hB5 (equalW_any W 0 0 _ _ D.waits C.waits (h.w.keeps hk) (h'.w.keeps hk) (fun p hp => (h.ok.w p hp).2.2) (fun p hp => (h'.ok.w p hp).2.2) hl))
  have HD := Lib.hid (show (B0 = true ↔ D.kind = C.kind ∧ D.left = C.left) ∧ (B1 = true ↔ D.pages = C.pages) ∧ (B2 = true ↔ D.dead = C.dead) ∧ (B3 = true ↔ ∀ x, AlikeAt D.lasts C.lasts x) ∧ (B4 = true ↔ ∀ x, AlikeAt D.now C.now x) ∧ (B5 = true ↔ D.waits = C.waits) from ⟨by rw [← hB0]; simp, by rw [← hB1]; simp; omega, by rw [← hB2]; simp, hB3, hB4, hB5⟩)
  have M0 := fun (W : World) (hW : Keeps w W []) => (HH.out.1.row.keeps hW).cell 0
  have M1 := fun (W : World) (hW : Keeps w W []) => (HH.out.1.row.keeps hW).cell 1
  have M2 := fun (W : World) (hW : Keeps w W []) => (HH.out.1.row.keeps hW).cell 2
  have M3 := fun (W : World) (hW : Keeps w W []) => (HH.out.1.row.keeps hW).cell 3
  have M4 := fun (W : World) (hW : Keeps w W []) => (HH.out.1.row.keeps hW).cell 4
  have M5 := fun (W : World) (hW : Keeps w W []) => (HH.out.1.row.keeps hW).cell 5
  have M6 := fun (W : World) (hW : Keeps w W []) => (HH.out.1.row.keeps hW).cell 6
  have N0 := fun (W : World) (hW : Keeps w W []) => (HH.out.2.1.row.keeps hW).cell 0
  have N1 := fun (W : World) (hW : Keeps w W []) => (HH.out.2.1.row.keeps hW).cell 1
  have N2 := fun (W : World) (hW : Keeps w W []) => (HH.out.2.1.row.keeps hW).cell 2
  have N3 := fun (W : World) (hW : Keeps w W []) => (HH.out.2.1.row.keeps hW).cell 3
  have N4 := fun (W : World) (hW : Keeps w W []) => (HH.out.2.1.row.keeps hW).cell 4
  have N5 := fun (W : World) (hW : Keeps w W []) => (HH.out.2.1.row.keeps hW).cell 5
  have N6 := fun (W : World) (hW : Keeps w W []) => (HH.out.2.1.row.keeps hW).cell 6
  simp only [dkRow, List.getElem?_toArray, List.getElem?_cons_zero, List.getElem?_cons_succ] at M0 M1 M2 M3 M4 M5 M6 N0 N1 N2 N3 N4 N5 N6
  have HAI := Lib.hid (show ∀ W : World, (if D.kind = C.kind then (if D.left = C.left then Result.ok (Next.value (Value.bool true)) W else Result.ok (Next.value (Value.bool false)) W) else Result.ok (Next.value (Value.bool false)) W) = Result.ok (Next.value (Value.bool B0)) W from fun W => by
    rw [← hB0]
    by_cases e1 : D.kind = C.kind
    · by_cases e2 : D.left = C.left
      · simp [e1, e2]
      · simp [e1, e2]
    · simp [e1])
  clear h h' hl hB0 hB3 hB4 hB5 hp4 hp4'
  go_enter Try.func26, Try.ntmps26
  go_wp2_with fail
  refine (dkNone_any HH.out.1).mono ?_
  rintro e w' ⟨rfl, rfl⟩
  go_wp2_with fail
  refine (dkNone_any HH.out.2.1).mono ?_
  rintro e w' ⟨rfl, rfl⟩
  go_wp2_with fail
  refine wp_region_keeps _ (by kernel_rfl) rfl (by kernel_rfl) ?_
  apply loose_is
  · intro W vals hW hkn
    clear hkn
    refine ⟨?_⟩
    simp only [fill]
    go_simp
    first | exact ⟨Keeps.refl _ _, rfl⟩ | exact ⟨Keeps.alloc _ _, rfl⟩
  simp only [addEnt]
  apply loose_is
  · intro W vals hW hkn
    clear hkn
    refine ⟨?_⟩
    simp only [fill]
    go_simp
    first | exact ⟨Keeps.refl _ _, rfl⟩ | exact ⟨Keeps.alloc _ _, rfl⟩
  simp only [addEnt]
  apply loose_is
  · intro W vals hW hkn
    clear hkn
    refine ⟨?_⟩
    simp only [fill]
    go_simp
    first | exact ⟨Keeps.refl _ _, rfl⟩ | exact ⟨Keeps.alloc _ _, rfl⟩
  simp only [addEnt]
  apply loose_is
  · intro W vals hW hkn
    clear hkn
    refine ⟨?_⟩
    simp only [fill]
    go_simp
    first | exact ⟨Keeps.refl _ _, rfl⟩ | exact ⟨Keeps.alloc _ _, rfl⟩
  simp only [addEnt]
  apply loose_is
  · intro W vals hW hkn
    clear hkn
    refine ⟨?_⟩
    simp only [fill]
    go_simp
    first | exact ⟨Keeps.refl _ _, rfl⟩ | exact ⟨Keeps.alloc _ _, rfl⟩
  simp only [addEnt]
  apply loose_is
  · intro W vals hW hkn
    clear hkn
    refine ⟨?_⟩
    simp only [fill]
    go_simp
    first | exact ⟨Keeps.refl _ _, rfl⟩ | exact ⟨Keeps.alloc _ _, rfl⟩
  simp only [addEnt]
  apply loose_is
  · intro W vals hW hkn
    clear hkn
    refine ⟨?_⟩
    simp only [fill]
    go_simp
    first | exact ⟨Keeps.refl _ _, rfl⟩ | exact ⟨Keeps.alloc _ _, rfl⟩
  simp only [addEnt]
  apply loose_is
  · intro W vals hW hkn
    clear hkn
    refine ⟨?_⟩
    simp only [fill]
    go_simp
    first | exact ⟨Keeps.refl _ _, rfl⟩ | exact ⟨Keeps.alloc _ _, rfl⟩
  simp only [addEnt]
  apply loose_is
  · intro W vals hW hkn
    clear hkn
    refine ⟨?_⟩
    simp only [fill]
    go_simp
    rw [HAI.out]
    exact ⟨Keeps.refl _ _, rfl⟩
  simp only [addEnt]
  apply loose_is
  · intro W vals hW hkn
    clear hkn
    refine ⟨?_⟩
    simp only [fill]
    go_simp
    first | exact ⟨Keeps.refl _ _, rfl⟩ | exact ⟨Keeps.alloc _ _, rfl⟩
  simp only [addEnt]
  cases B0 with
  | false =>
    refine loose_off (fun vals => by kernel_rfl) ?_
    simp only [addEnt]
    refine loose_off (fun vals => by kernel_rfl) ?_
    simp only [addEnt]
    refine loose_off (fun vals => by kernel_rfl) ?_
    simp only [addEnt]
    refine loose_off (fun vals => by kernel_rfl) ?_
    simp only [addEnt]
    refine loose_off (fun vals => by kernel_rfl) ?_
    simp only [addEnt]
    refine loose_off (fun vals => by kernel_rfl) ?_
    simp only [addEnt]
    refine loose_off (fun vals => by kernel_rfl) ?_
    simp only [addEnt]
    refine loose_off (fun vals => by kernel_rfl) ?_
    simp only [addEnt]
    refine loose_off (fun vals => by kernel_rfl) ?_
    simp only [addEnt]
    apply loose_is
    · intro W vals hW hkn
      clear hkn
      refine ⟨?_⟩
      simp only [fill]
      go_simp
      first | exact ⟨Keeps.refl _ _, rfl⟩ | exact ⟨Keeps.alloc _ _, rfl⟩
    simp only [addEnt]
    apply loose_is
    · intro W vals hW hkn
      clear hkn
      refine ⟨?_⟩
      simp only [fill]
      go_simp
      first | exact ⟨Keeps.refl _ _, rfl⟩ | exact ⟨Keeps.alloc _ _, rfl⟩
    simp only [addEnt]
    refine loose_off (fun vals => by kernel_rfl) ?_
    simp only [addEnt]
    refine loose_off (fun vals => by kernel_rfl) ?_
    simp only [addEnt]
    refine loose_off (fun vals => by kernel_rfl) ?_
    simp only [addEnt]
    refine loose_off (fun vals => by kernel_rfl) ?_
    simp only [addEnt]
    refine loose_off (fun vals => by kernel_rfl) ?_
    simp only [addEnt]
    refine loose_off (fun vals => by kernel_rfl) ?_
    simp only [addEnt]
    refine loose_off (fun vals => by kernel_rfl) ?_
    simp only [addEnt]
    refine loose_off (fun vals => by kernel_rfl) ?_
    simp only [addEnt]
    refine loose_off (fun vals => by kernel_rfl) ?_
    simp only [addEnt]
    apply loose_is
    · intro W vals hW hkn
      clear hkn
      refine ⟨?_⟩
      simp only [fill]
      go_simp
      first | exact ⟨Keeps.refl _ _, rfl⟩ | exact ⟨Keeps.alloc _ _, rfl⟩
    simp only [addEnt]
    apply loose_is
    · intro W vals hW hkn
      clear hkn
      refine ⟨?_⟩
      simp only [fill]
      go_simp
      first | exact ⟨Keeps.refl _ _, rfl⟩ | exact ⟨Keeps.alloc _ _, rfl⟩
    simp only [addEnt]
    refine loose_off (fun vals => by kernel_rfl) ?_
    simp only [addEnt]
    refine loose_off (fun vals => by kernel_rfl) ?_
    simp only [addEnt]
    refine loose_off (fun vals => by kernel_rfl) ?_
    simp only [addEnt]
    refine loose_off (fun vals => by kernel_rfl) ?_
    simp only [addEnt]
    refine loose_off (fun vals => by kernel_rfl) ?_
    simp only [addEnt]
    refine loose_off (fun vals => by kernel_rfl) ?_
    simp only [addEnt]
    refine loose_off (fun vals => by kernel_rfl) ?_
    simp only [addEnt]
    refine loose_off (fun vals => by kernel_rfl) ?_
    simp only [addEnt]
    refine loose_off (fun vals => by kernel_rfl) ?_
    simp only [addEnt]
    apply loose_is
    · intro W vals hW hkn
      clear hkn
      refine ⟨?_⟩
      simp only [fill]
      go_simp
      first | exact ⟨Keeps.refl _ _, rfl⟩ | exact ⟨Keeps.alloc _ _, rfl⟩
    simp only [addEnt]
    apply loose_is
    · intro W vals hW hkn
      clear hkn
      refine ⟨?_⟩
      simp only [fill]
      go_simp
      first | exact ⟨Keeps.refl _ _, rfl⟩ | exact ⟨Keeps.alloc _ _, rfl⟩
    simp only [addEnt]
    refine loose_off (fun vals => by kernel_rfl) ?_
    simp only [addEnt]
    refine loose_off (fun vals => by kernel_rfl) ?_
    simp only [addEnt]
    refine loose_off (fun vals => by kernel_rfl) ?_
    simp only [addEnt]
    refine loose_off (fun vals => by kernel_rfl) ?_
    simp only [addEnt]
    refine loose_off (fun vals => by kernel_rfl) ?_
    simp only [addEnt]
    refine loose_off (fun vals => by kernel_rfl) ?_
    simp only [addEnt]
    refine loose_off (fun vals => by kernel_rfl) ?_
    simp only [addEnt]
    refine loose_off (fun vals => by kernel_rfl) ?_
    simp only [addEnt]
    refine loose_off (fun vals => by kernel_rfl) ?_
    simp only [addEnt]
    apply loose_is
    · intro W vals hW hkn
      clear hkn
      refine ⟨?_⟩
      simp only [fill]
      go_simp
      first | exact ⟨Keeps.refl _ _, rfl⟩ | exact ⟨Keeps.alloc _ _, rfl⟩
    simp only [addEnt]
    apply loose_is
    · intro W vals hW hkn
      clear hkn
      refine ⟨?_⟩
      simp only [fill]
      go_simp
      first | exact ⟨Keeps.refl _ _, rfl⟩ | exact ⟨Keeps.alloc _ _, rfl⟩
    simp only [addEnt]
    refine loose_off (fun vals => by kernel_rfl) ?_
    simp only [addEnt]
    refine loose_off (fun vals => by kernel_rfl) ?_
    simp only [addEnt]
    refine loose_off (fun vals => by kernel_rfl) ?_
    simp only [addEnt]
    refine loose_off (fun vals => by kernel_rfl) ?_
    simp only [addEnt]
    refine loose_off (fun vals => by kernel_rfl) ?_
    simp only [addEnt]
    refine loose_off (fun vals => by kernel_rfl) ?_
    simp only [addEnt]
    refine loose_off (fun vals => by kernel_rfl) ?_
    simp only [addEnt]
    refine loose_off (fun vals => by kernel_rfl) ?_
    simp only [addEnt]
    refine loose_off (fun vals => by kernel_rfl) ?_
    simp only [addEnt]
    apply loose_is
    · intro W vals hW hkn
      clear hkn
      refine ⟨?_⟩
      simp only [fill]
      go_simp
      first | exact ⟨Keeps.refl _ _, rfl⟩ | exact ⟨Keeps.alloc _ _, rfl⟩
    simp only [addEnt]
    apply loose_is
    · intro W vals hW hkn
      clear hkn
      refine ⟨?_⟩
      simp only [fill]
      go_simp
      first | exact ⟨Keeps.refl _ _, rfl⟩ | exact ⟨Keeps.alloc _ _, rfl⟩
    simp only [addEnt]
    refine loose_nil (fun W vals hW hkn => ?_)
    simp only [knowsAll] at hkn
    try simp only [and_true] at hkn
    simp only [fill, Act.put, List.setIfInBounds_toArray, List.set_cons_succ, List.set_cons_zero]
    clear hkn
    have HW := Lib.hid hW
    clear hW M0 M1 M2 M3 M4 M5 M6 N0 N1 N2 N3 N4 N5 N6
    go_wp2_with fail
    go_ret
    refine ⟨_, rfl, ?_, HW.out⟩
    exact ⟨fun h => absurd h Bool.false_ne_true, fun h => absurd (HD.out.1.2 ⟨h.k, h.lf⟩) (by simp)⟩
  | true =>
    apply loose_is
    · intro W vals hW hkn
      clear hkn
      refine ⟨?_⟩
      simp only [fill]
      go_simp
      first | exact ⟨Keeps.refl _ _, rfl⟩ | exact ⟨Keeps.alloc _ _, rfl⟩
    simp only [addEnt]
    apply loose_is
    · intro W vals hW hkn
      clear hkn
      refine ⟨?_⟩
      simp only [fill]
      go_simp
      first | exact ⟨Keeps.refl _ _, rfl⟩ | exact ⟨Keeps.alloc _ _, rfl⟩
    simp only [addEnt]
    apply loose_is
    · intro W vals hW hkn
      clear hkn
      refine ⟨?_⟩
      simp only [fill]
      go_simp
      first | exact ⟨Keeps.refl _ _, rfl⟩ | exact ⟨Keeps.alloc _ _, rfl⟩
    simp only [addEnt]
    apply loose_is
    · intro W vals hW hkn
      clear hkn
      refine ⟨?_⟩
      simp only [fill]
      go_simp
      first | exact ⟨Keeps.refl _ _, rfl⟩ | exact ⟨Keeps.alloc _ _, rfl⟩
    simp only [addEnt]
    apply loose_is
    · intro W vals hW hkn
      clear hkn
      refine ⟨?_⟩
      simp only [fill]
      go_simp
      first | exact ⟨Keeps.refl _ _, rfl⟩ | exact ⟨Keeps.alloc _ _, rfl⟩
    simp only [addEnt]
    apply loose_is
    · intro W vals hW hkn
      clear hkn
      refine ⟨?_⟩
      simp only [fill]
      go_simp
      first | exact ⟨Keeps.refl _ _, rfl⟩ | exact ⟨Keeps.alloc _ _, rfl⟩
    simp only [addEnt]
    apply loose_is
    · intro W vals hW hkn
      clear hkn
      refine ⟨?_⟩
      simp only [fill]
      go_simp
      first | exact ⟨Keeps.refl _ _, rfl⟩ | exact ⟨Keeps.alloc _ _, rfl⟩
    simp only [addEnt]
    apply loose_is
    · intro W vals hW hkn
      clear hkn
      refine ⟨?_⟩
      simp only [fill]
      go_simp
      first | exact ⟨Keeps.refl _ _, rfl⟩ | exact ⟨Keeps.alloc _ _, rfl⟩
    simp only [addEnt]
    apply loose_is
    · intro W vals hW hkn
      clear hkn
      refine ⟨?_⟩
      simp only [fill]
      go_simp
      first | exact ⟨Keeps.refl _ _, rfl⟩ | exact ⟨Keeps.alloc _ _, rfl⟩
    simp only [addEnt]
    apply loose_is
    · intro W vals hW hkn
      clear hkn
      refine ⟨?_⟩
      simp only [fill]
      go_simp
      first | exact ⟨Keeps.refl _ _, rfl⟩ | exact ⟨Keeps.alloc _ _, rfl⟩
    simp only [addEnt]
    apply loose_is
    · intro W vals hW hkn
      clear hkn
      refine ⟨?_⟩
      simp only [fill]
      go_simp
      first | exact ⟨Keeps.refl _ _, rfl⟩ | exact ⟨Keeps.alloc _ _, rfl⟩
    simp only [addEnt]
    cases B1 with
    | false =>
      refine loose_off (fun vals => by kernel_rfl) ?_
      simp only [addEnt]
      refine loose_off (fun vals => by kernel_rfl) ?_
      simp only [addEnt]
      refine loose_off (fun vals => by kernel_rfl) ?_
      simp only [addEnt]
      refine loose_off (fun vals => by kernel_rfl) ?_
      simp only [addEnt]
      refine loose_off (fun vals => by kernel_rfl) ?_
      simp only [addEnt]
      refine loose_off (fun vals => by kernel_rfl) ?_
      simp only [addEnt]
      refine loose_off (fun vals => by kernel_rfl) ?_
      simp only [addEnt]
      refine loose_off (fun vals => by kernel_rfl) ?_
      simp only [addEnt]
      refine loose_off (fun vals => by kernel_rfl) ?_
      simp only [addEnt]
      apply loose_is
      · intro W vals hW hkn
        clear hkn
        refine ⟨?_⟩
        simp only [fill]
        go_simp
        first | exact ⟨Keeps.refl _ _, rfl⟩ | exact ⟨Keeps.alloc _ _, rfl⟩
      simp only [addEnt]
      apply loose_is
      · intro W vals hW hkn
        clear hkn
        refine ⟨?_⟩
        simp only [fill]
        go_simp
        first | exact ⟨Keeps.refl _ _, rfl⟩ | exact ⟨Keeps.alloc _ _, rfl⟩
      simp only [addEnt]
      refine loose_off (fun vals => by kernel_rfl) ?_
      simp only [addEnt]
      refine loose_off (fun vals => by kernel_rfl) ?_
      simp only [addEnt]
      refine loose_off (fun vals => by kernel_rfl) ?_
      simp only [addEnt]
      refine loose_off (fun vals => by kernel_rfl) ?_
      simp only [addEnt]
      refine loose_off (fun vals => by kernel_rfl) ?_
      simp only [addEnt]
      refine loose_off (fun vals => by kernel_rfl) ?_
      simp only [addEnt]
      refine loose_off (fun vals => by kernel_rfl) ?_
      simp only [addEnt]
      refine loose_off (fun vals => by kernel_rfl) ?_
      simp only [addEnt]
      refine loose_off (fun vals => by kernel_rfl) ?_
      simp only [addEnt]
      apply loose_is
      · intro W vals hW hkn
        clear hkn
        refine ⟨?_⟩
        simp only [fill]
        go_simp
        first | exact ⟨Keeps.refl _ _, rfl⟩ | exact ⟨Keeps.alloc _ _, rfl⟩
      simp only [addEnt]
      apply loose_is
      · intro W vals hW hkn
        clear hkn
        refine ⟨?_⟩
        simp only [fill]
        go_simp
        first | exact ⟨Keeps.refl _ _, rfl⟩ | exact ⟨Keeps.alloc _ _, rfl⟩
      simp only [addEnt]
      refine loose_off (fun vals => by kernel_rfl) ?_
      simp only [addEnt]
      refine loose_off (fun vals => by kernel_rfl) ?_
      simp only [addEnt]
      refine loose_off (fun vals => by kernel_rfl) ?_
      simp only [addEnt]
      refine loose_off (fun vals => by kernel_rfl) ?_
      simp only [addEnt]
      refine loose_off (fun vals => by kernel_rfl) ?_
      simp only [addEnt]
      refine loose_off (fun vals => by kernel_rfl) ?_
      simp only [addEnt]
      refine loose_off (fun vals => by kernel_rfl) ?_
      simp only [addEnt]
      refine loose_off (fun vals => by kernel_rfl) ?_
      simp only [addEnt]
      refine loose_off (fun vals => by kernel_rfl) ?_
      simp only [addEnt]
      apply loose_is
      · intro W vals hW hkn
        clear hkn
        refine ⟨?_⟩
        simp only [fill]
        go_simp
        first | exact ⟨Keeps.refl _ _, rfl⟩ | exact ⟨Keeps.alloc _ _, rfl⟩
      simp only [addEnt]
      apply loose_is
      · intro W vals hW hkn
        clear hkn
        refine ⟨?_⟩
        simp only [fill]
        go_simp
        first | exact ⟨Keeps.refl _ _, rfl⟩ | exact ⟨Keeps.alloc _ _, rfl⟩
      simp only [addEnt]
      refine loose_off (fun vals => by kernel_rfl) ?_
      simp only [addEnt]
      refine loose_off (fun vals => by kernel_rfl) ?_
      simp only [addEnt]
      refine loose_off (fun vals => by kernel_rfl) ?_
      simp only [addEnt]
      refine loose_off (fun vals => by kernel_rfl) ?_
      simp only [addEnt]
      refine loose_off (fun vals => by kernel_rfl) ?_
      simp only [addEnt]
      refine loose_off (fun vals => by kernel_rfl) ?_
      simp only [addEnt]
      refine loose_off (fun vals => by kernel_rfl) ?_
      simp only [addEnt]
      refine loose_off (fun vals => by kernel_rfl) ?_
      simp only [addEnt]
      refine loose_off (fun vals => by kernel_rfl) ?_
      simp only [addEnt]
      apply loose_is
      · intro W vals hW hkn
        clear hkn
        refine ⟨?_⟩
        simp only [fill]
        go_simp
        first | exact ⟨Keeps.refl _ _, rfl⟩ | exact ⟨Keeps.alloc _ _, rfl⟩
      simp only [addEnt]
      apply loose_is
      · intro W vals hW hkn
        clear hkn
        refine ⟨?_⟩
        simp only [fill]
        go_simp
        first | exact ⟨Keeps.refl _ _, rfl⟩ | exact ⟨Keeps.alloc _ _, rfl⟩
      simp only [addEnt]
      refine loose_nil (fun W vals hW hkn => ?_)
      simp only [knowsAll] at hkn
      try simp only [and_true] at hkn
      simp only [fill, Act.put, List.setIfInBounds_toArray, List.set_cons_succ, List.set_cons_zero]
      clear hkn
      have HW := Lib.hid hW
      clear hW M0 M1 M2 M3 M4 M5 M6 N0 N1 N2 N3 N4 N5 N6
      go_wp2_with fail
      go_ret
      refine ⟨_, rfl, ?_, HW.out⟩
      exact ⟨fun h => absurd h Bool.false_ne_true, fun h => absurd (HD.out.2.1.2 h.p) (by simp)⟩
    | true =>
      apply loose_is
      · intro W vals hW hkn
        clear hkn
        refine ⟨?_⟩
        simp only [fill]
        go_simp
        first | exact ⟨Keeps.refl _ _, rfl⟩ | exact ⟨Keeps.alloc _ _, rfl⟩
      simp only [addEnt]
      apply loose_is
      · intro W vals hW hkn
        clear hkn
        refine ⟨?_⟩
        simp only [fill]
        go_simp
        first | exact ⟨Keeps.refl _ _, rfl⟩ | exact ⟨Keeps.alloc _ _, rfl⟩
      simp only [addEnt]
      apply loose_is
      · intro W vals hW hkn
        clear hkn
        refine ⟨?_⟩
        simp only [fill]
        go_simp
        first | exact ⟨Keeps.refl _ _, rfl⟩ | exact ⟨Keeps.alloc _ _, rfl⟩
      simp only [addEnt]
      apply loose_is
      · intro W vals hW hkn
        clear hkn
        refine ⟨?_⟩
        simp only [fill]
        go_simp
        first | exact ⟨Keeps.refl _ _, rfl⟩ | exact ⟨Keeps.alloc _ _, rfl⟩
      simp only [addEnt]
      apply loose_is
      · intro W vals hW hkn
        clear hkn
        refine ⟨?_⟩
        simp only [fill]
        go_simp
        first | exact ⟨Keeps.refl _ _, rfl⟩ | exact ⟨Keeps.alloc _ _, rfl⟩
      simp only [addEnt]
      apply loose_is
      · intro W vals hW hkn
        clear hkn
        refine ⟨?_⟩
        simp only [fill]
        go_simp
        first | exact ⟨Keeps.refl _ _, rfl⟩ | exact ⟨Keeps.alloc _ _, rfl⟩
      simp only [addEnt]
      apply loose_is
      · intro W vals hW hkn
        clear hkn
        refine ⟨?_⟩
        simp only [fill]
        go_simp
        first | exact ⟨Keeps.refl _ _, rfl⟩ | exact ⟨Keeps.alloc _ _, rfl⟩
      simp only [addEnt]
      apply loose_is
      · intro W vals hW hkn
        clear hkn
        refine ⟨?_⟩
        simp only [fill]
        go_simp
        first | exact ⟨Keeps.refl _ _, rfl⟩ | exact ⟨Keeps.alloc _ _, rfl⟩
      simp only [addEnt]
      apply loose_is
      · intro W vals hW hkn
        clear hkn
        refine ⟨?_⟩
        simp only [fill]
        go_simp
        first | exact ⟨Keeps.refl _ _, rfl⟩ | exact ⟨Keeps.alloc _ _, rfl⟩
      simp only [addEnt]
      apply loose_is
      · intro W vals hW hkn
        clear hkn
        refine ⟨?_⟩
        simp only [fill]
        go_simp
        first | exact ⟨Keeps.refl _ _, rfl⟩ | exact ⟨Keeps.alloc _ _, rfl⟩
      simp only [addEnt]
      apply loose_is
      · intro W vals hW hkn
        clear hkn
        refine ⟨?_⟩
        simp only [fill]
        go_simp
        first | exact ⟨Keeps.refl _ _, rfl⟩ | exact ⟨Keeps.alloc _ _, rfl⟩
      simp only [addEnt]
      cases B2 with
      | false =>
        refine loose_off (fun vals => by kernel_rfl) ?_
        simp only [addEnt]
        refine loose_off (fun vals => by kernel_rfl) ?_
        simp only [addEnt]
        refine loose_off (fun vals => by kernel_rfl) ?_
        simp only [addEnt]
        refine loose_off (fun vals => by kernel_rfl) ?_
        simp only [addEnt]
        refine loose_off (fun vals => by kernel_rfl) ?_
        simp only [addEnt]
        refine loose_off (fun vals => by kernel_rfl) ?_
        simp only [addEnt]
        refine loose_off (fun vals => by kernel_rfl) ?_
        simp only [addEnt]
        refine loose_off (fun vals => by kernel_rfl) ?_
        simp only [addEnt]
        refine loose_off (fun vals => by kernel_rfl) ?_
        simp only [addEnt]
        apply loose_is
        · intro W vals hW hkn
          clear hkn
          refine ⟨?_⟩
          simp only [fill]
          go_simp
          first | exact ⟨Keeps.refl _ _, rfl⟩ | exact ⟨Keeps.alloc _ _, rfl⟩
        simp only [addEnt]
        apply loose_is
        · intro W vals hW hkn
          clear hkn
          refine ⟨?_⟩
          simp only [fill]
          go_simp
          first | exact ⟨Keeps.refl _ _, rfl⟩ | exact ⟨Keeps.alloc _ _, rfl⟩
        simp only [addEnt]
        refine loose_off (fun vals => by kernel_rfl) ?_
        simp only [addEnt]
        refine loose_off (fun vals => by kernel_rfl) ?_
        simp only [addEnt]
        refine loose_off (fun vals => by kernel_rfl) ?_
        simp only [addEnt]
        refine loose_off (fun vals => by kernel_rfl) ?_
        simp only [addEnt]
        refine loose_off (fun vals => by kernel_rfl) ?_
        simp only [addEnt]
        refine loose_off (fun vals => by kernel_rfl) ?_
        simp only [addEnt]
        refine loose_off (fun vals => by kernel_rfl) ?_
        simp only [addEnt]
        refine loose_off (fun vals => by kernel_rfl) ?_
        simp only [addEnt]
        refine loose_off (fun vals => by kernel_rfl) ?_
        simp only [addEnt]
        apply loose_is
        · intro W vals hW hkn
          clear hkn
          refine ⟨?_⟩
          simp only [fill]
          go_simp
          first | exact ⟨Keeps.refl _ _, rfl⟩ | exact ⟨Keeps.alloc _ _, rfl⟩
        simp only [addEnt]
        apply loose_is
        · intro W vals hW hkn
          clear hkn
          refine ⟨?_⟩
          simp only [fill]
          go_simp
          first | exact ⟨Keeps.refl _ _, rfl⟩ | exact ⟨Keeps.alloc _ _, rfl⟩
        simp only [addEnt]
        refine loose_off (fun vals => by kernel_rfl) ?_
        simp only [addEnt]
        refine loose_off (fun vals => by kernel_rfl) ?_
        simp only [addEnt]
        refine loose_off (fun vals => by kernel_rfl) ?_
        simp only [addEnt]
        refine loose_off (fun vals => by kernel_rfl) ?_
        simp only [addEnt]
        refine loose_off (fun vals => by kernel_rfl) ?_
        simp only [addEnt]
        refine loose_off (fun vals => by kernel_rfl) ?_
        simp only [addEnt]
        refine loose_off (fun vals => by kernel_rfl) ?_
        simp only [addEnt]
        refine loose_off (fun vals => by kernel_rfl) ?_
        simp only [addEnt]
        refine loose_off (fun vals => by kernel_rfl) ?_
        simp only [addEnt]
        apply loose_is
        · intro W vals hW hkn
          clear hkn
          refine ⟨?_⟩
          simp only [fill]
          go_simp
          first | exact ⟨Keeps.refl _ _, rfl⟩ | exact ⟨Keeps.alloc _ _, rfl⟩
        simp only [addEnt]
        apply loose_is
        · intro W vals hW hkn
          clear hkn
          refine ⟨?_⟩
          simp only [fill]
          go_simp
          first | exact ⟨Keeps.refl _ _, rfl⟩ | exact ⟨Keeps.alloc _ _, rfl⟩
        simp only [addEnt]
        refine loose_nil (fun W vals hW hkn => ?_)
        simp only [knowsAll] at hkn
        try simp only [and_true] at hkn
        simp only [fill, Act.put, List.setIfInBounds_toArray, List.set_cons_succ, List.set_cons_zero]
        clear hkn
        have HW := Lib.hid hW
        clear hW M0 M1 M2 M3 M4 M5 M6 N0 N1 N2 N3 N4 N5 N6
        go_wp2_with fail
        go_ret
        refine ⟨_, rfl, ?_, HW.out⟩
        exact ⟨fun h => absurd h Bool.false_ne_true, fun h => absurd (HD.out.2.2.1.2 h.dd) (by simp)⟩
      | true =>
        apply loose_is
        · intro W vals hW hkn
          clear hkn
          refine ⟨?_⟩
          simp only [fill]
          go_simp
          first | exact ⟨Keeps.refl _ _, rfl⟩ | exact ⟨Keeps.alloc _ _, rfl⟩
        simp only [addEnt]
        apply loose_is
        · intro W vals hW hkn
          clear hkn
          refine ⟨?_⟩
          simp only [fill]
          go_simp
          first | exact ⟨Keeps.refl _ _, rfl⟩ | exact ⟨Keeps.alloc _ _, rfl⟩
        simp only [addEnt]
        apply loose_is
        · intro W vals hW hkn
          clear hkn
          refine ⟨?_⟩
          simp only [fill]
          go_simp
          first | exact ⟨Keeps.refl _ _, rfl⟩ | exact ⟨Keeps.alloc _ _, rfl⟩
        simp only [addEnt]
        apply loose_is
        · intro W vals hW hkn
          clear hkn
          refine ⟨?_⟩
          simp only [fill]
          go_simp
          first | exact ⟨Keeps.refl _ _, rfl⟩ | exact ⟨Keeps.alloc _ _, rfl⟩
        simp only [addEnt]
        apply loose_is
        · intro W vals hW hkn
          clear hkn
          refine ⟨?_⟩
          simp only [fill]
          go_simp
          first | exact ⟨Keeps.refl _ _, rfl⟩ | exact ⟨Keeps.alloc _ _, rfl⟩
        simp only [addEnt]
        apply loose_is
        · intro W vals hW hkn
          clear hkn
          refine ⟨?_⟩
          simp only [fill]
          go_simp
          first | exact ⟨Keeps.refl _ _, rfl⟩ | exact ⟨Keeps.alloc _ _, rfl⟩
        simp only [addEnt]
        apply loose_is
        · intro W vals hW hkn
          clear hkn
          refine ⟨?_⟩
          simp only [fill]
          go_simp
          first | exact ⟨Keeps.refl _ _, rfl⟩ | exact ⟨Keeps.alloc _ _, rfl⟩
        simp only [addEnt]
        apply loose_is
        · intro W vals hW hkn
          clear hkn
          refine ⟨?_⟩
          simp only [fill]
          go_simp
          first | exact ⟨Keeps.refl _ _, rfl⟩ | exact ⟨Keeps.alloc _ _, rfl⟩
        simp only [addEnt]
        apply loose_is
        · intro W vals hW hkn
          clear hkn
          refine ⟨?_⟩
          simp only [fill]
          go_simp
          refine looseUpon_calls ?_
          exact (HS3.out W hW).mono (by rintro e w3 ⟨rfl, hk⟩; exact ⟨_, rfl, hk, rfl⟩)
        simp only [addEnt]
        apply loose_is
        · intro W vals hW hkn
          clear hkn
          refine ⟨?_⟩
          simp only [fill]
          go_simp
          first | exact ⟨Keeps.refl _ _, rfl⟩ | exact ⟨Keeps.alloc _ _, rfl⟩
        simp only [addEnt]
        apply loose_is
        · intro W vals hW hkn
          clear hkn
          refine ⟨?_⟩
          simp only [fill]
          go_simp
          first | exact ⟨Keeps.refl _ _, rfl⟩ | exact ⟨Keeps.alloc _ _, rfl⟩
        simp only [addEnt]
        cases B3 with
        | false =>
          refine loose_off (fun vals => by kernel_rfl) ?_
          simp only [addEnt]
          refine loose_off (fun vals => by kernel_rfl) ?_
          simp only [addEnt]
          refine loose_off (fun vals => by kernel_rfl) ?_
          simp only [addEnt]
          refine loose_off (fun vals => by kernel_rfl) ?_
          simp only [addEnt]
          refine loose_off (fun vals => by kernel_rfl) ?_
          simp only [addEnt]
          refine loose_off (fun vals => by kernel_rfl) ?_
          simp only [addEnt]
          refine loose_off (fun vals => by kernel_rfl) ?_
          simp only [addEnt]
          refine loose_off (fun vals => by kernel_rfl) ?_
          simp only [addEnt]
          refine loose_off (fun vals => by kernel_rfl) ?_
          simp only [addEnt]
          apply loose_is
          · intro W vals hW hkn
            clear hkn
            refine ⟨?_⟩
            simp only [fill]
            go_simp
            first | exact ⟨Keeps.refl _ _, rfl⟩ | exact ⟨Keeps.alloc _ _, rfl⟩
          simp only [addEnt]
          apply loose_is
          · intro W vals hW hkn
            clear hkn
            refine ⟨?_⟩
            simp only [fill]
            go_simp
            first | exact ⟨Keeps.refl _ _, rfl⟩ | exact ⟨Keeps.alloc _ _, rfl⟩
          simp only [addEnt]
          refine loose_off (fun vals => by kernel_rfl) ?_
          simp only [addEnt]
          refine loose_off (fun vals => by kernel_rfl) ?_
          simp only [addEnt]
          refine loose_off (fun vals => by kernel_rfl) ?_
          simp only [addEnt]
          refine loose_off (fun vals => by kernel_rfl) ?_
          simp only [addEnt]
          refine loose_off (fun vals => by kernel_rfl) ?_
          simp only [addEnt]
          refine loose_off (fun vals => by kernel_rfl) ?_
          simp only [addEnt]
          refine loose_off (fun vals => by kernel_rfl) ?_
          simp only [addEnt]
          refine loose_off (fun vals => by kernel_rfl) ?_
          simp only [addEnt]
          refine loose_off (fun vals => by kernel_rfl) ?_
          simp only [addEnt]
          apply loose_is
          · intro W vals hW hkn
            clear hkn
            refine ⟨?_⟩
            simp only [fill]
            go_simp
            first | exact ⟨Keeps.refl _ _, rfl⟩ | exact ⟨Keeps.alloc _ _, rfl⟩
          simp only [addEnt]
          apply loose_is
          · intro W vals hW hkn
            clear hkn
            refine ⟨?_⟩
            simp only [fill]
            go_simp
            first | exact ⟨Keeps.refl _ _, rfl⟩ | exact ⟨Keeps.alloc _ _, rfl⟩
          simp only [addEnt]
          refine loose_nil (fun W vals hW hkn => ?_)
          simp only [knowsAll] at hkn
          try simp only [and_true] at hkn
          simp only [fill, Act.put, List.setIfInBounds_toArray, List.set_cons_succ, List.set_cons_zero]
          clear hkn
          have HW := Lib.hid hW
          clear hW M0 M1 M2 M3 M4 M5 M6 N0 N1 N2 N3 N4 N5 N6
          go_wp2_with fail
          go_ret
          refine ⟨_, rfl, ?_, HW.out⟩
          exact ⟨fun h => absurd h Bool.false_ne_true, fun h => absurd (HD.out.2.2.2.1.2 h.l) (by simp)⟩
        | true =>
          apply loose_is
          · intro W vals hW hkn
            clear hkn
            refine ⟨?_⟩
            simp only [fill]
            go_simp
            first | exact ⟨Keeps.refl _ _, rfl⟩ | exact ⟨Keeps.alloc _ _, rfl⟩
          simp only [addEnt]
          apply loose_is
          · intro W vals hW hkn
            clear hkn
            refine ⟨?_⟩
            simp only [fill]
            go_simp
            first | exact ⟨Keeps.refl _ _, rfl⟩ | exact ⟨Keeps.alloc _ _, rfl⟩
          simp only [addEnt]
          apply loose_is
          · intro W vals hW hkn
            clear hkn
            refine ⟨?_⟩
            simp only [fill]
            go_simp
            first | exact ⟨Keeps.refl _ _, rfl⟩ | exact ⟨Keeps.alloc _ _, rfl⟩
          simp only [addEnt]
          apply loose_is
          · intro W vals hW hkn
            clear hkn
            refine ⟨?_⟩
            simp only [fill]
            go_simp
            first | exact ⟨Keeps.refl _ _, rfl⟩ | exact ⟨Keeps.alloc _ _, rfl⟩
          simp only [addEnt]
          apply loose_is
          · intro W vals hW hkn
            clear hkn
            refine ⟨?_⟩
            simp only [fill]
            go_simp
            first | exact ⟨Keeps.refl _ _, rfl⟩ | exact ⟨Keeps.alloc _ _, rfl⟩
          simp only [addEnt]
          apply loose_is
          · intro W vals hW hkn
            clear hkn
            refine ⟨?_⟩
            simp only [fill]
            go_simp
            first | exact ⟨Keeps.refl _ _, rfl⟩ | exact ⟨Keeps.alloc _ _, rfl⟩
          simp only [addEnt]
          apply loose_is
          · intro W vals hW hkn
            clear hkn
            refine ⟨?_⟩
            simp only [fill]
            go_simp
            first | exact ⟨Keeps.refl _ _, rfl⟩ | exact ⟨Keeps.alloc _ _, rfl⟩
          simp only [addEnt]
          apply loose_is
          · intro W vals hW hkn
            clear hkn
            refine ⟨?_⟩
            simp only [fill]
            go_simp
            first | exact ⟨Keeps.refl _ _, rfl⟩ | exact ⟨Keeps.alloc _ _, rfl⟩
          simp only [addEnt]
          apply loose_is
          · intro W vals hW hkn
            clear hkn
            refine ⟨?_⟩
            simp only [fill]
            go_simp
            refine looseUpon_calls ?_
            exact (HS4.out W hW).mono (by rintro e w3 ⟨rfl, hk⟩; exact ⟨_, rfl, hk, rfl⟩)
          simp only [addEnt]
          apply loose_is
          · intro W vals hW hkn
            clear hkn
            refine ⟨?_⟩
            simp only [fill]
            go_simp
            first | exact ⟨Keeps.refl _ _, rfl⟩ | exact ⟨Keeps.alloc _ _, rfl⟩
          simp only [addEnt]
          apply loose_is
          · intro W vals hW hkn
            clear hkn
            refine ⟨?_⟩
            simp only [fill]
            go_simp
            first | exact ⟨Keeps.refl _ _, rfl⟩ | exact ⟨Keeps.alloc _ _, rfl⟩
          simp only [addEnt]
          cases B4 with
          | false =>
            refine loose_off (fun vals => by kernel_rfl) ?_
            simp only [addEnt]
            refine loose_off (fun vals => by kernel_rfl) ?_
            simp only [addEnt]
            refine loose_off (fun vals => by kernel_rfl) ?_
            simp only [addEnt]
            refine loose_off (fun vals => by kernel_rfl) ?_
            simp only [addEnt]
            refine loose_off (fun vals => by kernel_rfl) ?_
            simp only [addEnt]
            refine loose_off (fun vals => by kernel_rfl) ?_
            simp only [addEnt]
            refine loose_off (fun vals => by kernel_rfl) ?_
            simp only [addEnt]
            refine loose_off (fun vals => by kernel_rfl) ?_
            simp only [addEnt]
            refine loose_off (fun vals => by kernel_rfl) ?_
            simp only [addEnt]
            apply loose_is
            · intro W vals hW hkn
              clear hkn
              refine ⟨?_⟩
              simp only [fill]
              go_simp
              first | exact ⟨Keeps.refl _ _, rfl⟩ | exact ⟨Keeps.alloc _ _, rfl⟩
            simp only [addEnt]
            apply loose_is
            · intro W vals hW hkn
              clear hkn
              refine ⟨?_⟩
              simp only [fill]
              go_simp
              first | exact ⟨Keeps.refl _ _, rfl⟩ | exact ⟨Keeps.alloc _ _, rfl⟩
            simp only [addEnt]
            refine loose_nil (fun W vals hW hkn => ?_)
            simp only [knowsAll] at hkn
            try simp only [and_true] at hkn
            simp only [fill, Act.put, List.setIfInBounds_toArray, List.set_cons_succ, List.set_cons_zero]
            clear hkn
            have HW := Lib.hid hW
            clear hW M0 M1 M2 M3 M4 M5 M6 N0 N1 N2 N3 N4 N5 N6
            go_wp2_with fail
            go_ret
            refine ⟨_, rfl, ?_, HW.out⟩
            exact ⟨fun h => absurd h Bool.false_ne_true, fun h => absurd (HD.out.2.2.2.2.1.2 h.n) (by simp)⟩
          | true =>
            apply loose_is
            · intro W vals hW hkn
              clear hkn
              refine ⟨?_⟩
              simp only [fill]
              go_simp
              first | exact ⟨Keeps.refl _ _, rfl⟩ | exact ⟨Keeps.alloc _ _, rfl⟩
            simp only [addEnt]
            apply loose_is
            · intro W vals hW hkn
              clear hkn
              refine ⟨?_⟩
              simp only [fill]
              go_simp
              first | exact ⟨Keeps.refl _ _, rfl⟩ | exact ⟨Keeps.alloc _ _, rfl⟩
            simp only [addEnt]
            apply loose_is
            · intro W vals hW hkn
              clear hkn
              refine ⟨?_⟩
              simp only [fill]
              go_simp
              first | exact ⟨Keeps.refl _ _, rfl⟩ | exact ⟨Keeps.alloc _ _, rfl⟩
            simp only [addEnt]
            apply loose_is
            · intro W vals hW hkn
              clear hkn
              refine ⟨?_⟩
              simp only [fill]
              go_simp
              first | exact ⟨Keeps.refl _ _, rfl⟩ | exact ⟨Keeps.alloc _ _, rfl⟩
            simp only [addEnt]
            apply loose_is
            · intro W vals hW hkn
              clear hkn
              refine ⟨?_⟩
              simp only [fill]
              go_simp
              first | exact ⟨Keeps.refl _ _, rfl⟩ | exact ⟨Keeps.alloc _ _, rfl⟩
            simp only [addEnt]
            apply loose_is
            · intro W vals hW hkn
              clear hkn
              refine ⟨?_⟩
              simp only [fill]
              go_simp
              first | exact ⟨Keeps.refl _ _, rfl⟩ | exact ⟨Keeps.alloc _ _, rfl⟩
            simp only [addEnt]
            apply loose_is
            · intro W vals hW hkn
              clear hkn
              refine ⟨?_⟩
              simp only [fill]
              go_simp
              first | exact ⟨Keeps.refl _ _, rfl⟩ | exact ⟨Keeps.alloc _ _, rfl⟩
            simp only [addEnt]
            apply loose_is
            · intro W vals hW hkn
              clear hkn
              refine ⟨?_⟩
              simp only [fill]
              go_simp
              first | exact ⟨Keeps.refl _ _, rfl⟩ | exact ⟨Keeps.alloc _ _, rfl⟩
            simp only [addEnt]
            apply loose_is
            · intro W vals hW hkn
              clear hkn
              refine ⟨?_⟩
              simp only [fill]
              go_simp
              refine looseUpon_calls ?_
              exact (HS5.out W hW).mono (by rintro e w3 ⟨rfl, hk⟩; exact ⟨_, rfl, hk, rfl⟩)
            simp only [addEnt]
            apply loose_is
            · intro W vals hW hkn
              clear hkn
              refine ⟨?_⟩
              simp only [fill]
              go_simp
              first | exact ⟨Keeps.refl _ _, rfl⟩ | exact ⟨Keeps.alloc _ _, rfl⟩
            simp only [addEnt]
            apply loose_is
            · intro W vals hW hkn
              clear hkn
              refine ⟨?_⟩
              simp only [fill]
              go_simp
              first | exact ⟨Keeps.refl _ _, rfl⟩ | exact ⟨Keeps.alloc _ _, rfl⟩
            simp only [addEnt]
            refine loose_nil (fun W vals hW hkn => ?_)
            simp only [knowsAll] at hkn
            try simp only [and_true] at hkn
            simp only [fill, Act.put, List.setIfInBounds_toArray, List.set_cons_succ, List.set_cons_zero]
            clear hkn
            have HW := Lib.hid hW
            clear hW M0 M1 M2 M3 M4 M5 M6 N0 N1 N2 N3 N4 N5 N6
            go_wp2_with fail
            go_ret
            refine ⟨_, rfl, ?_, HW.out⟩
            exact ⟨fun h => ⟨(HD.out.1.1 (by trivial)).1, (HD.out.1.1 (by trivial)).2, HD.out.2.1.1 (by trivial), HD.out.2.2.1.1 (by trivial), HD.out.2.2.2.1.1 (by trivial), HD.out.2.2.2.2.1.1 (by trivial), HD.out.2.2.2.2.2.1 (by simpa using h)⟩, fun h => by have := HD.out.2.2.2.2.2.2 h.w; simpa using this⟩
end Go.Proofs.Ytehlabdbbbbopaa
