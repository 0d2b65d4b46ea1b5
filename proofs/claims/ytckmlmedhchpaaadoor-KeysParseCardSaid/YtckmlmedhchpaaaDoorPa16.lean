/- Package keys: a text, read. -/
import Derived.Test.YtckmlmedhchpaaaDoorPa15
import Derived.Deep.LoopGhost

namespace Go.Proofs.YtckmlmedhchpaaaDoor
open Go.RowKit

/-- A text out of a key's bytes, and what is behind. -/
def kUnesc : List UInt8 → Option (List UInt8 × List UInt8)
  | [] => none
  | [_] => none
  | b :: c :: r => if b = 0 then (if c = 1 then some ([], r) else if c = 255 then (kUnesc r).map fun (s, t) => (0 :: s, t) else none) else (kUnesc (c :: r)).map fun (s, t) => (b :: s, t)

theorem kUnesc_byte {b : UInt8} (l : List UInt8) (h : b ≠ 0) : kUnesc (b :: l) = (kUnesc l).map fun (s, t) => (b :: s, t) := by
  rcases l with _ | ⟨c, r⟩
  · rfl
  · rw [kUnesc, if_neg h]
theorem kUnesc_end (r : List UInt8) : kUnesc (0 :: 1 :: r) = some ([], r) := by rw [kUnesc, if_pos rfl, if_pos rfl]
theorem kUnesc_nought (r : List UInt8) : kUnesc (0 :: 255 :: r) = (kUnesc r).map fun (s, t) => (0 :: s, t) := by rw [kUnesc, if_pos rfl, if_neg (by decide), if_pos rfl]
theorem kUnesc_bad {c : UInt8} (r : List UInt8) (h1 : c ≠ 1) (h2 : c ≠ 255) : kUnesc (0 :: c :: r) = none := by rw [kUnesc, if_pos rfl, if_neg h1, if_neg h2]
theorem kUnesc_short : kUnesc [0] = none := by rfl
def kAcc (acc : List UInt8) : Option (List UInt8 × List UInt8) → Option (List UInt8 × List UInt8) := Option.map fun (s, t) => (acc ++ s, t)
theorem kAcc_cons (acc : List UInt8) (b : UInt8) (o : Option (List UInt8 × List UInt8)) : kAcc acc (o.map fun (s, t) => (b :: s, t)) = kAcc (acc ++ [b]) o := by
  cases o <;> simp [kAcc]
theorem kAcc_nil (o : Option (List UInt8 × List UInt8)) : kAcc [] o = o := by cases o <;> simp [kAcc]

theorem str_tail (x : UInt8) (r : List UInt8) : (⟨(x :: r).toArray⟩ : ByteArray).extract 1 (r.length + 1) = ⟨r.toArray⟩ := str_drop (x :: r) 1
theorem str_head (x : UInt8) (r : List UInt8) (h : 0 < (⟨(x :: r).toArray⟩ : ByteArray).size) : (⟨(x :: r).toArray⟩ : ByteArray)[0]'h = x := rfl
theorem lies_one (w : World) (x : Value) (t : TypeId) : Lies (w.alloc (.cells #[x] t)) (w.heap.size + 1) (some ⟨w.heap.size, 0, none⟩) [x] := fun _ => by
  refine ⟨w.heap.size, 0, rfl, by omega, fun i u hu => ?_⟩
  have hi : i = 0 := by
    rcases i with _ | i
    · rfl
    · simp at hu
  subst hi
  have := (Row.new w t #[x]).cell 0
  simp at hu
  subst hu
  simp [this]

/-- What reading a text does. -/
def KRdT (w : World) (b : Nat) (o : Option (List UInt8 × List UInt8)) (e : Ending) (w' : World) : Prop := Keeps w w' [b] ∧ match o with
  | none => e = kStop
  | some (s, t) => e = .returned (kpV ⟨3, 0, 0, s⟩) ∧ Row w' b 9 #[strV t]

set_option maxRecDepth 100000 in
set_option maxHeartbeats 8000000 in
theorem kRdT_any (w : World) (b : Nat) (l : List UInt8) (hb : Row w b 9 #[strV l]) (hm : l.length ≤ 1000000) :
    Calls Tryd.prog 52 #[.pointer (some ⟨b, 0, none⟩)] w (KRdT w b (kUnesc l)) := by
  obtain ⟨i0, hi, hz0, hz1, hz2⟩ := info_parts infoByte
  have hsf := @run_store_float Tryd.prog
  have HB := Lib.hid hb
  clear hb
  go_enter Tryd.func52, Tryd.ntmps52
  go_wp2_with fail
  go_loopg [3] l.length (fun g v wr => ∃ acc rest : List UInt8, Hid (kUnesc l = kAcc acc (kUnesc rest)) ∧ Owned wr (w.heap.size + 1) v acc ∧ Row wr b 9 #[strV rest] ∧ Row wr w.heap.size 34 #[.int .i64 0, .int .i64 0, .float .f64 0, .string ⟨#[]⟩] ∧ Keeps w wr [b] ∧ rest.length ≤ g ∧ acc.length + rest.length ≤ l.length)
  case atStart => exact ⟨[], l, Lib.hid (kAcc_nil _).symm, World.ownsRow_nil _ _ _ _, HB.out.alloc _, Row.new _ _ _, (Keeps.alloc _ _).weaken (by simp), Nat.le_refl _, by simp⟩
  case round =>
    obtain ⟨acc, rest, HE, ho, hr, hz, hkp, hg, hlen⟩ := hrel
    have HH := Lib.hid (And.intro ho (And.intro hr (And.intro hz hkp)))
    have c0 := hr.cell 0
    have f0 := hr.frozen 0
    simp [strV] at c0
    clear ho hr hz hkp
    rcases rest with _ | ⟨x, r⟩
    · go_wp2_with (go_at_call 24; refine (kMust_no _).mono ?_; rintro e w' ⟨rfl, rfl⟩)
      refine ⟨rfl, ?_⟩
      refine ⟨HH.out.2.2.2, ?_⟩
      rw [HE.out]
      rfl
    · have e1 := str_tail x r
      have e2 := str_head x r
      have hk1 : Keeps wr (wr.setCell ⟨b, 0, none⟩ (strV r)) [b] := Keeps.setCell _ _ _
      have HH1 := Lib.hid (show Owned (wr.setCell ⟨b, 0, none⟩ (strV r)) (w.heap.size + 1) u3 acc ∧ Row (wr.setCell ⟨b, 0, none⟩ (strV r)) b 9 #[strV r] ∧ Row (wr.setCell ⟨b, 0, none⟩ (strV r)) w.heap.size 34 #[.int .i64 0, .int .i64 0, .float .f64 0, .string ⟨#[]⟩] ∧ Keeps w (wr.setCell ⟨b, 0, none⟩ (strV r)) [b] from
        ⟨own_keep HH.out.1 hk1 (fun g hg => by have := HH.out.1.lt g hg; have := HB.out.lt; simp; omega), HH.out.2.1.store 0 _, HH.out.2.2.1.keep hk1 (by have := HB.out.lt; simp; omega), HH.out.2.2.2.trans hk1 (by simp)⟩)
      clear hk1
      by_cases hx : x = 0
      · subst hx
        rcases r with _ | ⟨y, r⟩
        · go_wp2_with (first | (go_at_call 24; refine (kMust_yes _).mono ?_; rintro e w' ⟨rfl, rfl⟩) | (go_at_call 24; refine (kMust_no _).mono ?_; rintro e w' ⟨rfl, rfl⟩))
          refine ⟨rfl, ?_⟩
          refine ⟨HH1.out.2.2.2, ?_⟩
          rw [HE.out, kUnesc_short]
          rfl
        · have e3 := str_tail y r
          have e4 := str_head y r
          simp only [List.length_cons] at e1
          have hd2 : decide ((0 : Int) < (r.length : Int) + 1 + 1) = true := by simp <;> omega
          have hd1 : decide ((0 : Int) < (r.length : Int) + 1) = true := by simp <;> omega
          obtain ⟨W1, hW1⟩ : ∃ W, wr.setCell ⟨b, 0, none⟩ (strV (y :: r)) = W := ⟨_, rfl⟩
          rw [hW1] at HH1
          have hk2 : Keeps W1 (W1.setCell ⟨b, 0, none⟩ (strV r)) [b] := Keeps.setCell _ _ _
          have HH2 := Lib.hid (show Owned (W1.setCell ⟨b, 0, none⟩ (strV r)) (w.heap.size + 1) u3 acc ∧ Row (W1.setCell ⟨b, 0, none⟩ (strV r)) b 9 #[strV r] ∧ Row (W1.setCell ⟨b, 0, none⟩ (strV r)) w.heap.size 34 #[.int .i64 0, .int .i64 0, .float .f64 0, .string ⟨#[]⟩] ∧ Keeps w (W1.setCell ⟨b, 0, none⟩ (strV r)) [b] from
            ⟨own_keep HH1.out.1 hk2 (fun g hg => by have := HH1.out.1.lt g hg; have := HB.out.lt; simp; omega), HH1.out.2.1.store 0 _, HH1.out.2.2.1.keep hk2 (by have := HB.out.lt; simp; omega), HH1.out.2.2.2.trans hk2 (by simp)⟩)
          clear hk2
          obtain ⟨A, c, rfl, hc, hcm, hnil, hL⟩ := HH2.out.1.parts
          have HCV := Lib.hid (conv_str _ _ A c acc hL)
          have hsc : (W1.setCell ⟨b, 0, none⟩ (strV r)).heap.size = wr.heap.size := by rw [← hW1]; simp [World.setCell]
          have hsz := HH.out.2.2.2.size
          rw [← hW1] at HH1 HH2 HCV hsc
          clear hL hnil hW1 W1
          by_cases hy1 : y = 1
          · subst hy1
            have hcv := HCV.out
            simp only [strV] at hcv
            go_wp2_with (first | (go_at_call 24; refine (kMust_yes _).mono ?_; rintro e w' ⟨rfl, rfl⟩) | (go_at_call 24; refine (kMust_no _).mono ?_; rintro e w' ⟨rfl, rfl⟩))
            refine (kText_any _ _).mono ?_
            rintro e w2 ⟨rfl, hk⟩
            have H3 := Lib.hid (And.intro (HH2.out.2.1.keeps hk) (And.intro (HH2.out.2.2.1.keeps hk) (HH2.out.2.2.2.trans hk (by simp))))
            clear hk hcv
            have d0 := H3.out.2.1.cell 0
            have d1 := H3.out.2.1.cell 1
            have d2 := H3.out.2.1.cell 2
            have d3 := H3.out.2.1.cell 3
            simp only [List.getElem?_toArray, List.getElem?_cons_zero, List.getElem?_cons_succ] at d0 d1 d2 d3
            have g0 := H3.out.2.1.frozen 0
            have g1 := H3.out.2.1.frozen 1
            have g2 := H3.out.2.1.frozen 2
            have g3 := H3.out.2.1.frozen 3
            go_wp2_with fail
            obtain ⟨q1, q2⟩ := part_put H3.out.2.1 (.int .i64 3) (.int .i64 0) (.float .f64 0) (.string ⟨acc.toArray⟩)
            have hne : b ≠ w.heap.size := Nat.ne_of_lt HB.out.lt
            refine kRdT_door _ _ _ _ _ _ _ rfl q1 _ ⟨H3.out.2.2.trans q2 (fun x hx hlt => by simp at hx; omega), ?_⟩
            have hE : kUnesc l = some (acc, r) := by rw [HE.out, kUnesc_end]; simp [kAcc]
            rw [hE]
            exact ⟨rfl, H3.out.1.keep q2 (by simpa using hne)⟩
          · have hy1' : ((y.toNat : Int) == 1) = false := by
              simp
              intro h
              exact hy1 (UInt8.toNat_inj.1 (show y.toNat = 1 by omega))
            have HY1 := Lib.hid hy1
            clear hy1
            by_cases hy2 : y = 255
            · subst hy2
              have HL1 := Lib.hid (show Lies (((wr.setCell ⟨b, 0, none⟩ (strV (255 :: r))).setCell ⟨b, 0, none⟩ (strV r)).alloc (.cells #[byteV 0] 5)) (wr.heap.size + 1) (some ⟨wr.heap.size, 0, none⟩) [byteV 0] by
                have h1 := lies_one ((wr.setCell ⟨b, 0, none⟩ (strV (255 :: r))).setCell ⟨b, 0, none⟩ (strV r)) (byteV 0) 5
                rw [hsc] at h1
                exact h1)
              clear hy1'
              go_wp2_with (first
                | (go_at_call 24; refine (kMust_yes _).mono ?_; rintro e w' ⟨rfl, rfl⟩)
                | (at_builtin; refine wpList_append_lies' _ rfl (.tmp 59) (.tmp 61) 75 rfl (w.heap.size + 1) 5 i0 (.int .u8 0) 1 undBytes hi hz0 hz1 hz2 rfl (.slice A acc.length c) acc.length (acc.map byteV) rfl (HH2.out.1.alloc _) (wr.heap.size + 1) (some ⟨wr.heap.size, 0, none⟩) 1 1 [byteV 0] rfl rfl HL1.out (by simp [Value.oneCell', byteV]) (by simp [maxLen]; omega) (by omega) (by simp; omega) ?_; intro v' w1 hown hg hb; have HO2 := Lib.hid (And.intro hown (And.intro hg hb)); clear hown hg hb))
              go_roundg r.length
              case measure => simp only [List.length_cons] at hg; omega
              case rel =>
                have hk3 := ((Keeps.alloc _ _).weaken (T := (Value.slice A acc.length c).ownBlock.toList) (by simp)).trans (Keeps.of_grown HO2.out.2.1) (fun z hz _ => hz)
                have hge : ∀ z ∈ (Value.slice A acc.length c).ownBlock.toList, w.heap.size + 1 ≤ z := fun z hz => (HH2.out.1.lt z (by simpa using hz)).1
                have hbl := HB.out.lt
                refine ⟨acc ++ [0], r, Lib.hid (by rw [HE.out, (kUnesc_nought) r, kAcc_cons]), ?_, HH2.out.2.1.keep hk3 (fun hm => by have := hge _ hm; omega), HH2.out.2.2.1.keep hk3 (fun hm => by have := hge _ hm; omega), HH2.out.2.2.2.trans hk3 (fun z hz hlt => by have := hge _ hz; omega), Nat.le_refl _, by simp only [List.length_cons, List.length_append, List.length_nil] at hlen ⊢; omega⟩
                have h1 := HO2.out.1
                unfold Owned
                rw [List.length_append, List.map_append]
                exact h1
            · have hy2' : ((y.toNat : Int) == 255) = false := by
                simp
                intro h
                exact hy2 (UInt8.toNat_inj.1 (show y.toNat = 255 by omega))
              have HY2 := Lib.hid hy2
              clear hy2
              go_wp2_with (first | (go_at_call 24; refine (kMust_yes _).mono ?_; rintro e w' ⟨rfl, rfl⟩) | (go_at_call 24; refine (kMust_no _).mono ?_; rintro e w' ⟨rfl, rfl⟩))
              refine ⟨rfl, ?_⟩
              refine ⟨HH1.out.2.2.2, ?_⟩
              rw [HE.out, kUnesc_bad r HY1.out HY2.out]
              rfl
      · have hx0 : ((x.toNat : Int) == 0) = false := by simp; intro h; exact hx (UInt8.toNat_inj.1 (by simpa using h))
        have HX := Lib.hid hx
        clear hx
        obtain ⟨A, c, rfl, hc, hcm, hnil, hL⟩ := HH1.out.1.parts
        clear hL hnil
        have hsz := HH.out.2.2.2.size
        have HL1 := Lib.hid (show Lies ((wr.setCell ⟨b, 0, none⟩ (strV r)).alloc (.cells #[byteV x] 5)) (wr.heap.size + 1) (some ⟨wr.heap.size, 0, none⟩) [byteV x] by
          have h1 := lies_one (wr.setCell ⟨b, 0, none⟩ (strV r)) (byteV x) 5
          rw [show (wr.setCell ⟨b, 0, none⟩ (strV r)).heap.size = wr.heap.size by simp [World.setCell]] at h1
          exact h1)
        have hsc : (wr.setCell ⟨b, 0, none⟩ (strV r)).heap.size = wr.heap.size := by simp [World.setCell]
        go_wp2_with (first
          | (go_at_call 24; refine (kMust_yes _).mono ?_; rintro e w' ⟨rfl, rfl⟩)
          | (at_builtin; refine wpList_append_lies' _ rfl (.tmp 59) (.tmp 61) 75 rfl (w.heap.size + 1) 5 i0 (.int .u8 0) 1 undBytes hi hz0 hz1 hz2 rfl (.slice A acc.length c) acc.length (acc.map byteV) rfl (HH1.out.1.alloc _) (wr.heap.size + 1) (some ⟨wr.heap.size, 0, none⟩) 1 1 [byteV x] rfl rfl HL1.out (by simp [Value.oneCell', byteV]) (by simp [maxLen]; omega) (by omega) (by simp; omega) ?_; intro v' w1 hown hg hb; have HO2 := Lib.hid (And.intro hown (And.intro hg hb)); clear hown hg hb))
        go_roundg r.length
        case measure => simp only [List.length_cons] at hg; omega
        case rel =>
          have hk3 := ((Keeps.alloc _ _).weaken (T := (Value.slice A acc.length c).ownBlock.toList) (by simp)).trans (Keeps.of_grown HO2.out.2.1) (fun z hz _ => hz)
          have hge : ∀ z ∈ (Value.slice A acc.length c).ownBlock.toList, w.heap.size + 1 ≤ z := fun z hz => (HH1.out.1.lt z (by simpa using hz)).1
          have hbl := HB.out.lt
          refine ⟨acc ++ [x], r, Lib.hid (by rw [HE.out, (fun r => kUnesc_byte r HX.out) r, kAcc_cons]), ?_, HH1.out.2.1.keep hk3 (fun hm => by have := hge _ hm; omega), HH1.out.2.2.1.keep hk3 (fun hm => by have := hge _ hm; omega), HH1.out.2.2.2.trans hk3 (fun z hz hlt => by have := hge _ hz; omega), Nat.le_refl _, by simp only [List.length_cons, List.length_append, List.length_nil] at hlen ⊢; omega⟩
          have h1 := HO2.out.1
          unfold Owned
          rw [List.length_append, List.map_append]
          exact h1
end Go.Proofs.YtckmlmedhchpaaaDoor
