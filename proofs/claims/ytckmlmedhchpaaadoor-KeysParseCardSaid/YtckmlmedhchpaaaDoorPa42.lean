/- Package pigeonryref18: part. Package pigeonryref18: Raw. -/
import Derived.Test.YtckmlmedhchpaaaDoorPa39
import Derived.Test.YtckmlmedhchpaaaDoorPa41
import Derived.Test.YtckmlmedhchpaaaDoorPa21
import Derived.Test.YtckmlmedhchpaaaDoorPa34

namespace Go.Proofs.YtckmlmedhchpaaaDoor
open Go.RowKit

theorem bytes_cons (k : UInt8) (T : List UInt8) : (⟨#[k]⟩ : ByteArray) ++ ⟨T.toArray⟩ = ⟨(k :: T).toArray⟩ := bytes_append [k] T
set_option maxRecDepth 100000 in
set_option maxHeartbeats 2000000 in
theorem refPart_int (n : Int) (f : Nat) (s : List UInt8) (h1 : -9223372036854775808 ≤ n) (h2 : n ≤ 9223372036854775807) (w : World) :
    Calls Tryd.prog 31 #[kpV ⟨1, n, f, s⟩] w fun e w' => e = .returned (strV (kPart ⟨1, n, f, s⟩)) ∧ Keeps w w' [] := by
  have xu := xor_up n h1 h2
  have HE := Lib.hid (fun W => refEight_any W (kUp n) (kUp_lt h2))
  obtain ⟨T, hT⟩ : ∃ T, toBE 8 (kUp n) = T := ⟨_, rfl⟩
  have hl : T.length = 8 := by rw [← hT]; exact toBE_length 8 _
  have HV := Lib.hid (show kPart ⟨1, n, f, s⟩ = 1 :: T by rw [← hT]; rfl)
  rw [hT] at HE
  have bc := Lib.hid (bytes_cons 1 T)
  clear hT h1 h2
  unfold kpV strV
  have hsf := @run_store_float Tryd.prog
  go_enter Tryd.func31, Tryd.ntmps31
  go_wp2_with fail
  refine (HE.out _).mono ?_
  rintro e w1 ⟨rfl, hk⟩
  have HK := Lib.hid hk
  clear hk
  unfold strV
  have hsz : (⟨T.toArray⟩ : ByteArray).size = 8 := by simp [ByteArray.size, hl]
  go_wp2_with fail
  go_ret
  exact ⟨by rw [HV.out, ← bc.out]; rfl, (Keeps.alloc _ _).trans HK.out (by simp)⟩
set_option maxRecDepth 100000 in
set_option maxHeartbeats 2000000 in
theorem refPart_float (n : Int) (f : Nat) (s : List UInt8) (hf : f < 18446744073709551616) (w : World) :
    Calls Tryd.prog 31 #[kpV ⟨2, n, f, s⟩] w fun e w' => e = .returned (strV (kPart ⟨2, n, f, s⟩)) ∧ Keeps w w' [] := by
  have HO := Lib.hid (fun W => refOrder_any f hf W)
  have HE := Lib.hid (fun W => refEight_any W (kOf f) (kOf_lt f hf))
  obtain ⟨T, hT⟩ : ∃ T, toBE 8 (kOf f) = T := ⟨_, rfl⟩
  have hl : T.length = 8 := by rw [← hT]; exact toBE_length 8 _
  have HV := Lib.hid (show kPart ⟨2, n, f, s⟩ = 2 :: T by rw [← hT]; rfl)
  rw [hT] at HE
  have bc := Lib.hid (bytes_cons 2 T)
  clear hT hf
  unfold kpV strV
  have hsf := @run_store_float Tryd.prog
  go_enter Tryd.func31, Tryd.ntmps31
  go_wp2_with fail
  refine (HO.out _).mono ?_
  rintro e w1 ⟨rfl, hk⟩
  have HK := Lib.hid hk
  clear hk
  go_wp2_with fail
  refine (HE.out _).mono ?_
  rintro e w2 ⟨rfl, hk⟩
  have HK2 := Lib.hid hk
  clear hk
  unfold strV
  have hsz : (⟨T.toArray⟩ : ByteArray).size = 8 := by simp [ByteArray.size, hl]
  go_wp2_with fail
  go_ret
  exact ⟨by rw [HV.out, ← bc.out]; rfl, ((Keeps.alloc _ _).trans HK.out (by simp)).trans HK2.out (by simp)⟩
theorem kEsc_app (a b : List UInt8) : kEsc (a ++ b) = kEsc a ++ kEsc b := by
  induction a with
  | nil => rfl
  | cons c a ih => simp only [List.cons_append, kEsc, ih, List.append_assoc]
theorem kEsc_take {s : List UInt8} {j : Nat} (hj : j < s.length) : kEsc (s.take (j + 1)) = kEsc (s.take j) ++ (if s[j] = 0 then [0, 255] else [s[j]]) := by
  rw [List.take_succ_eq_append_getElem hj, kEsc_app]
  simp [kEsc]
set_option maxRecDepth 100000 in
set_option maxHeartbeats 4000000 in
theorem refPart_text (n : Int) (f : Nat) (s : List UInt8) (hs : s.length ≤ 1000) (w : World) :
    Calls Tryd.prog 31 #[kpV ⟨3, n, f, s⟩] w fun e w' => e = .returned (strV (kPart ⟨3, n, f, s⟩)) ∧ Keeps w w' [] := by
  unfold kpV strV
  have hsf := @run_store_float Tryd.prog
  go_enter Tryd.func31, Tryd.ntmps31
  go_wp2_with fail
  obtain ⟨W0, hW0⟩ : ∃ W', w.alloc (.cells #[.int .i64 3, .int .i64 n, .float .f64 f, .string ⟨s.toArray⟩] 34) = W' := ⟨_, rfl⟩
  have hk0 : Keeps w W0 [] := by rw [← hW0]; exact Keeps.alloc _ _
  have hr0 : Row W0 w.heap.size 34 #[.int .i64 3, .int .i64 n, .float .f64 f, .string ⟨s.toArray⟩] := by rw [← hW0]; exact Row.new _ _ _
  rw [hW0]
  clear hW0
  have c3 : W0.cell? ⟨w.heap.size, 3, none⟩ = some (.string ⟨s.toArray⟩) := hr0.cell 3
  have HK := Lib.hid hk0
  clear hk0 hr0
  have hsl : (⟨s.toArray⟩ : ByteArray).size = s.length := by simp [ByteArray.size]
  go_loopw [3, 4] (fun v i wr => ∃ j : Nat, j ≤ s.length ∧ v = .string ⟨(3 :: kEsc (s.take j)).toArray⟩ ∧ i = .int .i64 j ∧ W0 = wr) (fun _ i _ => s.length - (intOf i).toNat)
  case atStart => exact ⟨0, by omega, rfl, rfl, rfl⟩
  case round =>
    obtain ⟨j, hj, rfl, rfl, rfl⟩ := hrel
    by_cases hjl : j < s.length
    · have HT := Lib.hid (kEsc_take hjl)
      have hlen := (kEsc_length (s.take j)).1
      obtain ⟨R, hR⟩ : ∃ R, kEsc (s.take j) = R := ⟨_, rfl⟩
      rw [hR] at HT hlen ⊢
      have hRl : R.length ≤ 2000 := by rw [List.length_take] at hlen; omega
      obtain ⟨b, hb⟩ : ∃ b, s[j] = b := ⟨_, rfl⟩
      rw [hb] at HT
      have ex : (⟨s.toArray⟩ : ByteArray).extract j (j + 1) = ⟨#[b]⟩ := by
        apply ByteArray.ext
        rw [← hb]
        have hd : List.take 1 (List.drop j s) = [s[j]] := by rw [List.drop_eq_getElem_cons hjl]; rfl
        simp [hd]
      have ix : ∀ h, (⟨s.toArray⟩ : ByteArray)[j]'h = b := fun _ => hb
      have HX := Lib.hid (bytes_append (3 :: R) [b])
      have s1 : (⟨(3 :: R).toArray⟩ : ByteArray).size = R.length + 1 := by simp [ByteArray.size]
      have s2 : (⟨#[b]⟩ : ByteArray).size = 1 := rfl
      clear hlen hR
      by_cases hb0 : b = 0
      · subst hb0
        have HY := Lib.hid (bytes_append (3 :: R ++ [0]) [255])
        have bz : (((0 : UInt8).toNat : Int) == 0) = true := rfl
        go_wp2_with fail
        refine ⟨⟨j + 1, by omega, ?_, by go_num, trivial⟩, by simp [intOf]; omega⟩
        rw [HT.out, if_pos rfl]
        have e1 : (⟨(3 :: R).toArray⟩ : ByteArray) ++ ⟨#[0]⟩ = ⟨(3 :: R ++ [0]).toArray⟩ := HX.out
        have e2 : (⟨(3 :: R ++ [0]).toArray⟩ : ByteArray) ++ ⟨#[255]⟩ = ⟨(3 :: R ++ [0] ++ [255]).toArray⟩ := HY.out
        rw [e1, e2]
        simp
      · have bz2 : ¬ b.toNat = 0 := fun h => hb0 (UInt8.toNat_inj.1 h)
        have bz : ((b.toNat : Int) == 0) = false := by
          rw [beq_eq_false_iff_ne]; omega
        go_wp2_with fail
        refine ⟨⟨j + 1, by omega, ?_, by go_num, trivial⟩, by simp [intOf]; omega⟩
        rw [HT.out, if_neg hb0]
        exact congrArg Value.string HX.out
    · obtain rfl : j = s.length := by omega
      rw [List.take_length]
      have HX := Lib.hid (bytes_append (3 :: kEsc s) [0, 1])
      have hlen := (kEsc_length s).1
      have s1 : (⟨(3 :: kEsc s).toArray⟩ : ByteArray).size = (kEsc s).length + 1 := by simp [ByteArray.size]
      have HV := Lib.hid (show kPart ⟨3, n, f, s⟩ = 3 :: (kEsc s ++ [0, 1]) from rfl)
      go_wp2_with fail
      go_ret
      exact ⟨by rw [HV.out]; exact congrArg (fun z => Ending.returned (Value.string z)) HX.out, HK.out⟩
end Go.Proofs.YtckmlmedhchpaaaDoor

namespace Go.Proofs.YtckmlmedhchpaaaDoor
open Go.RowKit

theorem refPart_any (p : KP) (hp : p.Ok) (hm : kMay p = true) (hs : p.s.length ≤ 1000) (w : World) :
    Calls Tryd.prog 31 #[kpV p] w fun e w' => e = .returned (strV (kPart p)) ∧ Keeps w w' [] := by
  have hk := kMay_kind hm
  have n1 := hp.n1
  have n2 := hp.n2
  have f1 := hp.f
  obtain ⟨k, n, f, s⟩ := p
  dsimp only at hk n1 n2 f1 hs
  rcases hk with rfl | rfl | rfl
  · exact refPart_int n f s n1 n2 w
  · exact refPart_float n f s f1 w
  · exact refPart_text n f s hs w

set_option maxRecDepth 100000 in
set_option maxHeartbeats 4000000 in
theorem refRaw_any (w : World) (A : Option Addr) (c : Nat) (l : List KP) (hok : ∀ p ∈ l, p.Ok) (hL : Lies w w.heap.size A (kFlat l)) (hl : l.length ≤ 100) (hs : ∀ p ∈ l, p.s.length ≤ 1000) :
    Calls Tryd.prog 19 #[.slice A l.length c] w fun e w' => e = .returned (.tuple #[strV (if kErr l = 0 then kRaw l else []), .int .i64 (kErr l : Nat)]) ∧ Keeps w w' [] := by
  obtain ⟨V, hV⟩ : ∃ V : List UInt8, (if kErr l = 0 then kRaw l else []) = V := ⟨_, rfl⟩
  obtain ⟨E, hE⟩ : ∃ E : Nat, kErr l = E := ⟨_, rfl⟩
  rw [hV, hE]
  rw [hE] at hV
  have HE := Lib.hid hE
  have HV := Lib.hid hV
  clear hE hV
  unfold strV
  have hsf := @run_store_float Tryd.prog
  go_enter Tryd.func19, Tryd.ntmps19
  go_wp2_with fail
  go_loopw [5] (fun i wr => ∃ j : Nat, j ≤ l.length ∧ i = .int .i64 j ∧ Hid ((l.take j).all kMay = true) ∧ Keeps w wr []) (fun i _ => l.length - (intOf i).toNat)
  case atStart => exact ⟨0, by omega, rfl, Lib.hid rfl, Keeps.refl _ _⟩
  case round =>
    obtain ⟨j, hj, rfl, HA, hkp⟩ := hrel
    have HK := Lib.hid hkp
    clear hkp
    by_cases hjl : j < l.length
    · obtain ⟨b, o, rfl, hb, hc⟩ := kpAt hL (Nat.le_refl _) hjl
      obtain ⟨c0, c1, c2, c3⟩ := hc wr HK.out
      have HN := Lib.hid (show kMay l[j] = false → kErr l = 2 from kErr_no hjl)
      have HT := Lib.hid (show kMay l[j] = true → (l.take (j + 1)).all kMay = true from fun h => all_take hjl HA.out h)
      obtain ⟨p, hpd⟩ : ∃ p, l[j] = p := ⟨_, rfl⟩
      rw [hpd] at c0 c1 c2 c3 HN HT
      have HM := Lib.hid (fun W => refMay_any p W)
      have HP := Lib.hid hpd
      obtain ⟨B, hB⟩ : ∃ B, kMay p = B := ⟨_, rfl⟩
      rw [hB] at HN HT HM
      clear hc hpd hB hb
      obtain ⟨k, n, f, s⟩ := p
      simp only [strV] at c3
      simp only [kpV, strV] at HM
      go_wp2_with fail
      refine (HM.out _).mono ?_
      rintro e w1 ⟨rfl, hk⟩
      have HK1 := Lib.hid (HK.out.trans hk (by simp))
      clear hk c0 c1 c2 c3
      cases B
      · have h2 : E = 2 := by rw [← HE.out]; exact HN.out rfl
        have hv : V = [] := by rw [← HV.out, h2]; rfl
        subst h2 hv
        go_wp2_with fail
        go_ret2
        exact ⟨rfl, HK1.out⟩
      · have HA1 := Lib.hid (HT.out rfl)
        go_wp2_with fail
        exact ⟨⟨j + 1, by omega, by go_num, HA1, HK1.out⟩, by simp [intOf]; omega⟩
    · obtain rfl : j = l.length := by omega
      have ha := HA.out
      rw [List.take_length] at ha
      have HEE := Lib.hid (show E = if l.length = 0 ∨ 4 < l.length then 2 else if 48 < (kRaw l).length then 3 else 0 by rw [← HE.out]; unfold kErr; rw [if_pos ha])
      have HM := Lib.hid (List.all_eq_true.1 ha)
      clear ha
      by_cases h4 : (l.length : Int) < 1 ∨ (l.length : Int) > 4
      · have h2 : E = 2 := by rw [HEE.out, if_pos (by omega)]
        have hv : V = [] := by rw [← HV.out, h2]; rfl
        subst h2 hv
        rcases h4 with h4 | h4
        · go_wp2_with fail
          go_ret2
          exact ⟨rfl, HK.out⟩
        · have h5 : ¬ ((l.length : Int) < 1) := by omega
          go_wp2_with fail
          go_ret2
          exact ⟨rfl, HK.out⟩
      · have h5 : ¬ ((l.length : Int) < 1) := by omega
        have h6 : ¬ ((l.length : Int) > 4) := by omega
        have HE3 := Lib.hid (show E = if 48 < (kRaw l).length then 3 else 0 by rw [HEE.out, if_neg (by omega)])
        have HLEN := Lib.hid (kRaw_length hs)
        clear h4 hsf
        go_wp2_with fail
        go_loopw [4, 6] (fun v i wr' => ∃ j : Nat, j ≤ l.length ∧ v = .string ⟨(kRaw (l.take j)).toArray⟩ ∧ i = .int .i64 j ∧ Keeps w wr' []) (fun _ i _ => l.length - (intOf i).toNat)
        case atStart => exact ⟨0, by omega, rfl, rfl, HK.out⟩
        case round =>
          obtain ⟨j, hj, rfl, rfl, hkp⟩ := hrel
          clear HK
          have HK := Lib.hid hkp
          clear hkp
          by_cases hjl : j < l.length
          · obtain ⟨b, o, rfl, hb, hc⟩ := kpAt hL (Nat.le_refl _) hjl
            obtain ⟨c0, c1, c2, c3⟩ := hc _ HK.out
            have HR := Lib.hid (kRaw_take hjl)
            have hRl := kRaw_length (l := l.take j) (fun p hp => hs p (List.mem_of_mem_take hp))
            have hPl := kPart_length (hs l[j] (List.getElem_mem _))
            have HP := Lib.hid (fun W => refPart_any l[j] (hok _ (List.getElem_mem _)) (HM.out _ (List.getElem_mem _)) (hs _ (List.getElem_mem _)) W)
            obtain ⟨p, hpd⟩ : ∃ p, l[j] = p := ⟨_, rfl⟩
            rw [hpd] at c0 c1 c2 c3 HR HP hPl
            obtain ⟨R, hR⟩ : ∃ R, kRaw (l.take j) = R := ⟨_, rfl⟩
            rw [hR] at HR hRl ⊢
            obtain ⟨T, hT⟩ : ∃ T, kPart p = T := ⟨_, rfl⟩
            rw [hT] at HR HP hPl
            have hRl2 : R.length ≤ 201000 := by
              rw [List.length_take] at hRl
              have : 2010 * min j l.length ≤ 2010 * 100 := Nat.mul_le_mul_left _ (by omega)
              omega
            have bc := Lib.hid (bytes_append R T)
            have s1 : (⟨R.toArray⟩ : ByteArray).size = R.length := by simp [ByteArray.size]
            have s2 : (⟨T.toArray⟩ : ByteArray).size = T.length := by simp [ByteArray.size]
            clear hc hpd hR hT hb hRl
            obtain ⟨k, n, f, s⟩ := p
            simp only [strV] at c3
            simp only [kpV, strV] at HP
            have HH := Lib.hid (And.intro hs hok)
            clear hs hok
            go_wp2_with fail
            refine (HP.out _).mono ?_
            rintro e w1 ⟨rfl, hk⟩
            have HK1 := Lib.hid (HK.out.trans hk (by simp))
            clear hk c0 c1 c2 c3
            go_wp2_with fail
            refine ⟨⟨j + 1, by omega, ?_, by go_num, HK1.out⟩, by simp [intOf]; omega⟩
            rw [HR.out]
            exact congrArg Value.string bc.out
          · obtain rfl : j = l.length := by omega
            rw [List.take_length]
            have s1 : (⟨(kRaw l).toArray⟩ : ByteArray).size = (kRaw l).length := by simp [ByteArray.size]
            by_cases h48 : 48 < (kRaw l).length
            · have h3 : E = 3 := by rw [HE3.out, if_pos h48]
              have hv : V = [] := by rw [← HV.out, h3]; rfl
              subst h3 hv
              have h7 : ((kRaw l).length : Int) > 48 := by omega
              go_wp2_with fail
              go_ret2
              exact ⟨rfl, HK.out⟩
            · have h3 : E = 0 := by rw [HE3.out, if_neg h48]
              have hv : V = kRaw l := by rw [← HV.out, h3]; rfl
              subst h3 hv
              have h7 : ¬ (((kRaw l).length : Int) > 48) := by omega
              go_wp2_with fail
              go_ret2
              exact ⟨rfl, HK.out⟩
end Go.Proofs.YtckmlmedhchpaaaDoor
