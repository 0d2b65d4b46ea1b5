/- The contracts of package page (layer 4) and of its reference, stated as the statements' walks want them. Walk over the statements' own 'known' (layer 4). -/
import Derived.Test.YthepcoifcoinoaaPRa24
import Derived.Test.YthepcoifcoinoaaPRa15

namespace Go.Proofs.Ythepcoifcoinoaa
open Go.RowKit

/-- A slice value of 256 bytes of the call's own that reads as l. -/
structure Full (w : World) (base b o c : Nat) (l : List UInt8) : Prop where
  len : l.length = 256
  cap : 256 ≤ c
  max : c ≤ 9223372036854775807
  low : base ≤ b
  lt : b < w.heap.size
  own : Owned w base (.slice (some ⟨b, o, none⟩) l.length c) l
theorem Full.keep {w w' : World} {base b o c : Nat} {l : List UInt8} {S : List Nat} (h : Full w base b o c l) (hk : Keeps w w' S) (hs : b ∉ S) : Full w' base b o c l :=
  ⟨h.len, h.cap, h.max, h.low, Nat.lt_of_lt_of_le h.lt hk.size, own_keep h.own hk (fun g hg hm => by
    have : b = g := by simpa [Value.ownBlock] using hg
    exact hs (this ▸ hm))⟩
theorem Full.bytes {w : World} {base b o c : Nat} {l : List UInt8} (h : Full w base b o c l) : Bytes w w.heap.size (.slice (some ⟨b, o, none⟩) l.length c) l := h.own.bytes (by rw [h.len]; omega)
theorem Full.lies {w : World} {base b o c : Nat} {l : List UInt8} (h : Full w base b o c l) : Lies w w.heap.size (some ⟨b, o, none⟩) (l.map byteV) := Lies.of_own h.own
theorem Full.cell {w : World} {base b o c : Nat} {l : List UInt8} (h : Full w base b o c l) (i : Nat) (hi : i < 256) : w.cell? ⟨b, o + i, none⟩ = some (.int .u8 ((l.getD i 0).toNat : Nat)) := by
  have hl := h.len
  obtain ⟨b', o', e, _, hc⟩ := h.lies (by simp; omega)
  injection e with e
  injection e with e1 e2
  subst e1; subst e2
  rw [hc i (.int .u8 ((l.getD i 0).toNat : Nat)) (by rw [List.getElem?_map, List.getElem?_eq_getElem (by omega)]; simp [byteV, List.getD, List.getElem?_eq_getElem (show i < l.length by omega)])]
theorem Full.str {w : World} {base b o c : Nat} {l : List UInt8} (h : Full w base b o c l) : (convert 22 9 (.slice (some ⟨b, o, none⟩) 256 c)).run Try.prog w = .ok (.string ⟨l.toArray⟩) w := by
  have := conv_str w w.heap.size (some ⟨b, o, none⟩) c l h.lies
  rwa [h.len] at this

theorem full_of_owned {w : World} {base : Nat} {v : Value} {l : List UInt8} (h : Owned w base v l) (hl : l.length = 256) : ∃ b o c, v = .slice (some ⟨b, o, none⟩) 256 c ∧ Full w base b o c l := by
  have hO := h
  obtain ⟨A, c, rfl, hc, hcm, hnil, hL⟩ := h.parts
  obtain ⟨b, o, rfl, hb, _⟩ := hL (by simp; omega)
  have hbl := Owned.block hO
  simp only [maxLen] at hcm
  exact ⟨b, o, c, by rw [hl], hl, by omega, by omega, hbl.1, hbl.2, hO⟩

/-- The bytes of a page of these parts at this number. -/
def rawI (a k t n : Int) (body : List UInt8) : List UInt8 := rawPage a.toNat k.toNat t.toNat n.toNat body
theorem toNat_eq {x : Int} (h : 0 ≤ x) : ((x.toNat : Nat) : Int) = x := Int.toNat_of_nonneg h

theorem raw256 (w : World) (a k t n : Int) (A : Option Addr) (c : Nat) (body : List UInt8) (hB : Bytes w w.heap.size (.slice A body.length c) body)
    (hok : pageOk k t n body.length = true) (ha : withinB a 0 4095 = true) :
    Calls Try.prog 18 #[.int .i64 a, .agg #[.int .i64 k, .int .i64 t, .int .i64 n, .slice A body.length c]] w fun e w' =>
      ∃ b o c', e = .returned (.tuple #[.slice (some ⟨b, o, none⟩) 256 c', .int .i64 0]) ∧ Full w' w.heap.size b o c' (rawI a k t n body) ∧ Keeps w w' [] := by
  obtain ⟨hk, ht, hn, hl⟩ := pageOk_true hok
  have ha' : 0 ≤ a ∧ a ≤ 4095 := by simpa [withinB] using ha
  have h := rawYes_any w a.toNat k.toNat t.toNat n.toNat A c body hB (by rw [toNat_eq (by omega : 0 ≤ k), toNat_eq ht.1, toNat_eq hn.1]; exact hok) (by omega)
  rw [toNat_eq ha'.1, toNat_eq (by omega : 0 ≤ k), toNat_eq ht.1, toNat_eq hn.1] at h
  refine h.mono ?_
  rintro e w' ⟨v, rfl, ho, hk⟩
  obtain ⟨b, o, c', rfl, hf⟩ := full_of_owned ho (rawPage_length _ _ _ _ _ hl)
  exact ⟨b, o, c', rfl, hf, hk⟩

theorem refRaw256 (w : World) (a k t n : Int) (A : Option Addr) (c : Nat) (body : List UInt8) (hB : Bytes w w.heap.size (.slice A body.length c) body)
    (hok : pageOk k t n body.length = true) (ha : withinB a 0 4095 = true) :
    Calls Try.prog 21 #[.int .i64 a, .agg #[.int .i64 k, .int .i64 t, .int .i64 n, .slice A body.length c]] w fun e w' =>
      ∃ b o c', e = .returned (.slice (some ⟨b, o, none⟩) 256 c') ∧ Full w' w.heap.size b o c' (rawI a k t n body) ∧ Keeps w w' [] := by
  obtain ⟨hk, ht, hn, hl⟩ := pageOk_true hok
  have ha' : 0 ≤ a ∧ a ≤ 4095 := by simpa [withinB] using ha
  have h := refRaw_any w a.toNat k.toNat t.toNat n.toNat A c body hB (by rw [toNat_eq (by omega : 0 ≤ k), toNat_eq ht.1, toNat_eq hn.1]; exact hok) (by omega)
  rw [toNat_eq ha'.1, toNat_eq (by omega : 0 ≤ k), toNat_eq ht.1, toNat_eq hn.1] at h
  refine h.mono ?_
  rintro e w' ⟨v, rfl, ho, hk⟩
  obtain ⟨b, o, c', rfl, hf⟩ := full_of_owned ho (rawPage_length _ _ _ _ _ hl)
  exact ⟨b, o, c', rfl, hf, hk⟩

/-- What Look finds in the bytes of a page. -/
theorem rawI_look (a k t n : Int) (body : List UInt8) (hok : pageOk k t n body.length = true) (ha : withinB a 0 4095 = true) :
    (rawI a k t n body).length = 256 ∧ beN ((rawI a k t n body).take 4) = crcSum ((rawI a k t n body).drop 4) ∧ lookErr (rawI a k t n body) = 0 ∧ lookOk (rawI a k t n body) = true ∧
    ((pgNum (rawI a k t n body) : Nat) : Int) = a ∧ ((pgKind (rawI a k t n body) : Nat) : Int) = k ∧ pgTxid (rawI a k t n body) = t ∧ ((pgNext (rawI a k t n body) : Nat) : Int) = n ∧ pgBody (rawI a k t n body) = body := by
  obtain ⟨hk, ht, hn, hl⟩ := pageOk_true hok
  have ha' : 0 ≤ a ∧ a ≤ 4095 := by simpa [withinB] using ha
  have tl : ∀ x : Int, 0 ≤ x → x ≤ 4611686018427387904 → x.toNat < 18446744073709551616 ∧ wrap64 (x.toNat : Nat) = x := fun x h1 h2 => by
    unfold wrap64; omega
  obtain ⟨t1, t2⟩ := tl t ht.1 ht.2
  have hp := raw_parts a.toNat k.toNat t.toNat n.toNat body (by omega) hl t1 (by omega) (by omega)
  simp only at hp
  change let L := rawI a k t n body; _ at hp
  obtain ⟨p1, p2, p3, p4, p5, p6, p7, p8, p9, p10⟩ := hp
  have hlen : (rawI a k t n body).length = 256 := rawPage_length _ _ _ _ _ hl
  have hsum : beN ((rawI a k t n body).take 4) = crcSum ((rawI a k t n body).drop 4) := by
    unfold rawI
    rw [p1, p2, beN_toBE _ _ (crcSum_lt _)]
  have hT : pgTxid (rawI a k t n body) = t := by
    unfold pgTxid rawI
    rw [p5, t2]
  have e1 : ((pgNum (rawI a k t n body) : Nat) : Int) = a := by unfold rawI; rw [p6]; exact toNat_eq ha'.1
  have e2 : ((pgKind (rawI a k t n body) : Nat) : Int) = k := by unfold rawI; rw [p3]; exact toNat_eq (by omega)
  have e3 : ((pgNext (rawI a k t n body) : Nat) : Int) = n := by unfold rawI; rw [p7]; exact toNat_eq hn.1
  have e4 : pgLen (rawI a k t n body) = body.length := p4
  have e5 : pgPad (rawI a k t n body) = 0 := p8
  have e6 : allZero ((rawI a k t n body).drop (24 + body.length)) = true := p10
  have hlo : lookOk (rawI a k t n body) = true := by
    unfold lookOk
    rw [e1, e2, e3, hT, e4, e5, e6, hok, ha]
    simp [hl]
  exact ⟨hlen, hsum, by simp [lookErr, hlen, hsum, hlo], hlo, e1, e2, hT, e3, p9⟩
theorem rawI_parse (a k t n : Int) (body : List UInt8) (hok : pageOk k t n body.length = true) (ha : withinB a 0 4095 = true) (m : Int) :
    parseErr m (rawI a k t n body) = if withinB m 0 4095 = false then 2 else if a = m then 0 else 141 := by
  obtain ⟨_, _, h3, _, h5, _⟩ := rawI_look a k t n body hok ha
  simp [parseErr, h3, h5]

theorem parse256 (w : World) (n : Int) (A : Option Addr) (c : Nat) (l : List UInt8) (hl : l.length = 256) (hB : Bytes w w.heap.size (.slice A l.length c) l) :
    Calls Try.prog 17 #[.int .i64 n, .slice A 256 c] w (ParseDone w n l) := by
  have := parse_any w n A c l hB (by omega)
  rwa [hl] at this
theorem look256 (w : World) (A : Option Addr) (c : Nat) (l : List UInt8) (hl : l.length = 256) (hB : Bytes w w.heap.size (.slice A l.length c) l) :
    Calls Try.prog 14 #[.slice A 256 c] w (LookDone w l) := by
  have := look_any w A c l hB (by omega)
  rwa [hl] at this
/-- Parse of a page's bytes, at its number and at another one. -/
theorem parseRaw (w : World) (m : Int) (base b o c : Nat) (a k t n : Int) (body : List UInt8) (hF : Full w base b o c (rawI a k t n body)) (hok : pageOk k t n body.length = true) (ha : withinB a 0 4095 = true) (hm : m = a) :
    Calls Try.prog 17 #[.int .i64 m, .slice (some ⟨b, o, none⟩) 256 c] w fun e w' =>
      ∃ A c', e = .returned (.tuple #[.agg #[.int .i64 k, .int .i64 t, .int .i64 n, .slice A body.length c'], .int .i64 0]) ∧ Owned w' w.heap.size (.slice A body.length c') body ∧ Keeps w w' [] := by
  subst hm
  refine (parse256 w m (some ⟨b, o, none⟩) c _ hF.len hF.bytes).mono ?_
  obtain ⟨_, _, h3, h4, h5, h6, h7, h8, h9⟩ := rawI_look m k t n body hok ha
  have hp : parseErr m (rawI m k t n body) = 0 := by rw [rawI_parse m k t n body hok ha m]; simp [ha]
  rintro e w' ⟨hk, ⟨_, _, _, A, c', rfl, ho⟩ | ⟨h0, _⟩⟩
  · rw [h6, h7, h8, h9]
    rw [h9] at ho
    exact ⟨A, c', rfl, ho, hk⟩
  · exact absurd hp h0
theorem parseRawNo (w : World) (m : Int) (base b o c : Nat) (a k t n : Int) (body : List UInt8) (hF : Full w base b o c (rawI a k t n body)) (hok : pageOk k t n body.length = true) (ha : withinB a 0 4095 = true) (hm : withinB m 0 4095 = true) (hne : a ≠ m) :
    Calls Try.prog 17 #[.int .i64 m, .slice (some ⟨b, o, none⟩) 256 c] w fun e w' => e = .returned (noParse 141) ∧ Keeps w w' [] := by
  refine (parse256 w m (some ⟨b, o, none⟩) c _ hF.len hF.bytes).mono ?_
  have hp : parseErr m (rawI a k t n body) = 141 := by rw [rawI_parse a k t n body hok ha m]; simp [hm, hne]
  rintro e w' ⟨hk, ⟨h0, _⟩ | ⟨_, rfl⟩⟩
  · omega
  · rw [hp]
    exact ⟨rfl, hk⟩
end Go.Proofs.Ythepcoifcoinoaa

namespace Go.Proofs.Ythepcoifcoinoaa
open Go.RowKit

theorem nilBytes (w : World) : Bytes w w.heap.size (.slice none ([] : List UInt8).length 0) [] :=
  ⟨none, 0, rfl, by simp, fun _ => rfl, by simp [maxLen], by simp, Lies.nil _ _ _⟩
theorem known4_bytes : (rawI 3 2 7 0 []).getD 4 0 = 2 ∧ (rawI 3 2 7 0 []).getD 5 0 = 0 ∧ (rawI 3 2 7 0 []).getD 13 0 = 7 ∧ (rawI 3 2 7 0 []).getD 17 0 = 3 := by
  have h : ∀ i, (rawI 3 2 7 0 []).getD (i + 4) 0 = (rawTail 3 2 7 0 []).getD i 0 := fun i => by
    show (toBE 4 _ ++ rawTail 3 2 7 0 []).getD (i + 4) 0 = _
    rw [List.getD_eq_getElem?_getD, List.getD_eq_getElem?_getD, List.getElem?_append_right (by rw [toBE_length]; omega), toBE_length, Nat.add_sub_cancel]
  exact ⟨(h 0).trans (by decide +kernel), (h 1).trans (by decide +kernel), (h 9).trans (by decide +kernel), (h 13).trans (by decide +kernel)⟩

set_option maxRecDepth 100000 in
set_option maxHeartbeats 2000000 in
theorem known4_any (w : World) : Calls Try.prog 13 #[] w fun e w' => e = .returned (.bool true) ∧ Keeps w w' [] := by
  have hok : pageOk 2 7 0 ([] : List UInt8).length = true := by decide
  have ha : withinB 3 0 4095 = true := by decide
  have hb4 : withinB 4 0 4095 = true := by decide
  have HOK := Lib.hid (And.intro hok (And.intro ha hb4))
  clear hok ha hb4
  go_enter Try.func13, Try.ntmps13
  go_wp2_with fail
  refine (raw256 _ 3 2 7 0 none 0 [] (nilBytes _) HOK.out.1 HOK.out.2.1).mono ?_
  rintro e w1 ⟨b, o, c, rfl, hF, hk1⟩
  have x4 := hF.cell 4 (by omega)
  have x5 := hF.cell 5 (by omega)
  have x13 := hF.cell 13 (by omega)
  have x17 := hF.cell 17 (by omega)
  obtain ⟨k4, k5, k13, k17⟩ := known4_bytes
  rw [k4] at x4
  rw [k5] at x5
  rw [k13] at x13
  rw [k17] at x17
  clear k4 k5 k13 k17
  have hc1 := hF.cap
  have hc2 := hF.max
  have H1 := Lib.hid (And.intro hF hk1)
  clear hF hk1
  go_wp2_with fail
  refine (parseRawNo _ 4 w.heap.size b o c 3 2 7 0 [] H1.out.1 HOK.out.1 HOK.out.2.1 HOK.out.2.2 (by decide)).mono ?_
  rintro e w2 ⟨rfl, hk2⟩
  have H2 := Lib.hid (And.intro (H1.out.1.keep hk2 (by simp)) (H1.out.2.then_ hk2))
  clear hk2
  simp only [noParse]
  go_wp2_with fail
  refine (parseRaw _ 3 w.heap.size b o c 3 2 7 0 [] (H2.out.1.keep (Keeps.alloc _ _) (by simp)) HOK.out.1 HOK.out.2.1 rfl).mono ?_
  rintro e w3 ⟨A3, c3, rfl, ho3, hk3⟩
  have H3 := Lib.hid (And.intro (H2.out.1.keep ((Keeps.alloc _ _).then_ hk3) (by simp)) ((H2.out.2.then_alloc _).then_ hk3))
  clear ho3 hk3
  go_wp2_with fail
  refine (textYes_any 4 (by omega) _).mono ?_
  rintro e w4 ⟨rfl, hk4⟩
  have hr := (Row.new w3 26 #[.int .i64 2, .int .i64 7, .int .i64 0, .slice A3 ([] : List UInt8).length c3]).keep hk4 (by simp)
  have y1 := hr.cell 1
  have H4 := Lib.hid ((H3.out.2.then_alloc _).then_ hk4)
  clear hk4 hr
  simp only [kindName]
  go_wp2_with fail
  refine (textNo_any 6 (by omega) _).mono ?_
  rintro e w5 ⟨rfl, rfl⟩
  go_wp2
  go_ret
  exact ⟨rfl, H4.out⟩
end Go.Proofs.Ythepcoifcoinoaa
