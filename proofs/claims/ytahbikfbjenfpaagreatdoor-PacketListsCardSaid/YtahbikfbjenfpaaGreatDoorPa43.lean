/- What Parse tells of a packet's own bytes. The law PacketLists. -/
import Derived.Test.YtahbikfbjenfpaaGreatDoorPa41
import Derived.Test.YtahbikfbjenfpaaGreatDoorPa26

namespace Go.Proofs.YtahbikfbjenfpaaGreatDoor
open Go.RowKit Go.Shelf

/-- A packet as one value, its cells hidden. -/
structure PkCells (R : Array Value) (p : Pk) (sw sc sf : Value) : Prop where
 v : Value.agg R = pkV p sw sc sf
 z : 24 = R.size
 one : R.all (·.oneCell') = true
 sz : (Tryz.prog.info? 29).map (·.size) = some R.size
set_option maxRecDepth 100000 in
theorem PkCells.of {w : World} {p : Pk} {sw sc sf : Value} (h : PkL w p sw sc sf) : ∃ R, PkCells R p sw sc sf := by
 obtain ⟨A1, d1, A2, d2, A3, d3, rfl, rfl, rfl⟩ := h.slices
 exact ⟨_, rfl, rfl, by simp [Value.oneCell'], by kernel_rfl⟩
theorem pkRaw_le {p : Pk} (h : pkOk p = true) : (pkRaw p).length ≤ 10000 := by
 unfold pkRaw
 rw [List.length_cons, List.length_append, lnRaw_length]
 have := lnSize_le (pkBody p).length
 have := pkBody_len h
 omega
theorem parse_back (w : World) (base : Nat) (v : Value) (p : Pk) (hm : MaxL w) (hp : pkOk p = true) (hv : Owned w base v (pkRaw p)) :
  Calls Tryz.prog 14 #[v] w fun e w' => Keeps w w' [] ∧ ∃ R sw sc sf, e = .returned (.tuple #[.agg R, .int .i64 0]) ∧ PkCells R p sw sc sf ∧ PkT w' p sw sc sf := by
 have hl := pkRaw_le hp
 refine (pkParse_any w v (pkRaw p) hm (by omega) (hv.bytes (by omega))).mono ?_
 rintro e w' ⟨hk, ⟨r, sw, sc, sf, h1, rfl, h2⟩ | ⟨h1, _⟩⟩
 ·obtain rfl : r = p := pk_unique h1.1 hp h1.2
  obtain ⟨R, hR⟩ := PkCells.of h2.g
  exact ⟨hk, R, sw, sc, sf, by rw [hR.v], hR, h2⟩
 ·exact absurd ⟨hp, rfl⟩ (h1 p)
theorem ListG.lies {α : Type} {w : World} {k : Nat} {f : α → List Value} {A : Option Addr} {l : List α} (E : Enc k f) (h : ListG w k f A l) : Lies w w.heap.size A (l.flatMap f) := fun hp => by
 rw [flat_length E] at hp
 have hl : 0 < l.length := by
  rcases Nat.eq_zero_or_pos l.length with h0 | h0
  ·rw [h0, Nat.zero_mul] at hp; omega
  ·exact h0
 obtain ⟨b, o, cs, ea, hr, hc⟩ := h hl
 refine ⟨b, o, ea, hr.lt, fun i u hu => ?_⟩
 have hi : i < l.length * k := by
  rw [← flat_length E l]
  exact (List.getElem?_eq_some_iff.1 hu).1
 have hk := E.pos
 have h1 : i / k < l.length := Nat.div_lt_of_lt_mul (by rw [Nat.mul_comm]; exact hi)
 have h2 : i % k < k := Nat.mod_lt _ hk
 have e : i / k * k + i % k = i := by rw [Nat.mul_comm]; exact Nat.div_add_mod i k
 rw [hr.cell, show o + i = o + i / k * k + i % k by omega, hc _ h1 _ h2, ← flat_get E h1 h2, e, hu]

/-- What the statement asks of two packets. -/
structure ListsIn (w : World) (p q : Pk) (X Y : Array Value) : Prop where
 m : MaxL w
 a1 : PkA w p X
 a2 : PkA w q Y
 k1 : X[0]? = some (.int .i64 p.k)
 k2 : Y[0]? = some (.int .i64 q.k)
 ch1 : ∀ W, Keeps w W [] → PkFewP p → Calls Tryz.prog 13 #[.agg X] W fun e W' => e = .returned (.int .i64 (chkV p)) ∧ Keeps W W' []
 ch2 : ∀ W, Keeps w W [] → PkFewP q → Calls Tryz.prog 13 #[.agg Y] W fun e W' => e = .returned (.int .i64 (chkV q)) ∧ Keeps W W' []
 z : 24 = X.size
 one : X.all (·.oneCell') = true
abbrev joinV (X : Array Value) (v1 v2 v3 : Value) : Array Value := ((X.setIfInBounds 21 v1).setIfInBounds 22 v2).setIfInBounds 23 v3
/-- What the joined packet does. -/
structure JoinDoes (w : World) (o : Pk) (X : Array Value) : Prop where
 raw : ∀ W v1 v2 v3, Keeps w W [] → PkSm o → PkL W o v1 v2 v3 → Calls Tryz.prog 11 #[.agg (joinV X v1 v2 v3)] W (RawPost W o)
 same : ∀ W R sw sc sf v1 v2 v3, PkSm o → PkCells R o sw sc sf → PkL W o sw sc sf → PkL W o v1 v2 v3 → Calls Tryz.prog 17 #[.agg R, .agg (joinV X v1 v2 v3)] W (TruePost W true)
 sz : ∀ v1 v2 v3, (Tryz.prog.info? 29).map (·.size) = some (joinV X v1 v2 v3).size
theorem join_small {p q : Pk} (h : PkFewP p) (g : PkFewP q) : PkSm (pkJoin p q) where
 t := h.sm.t
 b := h.sm.b
 c := h.sm.c
 u := h.sm.u
 pw := h.sm.pw
 wt := h.sm.wt
 wb := h.sm.wb
 wants := ⟨by have := h.lw; have := g.lw; unfold pkJoin; simp; omega, fun x hx => by
  rcases List.mem_append.1 (show x ∈ p.wants ++ q.wants from hx) with hx | hx
  ·exact h.sm.wants.2 x hx
  ·exact g.sm.wants.2 x hx⟩
 codes := by have := h.lc; have := g.lc; unfold pkJoin; simp; omega
 fs := ⟨by have := h.lf; have := g.lf; unfold pkJoin; simp; omega, fun x hx => by
  rcases List.mem_append.1 (show x ∈ p.fs ++ q.fs from hx) with hx | hx
  ·exact h.sm.fs.2 x hx
  ·exact g.sm.fs.2 x hx⟩
set_option maxRecDepth 100000 in
set_option maxHeartbeats 8000000 in
theorem lists_walk (p q : Pk) (X Y : Array Value) (A1 A2 A3 B1 B2 B3 : Option Addr) (c1 c2 c3 d1 d2 d3 : Nat) (w : World) (h : ListsIn w p q X Y) (hj : JoinDoes w (pkJoin p q) X)
  (l1 : PkL w p (.slice A1 p.wants.length c1) (.slice A2 p.codes.length c2) (.slice A3 p.fs.length c3)) (l2 : PkL w q (.slice B1 q.wants.length d1) (.slice B2 q.codes.length d2) (.slice B3 q.fs.length d3))
  (x1 : X[21]? = some (.slice A1 p.wants.length c1)) (x2 : X[22]? = some (.slice A2 p.codes.length c2)) (x3 : X[23]? = some (.slice A3 p.fs.length c3))
  (y1 : Y[21]? = some (.slice B1 q.wants.length d1)) (y2 : Y[22]? = some (.slice B2 q.codes.length d2)) (y3 : Y[23]? = some (.slice B3 q.fs.length d3)) :
  Calls Tryz.prog 7 #[.agg X, .agg Y] w (TruePost w true) := by
 have HKN := Lib.hid (show ∀ W, Keeps w W [] → Calls Tryz.prog 10 #[] W (TruePost W true) from fun W hk => known16_any W (h.m.keeps hk))
 have HI := Lib.hid h
 have HJ := Lib.hid hj
 have H1 := Lib.hid h.a1
 have H2 := Lib.hid h.a2
 have HLS := Lib.hid (And.intro l1 l2)
 have HXC := Lib.hid (And.intro x1 (And.intro x2 x3))
 have HYC := Lib.hid (And.intro y1 (And.intro y2 y3))
 clear h hj l1 l2 x1 x2 x3 y1 y2 y3
 go_enter Tryz.func7, Tryz.ntmps7
 go_upto_region 1 with fail
 have HS := Lib.hid (show TwoSt w ((w.alloc (.cells X 29)).alloc (.cells Y 29)) w.heap.size (w.heap.size + 1) X Y from ⟨(Keeps.alloc _ _).then_alloc _, (Row.new _ _ _).alloc _, by have := Row.new (w.alloc (.cells X 29)) 29 Y; rwa [World.size_alloc] at this⟩)
 generalize (w.alloc (.cells X 29)).alloc (.cells Y 29) = W0 at HS ⊢
 go_wp2_with (first | (refine wpList_loadX (by kernel_rfl) rfl rfl HS.out.r1 Tryz.underlying29 rfl H1.out.sz ?_) | (refine wpList_loadX (by kernel_rfl) rfl rfl HS.out.r2 Tryz.underlying29 rfl H2.out.sz ?_))
 refine (H1.out.few _ HS.out.k).mono ?_
 rintro e w1 ⟨hk, ⟨hf1, rfl⟩ | ⟨hf1, rfl⟩⟩
 case inr =>
  replace HS := Lib.hid (HS.out.go hk)
  clear hk hf1
  go_wp2_with fail
  refine (HKN.out _ HS.out.k).mono ?_
  rintro e w9 ⟨rfl, hk⟩
  replace HS := Lib.hid (HS.out.go hk)
  clear hk
  go_wp2_with fail
  go_ret
  exact ⟨rfl, HS.out.k⟩
 have HF1 := Lib.hid hf1
 replace HS := Lib.hid (HS.out.go hk)
 clear hk hf1
 go_wp2_with (first | (refine wpList_loadX (by kernel_rfl) rfl rfl HS.out.r1 Tryz.underlying29 rfl H1.out.sz ?_) | (refine wpList_loadX (by kernel_rfl) rfl rfl HS.out.r2 Tryz.underlying29 rfl H2.out.sz ?_))
 refine (H2.out.few _ HS.out.k).mono ?_
 rintro e w2 ⟨hk, ⟨hf2, rfl⟩ | ⟨hf2, rfl⟩⟩
 case inr =>
  replace HS := Lib.hid (HS.out.go hk)
  clear hk hf2
  go_wp2_with fail
  refine (HKN.out _ HS.out.k).mono ?_
  rintro e w9 ⟨rfl, hk⟩
  replace HS := Lib.hid (HS.out.go hk)
  clear hk
  go_wp2_with fail
  go_ret
  exact ⟨rfl, HS.out.k⟩
 have HF2 := Lib.hid hf2
 replace HS := Lib.hid (HS.out.go hk)
 clear hk hf2
 have x0 := (HS.out.r1.cell 0).trans HI.out.k1
 have y0 := (HS.out.r2.cell 0).trans HI.out.k2
 by_cases hke : p.k = q.k
 case neg =>
  have hkb : (p.k != q.k) = true := by simpa using hke
  go_wp2_with fail
  refine (HKN.out _ HS.out.k).mono ?_
  rintro e w9 ⟨rfl, hk⟩
  replace HS := Lib.hid (HS.out.go hk)
  clear hk
  go_wp2_with fail
  go_ret
  exact ⟨rfl, HS.out.k⟩
 have hkb : (p.k != q.k) = false := by simpa using hke
 have HKE := Lib.hid hke
 clear hke
 go_wp2_with (first | (refine wpList_loadX (by kernel_rfl) rfl rfl HS.out.r1 Tryz.underlying29 rfl H1.out.sz ?_) | (refine wpList_loadX (by kernel_rfl) rfl rfl HS.out.r2 Tryz.underlying29 rfl H2.out.sz ?_))
 clear x0 y0 hkb
 refine (HI.out.ch1 _ HS.out.k HF1.out).mono ?_
 rintro e w3 ⟨rfl, hk⟩
 replace HS := Lib.hid (HS.out.go hk)
 clear hk
 cases ho1 : pkOk p with
 | false =>
  rw [chkV_no ho1]
  clear ho1
  go_wp2_with fail
  refine (HKN.out _ HS.out.k).mono ?_
  rintro e w9 ⟨rfl, hk⟩
  replace HS := Lib.hid (HS.out.go hk)
  clear hk
  go_wp2_with fail
  go_ret
  exact ⟨rfl, HS.out.k⟩
 | true =>
  rw [chkV_yes ho1]
  have HO1 := Lib.hid ho1
  clear ho1
  go_wp2_with (first | (refine wpList_loadX (by kernel_rfl) rfl rfl HS.out.r1 Tryz.underlying29 rfl H1.out.sz ?_) | (refine wpList_loadX (by kernel_rfl) rfl rfl HS.out.r2 Tryz.underlying29 rfl H2.out.sz ?_))
  refine (HI.out.ch2 _ HS.out.k HF2.out).mono ?_
  rintro e w4 ⟨rfl, hk⟩
  replace HS := Lib.hid (HS.out.go hk)
  clear hk
  cases ho2 : pkOk q with
  | false =>
   rw [chkV_no ho2]
   clear ho2
   go_wp2_with fail
   refine (HKN.out _ HS.out.k).mono ?_
   rintro e w9 ⟨rfl, hk⟩
   replace HS := Lib.hid (HS.out.go hk)
   clear hk
   go_wp2_with fail
   go_ret
   exact ⟨rfl, HS.out.k⟩
  | true =>
   rw [chkV_yes ho2]
   have HO2 := Lib.hid ho2
   clear ho2
   go_wp2_with (first | (refine wpList_loadX (by kernel_rfl) rfl rfl HS.out.r1 Tryz.underlying29 rfl H1.out.sz ?_) | (refine wpList_store_new rfl (.tmp 5) (.tmp 37) rfl X #[.int .i64 0, .bool false, .bool false, .int .i64 0, .string ⟨#[]⟩, .string ⟨#[]⟩, .int .i64 0, .string ⟨#[]⟩, .bool false, .int .i64 0, .bool false, .string ⟨#[]⟩, .string ⟨#[]⟩, .int .i64 0, .bool false, .bool false, .bool false, .string ⟨#[]⟩, .string ⟨#[]⟩, .bool false, .int .i64 0, .slice none 0 0, .slice none 0 0, .slice none 0 0] w4 rfl H1.out.sz HI.out.z HI.out.one rfl rfl ?_; intro v4 hw4))
   refine Lib.hid ?_
   have k4 : Keeps w4 v4 [] := by rw [← hw4]; exact Keeps.alloc _ _
   have r4 : Row v4 w4.heap.size 29 X := by rw [← hw4]; exact Row.new _ _ _
   obtain ⟨b, hb⟩ : ∃ b, w4.heap.size = b := ⟨_, rfl⟩
   have HB := Lib.hid (show w.heap.size + 1 < b by rw [← hb]; exact HS.out.r2.lt)
   replace HS := Lib.hid (HS.out.go k4)
   rw [hb] at r4 ⊢
   have HZ := Lib.hid r4
   have HSZ := Lib.hid (show p.wants.length + q.wants.length ≤ 40 ∧ p.codes.length + q.codes.length ≤ 40 ∧ p.fs.length + q.fs.length ≤ 40 by
    have h1 := HF1.out
    have h2 := HF2.out
    have := h1.lw
    have := h1.lc
    have := h1.lf
    have := h2.lw
    have := h2.lc
    have := h2.lf
    omega)
   obtain ⟨gw, gc, gf⟩ : (∀ W, Keeps w W [] → ListG W 2 wantC A1 p.wants) ∧ (∀ W, Keeps w W [] → ListG W 1 intC A2 p.codes) ∧ (∀ W, Keeps w W [] → ListG W 1 txtV A3 p.fs) := by
    obtain ⟨_, _, e1, h1⟩ := HLS.out.1.lw
    obtain ⟨_, _, e2, h2⟩ := HLS.out.1.lc
    obtain ⟨_, _, e3, h3⟩ := HLS.out.1.lf
    injection e1 with e1
    injection e2 with e2
    injection e3 with e3
    subst e1 e2 e3
    exact ⟨fun W hk => h1.keeps hk, fun W hk => h2.keeps hk, fun W hk => h3.keeps hk⟩
   obtain ⟨hw', hc', hf'⟩ : (∀ W, Keeps w W [] → ListG W 2 wantC B1 q.wants) ∧ (∀ W, Keeps w W [] → ListG W 1 intC B2 q.codes) ∧ (∀ W, Keeps w W [] → ListG W 1 txtV B3 q.fs) := by
    obtain ⟨_, _, e1, h1⟩ := HLS.out.2.lw
    obtain ⟨_, _, e2, h2⟩ := HLS.out.2.lc
    obtain ⟨_, _, e3, h3⟩ := HLS.out.2.lf
    injection e1 with e1
    injection e2 with e2
    injection e3 with e3
    subst e1 e2 e3
    exact ⟨fun W hk => h1.keeps hk, fun W hk => h2.keeps hk, fun W hk => h3.keeps hk⟩
   have HG := Lib.hid (And.intro gw (And.intro gc (And.intro gf (And.intro hw' (And.intro hc' hf')))))
   clear r4 k4 hw4 hb gw gc gf hw' hc' hf'
   go_upto_region 4 with fail
   have LH := LightK.one (Ws := [⟨5, [0, 1, 2, 3, 4], []⟩]) (i := 5) (keepIf_ok v4) keeps_ok
   have MX := fun (W' : World) (hW : Keeps v4 W' []) => ((HS.out.r1.keeps hW).cell 21).trans HXC.out.1
   have MY := fun (W' : World) (hW : Keeps v4 W' []) => ((HS.out.r2.keeps hW).cell 21).trans HYC.out.1
   refine wp_region_writersL [⟨5, [0, 1, 2, 3, 4], []⟩] (fun W W' => Keeps v4 W [] → Keeps v4 W' []) (oneA 5 (fun W W' => Keeps W W' [])) _ 6 LH (by kernel_rfl) rfl (by kernel_rfl) ?_
   simp only [List.take_succ_cons, List.take_zero, List.drop_succ_cons, List.drop_zero]
   apply loosek_is 0 _ rfl
   ·intro W vals hW hkn
    clear hkn
    have hC := hW.c
    refine ⟨?_⟩
    simp only [fill]
    go_simp
    first | exact ⟨LH.stp (Keeps.refl _ _), rfl⟩ | exact ⟨LH.stp (Keeps.alloc _ _), rfl⟩
   simp only [addEnt]
   apply loosek_is 1 _ rfl
   ·intro W vals hW hkn
    have hC := hW.c
    simp only [knowsK] at hkn
    try simp only [and_true] at hkn
    clear hkn; have m := MX W (hC (Keeps.refl _ _))
    refine ⟨?_⟩
    simp only [fill]
    go_simp
    first | exact ⟨LH.stp (Keeps.refl _ _), rfl⟩ | exact ⟨LH.stp (Keeps.alloc _ _), rfl⟩
   simp only [addEnt]
   refine loosek_has 2 (fun v W' => ∃ A c, v = .slice A (p.wants).length c ∧ OwnN W' v4.heap.size 50 2 wantC (.slice A (p.wants).length c) (p.wants)) rfl (fun W vals hW hkn φ' hφ => ?_) ?_
   ·clear hkn
    exact opOk_append_N elemWantP encWant rfl (Operand.const (.slice none 0 0)) (.tmp 39) rfl v4.heap.size (.slice none 0 0) A1 (p.wants).length c1 [] (p.wants) rfl (by kernel_rfl) (by kernel_rfl) (OwnN.nil _ _ _ _ _) (((HG.out.1 w (Keeps.refl _ _)).keeps (HS.out.k.then_ (hW.c (Keeps.refl _ _)))).lies encWant) (by have := HSZ.out; simp; omega) (hW.c (Keeps.refl _ _)).size (fun A' c' w' ho hk _ => ⟨LH.stp hk, hφ.out _ _ ⟨A', c', rfl, ho⟩⟩)
   simp only [addEnt]
   apply loosek_is 3 _ rfl
   ·intro W vals hW hkn
    clear hkn
    have hC := hW.c
    refine ⟨?_⟩
    simp only [fill]
    go_simp
    first | exact ⟨LH.stp (Keeps.refl _ _), rfl⟩ | exact ⟨LH.stp (Keeps.alloc _ _), rfl⟩
   simp only [addEnt]
   apply loosek_is 4 _ rfl
   ·intro W vals hW hkn
    have hC := hW.c
    simp only [knowsK] at hkn
    try simp only [and_true] at hkn
    clear hkn; have m := MY W (hC (Keeps.refl _ _))
    refine ⟨?_⟩
    simp only [fill]
    go_simp
    first | exact ⟨LH.stp (Keeps.refl _ _), rfl⟩ | exact ⟨LH.stp (Keeps.alloc _ _), rfl⟩
   simp only [addEnt]
   refine loosek_has 5 (fun v W' => ∃ A c, v = .slice A (p.wants ++ q.wants).length c ∧ OwnN W' v4.heap.size 50 2 wantC (.slice A (p.wants ++ q.wants).length c) (p.wants ++ q.wants)) rfl (fun W vals hW hkn φ' hφ => ?_) ?_
   ·simp only [knowsK] at hkn
    try simp only [and_true] at hkn
    obtain ⟨W4, a0, a1, A', c', hv, how⟩ := hkn (by decide)
    have how := how.keeps (BtwK.one a1 (.inr (.inr (.inl rfl))))
    exact opOk_append_N elemWantP encWant rfl (.tmp 40) (.tmp 42) rfl v4.heap.size (.slice A' (p.wants).length c') B1 (q.wants).length d1 (p.wants) (q.wants) rfl ((show _ = vals 40 by kernel_rfl).trans hv) (by kernel_rfl) how (((HG.out.2.2.2.1 w (Keeps.refl _ _)).keeps (HS.out.k.then_ (hW.c (Keeps.refl _ _)))).lies encWant) (by have := HSZ.out; omega) (hW.c (Keeps.refl _ _)).size (fun A'' c'' w' ho hk _ => ⟨.one (fun hh => hh.trans hk (fun y hy hlt => by have := (how.rows y hy).1; omega)) (fun h => absurd rfl h), hφ.out _ _ ⟨A'', c'', rfl, ho⟩⟩)
   simp only [addEnt]
   refine loosek_nil (fun W9 vals hW hkn => ?_)
   simp only [knowsAllK] at hkn
   try simp only [and_true] at hkn
   simp only [fill, Act.put, List.setIfInBounds_toArray, List.set_cons_succ, List.set_cons_zero]
   obtain ⟨⟨_, a0, a1, AW, cW, hv9, ho9⟩, hrest⟩ := hkn
   have ho9 := ho9.keeps (PostK.one a1 (.inl rfl))
   have hk9 := hW (Keeps.refl _ _)
   rw [hv9]
   obtain ⟨LW, hL⟩ : ∃ L, p.wants ++ q.wants = L := ⟨_, rfl⟩
   rw [hL] at ho9 ⊢
   clear a0 a1 hv9 hrest hW LH MX MY
   have zc := ((HZ.out.keeps hk9).cell 21).trans (show _ = some (Value.slice A1 (p.wants).length c1) from HXC.out.1)
   have zf := (HZ.out.keeps hk9).frozen 21
   go_upto_region 5 with fail
   obtain ⟨v5, hV⟩ : ∃ V2, W9.setCell ⟨b, 21, none⟩ (.slice AW (LW).length cW) = V2 := ⟨_, rfl⟩
   have kb : Keeps W9 v5 [b] := by rw [← hV]; exact Keeps.setCell _ _ _
   have rz9 := HZ.out.keeps hk9
   have rb : Row v5 b 29 ((X).setIfInBounds 21 (.slice AW (LW).length cW)) := by rw [← hV]; exact rz9.store 21 _
   rw [hV]
   have HLW := Lib.hid (And.intro hL ((ho9.at_ encWant).box kb rz9 (by decide)))
   replace HS := Lib.hid (show TwoSt w v5 w.heap.size (w.heap.size + 1) X Y from by
    have h9 := HS.out.go hk9
    exact ⟨h9.k.trans kb (fun y hy hlt => by have := HB.out; simp at hy; omega), h9.r1.keep kb (by have := HB.out; simp; omega), h9.r2.keep kb (by have := HB.out; simp; omega)⟩)
   replace HZ := Lib.hid rb
   clear rb hV zc zf ho9 hL
   clear rz9 kb hk9
   go_upto_region 5 with fail
   have LH := LightK.one (Ws := [⟨5, [0, 1, 2, 3, 4], []⟩]) (i := 5) (keepIf_ok v5) keeps_ok
   have MX := fun (W' : World) (hW : Keeps v5 W' []) => ((HS.out.r1.keeps hW).cell 22).trans HXC.out.2.1
   have MY := fun (W' : World) (hW : Keeps v5 W' []) => ((HS.out.r2.keeps hW).cell 22).trans HYC.out.2.1
   refine wp_region_writersL [⟨5, [0, 1, 2, 3, 4], []⟩] (fun W W' => Keeps v5 W [] → Keeps v5 W' []) (oneA 5 (fun W W' => Keeps W W' [])) _ 6 LH (by kernel_rfl) rfl (by kernel_rfl) ?_
   simp only [List.take_succ_cons, List.take_zero, List.drop_succ_cons, List.drop_zero]
   apply loosek_is 0 _ rfl
   ·intro W vals hW hkn
    clear hkn
    have hC := hW.c
    refine ⟨?_⟩
    simp only [fill]
    go_simp
    first | exact ⟨LH.stp (Keeps.refl _ _), rfl⟩ | exact ⟨LH.stp (Keeps.alloc _ _), rfl⟩
   simp only [addEnt]
   apply loosek_is 1 _ rfl
   ·intro W vals hW hkn
    have hC := hW.c
    simp only [knowsK] at hkn
    try simp only [and_true] at hkn
    clear hkn; have m := MX W (hC (Keeps.refl _ _))
    refine ⟨?_⟩
    simp only [fill]
    go_simp
    first | exact ⟨LH.stp (Keeps.refl _ _), rfl⟩ | exact ⟨LH.stp (Keeps.alloc _ _), rfl⟩
   simp only [addEnt]
   refine loosek_has 2 (fun v W' => ∃ A c, v = .slice A (p.codes).length c ∧ OwnN W' v5.heap.size 3 1 intC (.slice A (p.codes).length c) (p.codes)) rfl (fun W vals hW hkn φ' hφ => ?_) ?_
   ·clear hkn
    exact opOk_append_N elemIntP encIntC rfl (Operand.const (.slice none 0 0)) (.tmp 46) rfl v5.heap.size (.slice none 0 0) A2 (p.codes).length c2 [] (p.codes) rfl (by kernel_rfl) (by kernel_rfl) (OwnN.nil _ _ _ _ _) (((HG.out.2.1 w (Keeps.refl _ _)).keeps (HS.out.k.then_ (hW.c (Keeps.refl _ _)))).lies encIntC) (by have := HSZ.out; simp; omega) (hW.c (Keeps.refl _ _)).size (fun A' c' w' ho hk _ => ⟨LH.stp hk, hφ.out _ _ ⟨A', c', rfl, ho⟩⟩)
   simp only [addEnt]
   apply loosek_is 3 _ rfl
   ·intro W vals hW hkn
    clear hkn
    have hC := hW.c
    refine ⟨?_⟩
    simp only [fill]
    go_simp
    first | exact ⟨LH.stp (Keeps.refl _ _), rfl⟩ | exact ⟨LH.stp (Keeps.alloc _ _), rfl⟩
   simp only [addEnt]
   apply loosek_is 4 _ rfl
   ·intro W vals hW hkn
    have hC := hW.c
    simp only [knowsK] at hkn
    try simp only [and_true] at hkn
    clear hkn; have m := MY W (hC (Keeps.refl _ _))
    refine ⟨?_⟩
    simp only [fill]
    go_simp
    first | exact ⟨LH.stp (Keeps.refl _ _), rfl⟩ | exact ⟨LH.stp (Keeps.alloc _ _), rfl⟩
   simp only [addEnt]
   refine loosek_has 5 (fun v W' => ∃ A c, v = .slice A (p.codes ++ q.codes).length c ∧ OwnN W' v5.heap.size 3 1 intC (.slice A (p.codes ++ q.codes).length c) (p.codes ++ q.codes)) rfl (fun W vals hW hkn φ' hφ => ?_) ?_
   ·simp only [knowsK] at hkn
    try simp only [and_true] at hkn
    obtain ⟨W4, a0, a1, A', c', hv, how⟩ := hkn (by decide)
    have how := how.keeps (BtwK.one a1 (.inr (.inr (.inl rfl))))
    exact opOk_append_N elemIntP encIntC rfl (.tmp 47) (.tmp 49) rfl v5.heap.size (.slice A' (p.codes).length c') B2 (q.codes).length d2 (p.codes) (q.codes) rfl ((show _ = vals 47 by kernel_rfl).trans hv) (by kernel_rfl) how (((HG.out.2.2.2.2.1 w (Keeps.refl _ _)).keeps (HS.out.k.then_ (hW.c (Keeps.refl _ _)))).lies encIntC) (by have := HSZ.out; omega) (hW.c (Keeps.refl _ _)).size (fun A'' c'' w' ho hk _ => ⟨.one (fun hh => hh.trans hk (fun y hy hlt => by have := (how.rows y hy).1; omega)) (fun h => absurd rfl h), hφ.out _ _ ⟨A'', c'', rfl, ho⟩⟩)
   simp only [addEnt]
   refine loosek_nil (fun W9 vals hW hkn => ?_)
   simp only [knowsAllK] at hkn
   try simp only [and_true] at hkn
   simp only [fill, Act.put, List.setIfInBounds_toArray, List.set_cons_succ, List.set_cons_zero]
   obtain ⟨⟨_, a0, a1, AC, cC, hv9, ho9⟩, hrest⟩ := hkn
   have ho9 := ho9.keeps (PostK.one a1 (.inl rfl))
   have hk9 := hW (Keeps.refl _ _)
   rw [hv9]
   obtain ⟨LC, hL⟩ : ∃ L, p.codes ++ q.codes = L := ⟨_, rfl⟩
   rw [hL] at ho9 ⊢
   clear a0 a1 hv9 hrest hW LH MX MY
   have zc := ((HZ.out.keeps hk9).cell 22).trans (show _ = some (Value.slice A2 (p.codes).length c2) from (by rw [Array.getElem?_setIfInBounds_ne (by decide)]; exact HXC.out.2.1))
   have zf := (HZ.out.keeps hk9).frozen 22
   go_upto_region 6 with fail
   obtain ⟨v6, hV⟩ : ∃ V2, W9.setCell ⟨b, 22, none⟩ (.slice AC (LC).length cC) = V2 := ⟨_, rfl⟩
   have kb : Keeps W9 v6 [b] := by rw [← hV]; exact Keeps.setCell _ _ _
   have rz9 := HZ.out.keeps hk9
   have rb : Row v6 b 29 (((X.setIfInBounds 21 (.slice AW LW.length cW))).setIfInBounds 22 (.slice AC (LC).length cC)) := by rw [← hV]; exact rz9.store 22 _
   rw [hV]
   have HLC := Lib.hid (And.intro hL ((ho9.at_ encIntC).box kb rz9 (by decide)))
   replace HS := Lib.hid (show TwoSt w v6 w.heap.size (w.heap.size + 1) X Y from by
    have h9 := HS.out.go hk9
    exact ⟨h9.k.trans kb (fun y hy hlt => by have := HB.out; simp at hy; omega), h9.r1.keep kb (by have := HB.out; simp; omega), h9.r2.keep kb (by have := HB.out; simp; omega)⟩)
   replace HZ := Lib.hid rb
   clear rb hV zc zf ho9 hL
   replace HLW := Lib.hid (And.intro HLW.out.1 ((HLW.out.2.keeps hk9).box kb rz9 (by decide)))
   clear rz9 kb hk9
   go_upto_region 6 with fail
   have LH := LightK.one (Ws := [⟨5, [0, 1, 2, 3, 4], []⟩]) (i := 5) (keepIf_ok v6) keeps_ok
   have MX := fun (W' : World) (hW : Keeps v6 W' []) => ((HS.out.r1.keeps hW).cell 23).trans HXC.out.2.2
   have MY := fun (W' : World) (hW : Keeps v6 W' []) => ((HS.out.r2.keeps hW).cell 23).trans HYC.out.2.2
   refine wp_region_writersL [⟨5, [0, 1, 2, 3, 4], []⟩] (fun W W' => Keeps v6 W [] → Keeps v6 W' []) (oneA 5 (fun W W' => Keeps W W' [])) _ 6 LH (by kernel_rfl) rfl (by kernel_rfl) ?_
   simp only [List.take_succ_cons, List.take_zero, List.drop_succ_cons, List.drop_zero]
   apply loosek_is 0 _ rfl
   ·intro W vals hW hkn
    clear hkn
    have hC := hW.c
    refine ⟨?_⟩
    simp only [fill]
    go_simp
    first | exact ⟨LH.stp (Keeps.refl _ _), rfl⟩ | exact ⟨LH.stp (Keeps.alloc _ _), rfl⟩
   simp only [addEnt]
   apply loosek_is 1 _ rfl
   ·intro W vals hW hkn
    have hC := hW.c
    simp only [knowsK] at hkn
    try simp only [and_true] at hkn
    clear hkn; have m := MX W (hC (Keeps.refl _ _))
    refine ⟨?_⟩
    simp only [fill]
    go_simp
    first | exact ⟨LH.stp (Keeps.refl _ _), rfl⟩ | exact ⟨LH.stp (Keeps.alloc _ _), rfl⟩
   simp only [addEnt]
   refine loosek_has 2 (fun v W' => ∃ A c, v = .slice A (p.fs).length c ∧ OwnN W' v6.heap.size 9 1 txtV (.slice A (p.fs).length c) (p.fs)) rfl (fun W vals hW hkn φ' hφ => ?_) ?_
   ·clear hkn
    exact opOk_append_N elemTxtP encTxt rfl (Operand.const (.slice none 0 0)) (.tmp 53) rfl v6.heap.size (.slice none 0 0) A3 (p.fs).length c3 [] (p.fs) rfl (by kernel_rfl) (by kernel_rfl) (OwnN.nil _ _ _ _ _) (((HG.out.2.2.1 w (Keeps.refl _ _)).keeps (HS.out.k.then_ (hW.c (Keeps.refl _ _)))).lies encTxt) (by have := HSZ.out; simp; omega) (hW.c (Keeps.refl _ _)).size (fun A' c' w' ho hk _ => ⟨LH.stp hk, hφ.out _ _ ⟨A', c', rfl, ho⟩⟩)
   simp only [addEnt]
   apply loosek_is 3 _ rfl
   ·intro W vals hW hkn
    clear hkn
    have hC := hW.c
    refine ⟨?_⟩
    simp only [fill]
    go_simp
    first | exact ⟨LH.stp (Keeps.refl _ _), rfl⟩ | exact ⟨LH.stp (Keeps.alloc _ _), rfl⟩
   simp only [addEnt]
   apply loosek_is 4 _ rfl
   ·intro W vals hW hkn
    have hC := hW.c
    simp only [knowsK] at hkn
    try simp only [and_true] at hkn
    clear hkn; have m := MY W (hC (Keeps.refl _ _))
    refine ⟨?_⟩
    simp only [fill]
    go_simp
    first | exact ⟨LH.stp (Keeps.refl _ _), rfl⟩ | exact ⟨LH.stp (Keeps.alloc _ _), rfl⟩
   simp only [addEnt]
   refine loosek_has 5 (fun v W' => ∃ A c, v = .slice A (p.fs ++ q.fs).length c ∧ OwnN W' v6.heap.size 9 1 txtV (.slice A (p.fs ++ q.fs).length c) (p.fs ++ q.fs)) rfl (fun W vals hW hkn φ' hφ => ?_) ?_
   ·simp only [knowsK] at hkn
    try simp only [and_true] at hkn
    obtain ⟨W4, a0, a1, A', c', hv, how⟩ := hkn (by decide)
    have how := how.keeps (BtwK.one a1 (.inr (.inr (.inl rfl))))
    exact opOk_append_N elemTxtP encTxt rfl (.tmp 54) (.tmp 56) rfl v6.heap.size (.slice A' (p.fs).length c') B3 (q.fs).length d3 (p.fs) (q.fs) rfl ((show _ = vals 54 by kernel_rfl).trans hv) (by kernel_rfl) how (((HG.out.2.2.2.2.2 w (Keeps.refl _ _)).keeps (HS.out.k.then_ (hW.c (Keeps.refl _ _)))).lies encTxt) (by have := HSZ.out; omega) (hW.c (Keeps.refl _ _)).size (fun A'' c'' w' ho hk _ => ⟨.one (fun hh => hh.trans hk (fun y hy hlt => by have := (how.rows y hy).1; omega)) (fun h => absurd rfl h), hφ.out _ _ ⟨A'', c'', rfl, ho⟩⟩)
   simp only [addEnt]
   refine loosek_nil (fun W9 vals hW hkn => ?_)
   simp only [knowsAllK] at hkn
   try simp only [and_true] at hkn
   simp only [fill, Act.put, List.setIfInBounds_toArray, List.set_cons_succ, List.set_cons_zero]
   obtain ⟨⟨_, a0, a1, AF, cF, hv9, ho9⟩, hrest⟩ := hkn
   have ho9 := ho9.keeps (PostK.one a1 (.inl rfl))
   have hk9 := hW (Keeps.refl _ _)
   rw [hv9]
   obtain ⟨LF, hL⟩ : ∃ L, p.fs ++ q.fs = L := ⟨_, rfl⟩
   rw [hL] at ho9 ⊢
   clear a0 a1 hv9 hrest hW LH MX MY
   have zc := ((HZ.out.keeps hk9).cell 23).trans (show _ = some (Value.slice A3 (p.fs).length c3) from (by rw [Array.getElem?_setIfInBounds_ne (by decide), Array.getElem?_setIfInBounds_ne (by decide)]; exact HXC.out.2.2))
   have zf := (HZ.out.keeps hk9).frozen 23
   go_upto_region 7 with fail
   obtain ⟨v7, hV⟩ : ∃ V2, W9.setCell ⟨b, 23, none⟩ (.slice AF (LF).length cF) = V2 := ⟨_, rfl⟩
   have kb : Keeps W9 v7 [b] := by rw [← hV]; exact Keeps.setCell _ _ _
   have rz9 := HZ.out.keeps hk9
   have rb : Row v7 b 29 ((((X.setIfInBounds 21 (.slice AW LW.length cW)).setIfInBounds 22 (.slice AC LC.length cC))).setIfInBounds 23 (.slice AF (LF).length cF)) := by rw [← hV]; exact rz9.store 23 _
   rw [hV]
   have HLF := Lib.hid (And.intro hL ((ho9.at_ encTxt).box kb rz9 (by decide)))
   replace HS := Lib.hid (show TwoSt w v7 w.heap.size (w.heap.size + 1) X Y from by
    have h9 := HS.out.go hk9
    exact ⟨h9.k.trans kb (fun y hy hlt => by have := HB.out; simp at hy; omega), h9.r1.keep kb (by have := HB.out; simp; omega), h9.r2.keep kb (by have := HB.out; simp; omega)⟩)
   replace HZ := Lib.hid rb
   clear rb hV zc zf ho9 hL
   replace HLW := Lib.hid (And.intro HLW.out.1 ((HLW.out.2.keeps hk9).box kb rz9 (by decide)))
   replace HLC := Lib.hid (And.intro HLC.out.1 ((HLC.out.2.keeps hk9).box kb rz9 (by decide)))
   clear rz9 kb hk9
   have hw : (pkJoin p q).wants = LW := HLW.out.1
   have hc : (pkJoin p q).codes = LC := HLC.out.1
   have hf : (pkJoin p q).fs = LF := HLF.out.1
   have HLJ := Lib.hid (show PkL v7 (pkJoin p q) (.slice AW LW.length cW) (.slice AC LC.length cC) (.slice AF LF.length cF) from ⟨⟨AW, cW, by rw [hw], by rw [hw]; exact HLW.out.2.g⟩, ⟨AC, cC, by rw [hc], by rw [hc]; exact HLC.out.2.g⟩, ⟨AF, cF, by rw [hf], by rw [hf]; exact HLF.out.2.g⟩⟩)
   have HMU := Lib.hid (show pkMuch (pkJoin p q) = LW.length + LC.length + LF.length by unfold pkMuch; rw [hw, hc, hf])
   have HSM := Lib.hid (join_small HF1.out HF2.out)
   have hsz : LW.length ≤ 40 ∧ LC.length ≤ 40 ∧ LF.length ≤ 40 := by
    have := HSZ.out
    rw [← HLW.out.1, ← HLC.out.1, ← HLF.out.1, List.length_append, List.length_append, List.length_append]
    exact this
   have s1 : wrap64 ((LW.length : Int) + (LC.length : Int)) = (LW.length : Int) + (LC.length : Int) := IntWalk.wrap64_in _ (by omega)
   have s2 : wrap64 ((LW.length : Int) + (LC.length : Int) + (LF.length : Int)) = (LW.length : Int) + (LC.length : Int) + (LF.length : Int) := IntWalk.wrap64_in _ (by omega)
   clear hw hc hf hsz
   have m1 := HZ.out.cell 21
   have m2 := HZ.out.cell 22
   have m3 := HZ.out.cell 23
   rw [Array.getElem?_setIfInBounds_ne (by decide), Array.getElem?_setIfInBounds_ne (by decide), Array.getElem?_setIfInBounds_self, if_pos (by have := HI.out.z; omega)] at m1
   rw [Array.getElem?_setIfInBounds_ne (by decide), Array.getElem?_setIfInBounds_self, if_pos (by have := HI.out.z; rw [Array.size_setIfInBounds]; omega)] at m2
   rw [Array.getElem?_setIfInBounds_self, if_pos (by have := HI.out.z; rw [Array.size_setIfInBounds, Array.size_setIfInBounds]; omega)] at m3
   go_wp2_with (refine wpList_loadX (by kernel_rfl) rfl rfl HZ.out Tryz.underlying29 rfl (HJ.out.sz _ _ _) ?_)
   refine (HJ.out.raw _ _ _ _ HS.out.k HSM.out HLJ.out).mono ?_
   intro e w8 hp
   obtain ⟨A8, n8, c8, z8, rfl, hk, hr8⟩ := hp.parts
   replace HS := Lib.hid (HS.out.go hk)
   have HZ8 := Lib.hid (HZ.out.keeps hk)
   have HLJ8 := Lib.hid (HLJ.out.keeps hk)
   clear hk hp m1 m2 m3
   rw [join_ok HO1.out HO2.out HKE.out, HMU.out] at hr8
   by_cases hn : LW.length + LC.length + LF.length ≤ 8
   case neg =>
    have hgt : (LW.length : Int) + (LC.length : Int) + (LF.length : Int) > 8 := by omega
    rcases hr8 with ⟨h, _⟩ | ⟨_, rfl⟩
    ·rw [decide_eq_false hn] at h
     cases h
    clear hn
    go_wp2_with fail
    refine (HKN.out _ HS.out.k).mono ?_
    rintro e w9 ⟨rfl, hk⟩
    replace HS := Lib.hid (HS.out.go hk)
    clear hk
    go_wp2_with fail
    go_ret
    exact ⟨rfl, HS.out.k⟩
   have hgt : ¬ (LW.length : Int) + (LC.length : Int) + (LF.length : Int) > 8 := by omega
   rcases hr8 with ⟨o8, rfl, rfl, hv8⟩ | ⟨h, _⟩
   case inr =>
    rw [decide_eq_true hn] at h
    cases h
   have HOK := Lib.hid (show pkOk (pkJoin p q) = true by rw [join_ok HO1.out HO2.out HKE.out, HMU.out]; exact o8)
   have HV8 := Lib.hid hv8
   clear o8 hv8 hn
   obtain ⟨n8, hn8⟩ : ∃ n, (pkRaw (pkJoin p q)).length = n := ⟨_, rfl⟩
   have hpb := parse_back w8 _ (.slice A8 n8 c8) (pkJoin p q) (HI.out.m.keeps HS.out.k) HOK.out (by rw [← hn8]; exact HV8.out)
   rw [hn8]
   clear hn8
   go_wp2_with fail
   refine hpb.mono ?_
   clear hpb
   rintro e w9 ⟨hk, R, sw, sc, sf, rfl, hR, hT⟩
   replace HS := Lib.hid (HS.out.go hk)
   have HZ9 := Lib.hid (HZ8.out.keeps hk)
   have HLJ9 := Lib.hid (HLJ8.out.keeps hk)
   have HR := Lib.hid hR
   have HT := Lib.hid hT
   clear hk hR hT HZ8 HLJ8 HZ HLJ
   go_wp2_with (refine wpList_store_new rfl (.tmp 9) (.tmp 85) rfl R #[.int .i64 0, .bool false, .bool false, .int .i64 0, .string ⟨#[]⟩, .string ⟨#[]⟩, .int .i64 0, .string ⟨#[]⟩, .bool false, .int .i64 0, .bool false, .string ⟨#[]⟩, .string ⟨#[]⟩, .int .i64 0, .bool false, .bool false, .bool false, .string ⟨#[]⟩, .string ⟨#[]⟩, .bool false, .int .i64 0, .slice none 0 0, .slice none 0 0, .slice none 0 0] w9 rfl HR.out.sz HR.out.z HR.out.one rfl rfl ?_; intro w10 hw10)
   refine Lib.hid ?_
   have k10 : Keeps w9 w10 [] := by rw [← hw10]; exact Keeps.alloc _ _
   have r10 : Row w10 w9.heap.size 29 R := by rw [← hw10]; exact Row.new _ _ _
   replace HS := Lib.hid (HS.out.go k10)
   have HZA := Lib.hid (HZ9.out.keeps k10)
   have HLJA := Lib.hid (HLJ9.out.keeps k10)
   have HTA := Lib.hid (HT.out.g.keeps k10)
   have HRA := Lib.hid r10
   clear k10 r10 hw10 HZ9 HLJ9 HT
   go_wp2_with (first | (refine wpList_loadX (by kernel_rfl) rfl rfl HRA.out Tryz.underlying29 rfl HR.out.sz ?_) | (refine wpList_loadX (by kernel_rfl) rfl rfl HZA.out Tryz.underlying29 rfl (HJ.out.sz _ _ _) ?_))
   refine (HJ.out.same _ R sw sc sf _ _ _ HSM.out HR.out HTA.out HLJA.out).mono ?_
   rintro e w11 ⟨rfl, hk⟩
   replace HS := Lib.hid (HS.out.go hk)
   clear hk
   go_wp2_with fail
   refine (HKN.out _ HS.out.k).mono ?_
   rintro e w9 ⟨rfl, hk⟩
   replace HS := Lib.hid (HS.out.go hk)
   clear hk
   go_wp2_with fail
   go_ret
   exact ⟨rfl, HS.out.k⟩
set_option maxRecDepth 100000 in
theorem packetLists_any (p q : Pk) (sw sc sf sw1 sc1 sf1 : Value) (w : World) (hm : MaxL w) (h1 : PkL w p sw sc sf) (h2 : PkL w q sw1 sc1 sf1) (hk : -9223372036854775808 ≤ p.k ∧ p.k ≤ 9223372036854775807) (hk' : -9223372036854775808 ≤ q.k ∧ q.k ≤ 9223372036854775807)
  (hb : p.t.length + p.c.length + p.u.length ≤ 9223372036854775807) (hb' : q.t.length + q.c.length + q.u.length ≤ 9223372036854775807) : Calls Tryz.prog 7 #[pkV p sw sc sf, pkV q sw1 sc1 sf1] w (TruePost w true) := by
 obtain ⟨A1, d1, A2, d2, A3, d3, rfl, rfl, rfl⟩ := h1.slices
 obtain ⟨B1, e1, B2, e2, B3, e3, rfl, rfl, rfl⟩ := h2.slices
 refine lists_walk p q _ _ A1 A2 A3 B1 B2 B3 d1 d2 d3 e1 e2 e3 w ⟨hm, PkA.of hm h1 hk.1 hk.2 hb rfl, PkA.of hm h2 hk'.1 hk'.2 hb' rfl, rfl, rfl, fun W hW hf => pkCheck_any p _ _ _ W (h1.keeps hW) hf.sm (hm.keeps hW) hk.1 hk.2, fun W hW hf => pkCheck_any q _ _ _ W (h2.keeps hW) hf.sm (hm.keeps hW) hk'.1 hk'.2, rfl, by simp [Value.oneCell']⟩ ⟨fun W v1 v2 v3 hW hs hl => ?_, fun W R sw sc sf v1 v2 v3 hs hR hl hl' => ?_, fun v1 v2 v3 => by kernel_rfl⟩ h1 h2 rfl rfl rfl rfl rfl rfl
 ·have hh := pkRaw_any (pkJoin p q) v1 v2 v3 W hl hs (hm.keeps hW) hk.1 hk.2
  exact hh
 ·have hh := pkSame_any (pkJoin p q) (pkJoin p q) sw sc sf v1 v2 v3 W hl hl' ⟨by have := hs.wants.1; omega, by have := hs.codes; omega, by have := hs.fs.1; omega⟩
  rw [decide_eq_true rfl] at hh
  rw [hR.v]
  exact hh
end Go.Proofs.YtahbikfbjenfpaaGreatDoor
