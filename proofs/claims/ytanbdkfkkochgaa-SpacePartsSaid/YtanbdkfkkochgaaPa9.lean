/- The library's functions that package space calls, in our words. Package space: what lies in memory; none, High, Is. -/
import Derived.Test.YtanbdkfkkochgaaPa8
import Derived.Test.YtanbdkfkkochgaaLays

namespace Go.Proofs.Ytanbdkfkkochgaa
open Go.RowKit Go.Maps Go.Sort Go.Shelf

theorem undI64 : Try.prog.underlying 2 = some (.int .i64) := by kernel_rfl
theorem undPl : Try.prog.underlying 55 = some (.map 2 48) := by kernel_rfl
theorem zeroPl (w : World) : (zeroValue 48).run Try.prog w = .ok (.int .i64 0) w := by kernel_rfl
/-- Block b is the map of places of L. -/
abbrev PMap (w : World) (b : Nat) (f : Int → Option Value) : Prop := IMap w Try.prog 2 b f

theorem spSorts (m : Nat) : AnyZI.SortsIn Try.prog Try.sortedA_ren Fence.wide m :=
  ⟨fun blk off cap ss W hH hblk hsz => callsIn_wide.2 (AnyM.slices_Sort_int Try.sortA blk off cap ss W hH hblk hsz),
   fun p cap W => callsIn_wide.2 (AnyM.slices_Sort_int_none Try.sortA p cap W)⟩
/-- maps.Keys. -/
theorem mapsKeys_any (mb : Option Nat) (w : World) : Calls Try.prog 42 #[.map mb] w fun e w' => e = .returned (.func (.func 50) #[] #[.pointer (some ⟨w.heap.size, 0, none⟩)]) ∧ w' = w.alloc (.cells #[.map mb] 55) :=
  callsIn_wide.1 (AnyZI.keys_in Try.keysA Fence.wide 5 trivial rfl mb w)
theorem sorted_of_perm {H : Type} {D : DataW H} {ss ks : List Int} (hp : ss.Perm (intKeys D)) (hk : ks.Pairwise (· < ·)) (hn : (intKeys D).Nodup) (hm : ∀ x, x ∈ intKeys D ↔ x ∈ ks) : ss.mergeSort (fun x y => decide (x ≤ y)) = ks := by
  have tr : ∀ a b c : Int, decide (a ≤ b) = true → decide (b ≤ c) = true → decide (a ≤ c) = true := fun a b c h1 h2 => by simp only [decide_eq_true_eq] at *; omega
  have to : ∀ a b : Int, (decide (a ≤ b) || decide (b ≤ a)) = true := fun a b => by simp only [Bool.or_eq_true, decide_eq_true_eq]; omega
  have hkn : ks.Nodup := hk.imp fun {a b} h => by omega
  have hp2 : (intKeys D).Perm ks := (List.perm_ext_iff_of_nodup hn hkn).2 hm
  refine List.Perm.eq_of_pairwise (le := fun a b => decide (a ≤ b) = true) (fun a b _ _ h1 h2 => ?_) (List.pairwise_mergeSort tr to ss) (hk.imp fun {a b} h => by simp; omega) (((List.mergeSort_perm ss _).trans hp).trans hp2)
  simp only [decide_eq_true_eq] at h1 h2
  omega
theorem intKeys_mem {w : World} {b n : Nat} {D : DataW Value} {f : Int → Option Value} (h : HMap w Try.prog 2 b n D) (hT : Tells D f) : (intKeys D).Nodup ∧ ∀ x, x ∈ intKeys D ↔ f x ≠ none := by
  obtain ⟨es, hD, hpw, _⟩ := World.ownsMap.entries h (int_keyed undI64)
  obtain ⟨es', hD', hko⟩ := World.ownsMap.keysOf h
  obtain rfl : es = es' := by rw [hD] at hD'; simpa using hD'
  have hint : ∀ p ∈ es, ∃ x, p.1 = .int .i64 x := fun p hp => by
    obtain ⟨v, hv⟩ := hko p hp
    obtain ⟨x, _, hx, _⟩ := Maps.keyOf_int_inv undI64 hv
    exact ⟨x, hx⟩
  refine ⟨?_, fun x => ?_⟩
  · rw [hD]
    show (es.map fun p => _).Nodup
    refine List.pairwise_map.2 (hpw.imp_of_mem fun {p q} hp' hq' hne e => hne ?_)
    obtain ⟨a, ha⟩ := hint p hp'
    obtain ⟨c, hc⟩ := hint q hq'
    rw [ha, hc] at e ⊢
    exact congrArg _ e
  · have h1 : x ∈ intKeys D ↔ Maps.has D (.int .i64 x) = true := by
      rw [hD, has_eq, List.any_eq_true]
      show x ∈ (es.map fun p => _) ↔ _
      rw [List.mem_map]
      constructor
      · rintro ⟨p, hp, hx⟩
        obtain ⟨a, ha⟩ := hint p hp
        refine ⟨p, hp, ?_⟩
        rw [ha] at hx ⊢
        have : a = x := hx
        rw [this]
        simp [Lit.sameKey]
      · rintro ⟨p, hp, hx⟩
        obtain ⟨a, ha⟩ := hint p hp
        refine ⟨p, hp, ?_⟩
        rw [ha] at hx ⊢
        have : a = x := by simpa [Lit.sameKey] using hx
        exact this
    rw [h1, hT.has x]
    cases f x <;> simp
/-- slices.Sorted of a map's keys: these, rising. -/
theorem sortedKeys_any {W : World} {b Bm : Nat} {f : Int → Option Value} {ks : List Int} (hmap : PMap W b f) (hBm : W.cell? ⟨Bm, 0, none⟩ = some (.map (some b))) (hBl : Bm < W.heap.size) (hk : ks.Pairwise (· < ·)) (hm : ∀ x, f x ≠ none ↔ x ∈ ks) (hl : ks.length ≤ 1000000) :
    Calls Try.prog 41 #[.func (.func 50) #[] #[.pointer (some ⟨Bm, 0, none⟩)]] W fun e w' => ∃ v, e = .returned v ∧ w'.ownsRow W.heap.size 2 1 v ks.length (ks.map encZ) ∧ Below W.heap.size W w' := by
  obtain ⟨D, hD, hT⟩ := hmap
  obtain ⟨g1, g2⟩ := intKeys_mem hD hT
  have hsz : Maps.size D ≤ ks.length := IMap.size undI64 hD hT (fun x hx => (hm x).1 hx)
  have hseq : SeqGives Fence.wide (5 - 1 - 1 - 1) Try.prog 50 #[.pointer (some ⟨Bm, 0, none⟩)] encZ (fun ss => ss.Perm (intKeys D)) (Maps.size D) W :=
    AnyZI.keys_gives (ρ := Try.keysA_ren) { Try.keysA with } Fence.wide _ trivial rfl (by omega) Bm b _ D _ hBl hBm hD
  have cS := AnyZI.sorted_in Try.sortedA Fence.wide 5 trivial trivial trivial trivial rfl (by omega) (spSorts _) (enters_of Try.func49 (by kernel_rfl) rfl) 50 #[.pointer (some ⟨Bm, 0, none⟩)] trivial (enters_of Try.func50 (by kernel_rfl) rfl) _ (Maps.size D) (by unfold maxLen; omega) (by omega) _ hseq
  refine (callsIn_wide.1 cS).mono ?_
  rintro e w' ⟨v, ss, rfl, hS, hrow, hnil, hb⟩
  have hs : ss.mergeSort (fun x y => decide (x ≤ y)) = ks := sorted_of_perm hS hk g1 (fun x => (g2 x).trans (hm x))
  rw [hs] at hrow
  have hlen : ss.length = ks.length := by rw [← hs]; simp
  rw [hlen] at hrow
  exact ⟨v, rfl, hrow, hb⟩
/-- maps.Clone. -/
theorem mapsClone_any {w : World} {b : Nat} {f : Int → Option Value} (h : PMap w b f) :
    Calls Try.prog 39 #[.map (some b)] w fun e w' => ∃ o, e = .returned (.map (some w.heap.size)) ∧ w' = w.alloc o ∧ PMap w' w.heap.size f := by
  obtain ⟨D, ⟨es, clock, hb, F, hs, hD⟩, hT⟩ := h
  refine (AnyW.maps_Clone Try.cloneM b es clock w hb).mono ?_
  rintro e w' ⟨rfl, rfl⟩
  exact ⟨_, rfl, rfl, D, ⟨es, clock, heap_alloc_new w _, F, hs, hD⟩, hT⟩
/-- An element that is a number, as it is. -/
def plR : Value → Option (DataW Value × List MemPlace)
  | .int .i64 a => some (.held (.int .i64 a), [])
  | _ => none
/-- Are two the same? -/
def plEq : DataW Value → DataW Value → Bool
  | .held (.int .i64 a), .held (.int .i64 b) => decide (a = b)
  | _, _ => false
def Ints (f : Int → Option Value) : Prop := ∀ x v, f x = some v → ∃ a : Int, v = .int .i64 a
theorem spF_ints (L : List Nat) : Ints (spF L) := fun x v h => by
  unfold spF at h
  split at h
  · cases h
  · exact ⟨_, (Option.some.inj h).symm⟩
theorem HMap.pl {w : World} {b n : Nat} {D : DataW Value} {f : Int → Option Value} (h : HMap w Try.prog 2 b n D) (hT : Tells D f) (hv : Ints f) : w.ownsMap Try.prog 2 plR b n D := by
  obtain ⟨es0, hD0, hpw, hkl⟩ := World.ownsMap.entries h (int_keyed undI64)
  obtain ⟨es, clock, hb, F, hs, hD⟩ := h
  have hm := World.ownsMap_of_fit (R0 := heldR) (R := plR) (P := Try.prog) (k := 2) hb F (fun x hx z hz => by
    obtain ⟨y, hy⟩ := F.reads x hx
    have hk1 := WideElems.rd_key hy
    obtain ⟨z', hz', e2⟩ := WideElems.rd_val hy
    obtain ⟨q, hq1, hq2, _⟩ := Maps.keyOf_int_inv undI64 hk1
    have hmem : y ∈ es0 := by
      have : es0 = (es.toList.map (WideElems.rg Try.prog 2 heldR)).foldr DataW.insert [] := by
        rw [hD0] at hD
        injection hD
      rw [this]
      exact mem_sorted.2 (List.mem_map.2 ⟨x, hx, WideElems.rg_of hy⟩)
    have hat : D.atKey y.1 .nil = y.2 := by
      rw [hD0]
      exact WideAt.atKey_mem .nil (hkl y hmem) hpw hmem
    rw [hq2] at hat
    have hz2 : z'.1 = .held x.val := by
      have : some (DataW.held x.val, ([] : List MemPlace)) = some z' := hz'
      exact (congrArg Prod.fst (Option.some.inj this)).symm
    cases hf : f q with
    | none =>
      rw [hT.no q hf] at hat
      rw [e2, hz2] at hat
      cases hat
    | some v =>
      rw [hT.at_ q v hf, e2, hz2] at hat
      replace hat := DataW.held.inj hat
      obtain ⟨a, ha⟩ := hv q v hf
      have hz3 : some (DataW.held x.val, ([] : List MemPlace)) = some z := hz
      have hxv : x.val = .int .i64 a := by rw [← hat]; exact ha
      rw [← hz3]
      rw [hxv]
      rfl)
  rw [← hD] at hm
  exact hm.mono hs
theorem neq_pl (W : World) (x y : Value) (xd yd : DataW Value) (xp yp : List MemPlace) (hx : plR x = some (xd, xp)) (hy : plR y = some (yd, yp)) :
    (binOp .neq 48 x y).run Try.prog W = .ok (.bool (!plEq xd yd)) W ∧ ∀ (a b : Operand), (eqGuard .neq 48 a b x y).run Try.prog W = .ok () W := by
  have key : ∀ v d p, plR v = some (d, p) → ∃ a : Int, v = .int .i64 a ∧ d = .held (.int .i64 a) := fun v d p h => by
    unfold plR at h
    split at h
    · rename_i a
      exact ⟨a, rfl, (congrArg Prod.fst (Option.some.inj h)).symm⟩
    · cases h
  obtain ⟨a, rfl, rfl⟩ := key x xd xp hx
  obtain ⟨b, rfl, rfl⟩ := key y yd yp hy
  refine ⟨?_, fun _ _ => by rw [eqGuard_at_int]; rfl⟩
  simp [go_sem, plEq, binOp]
  rfl
theorem equal_iff {w : World} {b1 b2 n1 n2 : Nat} {D1 D2 : DataW Value} {f g : Int → Option Value} (h1 : HMap w Try.prog 2 b1 n1 D1) (h2 : HMap w Try.prog 2 b2 n2 D2) (T1 : Tells D1 f) (T2 : Tells D2 g)
    (i1 : Ints f) (i2 : Ints g) : Lib.equalFuncD plEq D1 D2 = true ↔ f = g := by
  obtain ⟨m1, m2⟩ := intKeys_mem h1 T1
  obtain ⟨k1, k2⟩ := intKeys_mem h2 T2
  obtain ⟨es1, hD1, hpw1, hkl1⟩ := World.ownsMap.entries h1 (int_keyed undI64)
  have len1 : Maps.size D1 = (intKeys D1).length := by
    rw [hD1]
    show es1.length = (es1.map _).length
    simp
  obtain ⟨es2, hD2, _, _⟩ := World.ownsMap.entries h2 (int_keyed undI64)
  have len2 : Maps.size D2 = (intKeys D2).length := by
    rw [hD2]
    show es2.length = (es2.map _).length
    simp
  obtain ⟨es', hD', hko⟩ := World.ownsMap.keysOf h1
  obtain rfl : es1 = es' := by rw [hD1] at hD'; simpa using hD'
  have ent : ∀ p ∈ es1, ∃ x v, p = (.int .i64 x, .held v) ∧ f x = some v := fun p hp => by
    obtain ⟨kv, hkv⟩ := hko p hp
    obtain ⟨x, _, hx, _⟩ := Maps.keyOf_int_inv undI64 hkv
    have hat : D1.atKey p.1 .nil = p.2 := by
      rw [hD1]
      exact WideAt.atKey_mem .nil (hkl1 p hp) hpw1 hp
    have hat2 : D1.atKey p.1 (.lit (.bool true)) = p.2 := by
      rw [hD1]
      exact WideAt.atKey_mem _ (hkl1 p hp) hpw1 hp
    rw [hx] at hat hat2
    cases hf : f x with
    | none =>
      rw [T1.no x hf] at hat hat2
      rw [← hat] at hat2
      cases hat2
    | some v =>
      rw [T1.at_ x v hf] at hat
      exact ⟨x, v, Prod.ext hx hat.symm, hf⟩
  have good : ∀ p ∈ es1, Lib.goodD plEq D2 p = true ↔ ∃ x v, p = (.int .i64 x, .held v) ∧ f x = some v ∧ g x = some v := fun p hp => by
    obtain ⟨x, v, rfl, hf⟩ := ent p hp
    unfold Lib.goodD
    rw [T2.has x, Bool.and_eq_true]
    constructor
    · rintro ⟨ha, hb⟩
      refine ⟨x, v, rfl, hf, ?_⟩
      cases hg : g x with
      | none => rw [hg] at ha; cases ha
      | some u =>
        rw [T2.at_ x u hg] at hb
        obtain ⟨a, rfl⟩ := i1 x v hf
        obtain ⟨b, rfl⟩ := i2 x u hg
        have : a = b := by simpa [plEq] using hb
        rw [this]
    · rintro ⟨x', v', he, hf', hg'⟩
      simp only [Prod.mk.injEq, Lit.int.injEq, true_and, DataW.held.injEq] at he
      obtain ⟨rfl, rfl⟩ := he
      rw [hg']
      refine ⟨rfl, ?_⟩
      rw [T2.at_ x v hg']
      obtain ⟨a, rfl⟩ := i1 x v hf
      simp [plEq]
  unfold Lib.equalFuncD
  rw [Bool.and_eq_true, decide_eq_true_eq, List.all_eq_true]
  have hen : Lib.entriesD D1 = es1 := by rw [hD1]; rfl
  rw [hen]
  constructor
  · rintro ⟨hs, ha⟩
    have sub : ∀ x v, f x = some v → g x = some v := fun x v hf => by
      have hx : x ∈ intKeys D1 := (m2 x).2 (by rw [hf]; simp)
      rw [hD1] at hx
      obtain ⟨p, hp, hpx⟩ := List.mem_map.1 (show x ∈ es1.map fun p => _ from hx)
      obtain ⟨y, u, hpe, hfy, hgy⟩ := (good p hp).1 (ha p hp)
      rw [hpe] at hpx
      have : y = x := hpx
      subst this
      rw [hf] at hfy
      rw [hgy, ← hfy]
    funext x
    cases hf : f x with
    | some v => rw [sub x v hf]
    | none =>
      cases hg : g x with
      | none => rfl
      | some u =>
        exfalso
        have hin : ∀ y ∈ x :: intKeys D1, y ∈ intKeys D2 := fun y hy => by
          rcases List.mem_cons.1 hy with rfl | hy
          · exact (k2 y).2 (by rw [hg]; simp)
          · have hy2 := (m2 y).1 hy
            cases hfy : f y with
            | none => exact absurd hfy hy2
            | some v => exact (k2 y).2 (by rw [sub y v hfy]; simp)
        have := nodup_le (x :: intKeys D1) (intKeys D2) (List.nodup_cons.2 ⟨fun hx => (m2 x).1 hx hf, m1⟩) hin
        simp only [List.length_cons] at this
        omega
  · rintro rfl
    refine ⟨?_, fun p hp => (good p hp).2 ?_⟩
    · have e1 := nodup_le (intKeys D1) (intKeys D2) m1 fun x hx => (k2 x).2 ((m2 x).1 hx)
      have e2 := nodup_le (intKeys D2) (intKeys D1) k1 fun x hx => (m2 x).2 ((k2 x).1 hx)
      omega
    · obtain ⟨x, v, hpe, hf⟩ := ent p hp
      exact ⟨x, v, hpe, hf, hf⟩
/-- maps.Equal. -/
theorem mapsEqual_any {w : World} {b1 b2 : Nat} {f g : Int → Option Value} (h1 : PMap w b1 f) (h2 : PMap w b2 g) (i1 : Ints f) (i2 : Ints g) :
    Calls Try.prog 47 #[.map (some b1), .map (some b2)] w fun e w' => ∃ r : Bool, e = .returned (.bool r) ∧ (r = true ↔ f = g) ∧ Keeps w w' [] := by
  obtain ⟨D1, hD1, T1⟩ := h1
  obtain ⟨D2, hD2, T2⟩ := h2
  refine (AnyEq.maps_Equal_opt Try.eqM (int_keyed undI64) plR plR plEq (some b1) (some b2) D1 D2 w (.inr ⟨b1, _, rfl, HMap.pl hD1 T1 i1⟩) (.inr ⟨b2, _, rfl, HMap.pl hD2 T2 i2⟩) (.int .i64 0) zeroPl (.held (.int .i64 0)) [] rfl neq_pl).mono ?_
  rintro e w' ⟨rfl, hg⟩
  exact ⟨_, rfl, equal_iff hD1 hD2 T1 T2 i1 i2, Keeps.of_grown hg⟩
end Go.Proofs.Ytanbdkfkkochgaa

namespace Go.Proofs.Ytanbdkfkkochgaa
open Go.RowKit Go.Maps

/-- A space in memory: what each page is, and as it lasted last. -/
structure SpAt (W : World) (s m1 m2 most : Nat) (L M : List Nat) : Prop where
  row : Row W s 59 #[.int .i64 (L.length : Nat), .map (some m1), .int .i64 (M.length : Nat), .map (some m2), .int .i64 (most : Nat)]
  p1 : PMap W m1 (spF L)
  p2 : PMap W m2 (spF M)
  ne : m1 ≠ m2
  ok1 : SpOk L
  ok2 : SpOk M
  le1 : L.length ≤ most
  le2 : M.length ≤ most
  le : most ≤ 4096
theorem IMap.ne_row {P : Program} {k : TypeId} {W : World} {b g : Nat} {t : TypeId} {cs : Array Value} {f : Int → Option Value} (h : IMap W P k b f) (hr : Row W g t cs) : b ≠ g := by
  rintro rfl
  obtain ⟨D, ⟨es, clock, hb, _⟩, _⟩ := h
  rw [hr] at hb
  cases hb
theorem SpAt.keep {W W' : World} {s m1 m2 most : Nat} {L M : List Nat} {S : List Nat} (h : SpAt W s m1 m2 most L M) (hk : Keeps W W' S) (hs : s ∉ S) (h1 : m1 ∉ S) (h2 : m2 ∉ S) : SpAt W' s m1 m2 most L M :=
  ⟨h.row.keep hk hs, h.p1.keep hk h1, h.p2.keep hk h2, h.ne, h.ok1, h.ok2, h.le1, h.le2, h.le⟩
theorem SpAt.keeps {W W' : World} {s m1 m2 most : Nat} {L M : List Nat} (h : SpAt W s m1 m2 most L M) (hk : Keeps W W' []) : SpAt W' s m1 m2 most L M := h.keep hk (by simp) (by simp) (by simp)
set_option maxRecDepth 100000 in
theorem spNone_nil (w : World) : Calls Try.prog 28 #[.pointer none] w fun e w' => e = .returned (.bool true) ∧ w = w' := by
  go_enter Try.func28, Try.ntmps28
  go_wp2
  go_ret
  exact ⟨rfl, rfl⟩
set_option maxRecDepth 100000 in
theorem spNone_at (w : World) (s : Nat) (cs : Array Value) (p : Option Nat) (hr : Row w s 59 cs) (hc : cs[1]? = some (.map p)) :
    Calls Try.prog 28 #[.pointer (some ⟨s, 0, none⟩)] w fun e w' => e = .returned (.bool p.isNone) ∧ w = w' := by
  have c1 := (hr.cell 1).trans hc
  have hq := fun w => run_eql_map_nil_sl (P := Try.prog) w 55 _ _ p undPl
  go_enter Try.func28, Try.ntmps28
  go_wp2
  go_ret
  exact ⟨rfl, rfl⟩
theorem spNone_any {w : World} {s m1 m2 most : Nat} {L M : List Nat} (h : SpAt w s m1 m2 most L M) :
    Calls Try.prog 28 #[.pointer (some ⟨s, 0, none⟩)] w fun e w' => e = .returned (.bool false) ∧ w = w' := spNone_at w s _ (some m1) h.row rfl
set_option maxRecDepth 100000 in
theorem spHigh_any {w : World} {s m1 m2 most : Nat} {L M : List Nat} (h : SpAt w s m1 m2 most L M) :
    Calls Try.prog 12 #[.pointer (some ⟨s, 0, none⟩)] w fun e w' => e = .returned (.int .i64 (L.length : Nat)) ∧ w = w' := by
  have HN := Lib.hid (spNone_any h)
  have c0 := h.row.cell 0
  have c1 := h.row.cell 1
  have c2 := h.row.cell 2
  have c3 := h.row.cell 3
  have c4 := h.row.cell 4
  simp only [List.getElem?_toArray, List.getElem?_cons_zero, List.getElem?_cons_succ] at c0 c1 c2 c3 c4
  go_enter Try.func12, Try.ntmps12
  go_wp2_with fail
  refine HN.out.mono ?_
  rintro e w' ⟨rfl, rfl⟩
  go_wp2_with fail
  go_ret
  exact ⟨rfl, rfl⟩
theorem spF_get (L : List Nat) (x : Int) : (spF L x).getD (.int .i64 0) = .int .i64 (if codeAt L x ≤ 1 then 0 else (codeAt L x : Nat)) ∧ (spF L x).isSome = decide (2 ≤ codeAt L x) := by
  unfold spF
  split
  · rename_i h
    exact ⟨rfl, by simp; omega⟩
  · rename_i h
    exact ⟨rfl, by simp; omega⟩
set_option maxRecDepth 100000 in
set_option maxHeartbeats 1000000 in
theorem spIs_any {w : World} {s m1 m2 most : Nat} {L M : List Nat} (h : SpAt w s m1 m2 most L M) (x : Int) (h1 : -9223372036854775808 ≤ x) (h2 : x ≤ 9223372036854775807) :
    Calls Try.prog 20 #[.pointer (some ⟨s, 0, none⟩), .int .i64 x] w fun e w' => e = .returned (.int .i64 (codeAt L x : Nat)) ∧ w = w' := by
  have HN := Lib.hid (spNone_any h)
  have c0 := h.row.cell 0
  have c1 := h.row.cell 1
  have c2 := h.row.cell 2
  have c3 := h.row.cell 3
  have c4 := h.row.cell 4
  simp only [List.getElem?_toArray, List.getElem?_cons_zero, List.getElem?_cons_succ] at c0 c1 c2 c3 c4
  have hlk := h.p1.look undI64 undPl (zeroPl w) h1 h2 true
  have hz := h.ok1.zero x
  have HL := Lib.hid h.ok1.le
  obtain ⟨g1, g2⟩ := spF_get L x
  rw [if_pos rfl, g1, g2] at hlk
  obtain ⟨C, hC⟩ : ∃ C, codeAt L x = C := ⟨_, rfl⟩
  rw [hC] at hlk hz
  rw [hC]
  clear h hC g1 g2
  by_cases hx : x < 2
  · have hC0 : C = 0 := hz.2 (.inl hx)
    subst hC0
    clear hz hlk
    go_enter Try.func20, Try.ntmps20
    go_wp2_with fail
    refine HN.out.mono ?_
    rintro e w' ⟨rfl, rfl⟩
    go_wp2_with fail
    go_ret
    exact ⟨rfl, rfl⟩
  · by_cases hx2 : (L.length : Int) ≤ x
    · have hC0 : C = 0 := hz.2 (.inr hx2)
      subst hC0
      clear hz hlk
      go_enter Try.func20, Try.ntmps20
      go_wp2_with fail
      refine HN.out.mono ?_
      rintro e w' ⟨rfl, rfl⟩
      go_wp2_with fail
      go_ret
      exact ⟨rfl, rfl⟩
    · have hC0 : C ≠ 0 := fun h => by have := hz.1 h; omega
      by_cases hC1 : C = 1
      · subst hC1
        clear hz
        go_enter Try.func20, Try.ntmps20
        go_wp2_with fail
        refine HN.out.mono ?_
        rintro e w' ⟨rfl, rfl⟩
        go_wp2_with fail
        go_ret
        exact ⟨rfl, rfl⟩
      · have hd : decide (2 ≤ C) = true := by simp; omega
        rw [if_neg (by omega), hd] at hlk
        clear hz hC0 hC1 hd
        go_enter Try.func20, Try.ntmps20
        go_wp2_with fail
        refine HN.out.mono ?_
        rintro e w' ⟨rfl, rfl⟩
        go_wp2_with fail
        go_ret
        exact ⟨rfl, rfl⟩
end Go.Proofs.Ytanbdkfkkochgaa
