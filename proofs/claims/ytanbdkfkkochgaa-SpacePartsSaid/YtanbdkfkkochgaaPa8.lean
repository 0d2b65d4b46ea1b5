/- Maps whose keys are integers of 64 bits, told key by key by a function. Plain words of layer 7: what each page is, in a list. -/
import Derived.Test.YtanbdkfkkochgaaPa7
import Derived.Maps.OwnSet
import Derived.Maps.Ext
import Derived.Lib.SlKeysI

namespace Go.Proofs.Ytanbdkfkkochgaa
open Go.RowKit Go.Maps

/-- What a datum is, key by key. -/
structure Tells (D : DataW Value) (f : Int → Option Value) : Prop where
  at_ : ∀ x v, f x = some v → ∀ zd, D.atKey (.int .i64 x) zd = .held v
  no : ∀ x, f x = none → ∀ zd, D.atKey (.int .i64 x) zd = zd
theorem Tells.has {D : DataW Value} {f : Int → Option Value} (h : Tells D f) (x : Int) : Maps.has D (.int .i64 x) = (f x).isSome := by
  cases hf : f x with
  | none => exact has_false_of_atKey (h.no x hf)
  | some v => exact has_true_of_atKey (h.at_ x v hf)
/-- Another value at a key. -/
def upd (f : Int → Option Value) (x : Int) (o : Option Value) : Int → Option Value := fun y => if y = x then o else f y
theorem upd_same (f : Int → Option Value) (x : Int) (o : Option Value) : upd f x o x = o := if_pos rfl
theorem upd_other {f : Int → Option Value} {x y : Int} (o : Option Value) (h : y ≠ x) : upd f x o y = f y := if_neg h
theorem isKey_int (x : Int) : WideAt.IsKeyLit (.int .i64 x) := by first | trivial | exact rfl | simp [WideAt.IsKeyLit]
theorem Tells.put {D : DataW Value} {f : Int → Option Value} (h : Tells D f) (hD : IsMap D) (x : Int) (v : Value) : Tells (D.put (.int .i64 x) (.held v)) (upd f x (some v)) := by
  refine ⟨fun y u hy zd => ?_, fun y hy zd => ?_⟩
  · by_cases e : y = x
    · subst e
      rw [upd_same] at hy
      obtain rfl := Option.some.inj hy
      exact atKey_put_same hD (isKey_int y) _ _
    · rw [upd_other _ e] at hy
      rw [atKey_put_other (by simpa using e)]
      exact h.at_ y u hy zd
  · by_cases e : y = x
    · subst e
      rw [upd_same] at hy
      cases hy
    · rw [upd_other _ e] at hy
      rw [atKey_put_other (by simpa using e)]
      exact h.no y hy zd
theorem Tells.del {D : DataW Value} {f : Int → Option Value} (h : Tells D f) (x : Int) : Tells (D.del (.int .i64 x)) (upd f x none) := by
  refine ⟨fun y u hy zd => ?_, fun y hy zd => ?_⟩
  · by_cases e : y = x
    · subst e
      rw [upd_same] at hy
      cases hy
    · rw [upd_other _ e] at hy
      rw [atKey_del_other (by simpa using e)]
      exact h.at_ y u hy zd
  · by_cases e : y = x
    · subst e
      exact atKey_del_same _
    · rw [upd_other _ e] at hy
      rw [atKey_del_other (by simpa using e)]
      exact h.no y hy zd
theorem wf_i64' {x : Int} (h1 : -9223372036854775808 ≤ x) (h2 : x ≤ 9223372036854775807) : (Lit.int .i64 x).wf = true := WalkArith.wf_i64 (by omega)
theorem nodup_le : ∀ (l ks : List Int), l.Nodup → (∀ x ∈ l, x ∈ ks) → l.length ≤ ks.length
  | [], ks, _, _ => by simp
  | a :: l, ks, hn, hs => by
    obtain ⟨h1, h2⟩ := List.nodup_cons.1 hn
    have := nodup_le l (ks.erase a) h2 fun x hx => (List.mem_erase_of_ne (fun e => h1 (by rw [← e]; exact hx))).2 (hs x (by simp [hx]))
    rw [List.length_erase_of_mem (hs a (by simp))] at this
    have := List.length_pos_of_mem (hs a (by simp))
    simp only [List.length_cons]
    omega

section
variable {P : Program} {k e t : TypeId} {w w' : World} {b n : Nat} {f : Int → Option Value}
/-- Block b is a map that f tells. -/
def IMap (w : World) (P : Program) (k : TypeId) (b : Nat) (f : Int → Option Value) : Prop := ∃ D : DataW Value, HMap w P k b (Maps.size D) D ∧ Tells D f
theorem HMap.tight {D : DataW Value} (h : HMap w P k b n D) : HMap w P k b (Maps.size D) D := by
  obtain ⟨es, clock, hb, F, _, rfl⟩ := h
  exact ⟨es, clock, hb, F, by simp [Maps.size, length_sorted], rfl⟩
theorem IMap.keep {S : List Nat} (h : IMap w P k b f) (hk : Keeps w w' S) (hb : b ∉ S) : IMap w' P k b f := by
  obtain ⟨D, h1, h2⟩ := h
  exact ⟨D, h1.keep hk hb, h2⟩
theorem IMap.lt (h : IMap w P k b f) : b < w.heap.size := by
  obtain ⟨D, h1, _⟩ := h
  exact World.ownsMap.lt h1
theorem IMap.congr {g : Int → Option Value} (h : IMap w P k b f) (hg : ∀ x, f x = g x) : IMap w P k b g := by
  have : f = g := funext hg
  exact this ▸ h
/-- As many entries as keys at most. -/
theorem IMap.size {D : DataW Value} (hk : P.underlying k = some (.int .i64)) (h : HMap w P k b n D) (hT : Tells D f) {ks : List Int} (hs : ∀ x, f x ≠ none → x ∈ ks) : Maps.size D ≤ ks.length := by
  obtain ⟨es, hD, hpw, _⟩ := World.ownsMap.entries h (int_keyed hk)
  obtain ⟨es', hD', hko⟩ := World.ownsMap.keysOf h
  obtain rfl : es = es' := by rw [hD] at hD'; simpa using hD'
  have hint : ∀ p ∈ es, ∃ x, p.1 = .int .i64 x := fun p hp => by
    obtain ⟨v, hv⟩ := hko p hp
    obtain ⟨x, _, hx, _⟩ := Maps.keyOf_int_inv hk hv
    exact ⟨x, hx⟩
  have h1 : (intKeys (.map es : DataW Value)).Nodup := by
    show (es.map fun p => _).Nodup
    refine List.pairwise_map.2 (hpw.imp_of_mem fun {p q} hp' hq' hne e => hne ?_)
    obtain ⟨a, ha⟩ := hint p hp'
    obtain ⟨c, hc⟩ := hint q hq'
    rw [ha, hc] at e ⊢
    exact congrArg _ e
  have h2 : Maps.size D = (intKeys (.map es : DataW Value)).length := by
    rw [hD]
    show es.length = (es.map _).length
    simp
  rw [h2]
  refine nodup_le _ _ h1 fun x hx => hs x fun hf => ?_
  have h3 : x ∈ es.map fun p => _ := hx
  obtain ⟨p, hp, hpx⟩ := List.mem_map.1 h3
  obtain ⟨a, ha⟩ := hint p hp
  rw [ha] at hpx
  have h4 : Maps.has D (.int .i64 x) = true := by
    rw [hD, has_eq, List.any_eq_true]
    refine ⟨p, hp, ?_⟩
    rw [ha]
    have : a = x := hpx
    rw [this]
    simp [Lit.sameKey]
  rw [hT.has x, hf] at h4
  cases h4
theorem IMap.look (h : IMap w P k b f) (hk : P.underlying k = some (.int .i64)) (ht : P.underlying t = some (.map k e)) {z : Value} (hz : (zeroValue e).run P w = .ok z w) {x : Int} (h1 : -9223372036854775808 ≤ x) (h2 : x ≤ 9223372036854775807) (c : Bool) :
    (Instr.lookup t (.map (some b)) (.int .i64 x) c).run P w = .ok (if c then .tuple #[(f x).getD z, .bool (f x).isSome] else (f x).getD z) w := by
  obtain ⟨D, hD, hT⟩ := h
  have hkey : keyOf P k (.int .i64 x) = some (.int .i64 x) := keyOf_int_mk hk (wf_i64' h1 h2)
  cases hf : f x with
  | none => exact hD.missing (int_keyed hk) ht hz hkey (hT.no x hf) c
  | some v => exact hD.there (int_keyed hk) ht hz hkey (hT.at_ x v hf) c
/-- A store. -/
theorem IMap.store (h : IMap w P k b f) (hk : P.underlying k = some (.int .i64)) (ht : P.underlying t = some (.map k e)) {ks : List Int} (hs : ∀ x, f x ≠ none → x ∈ ks) (hl : ks.length < maxLen) {x : Int} (h1 : -9223372036854775808 ≤ x) (h2 : x ≤ 9223372036854775807) (v : Value) :
    ∃ w', (Instr.mapUpdate t (.map (some b)) (.int .i64 x) v).run P w = .ok () w' ∧ IMap w' P k b (upd f x (some v)) ∧ Keeps w w' [b] ∧ w.mapTurned w' b := by
  obtain ⟨D, hD, hT⟩ := h
  have hkey : keyOf P k (.int .i64 x) = some (.int .i64 x) := keyOf_int_mk hk (wf_i64' h1 h2)
  have hsz := IMap.size hk hD hT hs
  obtain ⟨w', g1, g2, g3⟩ := World.ownsMap.store (R := heldR) hD (int_keyed hk) ht (by omega) hkey (d := .held v) (ps := []) rfl
  refine ⟨w', g1, ⟨_, HMap.tight g2, hT.put (World.ownsMap.isMap hD) x v⟩, ?_, g3⟩
  exact Keeps.of_grown (row := some b) g3.grown
theorem IMap.drop (h : IMap w P k b f) (hk : P.underlying k = some (.int .i64)) (ht : P.underlying t = some (.map k e)) {x : Int} (h1 : -9223372036854775808 ≤ x) (h2 : x ≤ 9223372036854775807) (ty : TypeId) :
    ∃ w', (Builtin.delete_ #[t, k] ty #[.map (some b), .int .i64 x]).run P w = .ok (.tuple #[]) w' ∧ IMap w' P k b (upd f x none) ∧ Keeps w w' [b] ∧ w.mapTurned w' b := by
  obtain ⟨D, hD, hT⟩ := h
  have hkey : keyOf P k (.int .i64 x) = some (.int .i64 x) := keyOf_int_mk hk (wf_i64' h1 h2)
  obtain ⟨w', g1, g2, g3⟩ := World.ownsMap.drop (R := heldR) hD (int_keyed hk) ht hkey ty
  exact ⟨w', g1, ⟨_, HMap.tight g2, hT.del x⟩, Keeps.of_grown (row := some b) g3.grown, g3⟩
theorem IMap.made (w : World) (P : Program) (k : TypeId) : IMap (w.alloc (.map #[] 0)) P k w.heap.size fun _ => none :=
  ⟨.map [], World.ownsMap_made w P k heldR, ⟨(fun _ _ h => by cases h), fun _ _ _ => rfl⟩⟩
/-- A copy of the block is the same map. -/
theorem IMap.copied (h : IMap w P k b f) {b' : Nat} (hc : w'.heap[b']? = w.heap[b]?) : IMap w' P k b' f := by
  obtain ⟨D, ⟨es, clock, hb, F, hs, hD⟩, hT⟩ := h
  exact ⟨D, ⟨es, clock, hc.trans hb, F, hs, hD⟩, hT⟩
end
end Go.Proofs.Ytanbdkfkkochgaa

namespace Go.Proofs.Ytanbdkfkkochgaa
open Go.RowKit Go.Maps

/-- What a page is (0: none). -/
def codeAt (L : List Nat) (x : Int) : Nat := if 0 ≤ x then L.getD x.toNat 0 else 0
/-- The map that tells what is not kept. -/
def spF (L : List Nat) : Int → Option Value := fun x => if codeAt L x ≤ 1 then none else some (.int .i64 (codeAt L x : Nat))
structure SpOk (L : List Nat) : Prop where
  l2 : 2 ≤ L.length
  le : L.length ≤ 4096
  z0 : L.getD 0 0 = 0
  z1 : L.getD 1 0 = 0
  v : ∀ n, 2 ≤ n → n < L.length → 1 ≤ L.getD n 0 ∧ L.getD n 0 ≤ 4
theorem codeAt_nat (L : List Nat) (n : Nat) : codeAt L (n : Int) = L.getD n 0 := by
  unfold codeAt
  rw [if_pos (by omega), Int.toNat_natCast]
theorem codeAt_out {L : List Nat} {x : Int} (h : x < 0 ∨ (L.length : Int) ≤ x) : codeAt L x = 0 := by
  unfold codeAt
  split
  · rw [List.getD_eq_getElem?_getD, List.getElem?_eq_none (by omega)]; rfl
  · rfl
theorem SpOk.zero {L : List Nat} (h : SpOk L) (x : Int) : codeAt L x = 0 ↔ (x < 2 ∨ (L.length : Int) ≤ x) := by
  constructor
  · intro hc
    rcases Int.lt_or_le x 2 with h2 | h2
    · exact .inl h2
    · rcases Int.lt_or_le x L.length with h3 | h3
      · exfalso
        obtain ⟨n, rfl⟩ : ∃ n : Nat, x = n := ⟨x.toNat, by omega⟩
        rw [codeAt_nat] at hc
        have := (h.v n (by omega) (by omega)).1
        omega
      · exact .inr h3
  · rintro (h2 | h2)
    · rcases Int.lt_or_le x 0 with h3 | h3
      · exact codeAt_out (.inl h3)
      · obtain ⟨n, rfl⟩ : ∃ n : Nat, x = n := ⟨x.toNat, by omega⟩
        rw [codeAt_nat]
        have : n = 0 ∨ n = 1 := by omega
        rcases this with rfl | rfl
        · exact h.z0
        · exact h.z1
    · exact codeAt_out (.inr h2)
theorem SpOk.most {L : List Nat} (h : SpOk L) (x : Int) : codeAt L x ≤ 4 := by
  by_cases hz : codeAt L x = 0
  · omega
  · have := mt (h.zero x).2 hz
    obtain ⟨n, rfl⟩ : ∃ n : Nat, x = n := ⟨x.toNat, by omega⟩
    rw [codeAt_nat]
    exact (h.v n (by omega) (by omega)).2
theorem SpOk.nz {L : List Nat} (h : SpOk L) {x : Int} (hz : codeAt L x ≠ 0) : 2 ≤ x ∧ x < L.length := by
  have := mt (h.zero x).2 hz
  omega
/-- The pages of which something is so, rising. -/
def spSel (p : Nat → Bool) (L : List Nat) : List Int := ((List.range L.length).filter fun n => p (L.getD n 0)).map fun n : Nat => (n : Int)
theorem spSel_mem {p : Nat → Bool} (h0 : p 0 = false) {L : List Nat} {x : Int} : x ∈ spSel p L ↔ p (codeAt L x) = true := by
  unfold spSel
  rw [List.mem_map]
  constructor
  · rintro ⟨n, hn, rfl⟩
    rw [codeAt_nat]
    exact (List.mem_filter.1 hn).2
  · intro hp
    have h1 : codeAt L x ≠ 0 := fun h => by rw [h, h0] at hp; cases hp
    have h2 : ¬ (x < 0 ∨ (L.length : Int) ≤ x) := fun h => h1 (codeAt_out h)
    refine ⟨x.toNat, List.mem_filter.2 ⟨List.mem_range.2 (by omega), ?_⟩, by omega⟩
    have : codeAt L x = L.getD x.toNat 0 := if_pos (by omega)
    rw [← this]; exact hp
theorem spSel_in {p : Nat → Bool} {L : List Nat} {x : Int} (h : x ∈ spSel p L) : 0 ≤ x ∧ x < L.length ∧ p (codeAt L x) = true := by
  unfold spSel at h
  obtain ⟨n, hn, rfl⟩ := List.mem_map.1 h
  obtain ⟨h1, h2⟩ := List.mem_filter.1 hn
  have := List.mem_range.1 h1
  exact ⟨by omega, by omega, by rw [codeAt_nat]; exact h2⟩
theorem spSel_sorted (p : Nat → Bool) (L : List Nat) : (spSel p L).Pairwise (· < ·) := by
  unfold spSel
  refine List.pairwise_map.2 ((List.pairwise_lt_range.filter _).imp fun {a b} h => ?_)
  omega
theorem spSel_nodup (p : Nat → Bool) (L : List Nat) : (spSel p L).Nodup := (spSel_sorted p L).imp fun {a b} h => by omega
theorem spSel_length (p : Nat → Bool) (L : List Nat) : (spSel p L).length ≤ L.length := by
  unfold spSel
  have := List.length_filter_le (fun n => p (L.getD n 0)) (List.range L.length)
  simpa using this
/-- Those that are not kept. -/
abbrev spKeys (L : List Nat) : List Int := spSel (fun v => decide (2 ≤ v)) L
theorem spKeys_mem {L : List Nat} {x : Int} : x ∈ spKeys L ↔ spF L x ≠ none := by
  rw [spSel_mem (by decide)]
  unfold spF
  split <;> simp <;> omega
theorem filter_filter_of {α : Type} (p q : α → Bool) (h : ∀ a, q a = true → p a = true) : ∀ l : List α, (l.filter p).filter q = l.filter q
  | [] => rfl
  | a :: l => by
    by_cases hp : p a = true
    · rw [List.filter_cons_of_pos hp, List.filter_cons, List.filter_cons, filter_filter_of p q h l]
    · have hq : ¬ q a = true := fun hq => hp (h a hq)
      rw [List.filter_cons_of_neg hp, filter_filter_of p q h l, List.filter_cons_of_neg hq]
theorem spSel_filter {p : Nat → Bool} (hp : ∀ v, p v = true → 2 ≤ v) (L : List Nat) : (spKeys L).filter (fun x => p (codeAt L x)) = spSel p L := by
  unfold spKeys spSel
  rw [List.filter_map]
  have e : ((fun x : Int => p (codeAt L x)) ∘ fun n : Nat => (n : Int)) = fun n => p (L.getD n 0) := by
    funext n
    show p (codeAt L (n : Int)) = _
    rw [codeAt_nat]
  rw [e, filter_filter_of _ _ fun n h => by simpa using hp _ h]
theorem codeAt_set {L : List Nat} {n v : Nat} (hn : n < L.length) (x : Int) : codeAt (L.set n v) x = if x = n then v else codeAt L x := by
  by_cases hx : x = n
  · subst hx
    rw [if_pos rfl, codeAt_nat, List.getD_eq_getElem?_getD, List.getElem?_set_self hn]; rfl
  · rw [if_neg hx]
    unfold codeAt
    split
    · rw [List.getD_eq_getElem?_getD, List.getD_eq_getElem?_getD, List.getElem?_set_ne (by omega)]
    · rfl
theorem spF_set {L : List Nat} {n v : Nat} (hn : n < L.length) : spF (L.set n v) = upd (spF L) n (if v ≤ 1 then none else some (.int .i64 (v : Nat))) := by
  funext x
  unfold spF
  rw [codeAt_set hn]
  by_cases hx : x = n
  · subst hx
    rw [upd_same, if_pos rfl]
  · rw [if_neg hx, upd_other _ hx]
theorem SpOk.set {L : List Nat} (h : SpOk L) {n v : Nat} (hn : 2 ≤ n) (hv : 1 ≤ v ∧ v ≤ 4) : SpOk (L.set n v) := by
  refine ⟨by simpa using h.l2, by simpa using h.le, ?_, ?_, fun m h1 h2 => ?_⟩
  · rw [List.getD_eq_getElem?_getD, List.getElem?_set_ne (by omega), ← List.getD_eq_getElem?_getD]; exact h.z0
  · rw [List.getD_eq_getElem?_getD, List.getElem?_set_ne (by omega), ← List.getD_eq_getElem?_getD]; exact h.z1
  · rw [List.length_set] at h2
    by_cases hm : n = m
    · subst hm
      rw [List.getD_eq_getElem?_getD, List.getElem?_set_self h2]; exact hv
    · rw [List.getD_eq_getElem?_getD, List.getElem?_set_ne hm, ← List.getD_eq_getElem?_getD]; exact h.v m h1 h2
theorem getD_snoc (L : List Nat) (v m : Nat) : (L ++ [v]).getD m 0 = if m = L.length then v else L.getD m 0 := by
  rw [List.getD_eq_getElem?_getD, List.getD_eq_getElem?_getD]
  by_cases h : m < L.length
  · rw [List.getElem?_append_left h, if_neg (by omega)]
  · by_cases h2 : m = L.length
    · subst h2
      rw [if_pos rfl, List.getElem?_append_right (Nat.le_refl _)]
      simp
    · rw [if_neg h2, List.getElem?_append_right (by omega), List.getElem?_eq_none (by simp; omega), List.getElem?_eq_none (by omega)]
theorem codeAt_snoc (L : List Nat) (v : Nat) (x : Int) : codeAt (L ++ [v]) x = if x = L.length then v else codeAt L x := by
  unfold codeAt
  by_cases h : 0 ≤ x
  · rw [if_pos h, if_pos h, getD_snoc]
    by_cases h2 : x = L.length
    · rw [if_pos h2, if_pos (by omega)]
    · rw [if_neg h2, if_neg (by omega)]
  · rw [if_neg h, if_neg h, if_neg (by omega)]
theorem spF_snoc (L : List Nat) : spF (L ++ [2]) = upd (spF L) L.length (some (.int .i64 2)) := by
  funext x
  unfold spF
  rw [codeAt_snoc]
  by_cases hx : x = L.length
  · subst hx
    rw [upd_same, if_pos rfl]; rfl
  · rw [if_neg hx, upd_other _ hx]
theorem SpOk.snoc {L : List Nat} (h : SpOk L) (hl : L.length < 4096) : SpOk (L ++ [2]) := by
  have := h.l2
  refine ⟨by simp; omega, by simp; omega, ?_, ?_, fun m h1 h2 => ?_⟩
  · rw [getD_snoc, if_neg (by omega)]; exact h.z0
  · rw [getD_snoc, if_neg (by omega)]; exact h.z1
  · rw [getD_snoc]
    rw [List.length_append, List.length_singleton] at h2
    split
    · omega
    · exact h.v m h1 (by omega)
/-- Pages, all made one thing. -/
def setAll (L : List Nat) (ks : List Int) (v : Nat) : List Nat := ks.foldl (fun L x => L.set x.toNat v) L
theorem setAll_snoc (L : List Nat) (ks : List Int) (x : Int) (v : Nat) : setAll L (ks ++ [x]) v = (setAll L ks v).set x.toNat v := by simp [setAll]
theorem setAll_length (ks : List Int) (v : Nat) : ∀ L : List Nat, (setAll L ks v).length = L.length := by
  induction ks with
  | nil => intro L; rfl
  | cons x ks ih => intro L; show (setAll (L.set x.toNat v) ks v).length = _; rw [ih]; simp
theorem setAll_getD {v : Nat} (n : Nat) : ∀ (ks : List Int) (L : List Nat), n < L.length → (∀ x ∈ ks, 0 ≤ x) → (setAll L ks v).getD n 0 = if (n : Int) ∈ ks then v else L.getD n 0
  | [], L, _, _ => by simp [setAll]
  | x :: ks, L, hn, h0 => by
    show (setAll (L.set x.toNat v) ks v).getD n 0 = _
    rw [setAll_getD n ks _ (by simpa using hn) (fun y hy => h0 y (by simp [hy]))]
    have hx := h0 x (by simp)
    by_cases h1 : (n : Int) ∈ ks
    · rw [if_pos h1, if_pos (by simp [h1])]
    · rw [if_neg h1]
      by_cases h2 : (n : Int) = x
      · rw [if_pos (by simp [h2]), ← h2, Int.toNat_natCast, List.getD_eq_getElem?_getD, List.getElem?_set_self hn]; rfl
      · rw [if_neg (by simp [h1, h2]), List.getD_eq_getElem?_getD, List.getElem?_set_ne (by omega), ← List.getD_eq_getElem?_getD]
theorem ext_getD {L M : List Nat} (hl : L.length = M.length) (h : ∀ n, n < L.length → L.getD n 0 = M.getD n 0) : L = M := by
  refine List.ext_getElem hl fun n h1 h2 => ?_
  have := h n h1
  rw [List.getD_eq_getElem?_getD, List.getD_eq_getElem?_getD, List.getElem?_eq_getElem h1, List.getElem?_eq_getElem h2] at this
  exact this
/-- All pages of one kind are another. -/
theorem setAll_sel {p : Nat → Bool} (v : Nat) (L : List Nat) (h0 : p 0 = false) : setAll L (spSel p L) v = L.map fun u => if p u then v else u := by
  refine ext_getD (by rw [setAll_length]; simp) fun n hn => ?_
  rw [setAll_length] at hn
  rw [setAll_getD n _ _ hn (fun x hx => (spSel_in hx).1)]
  have e : (L.map fun u => if p u then v else u).getD n 0 = if p (L.getD n 0) then v else L.getD n 0 := by
    rw [List.getD_eq_getElem?_getD, List.getD_eq_getElem?_getD, List.getElem?_map, List.getElem?_eq_getElem hn]; rfl
  rw [e]
  by_cases hp : p (L.getD n 0) = true
  · rw [if_pos ((spSel_mem h0).2 (by rw [codeAt_nat]; exact hp)), if_pos hp]
  · rw [if_neg (fun h => hp (by have := (spSel_mem h0).1 h; rwa [codeAt_nat] at this)), if_neg hp]
/-- It lasts. -/
def spLasts (L : List Nat) : List Nat := L.map fun v => if v = 2 then 1 else if v = 3 then 4 else v
def spTake (most : Nat) (L : List Nat) : List Nat × Int × Nat := match spSel (fun v => v == 4) L with
  | x :: _ => (L.set x.toNat 2, x, 0)
  | [] => if most ≤ L.length then (L, 0, 170) else (L ++ [2], L.length, 0)
def spGive (L : List Nat) (x : Int) : List Nat × Nat := if codeAt L x = 2 then (L.set x.toNat 4, 0) else if codeAt L x = 1 then (L.set x.toNat 3, 0) else (L, 171)
theorem SpOk.map {L : List Nat} (h : SpOk L) (g : Nat → Nat) (h0 : g 0 = 0) (hg : ∀ v, 1 ≤ v → v ≤ 4 → 1 ≤ g v ∧ g v ≤ 4) : SpOk (L.map g) := by
  have e : ∀ n, (L.map g).getD n 0 = g (L.getD n 0) := fun n => by
    rw [List.getD_eq_getElem?_getD, List.getD_eq_getElem?_getD, List.getElem?_map]
    cases L[n]? with
    | none => simp [h0]
    | some v => rfl
  refine ⟨by simpa using h.l2, by simpa using h.le, by rw [e, h.z0, h0], by rw [e, h.z1, h0], fun n h1 h2 => ?_⟩
  rw [List.length_map] at h2
  rw [e]
  exact hg _ (h.v n h1 h2).1 (h.v n h1 h2).2
theorem SpOk.lasts {L : List Nat} (h : SpOk L) : SpOk (spLasts L) := h.map _ rfl fun v h1 h2 => by
  split
  · omega
  · split <;> omega
theorem SpOk.take {L : List Nat} (h : SpOk L) {most : Nat} (hm : most ≤ 4096) (hl : L.length ≤ most) : SpOk (spTake most L).1 ∧ (spTake most L).1.length ≤ most := by
  unfold spTake
  split
  · rename_i x r hs
    have hx := spSel_in (x := x) (by rw [hs]; simp)
    have hz : codeAt L x ≠ 0 := fun h => by rw [h] at hx; simp at hx
    have := h.nz hz
    exact ⟨h.set (by omega) (by omega), by simpa using hl⟩
  · split
    · exact ⟨h, hl⟩
    · exact ⟨h.snoc (by omega), by simp; omega⟩
theorem SpOk.give {L : List Nat} (h : SpOk L) (x : Int) : SpOk (spGive L x).1 ∧ (spGive L x).1.length = L.length := by
  unfold spGive
  split
  · rename_i hc
    have := h.nz (x := x) (by omega)
    exact ⟨h.set (by omega) (by omega), by simp⟩
  · split
    · rename_i hc
      have := h.nz (x := x) (by omega)
      exact ⟨h.set (by omega) (by omega), by simp⟩
    · exact ⟨h, rfl⟩
/-- Two lists that are told alike are one. -/
theorem spF_inj {L M : List Nat} (hL : SpOk L) (hM : SpOk M) (hl : L.length = M.length) (h : spF L = spF M) : L = M := by
  refine ext_getD hl fun n hn => ?_
  have hx := congrFun h (n : Int)
  unfold spF at hx
  rw [codeAt_nat, codeAt_nat] at hx
  by_cases h2 : n < 2
  · have : n = 0 ∨ n = 1 := by omega
    rcases this with rfl | rfl
    · rw [hL.z0, hM.z0]
    · rw [hL.z1, hM.z1]
  · have h3 := hL.v n (by omega) hn
    have h4 := hM.v n (by omega) (by omega)
    split at hx <;> split at hx
    · omega
    · cases hx
    · cases hx
    · have hx := Option.some.inj hx
      injection hx with _ hx
      omega
end Go.Proofs.Ytanbdkfkkochgaa
