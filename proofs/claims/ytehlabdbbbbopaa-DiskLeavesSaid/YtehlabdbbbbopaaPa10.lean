/- Maps whose keys are integers of 64 bits, told key by key by a function. -/
import Derived.Test.YtehlabdbbbbopaaPa9
import Derived.Maps.OwnSet
import Derived.Maps.Ext
import Derived.Lib.SlKeysI

namespace Go.Proofs.Ytehlabdbbbbopaa
open Go.RowKit Go.Maps

/-- What a datum is, key by key. -/
structure Tells (D : DataW Value) (f : Int → Option Value) : Prop where
  at_ : ∀ x v, f x = some v → ∀ zd, D.atKey (.int .i64 x) zd = .held v
  no : ∀ x, f x = none → ∀ zd, D.atKey (.int .i64 x) zd = zd
theorem Tells.has {D : DataW Value} {f : Int → Option Value} (h : Tells D f) (x : Int) : Maps.has D (.int .i64 x) = (f x).isSome := by
  cases hf : f x with
  | none => exact has_false_of_atKey (h.no x hf)
  | some v => exact has_true_of_atKey (h.at_ x v hf)
/-- Another value at a key. -/
def upd (f : Int → Option Value) (x : Int) (o : Option Value) : Int → Option Value := fun y => if y = x then o else f y
theorem upd_same (f : Int → Option Value) (x : Int) (o : Option Value) : upd f x o x = o := if_pos rfl
theorem upd_other {f : Int → Option Value} {x y : Int} (o : Option Value) (h : y ≠ x) : upd f x o y = f y := if_neg h
theorem isKey_int (x : Int) : WideAt.IsKeyLit (.int .i64 x) := by first | trivial | exact rfl | simp [WideAt.IsKeyLit]
theorem Tells.put {D : DataW Value} {f : Int → Option Value} (h : Tells D f) (hD : IsMap D) (x : Int) (v : Value) : Tells (D.put (.int .i64 x) (.held v)) (upd f x (some v)) := by
  refine ⟨fun y u hy zd => ?_, fun y hy zd => ?_⟩
  · by_cases e : y = x
    · subst e
      rw [upd_same] at hy
      obtain rfl := Option.some.inj hy
      exact atKey_put_same hD (isKey_int y) _ _
    · rw [upd_other _ e] at hy
      rw [atKey_put_other (by simpa using e)]
      exact h.at_ y u hy zd
  · by_cases e : y = x
    · subst e
      rw [upd_same] at hy
      cases hy
    · rw [upd_other _ e] at hy
      rw [atKey_put_other (by simpa using e)]
      exact h.no y hy zd
theorem Tells.del {D : DataW Value} {f : Int → Option Value} (h : Tells D f) (x : Int) : Tells (D.del (.int .i64 x)) (upd f x none) := by
  refine ⟨fun y u hy zd => ?_, fun y hy zd => ?_⟩
  · by_cases e : y = x
    · subst e
      rw [upd_same] at hy
      cases hy
    · rw [upd_other _ e] at hy
      rw [atKey_del_other (by simpa using e)]
      exact h.at_ y u hy zd
  · by_cases e : y = x
    · subst e
      exact atKey_del_same _
    · rw [upd_other _ e] at hy
      rw [atKey_del_other (by simpa using e)]
      exact h.no y hy zd
theorem wf_i64' {x : Int} (h1 : -9223372036854775808 ≤ x) (h2 : x ≤ 9223372036854775807) : (Lit.int .i64 x).wf = true := WalkArith.wf_i64 (by omega)
theorem nodup_le : ∀ (l ks : List Int), l.Nodup → (∀ x ∈ l, x ∈ ks) → l.length ≤ ks.length
  | [], ks, _, _ => by simp
  | a :: l, ks, hn, hs => by
    obtain ⟨h1, h2⟩ := List.nodup_cons.1 hn
    have := nodup_le l (ks.erase a) h2 fun x hx => (List.mem_erase_of_ne (fun e => h1 (by rw [← e]; exact hx))).2 (hs x (by simp [hx]))
    rw [List.length_erase_of_mem (hs a (by simp))] at this
    have := List.length_pos_of_mem (hs a (by simp))
    simp only [List.length_cons]
    omega

section
variable {P : Program} {k e t : TypeId} {w w' : World} {b n : Nat} {f : Int → Option Value}
/-- Block b is a map that f tells. -/
def IMap (w : World) (P : Program) (k : TypeId) (b : Nat) (f : Int → Option Value) : Prop := ∃ D : DataW Value, HMap w P k b (Maps.size D) D ∧ Tells D f
theorem HMap.tight {D : DataW Value} (h : HMap w P k b n D) : HMap w P k b (Maps.size D) D := by
  obtain ⟨es, clock, hb, F, _, rfl⟩ := h
  exact ⟨es, clock, hb, F, by simp [Maps.size, length_sorted], rfl⟩
theorem IMap.keep {S : List Nat} (h : IMap w P k b f) (hk : Keeps w w' S) (hb : b ∉ S) : IMap w' P k b f := by
  obtain ⟨D, h1, h2⟩ := h
  exact ⟨D, h1.keep hk hb, h2⟩
theorem IMap.lt (h : IMap w P k b f) : b < w.heap.size := by
  obtain ⟨D, h1, _⟩ := h
  exact World.ownsMap.lt h1
theorem IMap.congr {g : Int → Option Value} (h : IMap w P k b f) (hg : ∀ x, f x = g x) : IMap w P k b g := by
  have : f = g := funext hg
  exact this ▸ h
/-- As many entries as keys at most. -/
theorem IMap.size {D : DataW Value} (hk : P.underlying k = some (.int .i64)) (h : HMap w P k b n D) (hT : Tells D f) {ks : List Int} (hs : ∀ x, f x ≠ none → x ∈ ks) : Maps.size D ≤ ks.length := by
  obtain ⟨es, hD, hpw, _⟩ := World.ownsMap.entries h (int_keyed hk)
  obtain ⟨es', hD', hko⟩ := World.ownsMap.keysOf h
  obtain rfl : es = es' := by rw [hD] at hD'; simpa using hD'
  have hint : ∀ p ∈ es, ∃ x, p.1 = .int .i64 x := fun p hp => by
    obtain ⟨v, hv⟩ := hko p hp
    obtain ⟨x, _, hx, _⟩ := Maps.keyOf_int_inv hk hv
    exact ⟨x, hx⟩
  have h1 : (intKeys (.map es : DataW Value)).Nodup := by
    show (es.map fun p => _).Nodup
    refine List.pairwise_map.2 (hpw.imp_of_mem fun {p q} hp' hq' hne e => hne ?_)
    obtain ⟨a, ha⟩ := hint p hp'
    obtain ⟨c, hc⟩ := hint q hq'
    rw [ha, hc] at e ⊢
    exact congrArg _ e
  have h2 : Maps.size D = (intKeys (.map es : DataW Value)).length := by
    rw [hD]
    show es.length = (es.map _).length
    simp
  rw [h2]
  refine nodup_le _ _ h1 fun x hx => hs x fun hf => ?_
  have h3 : x ∈ es.map fun p => _ := hx
  obtain ⟨p, hp, hpx⟩ := List.mem_map.1 h3
  obtain ⟨a, ha⟩ := hint p hp
  rw [ha] at hpx
  have h4 : Maps.has D (.int .i64 x) = true := by
    rw [hD, has_eq, List.any_eq_true]
    refine ⟨p, hp, ?_⟩
    rw [ha]
    have : a = x := hpx
    rw [this]
    simp [Lit.sameKey]
  rw [hT.has x, hf] at h4
  cases h4
theorem IMap.look (h : IMap w P k b f) (hk : P.underlying k = some (.int .i64)) (ht : P.underlying t = some (.map k e)) {z : Value} (hz : (zeroValue e).run P w = .ok z w) {x : Int} (h1 : -9223372036854775808 ≤ x) (h2 : x ≤ 9223372036854775807) (c : Bool) :
    (Instr.lookup t (.map (some b)) (.int .i64 x) c).run P w = .ok (if c then .tuple #[(f x).getD z, .bool (f x).isSome] else (f x).getD z) w := by
  obtain ⟨D, hD, hT⟩ := h
  have hkey : keyOf P k (.int .i64 x) = some (.int .i64 x) := keyOf_int_mk hk (wf_i64' h1 h2)
  cases hf : f x with
  | none => exact hD.missing (int_keyed hk) ht hz hkey (hT.no x hf) c
  | some v => exact hD.there (int_keyed hk) ht hz hkey (hT.at_ x v hf) c
/-- A store. -/
theorem IMap.store (h : IMap w P k b f) (hk : P.underlying k = some (.int .i64)) (ht : P.underlying t = some (.map k e)) {ks : List Int} (hs : ∀ x, f x ≠ none → x ∈ ks) (hl : ks.length < maxLen) {x : Int} (h1 : -9223372036854775808 ≤ x) (h2 : x ≤ 9223372036854775807) (v : Value) :
    ∃ w', (Instr.mapUpdate t (.map (some b)) (.int .i64 x) v).run P w = .ok () w' ∧ IMap w' P k b (upd f x (some v)) ∧ Keeps w w' [b] ∧ w.mapTurned w' b := by
  obtain ⟨D, hD, hT⟩ := h
  have hkey : keyOf P k (.int .i64 x) = some (.int .i64 x) := keyOf_int_mk hk (wf_i64' h1 h2)
  have hsz := IMap.size hk hD hT hs
  obtain ⟨w', g1, g2, g3⟩ := World.ownsMap.store (R := heldR) hD (int_keyed hk) ht (by omega) hkey (d := .held v) (ps := []) rfl
  refine ⟨w', g1, ⟨_, HMap.tight g2, hT.put (World.ownsMap.isMap hD) x v⟩, ?_, g3⟩
  exact Keeps.of_grown (row := some b) g3.grown
theorem IMap.drop (h : IMap w P k b f) (hk : P.underlying k = some (.int .i64)) (ht : P.underlying t = some (.map k e)) {x : Int} (h1 : -9223372036854775808 ≤ x) (h2 : x ≤ 9223372036854775807) (ty : TypeId) :
    ∃ w', (Builtin.delete_ #[t, k] ty #[.map (some b), .int .i64 x]).run P w = .ok (.tuple #[]) w' ∧ IMap w' P k b (upd f x none) ∧ Keeps w w' [b] ∧ w.mapTurned w' b := by
  obtain ⟨D, hD, hT⟩ := h
  have hkey : keyOf P k (.int .i64 x) = some (.int .i64 x) := keyOf_int_mk hk (wf_i64' h1 h2)
  obtain ⟨w', g1, g2, g3⟩ := World.ownsMap.drop (R := heldR) hD (int_keyed hk) ht hkey ty
  exact ⟨w', g1, ⟨_, HMap.tight g2, hT.del x⟩, Keeps.of_grown (row := some b) g3.grown, g3⟩
theorem IMap.made (w : World) (P : Program) (k : TypeId) : IMap (w.alloc (.map #[] 0)) P k w.heap.size fun _ => none :=
  ⟨.map [], World.ownsMap_made w P k heldR, ⟨(fun _ _ h => by cases h), fun _ _ _ => rfl⟩⟩
/-- A copy of the block is the same map. -/
theorem IMap.copied (h : IMap w P k b f) {b' : Nat} (hc : w'.heap[b']? = w.heap[b]?) : IMap w' P k b' f := by
  obtain ⟨D, ⟨es, clock, hb, F, hs, hD⟩, hT⟩ := h
  exact ⟨D, ⟨es, clock, hc.trans hb, F, hs, hD⟩, hT⟩
end
end Go.Proofs.Ytehlabdbbbbopaa
