/- A region that draws its order, of which one operation may write what lay: each operation met once; the last ones may stand in a row. A region of which one operation writes block K, the last ones in a row: in words for the walk. A region with one call that writes, and a store of what it hands back into a box made in that region. -/
import Derived.Test.YtanbdkfkkochgaaPa11

namespace Go.Proofs.Ytanbdkfkkochgaa
open Go.RowKit

section
variable (P : Program) (R R1 : World → World → Prop) (d : Tmp) (w0 : World) (ops : Array Oper) (vals : Tmp → Value)
def relS (t : Option Tmp) : World → World → Prop := if t = some d then R1 else R
def knowsS (rs : List Tmp) (W : World) : List Ent → Prop
  | [] => True
  | ⟨_, some _, _, _⟩ :: l => knowsS rs W l
  | ⟨none, none, _, _⟩ :: l => knowsS rs W l
  | ⟨some t, none, rd, φ⟩ :: l => (t ∈ rs → ∃ W0, R w0 W0 ∧ relS R R1 d (some t) W0 W ∧ φ (rd.map vals) (vals t) W0) ∧ knowsS rs W l

def knowsAllS (W : World) : List Ent → Prop
  | [] => True
  | ⟨_, some _, _, _⟩ :: l => knowsAllS W l
  | ⟨none, none, rd, φ⟩ :: l => (∃ u W0, R w0 W0 ∧ R W0 W ∧ φ (rd.map vals) u W0) ∧ knowsAllS W l
  | ⟨some t, none, rd, φ⟩ :: l => (∃ W0, R w0 W0 ∧ relS R R1 d (some t) W0 W ∧ φ (rd.map vals) (vals t) W0) ∧ knowsAllS W l

def wpLooseS (a0 : Act) (Q : List Ent → Prop) : List Oper → List Ent → Prop
  | [], env => Q env
  | o :: rest, env => ∃ c rd φ, (∀ t ∈ rd, waitsB ops o t = true) ∧ (∀ W vals, R w0 W → (o.dst = some d → R1 w0 W) → knowsS R R1 d w0 vals (o.looksAt ops) W env → opOk P (if o.dst = some d then R else R1) ops (fill vals env a0) o (entOf c (φ (rd.map vals))) W) ∧ wpLooseS a0 Q rest (addEnt o.dst c rd φ env)
end

section
variable {P : Program} {R R1 : World → World → Prop} {d : Tmp} {w0 : World} {ops : Array Oper} {vals : Tmp → Value}
/-- The lexical walk's findings, told by number. -/
theorem wpLooseS_table {a0 : Act} {Q : List Ent → Prop} : ∀ (l : List Oper) (env : List Ent), wpLooseS P R R1 d w0 ops a0 Q l env →
    ∃ (E : Nat → List Ent) (c : Nat → Option Value) (rd : Nat → List Tmp) (φ : Nat → List Value → Value → World → Prop), E 0 = env ∧
      (∀ k o, l[k]? = some o → E (k + 1) = addEnt o.dst (c k) (rd k) (φ k) (E k) ∧ (∀ t ∈ rd k, waitsB ops o t = true) ∧ ∀ W vals, R w0 W → (o.dst = some d → R1 w0 W) → knowsS R R1 d w0 vals (o.looksAt ops) W (E k) → opOk P (if o.dst = some d then R else R1) ops (fill vals (E k) a0) o (entOf (c k) (φ k ((rd k).map vals))) W) ∧ Q (E l.length)
  | [], env, h => ⟨fun _ => env, fun _ => none, fun _ => [], fun _ _ _ _ => True, rfl, fun k o ho => by simp at ho, h⟩
  | o :: rest, env, h => by
    obtain ⟨c, rd, φ, h0, h1, h2⟩ := h
    obtain ⟨E, c', rd', φ', e0, hs, hq⟩ := wpLooseS_table rest _ h2
    refine ⟨fun | 0 => env | k + 1 => E k, fun | 0 => c | k + 1 => c' k, fun | 0 => rd | k + 1 => rd' k, fun | 0 => φ | k + 1 => φ' k, rfl, ?_, hq⟩
    intro k o' ho'
    cases k with
    | zero =>
      simp only [List.getElem?_cons_zero, Option.some.injEq] at ho'
      subst ho'
      exact ⟨e0, h0, h1⟩
    | succ k => exact hs k o' (by simpa using ho')

theorem knowsS_table {E : Nat → List Ent} {c : Nat → Option Value} {rd : Nat → List Tmp} {φ : Nat → List Value → Value → World → Prop} (e0 : E 0 = []) {W : World}
    (hs : ∀ k o, ops[k]? = some o → E (k + 1) = addEnt o.dst (c k) (rd k) (φ k) (E k)) (rs : List Tmp) : ∀ k, k ≤ ops.size → (∀ j o t, j < k → ops[j]? = some o → o.dst = some t → t ∈ rs → c j = none → ∃ W0, R w0 W0 ∧ relS R R1 d (some t) W0 W ∧ φ j ((rd j).map vals) (vals t) W0) → knowsS R R1 d w0 vals rs W (E k)
  | 0, _, _ => by rw [e0]; trivial
  | k + 1, hk, h => by
    have ih := knowsS_table e0 hs rs k (by omega) (fun j o t hj => h j o t (by omega))
    have hok : ops[k]? = some ops[k] := Array.getElem?_eq_getElem (by omega)
    rw [hs k _ hok]
    unfold addEnt
    cases hdk : ops[k].dst with
    | none => cases hc : c k <;> exact ih
    | some d' =>
      cases hc : c k with
      | some v => exact ih
      | none => exact ⟨fun hm => h k _ d' (by omega) hok hdk hm hc, ih⟩
theorem knowsAllS_table {E : Nat → List Ent} {c : Nat → Option Value} {rd : Nat → List Tmp} {φ : Nat → List Value → Value → World → Prop} (e0 : E 0 = []) {W : World}
    (hs : ∀ k o, ops[k]? = some o → E (k + 1) = addEnt o.dst (c k) (rd k) (φ k) (E k)) : ∀ k, k ≤ ops.size → (∀ j o t, j < k → ops[j]? = some o → o.dst = some t → c j = none → ∃ W0, R w0 W0 ∧ relS R R1 d (some t) W0 W ∧ φ j ((rd j).map vals) (vals t) W0) →
    (∀ j o, j < k → ops[j]? = some o → o.dst = none → c j = none → ∃ u W0, R w0 W0 ∧ R W0 W ∧ φ j ((rd j).map vals) u W0) → knowsAllS R R1 d w0 vals W (E k)
  | 0, _, _, _ => by rw [e0]; trivial
  | k + 1, hk, h, hn => by
    have ih := knowsAllS_table e0 hs k (by omega) (fun j o t hj => h j o t (by omega)) (fun j o hj => hn j o (by omega))
    have hok : ops[k]? = some ops[k] := Array.getElem?_eq_getElem (by omega)
    rw [hs k _ hok]
    unfold addEnt
    cases hdk : ops[k].dst with
    | none =>
      cases hc : c k with
      | some v => exact ih
      | none => exact ⟨hn k _ (by omega) hok hdk hc, ih⟩
    | some d' =>
      cases hc : c k with
      | some v => exact ih
      | none => exact ⟨h k _ d' (by omega) hok hdk hc, ih⟩

/-- What stands while the region runs. -/
structure LooseInvS (R R1 : World → World → Prop) (ds : Tmp) (w0 : World) (ops : Array Oper) (a0 : Act) (c : Nat → Option Value) (rd : Nat → List Tmp) (φ : Nat → List Value → Value → World → Prop) (listed : Array Bool) (a : Act) (W : World) : Prop where
  world : R w0 W
  world1 : (∀ k o, ops[k]? = some o → o.dst = some ds → listed.getD k false = false) → R1 w0 W
  defers : a.defers = a0.defers
  size : a.tmps.size = a0.tmps.size
  lsize : listed.size = ops.size
  off : ∀ t, (∀ k o, ops[k]? = some o → o.dst = some t → listed.getD k false = false) → a.tmps[t]? = a0.tmps[t]?
  on : ∀ k o d, ops[k]? = some o → o.dst = some d → listed.getD k false = true → ∃ v, a.tmps[d]? = some v ∧ ∃ W0, R w0 W0 ∧ relS R R1 ds (some d) W0 W ∧ entOf (c k) (φ k ((rd k).map fun t => a.tmps.getD t undef)) v W0
  onn : ∀ k o, ops[k]? = some o → o.dst = none → listed.getD k false = true → ∃ u W0, R w0 W0 ∧ R W0 W ∧ entOf (c k) (φ k ((rd k).map fun t => a.tmps.getD t undef)) u W0
  dep : ∀ k o, ops[k]? = some o → listed.getD k false = true → ∀ e ∈ o.after, Region.binds .any e = true → listed.getD e.on false = true

theorem looseInvS_next {n : Nat} {a0 : Act} {c : Nat → Option Value} {rd : Nat → List Tmp} {φ : Nat → List Value → Value → World → Prop} {listed : Array Bool} {a : Act} {W W' : World} {ds : Tmp} (htr : ∀ x y z, R x y → R y z → R x z) (hrf1 : ∀ x, R1 x x) (htr1 : ∀ x y z, R1 x y → R1 y z → R1 x z) (h1R : ∀ x y, R1 x y → R x y)
    (hB : looseB n ops = true) (hrd : ∀ k o, ops[k]? = some o → ∀ t ∈ rd k, waitsB ops o t = true) (hn : a0.tmps.size = n) (hI : LooseInvS R R1 ds w0 ops a0 c rd φ listed a W) {i : Nat} {o : Oper} (ho : ops[i]? = some o) (hl : listed.getD i true = false) (hall : ∀ e ∈ o.after, Region.binds .any e = true → listed.getD e.on false = true) (v : Value) (hRS : (if o.dst = some ds then R else R1) W W') (hv : entOf (c i) (φ i ((rd i).map fun t => a.tmps.getD t undef)) v W') :
    LooseInvS R R1 ds w0 ops a0 c rd φ (listed.setIfInBounds i true) (a.put o.dst v) W' := by
  obtain ⟨_, b1, b2, b3, b4⟩ := looseB_spec hB
  have hil : listed.getD i false = false := by
    have hi := (unlisted_set hl).2
    simpa [hi] using hl
  -- what an operation that is listed reads stays
  have keep : ∀ k o', ops[k]? = some o' → (k = i ∨ listed.getD k false = true) → ((rd k).map fun t => (a.put o.dst v).tmps.getD t undef) = (rd k).map fun t => a.tmps.getD t undef := by
    intro k o' ho' hk
    refine List.map_congr_left fun t ht => ?_
    replace ht := hrd k o' ho' t ht
    cases hd : o.dst with
    | none => rfl
    | some d =>
      have hne : d ≠ t := by
        rintro rfl
        obtain ⟨e, he, hb, hon⟩ := waitsB_spec ht ho hd
        rcases hk with rfl | hk
        · rw [ho] at ho'
          injection ho' with ho'
          subst ho'
          have := hall e he hb
          rw [hon, hil] at this
          cases this
        · have := hI.dep k o' ho' hk e he hb
          rw [hon, hil] at this
          cases this
      have := put_get_ne (a := a) (v := v) hne
      simp only [Array.getD_eq_getD_getElem?, this]
  have hR : R W W' := by
    split at hRS
    · exact hRS
    · exact h1R _ _ hRS
  have step : ∀ (k : Nat) (o' : Oper) (t : Tmp) (W0 : World), i ≠ k → ops[k]? = some o' → o'.dst = some t → relS R R1 ds (some t) W0 W → relS R R1 ds (some t) W0 W' := by
    intro k o' t W0 hki ho' hd' hr
    unfold relS at hr ⊢
    by_cases ht : some t = some ds
    · rw [if_pos ht] at hr ⊢
      have hne : o.dst ≠ some ds := fun hd => hki (b2 i k o o' ds ho ho' hd (hd'.trans ht))
      rw [if_neg hne] at hRS
      exact htr1 _ _ _ hr hRS
    · rw [if_neg ht] at hr ⊢
      exact htr _ _ _ hr hR
  have refl0 : ∀ t : Tmp, relS R R1 ds (some t) W' W' := by
    intro t
    unfold relS
    split
    · exact hrf1 _
    · exact h1R _ _ (hrf1 _)
  refine ⟨htr _ _ _ hI.world hR, ?_, by rw [put_defs, hI.defers], by rw [put_size, hI.size], by simp [hI.lsize], ?_, ?_, ?_, ?_⟩
  · intro hun
    have hne : o.dst ≠ some ds := fun hd => by
      have := hun i o ho hd
      have hi := (unlisted_set hl).2
      simp [hi] at this
    rw [if_neg hne] at hRS
    refine htr1 _ _ _ (hI.world1 fun k o' ho' hd' => ?_) hRS
    have hki : i ≠ k := fun e => by subst e; rw [ho] at ho'; injection ho' with ho'; subst ho'; exact hne hd'
    have := hun k o' ho' hd'
    rwa [getD_set_ne _ hki] at this
  · intro t h
    have hne : o.dst ≠ some t := fun hd => by
      have := h i o ho hd
      have hi := (unlisted_set hl).2
      simp [hi] at this
    have e : (a.put o.dst v).tmps[t]? = a.tmps[t]? := by
      cases hd : o.dst with
      | none => rfl
      | some d => exact put_get_ne (fun e => hne (by rw [hd, e]))
    rw [e]
    refine hI.off t (fun k o' ho' hd' => ?_)
    have := h k o' ho' hd'
    have hki : i ≠ k := fun e => by subst e; rw [ho] at ho'; injection ho' with ho'; subst ho'; exact hne hd'
    rwa [getD_set_ne _ hki] at this
  · intro k o' d ho' hd' hk
    by_cases hki : i = k
    · subst hki
      rw [ho] at ho'
      injection ho' with ho'
      subst ho'
      rw [keep i o ho (.inl rfl)]
      rw [hd']
      exact ⟨v, put_get_eq (by rw [hI.size, hn]; exact b1 i o d ho hd'), W', htr _ _ _ hI.world hR, refl0 _, hv⟩
    · rw [getD_set_ne _ hki] at hk
      obtain ⟨u, hu, W0, h1, h2, h3⟩ := hI.on k o' d ho' hd' hk
      rw [keep k o' ho' (.inr hk)]
      refine ⟨u, ?_, W0, h1, step k o' d W0 hki ho' hd' h2, h3⟩
      cases hd : o.dst with
      | none => exact hu
      | some d2 =>
        rw [put_get_ne (fun e => hki (b2 i k o o' d ho ho' (by rw [hd, e]) hd'))]
        exact hu
  · intro k o' ho' hd' hk
    by_cases hki : i = k
    · subst hki
      rw [ho] at ho'
      injection ho' with ho'
      subst ho'
      rw [keep i o ho (.inl rfl)]
      exact ⟨v, W', htr _ _ _ hI.world hR, h1R _ _ (hrf1 _), hv⟩
    · rw [getD_set_ne _ hki] at hk
      obtain ⟨u, W0, h1, h2, h3⟩ := hI.onn k o' ho' hd' hk
      rw [keep k o' ho' (.inr hk)]
      exact ⟨u, W0, h1, htr _ _ _ h2 hR, h3⟩
  · intro k o' ho' hk e he hb
    have hmono : ∀ m, listed.getD m false = true → (listed.setIfInBounds i true).getD m false = true := by
      intro m hm
      by_cases hmi : i = m
      · subst hmi
        rw [hil] at hm
        cases hm
      · rw [getD_set_ne _ hmi]; exact hm
    by_cases hki : i = k
    · subst hki
      rw [ho] at ho'
      injection ho' with ho'
      subst ho'
      exact hmono _ (hall e he hb)
    · rw [getD_set_ne _ hki] at hk
      exact hmono _ (hI.dep k o' ho' hk e he hb)

theorem loose_tail_soundS {ds : Tmp} {n n0 : Nat} {lt : List Oper} {a0 : Act} {c : Nat → Option Value} {rd : Nat → List Tmp} {φ : Nat → List Value → Value → World → Prop} {E : Nat → List Ent} {Q : Exit → Act → World → Prop} (htr : ∀ x y z, R x y → R y z → R x z) (hrf1 : ∀ x, R1 x x) (htr1 : ∀ x y z, R1 x y → R1 y z → R1 x z) (h1R : ∀ x y, R1 x y → R x y)
    (hB : looseB n ops = true) (hsk : Region.sinkB .any ops n0 = true) (hch : Region.chainB .any ops n0 = true) (hn0 : n0 < ops.size) (hlt : ∀ j, lt[j]? = ops[n0 + j]?)
    (hsq : Region.seqB .any ops lt.length n0 ((Array.range ops.size).map fun k => decide (k < n0)) = true) (hul : unlisted ((Array.range ops.size).map fun k => decide (k < n0)) = lt.length) (hn : a0.tmps.size = n) (e0 : E 0 = [])
    (hs : ∀ k o, ops[k]? = some o → E (k + 1) = addEnt o.dst (c k) (rd k) (φ k) (E k) ∧ (∀ t ∈ rd k, waitsB ops o t = true) ∧ (k < n0 → ∀ W vals, R w0 W → (o.dst = some ds → R1 w0 W) → knowsS R R1 ds w0 vals (o.looksAt ops) W (E k) → opOk P (if o.dst = some ds then R else R1) ops (fill vals (E k) a0) o (entOf (c k) (φ k ((rd k).map vals))) W))
    (hq : ∀ W vals, R w0 W → knowsAllS R R1 ds w0 vals W (E n0) → wpList P ops Q lt (fill vals (E n0) a0) W) :
    ∀ (fuel : Nat) (listed : Array Bool) (a : Act) (W : World), unlisted listed = fuel → (∀ t, n0 ≤ t → t < ops.size → listed.getD t true = false) → LooseInvS R R1 ds w0 ops a0 c rd φ listed a W → wpAny P .any ops Q fuel listed a W := by
  obtain ⟨b0, b1, b2, b3, b4⟩ := looseB_spec hB
  have hs1 := fun k o ho => (hs k o ho).1
  have hrd := fun k o ho => (hs k o ho).2.1
  have fin : ∀ (listed : Array Bool) (a : Act) (W : World), LooseInvS R R1 ds w0 ops a0 c rd φ listed a W → (∀ t, n0 ≤ t → t < ops.size → listed.getD t true = false) → (∀ k, k < n0 → listed.getD k false = true) → wpAny P .any ops Q (unlisted listed) listed a W := by
    intro listed a W hI htl hall
    have hle : listed = (Array.range ops.size).map fun k => decide (k < n0) := by
      refine Array.ext (by simp [hI.lsize]) fun k h1 h2 => ?_
      have hk : k < ops.size := by rw [← hI.lsize]; exact h1
      simp only [Array.getElem_map, Array.getElem_range]
      by_cases hkn : k < n0
      · have := hall k hkn
        simp [h1] at this
        rw [this]
        simp [hkn]
      · have := htl k (by omega) hk
        simp [h1] at this
        rw [this]
        simp [hkn]
    have hq := hq W (fun t => a.tmps.getD t undef) hI.world (knowsAllS_table e0 hs1 n0 (by omega) (fun j o t hj ho hd hc => by
      obtain ⟨v, hv, W0, h1, h2, h3⟩ := hI.on j o t ho hd (hall j hj)
      refine ⟨W0, h1, h2, ?_⟩
      have : a.tmps.getD t undef = v := by simp [hv]
      show φ j _ (a.tmps.getD t undef) W0
      rw [this]
      simpa [entOf, hc] using h3) (fun j o hj ho hd hc => by
      obtain ⟨u, W0, h1, h2, h3⟩ := hI.onn j o ho hd (hall j hj)
      exact ⟨u, W0, h1, h2, by simpa [entOf, hc] using h3⟩))
    have hea : fill (fun t => a.tmps.getD t undef) (E n0) a0 = a := by
      obtain ⟨s1, s2⟩ := fill_size (vals := fun t => a.tmps.getD t undef) (E n0) a0
      have ht : (fill (fun t => a.tmps.getD t undef) (E n0) a0).tmps = a.tmps := by
        refine Array.ext_getElem? fun t => ?_
        by_cases hd : ∃ (k : Nat) (o : Oper), k < n0 ∧ ops[k]? = some o ∧ o.dst = some t
        · obtain ⟨k, o, hk, ho, hd⟩ := hd
          rw [fill_near a0 hs1 b2 t (by rw [hn]; exact b1 k o t ho hd) k o ho hd n0 (by omega) hk]
          obtain ⟨v, hv, W0, _, _, h3⟩ := hI.on k o t ho hd (hall k hk)
          rw [hv]
          cases hc : c k with
          | none => simp [hv]
          | some u => simp [entOf, hc] at h3; simp [h3]
        · rw [fill_far a0 e0 hs1 t n0 (by omega) (fun j o hj ho hdd => hd ⟨j, o, hj, ho, hdd⟩)]
          refine (hI.off t (fun k o ho hdd => ?_)).symm
          have hk : n0 ≤ k := by
            rcases Nat.lt_or_ge k n0 with h | h
            · exact absurd ⟨k, o, h, ho, hdd⟩ hd
            · exact h
          exact getD_both (htl k hk (Array.getElem?_eq_some_iff.1 ho).1)
      have hd' : (fill (fun t => a.tmps.getD t undef) (E n0) a0).defers = a.defers := by rw [s2, hI.defers]
      generalize fill (fun t => a.tmps.getD t undef) (E n0) a0 = b at *
      obtain ⟨bt, bd⟩ := b
      obtain ⟨at_, ad⟩ := a
      simp only at ht hd'
      rw [ht, hd']
    rw [hea] at hq
    rw [hle, hul]
    exact wpAny_of_seq lt n0 _ a W hlt hsq hq
  intro fuel
  induction fuel with
  | zero =>
    intro listed a W hu htl hI
    rw [← hu]
    refine fin listed a W hI htl fun k hk => ?_
    cases hl : listed.getD k false with
    | true => rfl
    | false =>
      have hl' : listed.getD k true = false := by
        have : k < listed.size := by rw [hI.lsize]; omega
        simpa [this] using hl
      have := (unlisted_set hl').1
      omega
  | succ fuel ih =>
    intro listed a W hu htl hI
    by_cases hpre : ∀ k, k < n0 → listed.getD k false = true
    · rw [← hu]
      exact fin listed a W hI htl hpre
    have hex : ∃ k, k < n0 ∧ listed.getD k false = false := by
      simp only [Classical.not_forall] at hpre
      obtain ⟨k, hk, h⟩ := hpre
      exact ⟨k, hk, by simpa using h⟩
    have inv : HeadInv .any ops n0 listed := ⟨hI.lsize, hI.dep, htl⟩
    refine ⟨fun hr => ?_, fun i hi => ?_⟩
    · exfalso
      have hall : ∀ m k, k < m → k < n0 → listed.getD k false = true := by
        intro m
        induction m with
        | zero => intro k h; omega
        | succ m ih =>
          intro k hk hks
          cases hl : listed.getD k false with
          | true => rfl
          | false =>
            exfalso
            have ho : ops[k]? = some (ops[k]'(by omega)) := Array.getElem?_eq_getElem (by omega)
            have hl' : listed.getD k true = false := by
              have : k < listed.size := by rw [hI.lsize]; omega
              simpa [this] using hl
            have : k ∈ Region.ready .any ops listed := mem_ready.2 ⟨hl', _, ho, fun e he hb => by
              have hlt := b3 k _ ho e he hb
              exact ih e.on (by omega) (by omega)⟩
            rw [hr] at this
            cases this
      obtain ⟨k, hk, h⟩ := hex
      rw [hall (k + 1) k (by omega) hk] at h
      cases h
    obtain ⟨hl, o, ho, hall⟩ := mem_ready.1 hi
    have hin : i < n0 := by
      rcases Nat.lt_or_ge i n0 with h | h
      · exact h
      · exfalso
        obtain ⟨k, hk, hkl⟩ := hex
        exact tail_waits hsk hch hn0 inv (n0 - k) k rfl hk (getD_in (by rw [hI.lsize]; omega) hkl) i h hi
    have hus := (unlisted_set hl).1
    have hi' : i < ops.size := (Array.getElem?_eq_some_iff.1 ho).1
    have hop := (hs i o ho).2.2 hin W (fun t => a.tmps.getD t undef) hI.world (fun hds => hI.world1 fun k o' ho' hd' => by
      obtain rfl := b2 k i o' o ds ho' ho hd' hds
      have hi := (unlisted_set hl).2
      simpa [hi] using hl) (knowsS_table e0 hs1 (o.looksAt ops) i (by omega) (fun j o' t hj ho' hd ht hc => by
      obtain ⟨_, e, he, hb, hon⟩ := (b4 i o t j o' ho ht ho' hd).resolve_right (fun h => absurd h.1 (by omega))
      obtain ⟨v, hv, W0, h1, h2, h3⟩ := hI.on j o' t ho' hd (hon ▸ hall e he hb)
      refine ⟨W0, h1, h2, ?_⟩
      have : a.tmps.getD t undef = v := by simp [hv]
      show φ j _ (a.tmps.getD t undef) W0
      rw [this]
      simpa [entOf, hc] using h3))
    have hop := opOk_congr (a' := a) (Region.noSelect_spec b0 i o · · ho) (fun t ht => by
      by_cases hd : ∃ (k : Nat) (o' : Oper), ops[k]? = some o' ∧ o'.dst = some t
      · obtain ⟨k, o', ho', hd⟩ := hd
        rcases b4 i o t k o' ho ht ho' hd with ⟨hk, e, he, hb, hon⟩ | ⟨hk, e, he, hb, hon⟩
        case inr =>
          rw [fill_far a0 e0 hs1 t i (by omega) (fun j o2 hj ho2 hdd => by have := b2 j k o2 o' t ho2 ho' hdd hd; omega)]
          refine (hI.off t (fun k2 o2 ho2 hdd => ?_)).symm
          obtain rfl := b2 k2 k o2 o' t ho2 ho' hdd hd
          cases hlk : listed.getD k2 false with
          | false => rfl
          | true =>
            have := hI.dep k2 o' ho' hlk e he hb
            rw [hon] at this
            have hil : listed.getD i false = false := by
              have hi := (unlisted_set hl).2
              simpa [hi] using hl
            rw [hil] at this
            cases this
        rw [fill_near a0 hs1 b2 t (by rw [hn]; exact b1 k o' t ho' hd) k o' ho' hd i (by omega) hk]
        obtain ⟨v, hv, W0, _, _, h3⟩ := hI.on k o' t ho' hd (hon ▸ hall e he hb)
        rw [hv]
        cases hc : c k with
        | none => simp [hv]
        | some u => simp [entOf, hc] at h3; simp [h3]
      · rw [fill_far a0 e0 hs1 t i (by omega) (fun j o' _ ho' hdd => hd ⟨j, o', ho', hdd⟩)]
        exact (hI.off t (fun k o' ho' hdd => absurd ⟨k, o', ho', hdd⟩ hd)).symm) hop
    have next : ∀ v W', (if o.dst = some ds then R else R1) W W' → entOf (c i) (φ i ((rd i).map fun t => a.tmps.getD t undef)) v W' → wpAny P .any ops Q fuel (listed.setIfInBounds i true) (a.put o.dst v) W' := fun v W' hR hv =>
      ih _ _ _ (by omega) (fun t ht ht' => by rw [getD_set_ne true (by omega)]; exact htl t ht ht') (looseInvS_next htr hrf1 htr1 h1R hB hrd hn hI ho hl hall v hR hv)
    have tr : ∀ x y z, (if o.dst = some ds then R else R1) x y → (if o.dst = some ds then R else R1) y z → (if o.dst = some ds then R else R1) x z := by
      split
      · exact htr
      · exact htr1
    unfold wpOp
    simp only [ho]
    replace hop := hop.out
    split
    · rename_i hw
      simp only [hw, if_true] at hop
      left
      unfold Oper.wp
      generalize (execOp a.eval o).run P W = r at *
      cases r with
      | ok x w' =>
        cases x <;> simp only [looseUpon] at hop <;> simp only [Oper.upon]
        · exact next _ _ hop.1 hop.2
        · exact next _ _ hop.1 hop.2
        · exact hop.2.mono fun e w'' ⟨v, he, hR, hv⟩ => by subst he; exact next _ _ (tr _ _ _ hop.1 hR) hv
        · exact hop.2.mono fun v w'' ⟨hR, hv⟩ => next _ _ (tr _ _ _ hop.1 hR) hv
      | halt x w' => simp only [looseUpon] at hop
    · rename_i hw
      simp only [hw] at hop
      exact next _ _ (by split; exact h1R _ _ (hrf1 _); exact hrf1 _) hop

/-- A table for the operations ahead, carried on behind them. -/
theorem wpLooseS_table_more {a0 : Act} {Q : List Ent → Prop} (n0 : Nat) (l : List Oper) (hn0 : n0 ≤ l.length) (h : wpLooseS P R R1 d w0 ops a0 Q (l.take n0) []) :
    ∃ (E : Nat → List Ent) (c : Nat → Option Value) (rd : Nat → List Tmp) (φ : Nat → List Value → Value → World → Prop), E 0 = [] ∧
      (∀ k o, l[k]? = some o → E (k + 1) = addEnt o.dst (c k) (rd k) (φ k) (E k) ∧ (∀ t ∈ rd k, waitsB ops o t = true) ∧ (k < n0 → ∀ W vals, R w0 W → (o.dst = some d → R1 w0 W) → knowsS R R1 d w0 vals (o.looksAt ops) W (E k) → opOk P (if o.dst = some d then R else R1) ops (fill vals (E k) a0) o (entOf (c k) (φ k ((rd k).map vals))) W)) ∧ Q (E n0) := by
  obtain ⟨E, c, rd, φ, e0, hs, hq⟩ := wpLooseS_table _ _ h
  have hlen : (l.take n0).length = n0 := by rw [List.length_take]; omega
  rw [hlen] at hq
  let more : Nat → List Ent := fun k => Nat.rec (motive := fun _ => List Ent) (E n0) (fun j e => addEnt ((l[n0 + j]?).bind (·.dst)) none [] (fun _ _ _ => True) e) k
  refine ⟨fun k => if k ≤ n0 then E k else more (k - n0), fun k => if k < n0 then c k else none, fun k => if k < n0 then rd k else [], fun k => if k < n0 then φ k else fun _ _ _ => True, by simp [e0], ?_, by simp [hq]⟩
  intro k o ho
  by_cases hk : k < n0
  · have ho' : (l.take n0)[k]? = some o := by rw [List.getElem?_take_of_lt hk]; exact ho
    obtain ⟨h1, h2, h3⟩ := hs k o ho'
    simp only [hk, if_true, show k + 1 ≤ n0 from hk, show k ≤ n0 from Nat.le_of_lt hk]
    exact ⟨h1, h2, fun _ => h3⟩
  · simp only [hk, if_false, show ¬ k + 1 ≤ n0 by omega]
    refine ⟨?_, (fun _ h => nomatch h), fun h => h.elim⟩
    have hm : more (k + 1 - n0) = addEnt o.dst none [] (fun _ _ _ => True) (more (k - n0)) := by
      rw [show k + 1 - n0 = (k - n0) + 1 by omega]
      show addEnt ((l[n0 + (k - n0)]?).bind (·.dst)) none [] (fun _ _ _ => True) (more (k - n0)) = _
      rw [show n0 + (k - n0) = k by omega, ho]
      rfl
    rw [hm]
    by_cases hk2 : k ≤ n0
    · have : k = n0 := by omega
      subst this
      simp only [Nat.le_refl, if_true, Nat.sub_self]
      rfl
    · simp only [hk2, if_false]

theorem wp_region_tailS {id : Nat} {Q : Exit → Act → World → Prop} {a : Act} {w : World} {l : List Oper} (R R1 : World → World → Prop) (d : Tmp) (n n0 : Nat) (hm : P.follows .mixedOrders = true) (hn : a.tmps.size = n)
    (hB : (looseB n l.toArray && Region.sinkB .any l.toArray n0 && Region.chainB .any l.toArray n0 && decide (n0 < l.length) && Region.seqB .any l.toArray (l.drop n0).length n0 ((Array.range l.toArray.size).map fun k => decide (k < n0)) && decide (unlisted ((Array.range l.toArray.size).map fun k => decide (k < n0)) = (l.drop n0).length)) = true)
    (htr : ∀ x y z, R x y → R y z → R x z) (hrf1 : ∀ x, R1 x x) (htr1 : ∀ x y z, R1 x y → R1 y z → R1 x z) (h1R : ∀ x y, R1 x y → R x y) (h0 : R1 w w.drew)
    (h : wpLooseS P R R1 d w l.toArray a (fun env => ∀ W vals, R w W → knowsAllS R R1 d w vals W env → wpList P l.toArray Q (l.drop n0) (fill vals env a) W) (l.take n0) []) : (Code.region id l.toArray true).wp P Q a w := by
  simp only [Bool.and_eq_true, decide_eq_true_eq] at hB
  obtain ⟨⟨⟨⟨⟨h1, h2⟩, h3⟩, h4⟩, h5⟩, h6⟩ := hB
  obtain ⟨E, c, rd, φ, e0, hs, hq⟩ := wpLooseS_table_more n0 l (by omega) h
  refine wp_region_any hm (loose_tail_soundS (ds := d) (w0 := w) (n0 := n0) (lt := l.drop n0) htr hrf1 htr1 h1R h1 h2 h3 (by simpa using h4) (fun j => by simp) h5 h6 hn e0 (fun k o ho => hs k o (by simpa using ho)) hq _ _ _ _ ?_ (fun t ht ht' => ?_) ⟨h1R _ _ h0, fun _ => h0, rfl, rfl, by simp, fun _ _ => rfl, fun k o d ho _ hk => ?_, fun k o ho _ hk => ?_, fun k o ho hk => ?_⟩)
  · unfold unlisted
    simp
  · simp only [List.size_toArray] at ht'
    simp [ht']
  all_goals
    exfalso
    by_cases h' : k < l.length <;> simp [h'] at hk
end
end Go.Proofs.Ytanbdkfkkochgaa

namespace Go.Proofs.Ytanbdkfkkochgaa
open Go.RowKit

section
variable {P : Program} {R R1 : World → World → Prop} {d : Tmp} {w0 : World} {ops : Array Oper} {a0 : Act} {Q : List Ent → Prop} {o : Oper} {rest : List Oper} {env : List Ent}
theorem looses_nil (h : Q env) : wpLooseS P R R1 d w0 ops a0 Q [] env := h
theorem looses_is (v : Value) (hne : (o.dst != some d) = true) (h : ∀ W vals, R w0 W → knowsS R R1 d w0 vals (o.looksAt ops) W env → opOk P R1 ops (fill vals env a0) o (fun u _ => u = v) W)
    (hk : wpLooseS P R R1 d w0 ops a0 Q rest (addEnt o.dst (some v) [] (fun _ _ _ => True) env)) : wpLooseS P R R1 d w0 ops a0 Q (o :: rest) env :=
  ⟨some v, [], _, (fun _ h => nomatch h), fun W vals hW _ hkn => by rw [if_neg (by simpa using hne)]; exact h W vals hW hkn, hk⟩
theorem looses_has (φ : Value → World → Prop) (hne : (o.dst != some d) = true) (h : ∀ W vals, R w0 W → knowsS R R1 d w0 vals (o.looksAt ops) W env → ∀ φ' : Value → World → Prop, Hid (∀ u w, φ u w → φ' u w) → opOk P R1 ops (fill vals env a0) o φ' W)
    (hk : wpLooseS P R R1 d w0 ops a0 Q rest (addEnt o.dst none [] (fun _ => φ) env)) : wpLooseS P R R1 d w0 ops a0 Q (o :: rest) env :=
  ⟨none, [], fun _ => φ, (fun _ h => nomatch h), fun W vals hW _ hkn => by rw [if_neg (by simpa using hne)]; exact h W vals hW hkn φ (Lib.hid fun _ _ h => h), hk⟩
/-- The one that may write what lay. -/
theorem looses_at (φ : Value → World → Prop) (he : (o.dst == some d) = true) (h : ∀ W vals, R1 w0 W → knowsS R R1 d w0 vals (o.looksAt ops) W env → ∀ φ' : Value → World → Prop, Hid (∀ u w, φ u w → φ' u w) → opOk P R ops (fill vals env a0) o φ' W)
    (hk : wpLooseS P R R1 d w0 ops a0 Q rest (addEnt o.dst none [] (fun _ => φ) env)) : wpLooseS P R R1 d w0 ops a0 Q (o :: rest) env :=
  ⟨none, [], fun _ => φ, (fun _ h => nomatch h), fun W vals _ hW1 hkn => by rw [if_pos (by simpa using he)]; exact h W vals (hW1 (by simpa using he)) hkn φ (Lib.hid fun _ _ h => h), hk⟩
theorem looses_off (hne : (o.dst != some d) = true) (hw : ∀ vals : Tmp → Value, Region.wanted o (yielded ops (fill vals env a0).tmps) = false) (hk : wpLooseS P R R1 d w0 ops a0 Q rest (addEnt o.dst (some undef) [] (fun _ _ _ => True) env)) : wpLooseS P R R1 d w0 ops a0 Q (o :: rest) env :=
  ⟨some undef, [], fun _ _ _ => True, (fun _ h => nomatch h), fun W vals _ _ _ => by rw [if_neg (by simpa using hne)]; exact ⟨by rw [hw vals]; exact rfl⟩, hk⟩
/-- All that was there stays, but for block K. -/
abbrev KeepsBut (K : Nat) (w w' : World) : Prop := Keeps w w' [K]
theorem looseUponS_has {K : Nat} {W : World} {φ φ' : Value → World → Prop} {f : FuncId} {args : Array Value} (hφ : Hid (∀ u w, φ u w → φ' u w)) (h : Calls P f args W (fun e w'' => ∃ v, e = .returned v ∧ Keeps W w'' [K] ∧ φ v w'')) :
    looseUpon P (KeepsBut K) W φ' (.ok (.enter f args) W) := ⟨Keeps.refl _ _, h.mono fun _ _ ⟨v, he, hk, hv⟩ => ⟨v, he, hk, hφ.out _ _ hv⟩⟩
theorem wp_region_but {id : Nat} {Q : Exit → Act → World → Prop} {a : Act} {w : World} {l : List Oper} (K : Nat) (d : Tmp) (n n0 : Nat) (hm : P.follows .mixedOrders = true) (hn : a.tmps.size = n)
    (hB : (looseB n l.toArray && Region.sinkB .any l.toArray n0 && Region.chainB .any l.toArray n0 && decide (n0 < l.length) && Region.seqB .any l.toArray (l.drop n0).length n0 ((Array.range l.toArray.size).map fun k => decide (k < n0)) && decide (unlisted ((Array.range l.toArray.size).map fun k => decide (k < n0)) = (l.drop n0).length)) = true)
    (h : wpLooseS P (KeepsBut K) KeepsAll d w l.toArray a (fun env => ∀ W vals, Keeps w W [K] → knowsAllS (KeepsBut K) KeepsAll d w vals W env → wpList P l.toArray Q (l.drop n0) (fill vals env a) W) (l.take n0) []) : (Code.region id l.toArray true).wp P Q a w :=
  wp_region_tailS (KeepsBut K) KeepsAll d n n0 hm hn hB (fun _ _ _ h k => h.trans k (fun _ h _ => h)) (fun _ => Keeps.refl _ _) (fun _ _ _ h k => h.trans k (by simp)) (fun _ _ h => h.weaken (by simp)) (Keeps.drew _) h
end
end Go.Proofs.Ytanbdkfkkochgaa

namespace Go.Proofs.Ytanbdkfkkochgaa
open Go.RowKit

/-- What lay stays, but for blocks of X and boxes of type T made since wr; boxes once good (G) stay good; a standing fact Y stays. -/
structure FreshR (Y : World → Prop) (wr : World) (X : Nat → Prop) (T : TypeId) (n : Nat) (G : Array Value → World → Prop) (w w' : World) : Prop where
  size : w.heap.size ≤ w'.heap.size
  row : ∀ {c : Nat} {t : TypeId} {cs : Array Value}, ¬ X c → (t ≠ T ∨ c < wr.heap.size) → Row w c t cs → Row w' c t cs
  box : ∀ {c : Nat}, ¬ X c → (∃ cs : Array Value, cs.size = n ∧ Row w c T cs) → ∃ cs : Array Value, cs.size = n ∧ Row w' c T cs
  good : ∀ {c : Nat}, ¬ X c → (∃ cs : Array Value, Row w c T cs ∧ G cs w) → ∃ cs : Array Value, Row w' c T cs ∧ G cs w'
  k : Y w → Y w'
structure FreshR1 {ι : Type} (P : ι → World → Prop) (Y : World → Prop) (wr : World) (X : Nat → Prop) (T : TypeId) (n : Nat) (G : Array Value → World → Prop) (w w' : World) : Prop where
  r : FreshR Y wr X T n G w w'
  p : ∀ i, P i w → P i w'
/-- What allocations leave. -/
structure Lasting {ι : Type} (Y : World → Prop) (P : ι → World → Prop) (G : Array Value → World → Prop) : Prop where
  y : ∀ {w w'}, Y w → Keeps w w' [] → Y w'
  p : ∀ {i w w'}, P i w → Keeps w w' [] → P i w'
  g : ∀ {cs w w'}, G cs w → Keeps w w' [] → G cs w'
section
variable {ι : Type} {P : ι → World → Prop} {Y : World → Prop} {wr w w' w'' : World} {X : Nat → Prop} {T : TypeId} {n : Nat} {G : Array Value → World → Prop}
theorem FreshR.trans (h : FreshR Y wr X T n G w w') (h' : FreshR Y wr X T n G w' w'') : FreshR Y wr X T n G w w'' :=
  ⟨Nat.le_trans h.size h'.size, fun a b c => h'.row a b (h.row a b c), fun a b => h'.box a (h.box a b), fun a b => h'.good a (h.good a b), fun k => h'.k (h.k k)⟩
theorem FreshR.of_keeps (hG : Lasting Y P G) (h : Keeps w w' []) : FreshR Y wr X T n G w w' :=
  ⟨h.size, fun _ _ hr => hr.keeps h, fun _ ⟨cs, hs, hr⟩ => ⟨cs, hs, hr.keeps h⟩, fun _ ⟨cs, hr, hg⟩ => ⟨cs, hr.keeps h, hG.g hg h⟩, fun k => hG.y k h⟩
theorem FreshR1.of_keeps (hG : Lasting Y P G) (h : Keeps w w' []) : FreshR1 P Y wr X T n G w w' := ⟨.of_keeps hG h, fun _ k => hG.p k h⟩
theorem FreshR1.refl (hG : Lasting Y P G) : FreshR1 P Y wr X T n G w w := .of_keeps hG (Keeps.refl _ _)
theorem FreshR1.trans (h : FreshR1 P Y wr X T n G w w') (h' : FreshR1 P Y wr X T n G w' w'') : FreshR1 P Y wr X T n G w w'' := ⟨h.r.trans h'.r, fun i k => h'.p i (h.p i k)⟩
/-- A box is filled. -/
theorem FreshR.put {b : Nat} {cs cs' : Array Value} (hb : wr.heap.size ≤ b) (hY : Y w → Y w') (h : Row w b T cs) (h' : Row w' b T cs') (hs : cs'.size = n) (hk : Keeps w w' [b]) (hg : G cs' w') (hgs : ∀ ds, G ds w → G ds w') : FreshR Y wr X T n G w w' := by
  refine ⟨hk.size, fun {c t ds} hX ht hr => ?_, fun {c} hX ⟨ds, hs', hr⟩ => ?_, fun {c} hX ⟨ds, hr, hgd⟩ => ?_, hY⟩
  · by_cases hc : c = b
    · subst hc
      have e : Obj.cells ds t = .cells cs T := Option.some.inj (hr.symm.trans h)
      injection e with e1 e2
      subst e2
      rcases ht with ht | ht
      · exact absurd rfl ht
      · omega
    · exact hr.keep hk (by simpa using hc)
  · by_cases hc : c = b
    · subst hc
      exact ⟨cs', hs, h'⟩
    · exact ⟨ds, hs', hr.keep hk (by simpa using hc)⟩
  · by_cases hc : c = b
    · subst hc
      exact ⟨cs', h', hg⟩
    · exact ⟨ds, hr.keep hk (by simpa using hc), hgs _ hgd⟩
theorem relS_to {R R1 : World → World → Prop} {d : Tmp} {t : Option Tmp} {a b : World} (h1R : R1 a b → R a b) (h : relS R R1 d t a b) : R a b := by
  unfold relS at h
  split at h
  · exact h1R h
  · exact h
theorem looses_had {P : Program} {R R1 : World → World → Prop} {d : Tmp} {w0 : World} {ops : Array Oper} {a0 : Act} {Q : List Ent → Prop} {o : Oper} {rest : List Oper} {env : List Ent} (rd : List Tmp) (φ : List Value → Value → World → Prop) (hne : (o.dst != some d) = true) (hrd : rd.all (waitsB ops o) = true)
    (h : ∀ W vals, R w0 W → knowsS R R1 d w0 vals (o.looksAt ops) W env → ∀ φ' : Value → World → Prop, Hid (∀ u w, φ (rd.map vals) u w → φ' u w) → opOk P R1 ops (fill vals env a0) o φ' W)
    (hk : wpLooseS P R R1 d w0 ops a0 Q rest (addEnt o.dst none rd φ env)) : wpLooseS P R R1 d w0 ops a0 Q (o :: rest) env :=
  ⟨none, rd, φ, fun t ht => List.all_eq_true.1 hrd t ht, fun W vals hW _ hkn => by rw [if_neg (by simpa using hne)]; exact h W vals hW hkn _ (Lib.hid fun _ _ h => h), hk⟩
theorem looseUponG_has {Pr : Program} {φ φ' : Value → World → Prop} {f : FuncId} {args : Array Value} (hG : Lasting Y P G) (hφ : Hid (∀ u w, φ u w → φ' u w)) (h : Calls Pr f args w (fun e w'' => ∃ v, e = .returned v ∧ FreshR Y wr X T n G w w'' ∧ φ v w'')) :
    looseUpon Pr (FreshR Y wr X T n G) w φ' (.ok (.enter f args) w) := ⟨.of_keeps hG (Keeps.refl _ _), h.mono fun _ _ ⟨v, he, hk, hv⟩ => ⟨v, he, hk, hφ.out _ _ hv⟩⟩
theorem wp_region_box {Pr : Program} {id : Nat} {Q : Exit → Act → World → Prop} {a : Act} {l : List Oper} (hG : Lasting Y P G) (X : Nat → Prop) (T : TypeId) (n : Nat) (d : Tmp) (m n0 : Nat) (hm : Pr.follows .mixedOrders = true) (hn : a.tmps.size = m)
    (hB : (looseB m l.toArray && Region.sinkB .any l.toArray n0 && Region.chainB .any l.toArray n0 && decide (n0 < l.length) && Region.seqB .any l.toArray (l.drop n0).length n0 ((Array.range l.toArray.size).map fun k => decide (k < n0)) && decide (unlisted ((Array.range l.toArray.size).map fun k => decide (k < n0)) = (l.drop n0).length)) = true)
    (h : wpLooseS Pr (FreshR Y w X T n G) (FreshR1 P Y w X T n G) d w l.toArray a (fun env => ∀ W vals, FreshR Y w X T n G w W → knowsAllS (FreshR Y w X T n G) (FreshR1 P Y w X T n G) d w vals W env → wpList Pr l.toArray Q (l.drop n0) (fill vals env a) W) (l.take n0) []) : (Code.region id l.toArray true).wp Pr Q a w :=
  wp_region_tailS (FreshR Y w X T n G) (FreshR1 P Y w X T n G) d m n0 hm hn hB (fun _ _ _ h k => h.trans k) (fun _ => FreshR1.refl hG) (fun _ _ _ h k => h.trans k) (fun _ _ h => h.r) (.of_keeps hG (Keeps.drew _)) h
end
end Go.Proofs.Ytanbdkfkkochgaa
