/- Package disk: the keys of a map, rising; what rounds leave alone. -/
import Derived.Test.YtehlabdbbbbopaaPa17
import Derived.RangeFuncNested
import Derived.RangeFuncBound
import Derived.RangeFuncCalls
import Derived.RangeFuncLeaves
import Derived.RangeFuncBox
import Derived.RangeFuncWrites

namespace Go.Proofs.Ytehlabdbbbbopaa
open Go.RowKit Go.Maps Go.Sort Go.Shelf

theorem dkSorts (m : Nat) : AnyZI.SortsIn Try.prog Try.sortedA_ren Fence.wide m :=
  ⟨fun blk off cap ss W hH hblk hsz => callsIn_wide.2 (AnyM.slices_Sort_int Try.sortA blk off cap ss W hH hblk hsz),
   fun p cap W => callsIn_wide.2 (AnyM.slices_Sort_int_none Try.sortA p cap W)⟩
/-- maps.Keys. -/
theorem mapsKeys_any (mb : Option Nat) (w : World) : Calls Try.prog 47 #[.map mb] w fun e w' => e = .returned (.func (.func 50) #[] #[.pointer (some ⟨w.heap.size, 0, none⟩)]) ∧ w' = w.alloc (.cells #[.map mb] 92) :=
  callsIn_wide.1 (AnyZI.keys_in Try.keysA Fence.wide 5 trivial rfl mb w)
theorem sorted_of_perm {H : Type} {D : DataW H} {ss ks : List Int} (hp : ss.Perm (intKeys D)) (hk : ks.Pairwise (· < ·)) (hn : (intKeys D).Nodup) (hm : ∀ x, x ∈ intKeys D ↔ x ∈ ks) : ss.mergeSort (fun x y => decide (x ≤ y)) = ks := by
  have tr : ∀ a b c : Int, decide (a ≤ b) = true → decide (b ≤ c) = true → decide (a ≤ c) = true := fun a b c h1 h2 => by simp only [decide_eq_true_eq] at *; omega
  have to : ∀ a b : Int, (decide (a ≤ b) || decide (b ≤ a)) = true := fun a b => by simp only [Bool.or_eq_true, decide_eq_true_eq]; omega
  have hkn : ks.Nodup := hk.imp fun {a b} h => by omega
  have hp2 : (intKeys D).Perm ks := (List.perm_ext_iff_of_nodup hn hkn).2 hm
  refine List.Perm.eq_of_pairwise (le := fun a b => decide (a ≤ b) = true) (fun a b _ _ h1 h2 => ?_) (List.pairwise_mergeSort tr to ss) (hk.imp fun {a b} h => by simp; omega) (((List.mergeSort_perm ss _).trans hp).trans hp2)
  simp only [decide_eq_true_eq] at h1 h2
  omega
theorem intKeys_mem {w : World} {b n : Nat} {D : DataW Value} {f : Int → Option Value} (h : HMap w Try.prog 3 b n D) (hT : Tells D f) : (intKeys D).Nodup ∧ ∀ x, x ∈ intKeys D ↔ f x ≠ none := by
  obtain ⟨es, hD, hpw, _⟩ := World.ownsMap.entries h (int_keyed undIntD)
  obtain ⟨es', hD', hko⟩ := World.ownsMap.keysOf h
  obtain rfl : es = es' := by rw [hD] at hD'; simpa using hD'
  have hint : ∀ p ∈ es, ∃ x, p.1 = .int .i64 x := fun p hp => by
    obtain ⟨v, hv⟩ := hko p hp
    obtain ⟨x, _, hx, _⟩ := Maps.keyOf_int_inv undIntD hv
    exact ⟨x, hx⟩
  refine ⟨?_, fun x => ?_⟩
  · rw [hD]
    show (es.map fun p => _).Nodup
    refine List.pairwise_map.2 (hpw.imp_of_mem fun {p q} hp' hq' hne e => hne ?_)
    obtain ⟨a, ha⟩ := hint p hp'
    obtain ⟨c, hc⟩ := hint q hq'
    rw [ha, hc] at e ⊢
    exact congrArg _ e
  · have h1 : x ∈ intKeys D ↔ Maps.has D (.int .i64 x) = true := by
      rw [hD, has_eq, List.any_eq_true]
      show x ∈ (es.map fun p => _) ↔ _
      rw [List.mem_map]
      constructor
      · rintro ⟨p, hp, hx⟩
        obtain ⟨a, ha⟩ := hint p hp
        refine ⟨p, hp, ?_⟩
        rw [ha] at hx ⊢
        have : a = x := hx
        rw [this]
        simp [Lit.sameKey]
      · rintro ⟨p, hp, hx⟩
        obtain ⟨a, ha⟩ := hint p hp
        refine ⟨p, hp, ?_⟩
        rw [ha] at hx ⊢
        have : a = x := by simpa [Lit.sameKey] using hx
        exact this
    rw [h1, hT.has x]
    cases f x <;> simp
/-- slices.Sorted of a map's keys: these, rising. -/
theorem sortedKeys_any {W : World} {b Bm : Nat} {f : Int → Option Value} {ks : List Int} (hmap : IMap W Try.prog 3 b f) (hBm : W.cell? ⟨Bm, 0, none⟩ = some (.map (some b))) (hBl : Bm < W.heap.size) (hk : ks.Pairwise (· < ·)) (hm : ∀ x, f x ≠ none ↔ x ∈ ks) (hl : ks.length ≤ 1000000) :
    Calls Try.prog 46 #[.func (.func 50) #[] #[.pointer (some ⟨Bm, 0, none⟩)]] W fun e w' => ∃ v, e = .returned v ∧ w'.ownsRow W.heap.size 3 1 v ks.length (ks.map encZ) ∧ Below W.heap.size W w' := by
  obtain ⟨D, hD, hT⟩ := hmap
  obtain ⟨g1, g2⟩ := intKeys_mem hD hT
  have hsz : Maps.size D ≤ ks.length := IMap.size undIntD hD hT (fun x hx => (hm x).1 hx)
  have hseq : SeqGives Fence.wide (5 - 1 - 1 - 1) Try.prog 50 #[.pointer (some ⟨Bm, 0, none⟩)] encZ (fun ss => ss.Perm (intKeys D)) (Maps.size D) W :=
    AnyZI.keys_gives (ρ := Try.keysA_ren) { Try.keysA with } Fence.wide _ trivial rfl (by omega) Bm b _ D _ hBl hBm hD
  have cS := AnyZI.sorted_in Try.sortedA Fence.wide 5 trivial trivial trivial trivial rfl (by omega) (dkSorts _) (enters_of Try.func49 (by kernel_rfl) rfl) 50 #[.pointer (some ⟨Bm, 0, none⟩)] trivial (enters_of Try.func50 (by kernel_rfl) rfl) _ (Maps.size D) (by unfold maxLen; omega) (by omega) _ hseq
  refine (callsIn_wide.1 cS).mono ?_
  rintro e w' ⟨v, ss, rfl, hS, hrow, hnil, hb⟩
  have hs : ss.mergeSort (fun x y => decide (x ≤ y)) = ks := sorted_of_perm hS hk g1 (fun x => (g2 x).trans (hm x))
  rw [hs] at hrow
  have hlen : ss.length = ks.length := by rw [← hs]; simp
  rw [hlen] at hrow
  exact ⟨v, rfl, hrow, hb⟩

/-- What a round leaves alone: all below n₀ and all cells, but for blocks of S. -/
structure KpS (n₀ : Nat) (S : List Nat) (W W' : World) : Prop where
  os : W'.os = W.os
  tape : W'.tape = W.tape
  output : W'.output = W.output
  size : W.heap.size ≤ W'.heap.size
  block : ∀ k, k < n₀ → k ∉ S → W'.heap[k]? = W.heap[k]?
  same : ∀ (k : Nat) (cs : Array Value) (t : TypeId) (d : Nat × Nat), k ∉ S → W.heap[k]? = some (.cells cs t d) → W'.heap[k]? = some (.cells cs t d)
theorem KpS.refl (n₀ : Nat) (S : List Nat) (W : World) : KpS n₀ S W W := ⟨rfl, rfl, rfl, Nat.le_refl _, fun _ _ _ => rfl, fun _ _ _ _ _ h => h⟩
theorem KpS.t {n₀ : Nat} {S : List Nat} {A B C : World} (h : KpS n₀ S A B) (k : KpS n₀ S B C) : KpS n₀ S A C :=
  ⟨k.os.trans h.os, k.tape.trans h.tape, k.output.trans h.output, Nat.le_trans h.size k.size, fun i hi hS => (k.block i hi hS).trans (h.block i hi hS), fun i cs t d hS hc => k.same i cs t d hS (h.same i cs t d hS hc)⟩
theorem KpS.put {n₀ : Nat} {S : List Nat} {w : World} (hn : n₀ ≤ w.heap.size) (W : World) (l : Nat) (o o' : Obj) (hl : w.heap.size ≤ l) (h : W.heap[l]? = some o) (hc : o.isCells = false) (hw : o.isWalk = false) : KpS n₀ S W (W.putObj l o') :=
  have b := belowK_b hn W l o o' hl h hc hw
  ⟨b.os, b.tape, b.output, b.size, fun k hk _ => b.block k hk, fun k cs t d _ hk => by
    by_cases e : k = l
    · subst e
      rw [h] at hk
      cases hk
      cases hc
    · exact (World.putObj_heap_other e).trans hk⟩
theorem KpS.of {n₀ : Nat} {S : List Nat} {W W' : World} (h : Keeps W W' S) (hn : n₀ ≤ W.heap.size) : KpS n₀ S W W' :=
  ⟨h.os, h.tape, h.output, h.size, fun k hk hS => h.block k (Nat.lt_of_lt_of_le hk hn) hS, fun k _ _ _ hS hk => (h.block k (Array.getElem?_eq_some_iff.1 hk).1 hS).trans hk⟩
/-- The keys in a slice that no round turns. -/
def KsD (S : List Nat) (A : Option Addr) (K : List Int) (w : World) : Prop := K = [] ∨ ∃ gb cur, A = some ⟨gb, 0, none⟩ ∧ gb ∉ S ∧ w.heap[gb]? = some (.cells cur 3 (0, 0)) ∧ cur.toList.take K.length = K.map encZ
theorem KsD.of {S : List Nat} {c : Nat} {A : Option Addr} {K : List Int} {w : World} {B : Nat} (h : w.ownsRow B 3 1 (.slice A K.length c) K.length (K.map encZ)) (hS : ∀ x ∈ S, x < B) : KsD S A K w := by
  rcases h.2 with ⟨_, h0⟩ | ⟨gb, cap, cur, hv, hg, hh, _, _, _, htk⟩
  · exact .inl (List.eq_nil_of_length_eq_zero h0)
  · injection hv with e1 e2 e3
    subst e1
    exact .inr ⟨gb, cur, rfl, fun hm => by have := hS gb hm; omega, hh, by simpa using htk⟩
theorem KsD.kp {n₀ : Nat} {S : List Nat} {A : Option Addr} {K : List Int} {w w' : World} (h : KsD S A K w) (hk : KpS n₀ S w w') : KsD S A K w' := by
  rcases h with h | ⟨gb, cur, h1, h2, h3, h4⟩
  · exact .inl h
  · exact .inr ⟨gb, cur, h1, h2, hk.same gb _ _ _ h2 h3, h4⟩
theorem KsD.at_ {S : List Nat} {A : Option Addr} {K : List Int} {w : World} (h : KsD S A K w) {j : Nat} (hj : j < K.length) : ∃ gb, A = some ⟨gb, 0, none⟩ ∧ w.cell? ⟨gb, j, none⟩ = some (encZ K[j]) := by
  rcases h with h | ⟨gb, cur, h1, h2, h3, h4⟩
  · subst h; simp at hj
  · refine ⟨gb, h1, ?_⟩
    rw [cell_of_row w gb j cur _ (0, 0) h3, ← Array.getElem?_toList]
    have e : (cur.toList.take K.length)[j]? = (K.map encZ)[j]? := by rw [h4]
    rw [List.getElem?_take, if_pos hj] at e
    rw [e, List.getElem?_map, List.getElem?_eq_getElem hj]
    rfl
end Go.Proofs.Ytehlabdbbbbopaa
