/- Package disk: the sectors that were written, gone over. Package disk: what a crash leaves, plain; the sectors' contract. -/
import Derived.Test.YtehlabdbbbbopaaPa18
import Derived.Test.YtehlabdbbbbopaaPa20
import Derived.Test.YtehlabdbbbbopaaPa21

namespace Go.Proofs.Ytehlabdbbbbopaa
open Go.RowKit Go.Maps Go.Shelf

attribute [local go_sem] Oper.semAt_some

theorem Keeps.grown {w w' : World} (h : Keeps w w' []) : w.grownBy w' none := ⟨h.os, h.tape, h.output, h.size, fun k hk _ => h.block k hk (by simp)⟩
/-- The pages that were written, rising. -/
def secKeys (L : List (Int × List UInt8)) : List Int := ((List.range 4096).map (fun n : Nat => (n : Int))).filter fun x => !(pagesOf L x).isEmpty
theorem secKeys_sorted (L : List (Int × List UInt8)) : (secKeys L).Pairwise (· < ·) :=
  (List.pairwise_map.2 (List.pairwise_lt_range.imp fun h => by omega)).filter _
theorem secKeys_length (L : List (Int × List UInt8)) : (secKeys L).length ≤ 4096 := by
  refine Nat.le_trans (List.length_filter_le _ _) ?_
  simp
theorem secKeys_in {L : List (Int × List UInt8)} {x : Int} (h : x ∈ secKeys L) : 0 ≤ x ∧ x < 4096 ∧ pagesOf L x ≠ [] := by
  unfold secKeys at h
  obtain ⟨h1, h2⟩ := List.mem_filter.1 h
  obtain ⟨n, hn, rfl⟩ := List.mem_map.1 h1
  have := List.mem_range.1 hn
  refine ⟨by omega, by omega, fun e => ?_⟩
  rw [e] at h2
  simp at h2
theorem ByAt.mem_keys {W : World} {B bm : Nat} {L : List (Int × List UInt8)} {f : Int → Option Value} (h : ByAt W B bm L f) (x : Int) : f x ≠ none ↔ x ∈ secKeys L := by
  constructor
  · intro hx
    have h1 := h.some_iff hx
    have h2 : (L.filter fun p => p.1 == x) ≠ [] := fun e => h1 (by unfold pagesOf; rw [e]; rfl)
    obtain ⟨p, hp⟩ := List.exists_mem_of_ne_nil _ h2
    obtain ⟨hp1, hp2⟩ := List.mem_filter.1 hp
    have hd := h.dom p hp1
    have e : p.1 = x := by simpa using hp2
    refine List.mem_filter.2 ⟨List.mem_map.2 ⟨x.toNat, List.mem_range.2 (by omega), by omega⟩, ?_⟩
    cases hq : pagesOf L x with
    | nil => exact absurd hq h1
    | cons a b => rfl
  · intro hx e
    obtain ⟨V, hV, _⟩ := h.yes x (secKeys_in hx).2.2
    rw [e] at hV
    cases hV
def four (p : Int) : List (Int × Nat) := [(p, 0), (p, 1), (p, 2), (p, 3)]
theorem four_take {p : Int} {j : Nat} (hj : j < 4) : (four p).take (j + 1) = (four p).take j ++ [(p, j)] := by
  match j, hj with
  | 0, _ => rfl
  | 1, _ => rfl
  | 2, _ => rfl
  | 3, _ => rfl
/-- The sectors, in order. -/
def secList (L : List (Int × List UInt8)) : List (Int × Nat) := (secKeys L).flatMap four
def secPre (K : List Int) (k : Nat) : List (Int × Nat) := (K.take k).flatMap four
theorem secPre_snoc {K : List Int} {k : Nat} (hk : k < K.length) : secPre K (k + 1) = secPre K k ++ four K[k] := by
  unfold secPre
  rw [List.take_succ_eq_append_getElem hk, List.flatMap_append]
  simp
theorem secPre_length (K : List Int) (k : Nat) : (secPre K k).length ≤ 4 * k := by
  induction k with
  | zero => simp [secPre]
  | succ k ih =>
    by_cases hk : k < K.length
    · rw [secPre_snoc hk, List.length_append]
      show _ + 4 ≤ _
      omega
    · have : secPre K (k + 1) = secPre K k := by unfold secPre; rw [List.take_of_length_le (by omega), List.take_of_length_le (by omega)]
      rw [this]; omega
theorem IMap.kps {P : Program} {k : TypeId} {W W' : World} {n₀ b : Nat} {S : List Nat} {f : Int → Option Value} (h : IMap W P k b f) (hb : KpS n₀ S W W') (hlt : b < n₀) (hS : b ∉ S) : IMap W' P k b f := by
  obtain ⟨D, ⟨es, clock, hh, F, hs, hD⟩, hT⟩ := h
  exact ⟨D, ⟨es, clock, (hb.block b hlt hS).trans hh, F, hs, hD⟩, hT⟩
theorem KpS.cell {n₀ : Nat} {S : List Nat} {W W' : World} (h : KpS n₀ S W W') {p : Addr} (hp : p.block < n₀) (hS : p.block ∉ S) : W'.cell? p = W.cell? p := World.cell?_of_block (h.block _ hp hS)
/-- What a round is given. -/
def secArgs (f : Int → Option Value) (x : Int × Nat) : Array Value := #[.agg #[.int .i64 x.1, .int .i64 (x.2 : Nat)], (f x.1).getD (.slice none 0 0)]
set_option maxRecDepth 100000 in
set_option maxHeartbeats 8000000 in
theorem sec1_in (F : Fence) (n : Nat) (hF : F.plain = Fence.wide) (hf : F.fn 45) (hro : F.round = none) (hn : 1 ≤ n) (l n₀ : Nat) (S : List Nat) (r B bm : Nat) (L : List (Int × List UInt8)) (f : Int → Option Value)
    (W : World) (J Jx : List (Int × Nat) → World → Prop) (hAb : AbidesFrom W.heap.size J) (hn₀ : n₀ ≤ W.heap.size) (hS : ∀ x ∈ S, x < n₀) (hr : r < n₀ ∧ r ∉ S) (hbm : bm < n₀ ∧ bm ∉ S) (hc : W.cell? ⟨r, 0, none⟩ = some (.map (some bm))) (hO : ByAt W B bm L f)
    (hY : ∀ pre x W1, J pre W1 → pre.length < 16385 → x.1 ∈ secKeys L ∧ x.2 < 4 → YieldAt F (n - 1) Try.prog l (secArgs f x) W1 fun e W' =>
      (e = .returned (.bool true) ∧ J (pre ++ [x]) W' ∧ KpS n₀ S W1 W') ∨ (e = .returned (.bool false) ∧ Jx (pre ++ [x]) W')) (h0 : J [] W) :
    CallsIn F n Try.prog 45 #[.func (.yield l) #[] #[], .pointer (some ⟨r, 0, none⟩)] W fun e W' => (∃ v, e = .returned v) ∧
      ((∃ ys, ys = secList L ∧ J ys W') ∨ (∃ pre, Jx pre W')) := by
  have hfn : ∀ f, F.fn f := fun f => by
    have : F.plain.fn f := by rw [hF]; trivial
    exact this
  have HF := Lib.hid (And.intro hF hfn)
  have HO := Lib.hid hO
  have HJ := Lib.hid hAb
  have hAb' := HJ.out
  have HY := Lib.hid hY
  have HN := Lib.hid (And.intro hn₀ (And.intro hS (And.intro hr hbm)))
  have HC := Lib.hid hc
  clear hfn hO hAb hY hS
  refine callsIn_of_wp Try.func45 rfl hf ?_ hro
  simp only [Try.ntmps45, List.size_toArray, List.length_cons, List.length_nil, Nat.reduceAdd, Nat.reduceSub, Array.replicate_succ, Array.replicate_zero, List.push_toArray, List.append_toArray, List.nil_append, List.cons_append]
  apply wpIn_scope_straight
  gi_wp2_with fail
  apply wpIn_label
  gi_wp2_with fail
  refine ⟨HF.out.2 _, (callsIn_of HF.out.1 (mapsKeys_any _ _)).mono ?_⟩
  rintro e w1 ⟨rfl, rfl⟩
  gi_wp2_with fail
  obtain ⟨W2, hW2⟩ : ∃ W2, W.alloc (.cells #[.map (some bm)] 92) = W2 := ⟨_, rfl⟩
  have hk2 : Keeps W W2 [] := by rw [← hW2]; exact Keeps.alloc _ _
  have hc2 : W2.cell? ⟨W.heap.size, 0, none⟩ = some (.map (some bm)) := by rw [← hW2]; exact (Row.new W 92 #[.map (some bm)]).cell 0
  have hs2 : W2.heap.size = W.heap.size + 1 := by rw [← hW2]; simp
  rw [hW2]
  refine ⟨HF.out.2 _, (callsIn_of HF.out.1 (sortedKeys_any (W := W2) (ks := secKeys L) (HO.out.m.keep hk2 (by simp)) hc2 (by omega) (secKeys_sorted _) HO.out.mem_keys (Nat.le_trans (secKeys_length L) (by omega)))).mono ?_⟩
  rintro e w3 ⟨v, rfl, hrow, hb3⟩
  obtain ⟨A, c, rfl⟩ : ∃ A c, v = .slice A (secKeys L).length c := by
    rcases hrow.2 with ⟨rfl, h0⟩ | ⟨gb, cap, cur, rfl, _⟩
    · exact ⟨none, 0, by rw [h0]⟩
    · exact ⟨_, _, rfl⟩
  have hk3 : Keeps W w3 [] := hk2.trans (Keeps.of_below hb3) (by simp)
  have HK := Lib.hid (KsD.of (S := S) hrow (fun x hx => by have := HN.out.2.1 x hx; omega))
  have HB3 := Lib.hid (show KpS n₀ S W w3 from KpS.of (hk3.weaken (by simp)) hn₀)
  have HJ3 := Lib.hid (hAb' [] W w3 none h0 hk3.grown (fun _ h => by cases h))
  obtain ⟨K, hK⟩ : ∃ K, secKeys L = K := ⟨_, rfl⟩
  have HKK := Lib.hid hK
  have hKl : K.length ≤ 4096 := by rw [← hK]; exact secKeys_length L
  rw [hK] at HK ⊢
  clear hrow hb3 hk3 hk2 hc2 hs2 hW2 hK h0 hn₀ hr hbm hc
  gi_wp2_with fail
  gi_loopw [10] (fun i wr => ∃ k : Nat, k ≤ K.length ∧ i = .int .i64 k ∧ Hid (J (secPre K k) wr) ∧ Hid (KpS n₀ S W wr) ∧ Hid (KsD S A K wr)) (fun i _ => K.length - (intOf i).toNat)
  case atStart => exact ⟨0, by omega, rfl, HJ3, HB3, HK⟩
  case round =>
    obtain ⟨k, hk, rfl, HJr, HBr, HKr⟩ := hrel
    by_cases hkl : k < K.length
    · obtain ⟨gb, rfl, hcx⟩ := HKr.out.at_ hkl
      have HSN := Lib.hid (secPre_snoc hkl)
      have hin : K[k] ∈ secKeys L := by rw [HKK.out]; exact List.getElem_mem _
      have HKL := Lib.hid hkl
      generalize K[k] = x at hcx HSN hin
      have hxb := secKeys_in hin
      have HIN := Lib.hid (And.intro hin hxb)
      clear hin hxb
      replace hcx : wr.cell? ⟨gb, k, none⟩ = some (.int .i64 x) := hcx
      gi_wp2_with fail
      gi_loopw [14] (fun i wr => ∃ j : Nat, j ≤ 4 ∧ i = .int .i64 j ∧ Hid (J (secPre K k ++ (four x).take j) wr) ∧ Hid (KpS n₀ S W wr) ∧ Hid (KsD S (some ⟨gb, 0, none⟩) K wr)) (fun i _ => 4 - (intOf i).toNat)
      case atStart => exact ⟨0, by omega, rfl, Lib.hid (by rw [List.take_zero, List.append_nil]; exact HJr.out), HBr, HKr⟩
      case round =>
        clear HJr HBr HKr hcx
        obtain ⟨j, hj, rfl, HJr, HBr, HKr⟩ := hrel
        by_cases hjl : j < 4
        · have HFT := Lib.hid (four_take (p := x) hjl)
          have HJL := Lib.hid hjl
          obtain ⟨V, hV⟩ : ∃ V, (f x).getD (.slice none 0 0) = V := ⟨_, rfl⟩
          have hM : ∀ W' : World, W' = wr → (Instr.lookup 92 (.map (some bm)) (.int .i64 x) false).run Try.prog W' = .ok V W' := fun W' hW' => by
            subst hW'
            have hm := (HO.out.m.kps HBr.out HN.out.2.2.2.1 HN.out.2.2.2.2).look undIntD undBy (zeroLeaves _) (x := x) (by have := HIN.out; omega) (by have := HIN.out; omega) false
            rw [if_neg (by simp)] at hm
            rw [hm, ← hV]
          have hlk := hM wr rfl
          have hcr : wr.cell? ⟨r, 0, none⟩ = some (.map (some bm)) := (HBr.out.cell HN.out.2.2.1.1 HN.out.2.2.1.2).trans HC.out
          have hlen : (secPre K k ++ (four x).take j).length < 16385 := by
            have h1 := secPre_length K k
            have h2 : ((four x).take j).length ≤ 4 := by rw [List.length_take]; exact Nat.min_le_right _ _
            rw [List.length_append]
            omega
          obtain ⟨fn, tmps, assign, body, hy, hR⟩ := show YieldAt F (n - 1) Try.prog l #[.agg #[.int .i64 x, .int .i64 (j : Nat)], V] wr _ by
            have := HY.out _ (x, j) wr HJr.out hlen ⟨HIN.out.1, hjl⟩
            unfold secArgs at this
            rw [hV] at this
            exact this
          have HR := Lib.hid hR
          clear hR hM hlen hV
          gi_wp2_with fail
          refine HR.out.mono ?_
          rintro e W5 (⟨rfl, hJ5, hk5⟩ | ⟨rfl, hJx⟩)
          · have HE := Lib.hid (And.intro hJ5 hk5)
            clear hJ5 hk5 hy hlk hcr
            gi_wp2_with fail
            refine ⟨⟨j + 1, by omega, by go_num, Lib.hid ?_, Lib.hid (HBr.out.t HE.out.2), Lib.hid (HKr.out.kp HE.out.2)⟩, by simp [intOf]; omega⟩
            rw [HFT.out, ← List.append_assoc]
            exact HE.out.1
          · have HE := Lib.hid hJx
            clear hJx hy hlk hcr
            gi_wp2_with fail
            simp only [Exit.noGoto]
            go_end0
            exact ⟨⟨_, rfl⟩, .inr ⟨_, HE.out⟩⟩
        · obtain rfl : j = 4 := by omega
          gi_wp2_with fail
          refine ⟨⟨k + 1, by omega, by go_num, Lib.hid ?_, HBr, HKr⟩, by simp [intOf]; omega⟩
          rw [HSN.out]
          exact HJr.out
    · obtain rfl : k = K.length := by omega
      gi_wp2_with fail
      simp only [Exit.noGoto]
      go_end0
      refine ⟨⟨_, rfl⟩, .inl ⟨_, ?_, HJr.out⟩⟩
      unfold secPre secList
      rw [HKK.out, List.take_length]
end Go.Proofs.Ytehlabdbbbbopaa

namespace Go.Proofs.Ytehlabdbbbbopaa
open Go.RowKit Go.Maps Go.Shelf

/-- A sector that was written. -/
abbrev Sec (L : List (Int × List UInt8)) := {x : Int × Nat // x.1 ∈ secKeys L ∧ x.2 < 4}
theorem sec1_stops (F : Fence) (n : Nat) (hF : F.plain = Fence.wide) (hf : F.fn 45) (hro : F.round = none) (hn : 1 ≤ n) (n₀ : Nat) (S : List Nat) (r B bm : Nat) (L : List (Int × List UInt8)) (f : Int → Option Value)
    (w : World) (hn₀ : n₀ ≤ w.heap.size) (hS : ∀ x ∈ S, x < n₀) (hr : r < n₀ ∧ r ∉ S) (hbm : bm < n₀ ∧ bm ∉ S) (hc : w.cell? ⟨r, 0, none⟩ = some (.map (some bm))) (hO : ByAt w B bm L f) :
    SeqStopsK F n Try.prog 45 #[.pointer (some ⟨r, 0, none⟩)] (fun x : Sec L => secArgs f x.1) (KpS n₀ S) (fun ys => ys.map (fun x => x.1) = secList L) (fun _ => True) 16385 w := fun l J Jx W hW hAb _ hY h0 => by
  have hk : Keeps w W [] := Keeps.of_below hW
  refine (sec1_in F n hF hf hro hn l n₀ S r B bm L f W (fun ys W => ∃ zs : List (Sec L), zs.map (fun x => x.1) = ys ∧ J zs W) (fun ys W => ∃ zs : List (Sec L), zs.map (fun x => x.1) = ys ∧ Jx zs W) ?_ (Nat.le_trans hn₀ hW.size) hS hr hbm ((hW.cell (p := ⟨r, 0, none⟩) (Nat.lt_of_lt_of_le hr.1 hn₀)).trans hc) (hO.keeps hk) ?_ ⟨[], rfl, h0⟩).mono ?_
  · rintro ys A B row ⟨zs, h1, h2⟩ hg hr
    exact ⟨zs, h1, hAb zs A B row h2 hg hr⟩
  · rintro pre x W1 ⟨zs, rfl, h2⟩ hl hx
    obtain ⟨fn, tmps, assign, body, hy, hR⟩ := hY zs ⟨x, hx⟩ W1 h2 (by simpa using hl)
    refine ⟨fn, tmps, assign, body, hy, hR.mono ?_⟩
    rintro e W' (⟨h1, h2, h3⟩ | ⟨h1, h2⟩)
    · exact .inl ⟨h1, ⟨zs ++ [⟨x, hx⟩], by simp, h2⟩, h3⟩
    · exact .inr ⟨h1, ⟨zs ++ [⟨x, hx⟩], by simp, h2⟩⟩
  · rintro e W' ⟨h1, ⟨ys, h2, zs, h3, h4⟩ | ⟨pre, zs, h3, h4⟩⟩
    · exact ⟨h1, .inl ⟨zs, h3.trans h2, h4⟩⟩
    · exact ⟨h1, .inr ⟨zs, trivial, h4⟩⟩
/-- A sector of a page put in by another's. -/
def graft (a b : List UInt8) (k : Nat) : List UInt8 := a.take (64 * k) ++ (b.drop (64 * k)).take 64 ++ a.drop (64 * k + 64)
theorem graft_length {a b : List UInt8} {k : Nat} (ha : a.length = 256) (hb : b.length = 256) (hk : k < 4) : (graft a b k).length = 256 := by
  unfold graft
  simp [ha, hb]
  omega
/-- One sector's lot. -/
def secStep (L : List (Int × List UInt8)) (st : (Int → Option (List UInt8)) × List Int) (x : Int × Nat) : (Int → Option (List UInt8)) × List Int :=
  match st.2 with
  | [] => st
  | p :: ps => if roundOf p (pagesOf L x.1).length = 0 then (st.1, ps) else (fun y => if y = x.1 then some (graft ((st.1 x.1).getD nought) ((pagesOf L x.1).getD ((roundOf p (pagesOf L x.1).length).toNat - 1) []) x.2) else st.1 y, ps)
def secRun (L : List (Int × List UInt8)) (xs : List (Int × Nat)) (M : Int → Option (List UInt8)) (ps : List Int) : (Int → Option (List UInt8)) × List Int := xs.foldl (secStep L) (M, ps)
theorem secRun_snoc (L : List (Int × List UInt8)) (xs : List (Int × Nat)) (x : Int × Nat) (M : Int → Option (List UInt8)) (ps : List Int) : secRun L (xs ++ [x]) M ps = secStep L (secRun L xs M ps) x := by
  unfold secRun
  rw [List.foldl_append]
  rfl
/-- What a crash leaves. -/
def Dk.crash (D : Dk) (picks : List Int) : Dk := { Dk.fresh D.pages with lasts := (secRun D.waits (secList D.waits) D.lasts picks).1, now := (secRun D.waits (secList D.waits) D.lasts picks).1 }
theorem pagesOf_in {L : List (Int × List UInt8)} {x : Int} {b : List UInt8} (h : b ∈ pagesOf L x) : (x, b) ∈ L := by
  unfold pagesOf at h
  obtain ⟨p, hp, rfl⟩ := List.mem_map.1 h
  obtain ⟨h1, h2⟩ := List.mem_filter.1 hp
  have e : p.1 = x := by simpa using h2
  rw [← e]
  exact h1
end Go.Proofs.Ytehlabdbbbbopaa
