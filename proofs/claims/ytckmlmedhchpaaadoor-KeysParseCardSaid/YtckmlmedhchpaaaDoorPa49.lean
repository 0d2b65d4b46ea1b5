/- Package pigeonryref18: Parse. -/
import Derived.Test.YtckmlmedhchpaaaDoorPa48
import Derived.Test.YtckmlmedhchpaaaDoorPa42

namespace Go.Proofs.YtckmlmedhchpaaaDoor
open Go.RowKit Ieee

/-- What the reference's Parse answers. -/
def RParsed (w : World) (s : List UInt8) (e : Ending) (w' : World) : Prop := Keeps w w' [] ∧
  ((∃ l v, e = .returned (.tuple #[v, .bool true]) ∧ OwnedP w' w.heap.size v l ∧ (∀ p ∈ l, p.Ok ∧ p.s.length ≤ 48) ∧ kErr l = 0 ∧ kRaw l = s) ∨
   ((¬ ∃ l : List KP, (∀ p ∈ l, p.Ok) ∧ kErr l = 0 ∧ kRaw l = s) ∧ e = .returned (.tuple #[.slice none 0 0, .bool false])))
theorem kErr_len {l : List KP} (h : kErr l = 0) : 1 ≤ (kRaw l).length ∧ (kRaw l).length ≤ 48 := by
  have hc := raw_count l
  unfold kErr at h
  split at h
  · split at h
    · omega
    · split at h <;> omega
  · omega
/-- What has been read. -/
structure RP (w : World) (s rest : List UInt8) (acc : List KP) (v : Value) (wr : World) : Prop where
  e : ∃ acc0, likes acc acc0 ∧ rPar s = (rPar rest).map (acc0 ++ ·)
  o : OwnedP wr w.heap.size v acc
  h : Keeps w wr []
  n : acc.length + rest.length ≤ 48
  ok : ∀ p ∈ acc, p.Ok ∧ p.s.length ≤ 48
theorem RP.no {w : World} {s rest : List UInt8} {acc : List KP} {v : Value} {wr : World} {b : UInt8} (H : RP w s (b :: rest) acc v wr) (h : rRd b rest = none) : ¬ ∃ l : List KP, (∀ p ∈ l, p.Ok) ∧ kErr l = 0 ∧ kRaw l = s := by
  rintro ⟨l, h1, h2, h3⟩
  obtain ⟨l', g1, _⟩ := rpar_own l h1 h2
  obtain ⟨acc0, _, e2⟩ := H.e
  rw [h3, e2, rPar_none h] at g1
  cases g1
theorem RP.end {w : World} {s : List UInt8} {acc : List KP} {v : Value} {wr : World} (H : RP w s [] acc v wr) (h : ¬ (kErr acc = 0 ∧ kRaw acc = s)) : ¬ ∃ l : List KP, (∀ p ∈ l, p.Ok) ∧ kErr l = 0 ∧ kRaw l = s := by
  rintro ⟨l, h1, h2, h3⟩
  obtain ⟨l', g1, g2⟩ := rpar_own l h1 h2
  obtain ⟨acc0, e1, e2⟩ := H.e
  rw [h3, e2, rPar_nil] at g1
  have : acc0 = l' := by simpa using g1
  subst this
  exact h ⟨by rw [likes_err e1, likes_err g2, h2], by rw [(likes_raw e1).1, (likes_raw g2).1, h3]⟩
theorem RP.more {w : World} {s rest t : List UInt8} {acc : List KP} {v v' : Value} {wr wr' : World} {b : UInt8} {p : KP} (H : RP w s (b :: rest) acc v wr) (h : RdAs b rest t p) (ho : OwnedP wr' w.heap.size v' (acc ++ [p])) (hk : Keeps w wr' []) : RP w s t (acc ++ [p]) v' wr' := by
  obtain ⟨p0, h1, h2, h3⟩ := h
  obtain ⟨acc0, e1, e2⟩ := H.e
  have hl := rRd_len h1
  have hn := H.n
  simp only [List.length_cons] at hn
  refine ⟨⟨acc0 ++ [p0], likes_snoc e1 h2, ?_⟩, ho, hk, by simp; omega, fun q hq => ?_⟩
  · rw [e2, rPar_step h1]
    cases rPar t <;> simp
  · rcases List.mem_append.1 hq with hq | hq
    · exact H.ok q hq
    · obtain rfl : q = p := by simpa using hq
      exact ⟨h3, by rw [h2.s]; omega⟩
set_option maxRecDepth 100000 in
set_option maxHeartbeats 8000000 in
theorem refParse_any (w : World) (s : List UInt8) (hs : s.length ≤ 100000) :
    Calls Tryd.prog 11 #[strV s] w (RParsed w s) := by
  unfold strV
  have hsl : (⟨s.toArray⟩ : ByteArray).size = s.length := by simp [ByteArray.size]
  have hsf := @run_store_float Tryd.prog
  by_cases h1 : (s.length : Int) < 1
  · go_enter Tryd.func11, Tryd.ntmps11
    go_wp2_with fail
    go_ret2
    refine ⟨Keeps.refl _ _, .inr ⟨?_, rfl⟩⟩
    rintro ⟨l, _, g2, g3⟩
    have := (kErr_len g2).1
    rw [g3] at this
    omega
  · by_cases h48 : (s.length : Int) > 48
    · go_enter Tryd.func11, Tryd.ntmps11
      go_wp2_with fail
      go_ret2
      refine ⟨Keeps.refl _ _, .inr ⟨?_, rfl⟩⟩
      rintro ⟨l, _, g2, g3⟩
      have := (kErr_len g2).2
      rw [g3] at this
      omega
    · go_enter Tryd.func11, Tryd.ntmps11
      go_wp2_with fail
      have HS := Lib.hid h48
      clear h1 h48
      go_loopw [4, 5] (fun v r wr => ∃ (rest : List UInt8) (acc : List KP), r = .string ⟨rest.toArray⟩ ∧ Hid (RP w s rest acc v wr)) (fun _ r _ => match r with | .string b => b.size | _ => 0)
      case atStart => exact ⟨s, [], rfl, ⟨⟨[], trivial, by cases rPar s <;> simp⟩, World.ownsRow_nil _ _ _ _, Keeps.refl _ _, by have := HS.out; simp; omega, fun _ h => nomatch h⟩⟩
      case round =>
        obtain ⟨rest, acc, rfl, H⟩ := hrel
        have hrl : (⟨rest.toArray⟩ : ByteArray).size = rest.length := by simp [ByteArray.size]
        rcases rest with _ | ⟨b, rest⟩
        · have hn := H.out.n
          obtain ⟨A, c, rfl, hL⟩ := ownP_slice H.out.o
          have HC := Lib.hid (refRaw_any wr A c acc (fun p hp => (H.out.ok p hp).1) hL (by simp at hn; omega) (fun p hp => by have := (H.out.ok p hp).2; omega))
          have HE := Lib.hid (show kErr acc ≤ 1000000 by unfold kErr; (repeat' split) <;> omega)
          obtain ⟨E, hE⟩ : ∃ E, kErr acc = E := ⟨_, rfl⟩
          obtain ⟨V, hV⟩ : ∃ V : List UInt8, kRaw acc = V := ⟨_, rfl⟩
          have HEV := Lib.hid (And.intro hE hV)
          rw [hE, hV] at HC
          clear hL hn hE hV
          go_wp2_with fail
          refine HC.out.mono ?_
          rintro e w1 ⟨rfl, hk⟩
          have HK := Lib.hid (H.out.h.trans hk (by simp))
          have HO := Lib.hid (ownP_keep H.out.o hk (by simp))
          clear hk
          by_cases h0 : E = 0
          · subst h0
            rw [if_pos rfl]
            unfold strV
            clear HC
            by_cases hVs : V = s
            · subst hVs
              go_wp2_with fail
              go_ret2
              exact ⟨HK.out, .inl ⟨acc, _, rfl, HO.out, H.out.ok, HEV.out.1, HEV.out.2⟩⟩
            · have hvb : (!(V == s)) = true := by simp [hVs]
              have HNE := Lib.hid hVs
              clear hVs
              go_wp2_with fail
              go_ret2
              exact ⟨HK.out, .inr ⟨H.out.end (fun h => HNE.out (by rw [← HEV.out.2]; exact h.2)), rfl⟩⟩
          · rw [if_neg h0]
            have hz : (((E : Nat) : Int) == 0) = false := by simp; omega
            have HZ := Lib.hid h0
            clear h0
            unfold strV
            go_wp2_with fail
            go_ret2
            refine ⟨HK.out, .inr ⟨H.out.end (fun h => HZ.out (by rw [← HEV.out.1]; exact h.1)), rfl⟩⟩
        · have hr1 : (0 : Int) < (rest.length : Int) + 1 := by omega
          have HN := Lib.hid (show rest.length ≤ 1000000 by have := H.out.n; simp at this; omega)
          go_wp2_with fail
          refine (refRead_any b rest HN.out wr).mono ?_
          rintro e w1 ⟨hk, h⟩
          rcases h with ⟨p, t, hrd, rfl⟩ | ⟨hrd, p, rfl⟩
          · have HRD := Lib.hid hrd
            have HK := Lib.hid hk
            have HV := Lib.hid (ownP_keep H.out.o hk (by simp))
            obtain ⟨pk, pn, pf, ps⟩ := p
            clear hrd hk
            unfold kpV strV
            have HG := Lib.hid (show ∀ (j : Nat) u, (kpCells ⟨pk, pn, pf, ps⟩)[j]? = some u → ((w1.alloc (.cells #[.int .i64 pk, .int .i64 pn, .float .f64 pf, .string ⟨ps.toArray⟩] 34)).alloc (.cells #[.int .i64 pk, .int .i64 pn, .float .f64 pf, .string ⟨ps.toArray⟩] 34)).cell? ((⟨w1.heap.size + 1, 0, none⟩ : Addr).add j) = some u from fun j u hu => by
              have hr := Row.new (w1.alloc (.cells #[.int .i64 pk, .int .i64 pn, .float .f64 pf, .string ⟨ps.toArray⟩] 34)) 34 #[.int .i64 pk, .int .i64 pn, .float .f64 pf, .string ⟨ps.toArray⟩]
              have hc := hr.cell j
              rw [show (w1.alloc (.cells #[.int .i64 pk, .int .i64 pn, .float .f64 pf, .string ⟨ps.toArray⟩] 34)).heap.size = w1.heap.size + 1 by simp] at hc
              have : ((⟨w1.heap.size + 1, 0, none⟩ : Addr).add j) = ⟨w1.heap.size + 1, j, none⟩ := by
                unfold Addr.add
                split
                · rename_i h0; subst h0; rfl
                · simp
              rw [this, hc, ← hu]
              simp [kpCells, strV])
            have hal : acc.length ≤ 48 := by have := H.out.n; omega
            have hsz9 : w.heap.size ≤ w1.heap.size := (H.out.h.trans HK.out (by simp)).size
            obtain ⟨i0, hi, hz0, hz1, hz2⟩ := info_parts infoPart
            go_wp2_with (at_builtin; refine wpList_append_own_at _ rfl (.tmp 31) (.tmp 33) 23 rfl w.heap.size 34 i0 (.agg #[.int .i64 0, .int .i64 0, .float .f64 0, .string ⟨#[]⟩]) 4 40 undParts hi hz0 hz1 hz2 rfl (by decide) u4 acc.length (kFlat acc) rfl ((HV.out.alloc _).alloc _) ⟨w1.heap.size + 1, 0, none⟩ 1 1 (kpCells ⟨pk, pn, pf, ps⟩) rfl rfl HG.out (by simp [kpCells, Value.oneCell', strV]) (by simp [maxLen]; omega) (by omega) (by simp; omega) ?_; intro v' w5 hown hgrow _ hbl)
            have hown : OwnedP w5 w.heap.size v' (acc ++ [⟨pk, pn, pf, ps⟩]) := by
              unfold OwnedP
              rw [List.length_append, show kFlat (acc ++ [⟨pk, pn, pf, ps⟩]) = kFlat acc ++ kpCells ⟨pk, pn, pf, ps⟩ by simp [kFlat]]
              exact hown
            have hk5 : Keeps w w5 [] := (((H.out.h.trans HK.out (by simp)).trans (Keeps.alloc _ _) (by simp)).trans (Keeps.alloc _ _) (by simp)).trans (Keeps.of_grown hgrow) (fun x hx hlt => by have := (HV.out.lt x (by simpa using hx)).1; omega)
            obtain ⟨p0, hr0, _⟩ := HRD.out
            have hle := (rRd_len hr0).1
            refine ⟨⟨t, acc ++ [⟨pk, pn, pf, ps⟩], rfl, Lib.hid (H.out.more HRD.out hown hk5)⟩, ?_⟩
            show (⟨t.toArray⟩ : ByteArray).size < (⟨(b :: rest).toArray⟩ : ByteArray).size
            simp [ByteArray.size]
            omega
          · have HX := Lib.hid (H.out.no hrd)
            have HK := Lib.hid (H.out.h.trans hk (by simp))
            clear hrd hk
            unfold kpV strV
            go_wp2_with fail
            go_ret2
            exact ⟨HK.out.trans (Keeps.alloc _ _) (by simp), .inr ⟨HX.out, rfl⟩⟩
end Go.Proofs.YtckmlmedhchpaaaDoor
