/- Layer 2: two disks at once. -/
import Derived.Test.YtehlabdbbbbopaaPa37
import Derived.Test.YtehlabdbbbbopaaPa40

namespace Go.Proofs.Ytehlabdbbbbopaa
open Go.RowKit Go.Maps Go.Shelf

/-- Two disks that share nothing but what waits; the second is told by C. -/
structure DkTwo (w0 w : World) (d : Nat) (D : Dk) (c : Nat) (C : Dk) : Prop where
  at_ : ∃ m1 m2 V n1 n2 U, DkAt w d m1 m2 V D ∧ DkAt w c n1 n2 U C ∧ (d ≠ c ∧ m1 ≠ n1 ∧ m1 ≠ n2 ∧ m2 ≠ n1 ∧ m2 ≠ n2) ∧ w0.heap.size ≤ m1 ∧ w0.heap.size ≤ m2 ∧ w0.heap.size ≤ n1 ∧ w0.heap.size ≤ n2
  f : w0.heap.size ≤ d ∧ w0.heap.size ≤ c
  h : Keeps w0 w []
section
variable {w0 w w' : World} {d c : Nat} {D C : Dk}
theorem DkTwo.one (h : DkTwo w0 w d D c C) : DkIn w0 w d D := by
  obtain ⟨⟨m1, m2, V, n1, n2, U, h1, h2, h3, h4, h5, h6, h7⟩, h8, h9⟩ := h
  exact ⟨⟨m1, m2, V, h1, h4, h5⟩, h8.1, h9⟩
theorem DkTwo.two (h : DkTwo w0 w d D c C) : DkIn w0 w c C := by
  obtain ⟨⟨m1, m2, V, n1, n2, U, h1, h2, h3, h4, h5, h6, h7⟩, h8, h9⟩ := h
  exact ⟨⟨n1, n2, U, h2, h6, h7⟩, h8.2, h9⟩
theorem DkTwo.keeps (h : DkTwo w0 w d D c C) (hk : Keeps w w' []) : DkTwo w0 w' d D c C := by
  obtain ⟨⟨m1, m2, V, n1, n2, U, h1, h2, h3, h4, h5, h6, h7⟩, h8, h9⟩ := h
  exact ⟨⟨m1, m2, V, n1, n2, U, h1.keeps hk, h2.keeps hk, h3, h4, h5, h6, h7⟩, h8, h9.trans hk (by simp)⟩
theorem DkTwo.box {b : Nat} {t : TypeId} {cs : Array Value} (h : DkTwo w0 w d D c C) (hb : w0.heap.size ≤ b) (hr : Row w b t cs) (ht : t ≠ 67) (ht' : t ≠ 75) (hk : Keeps w w' [b]) : DkTwo w0 w' d D c C := by
  obtain ⟨⟨m1, m2, V, n1, n2, U, h1, h2, h3, h4, h5, h6, h7⟩, h8, h9⟩ := h
  have nw : ∀ x ∈ [b], ∀ cs, ¬ Row w x 75 cs := fun x hx cs hc => by obtain rfl := List.mem_singleton.1 hx; exact Row.ne_type hc hr ht'.symm rfl
  have a1 := imap_ne_row h1.l hr
  have a2 := imap_ne_row h1.n hr
  have a3 := Row.ne_type h1.row hr ht.symm
  have b1 := imap_ne_row h2.l hr
  have b2 := imap_ne_row h2.n hr
  have b3 := Row.ne_type h2.row hr ht.symm
  exact ⟨⟨m1, m2, V, n1, n2, U, h1.keep hk (by simpa using a3) (by simpa using a1) (by simpa using a2) nw, h2.keep hk (by simpa using b3) (by simpa using b1) (by simpa using b2) nw, h3, h4, h5, h6, h7⟩, h8, h9.trans hk (fun y hy hlt => by simp at hy; omega)⟩
theorem DkTwo.boxOnly (hd : DkTwo w0 w d D c C) (h : BoxOnly 43 w w') (hk : Keeps w0 w' []) : DkTwo w0 w' d D c C := by
  obtain ⟨⟨m1, m2, V, n1, n2, U, h1, h2, h3⟩, h8, h9⟩ := hd
  exact ⟨⟨m1, m2, V, n1, n2, U, h1.boxOnly h, h2.boxOnly h, h3⟩, h8, hk⟩
theorem DkTwo.post {m1 m2 n1 n2 : Nat} {V U : Value} {r : Nat × Dk} {e : Ending} (h1 : DkAt w d m1 m2 V D) (h2 : DkAt w c n1 n2 U C) (h3 : d ≠ c ∧ m1 ≠ n1 ∧ m1 ≠ n2 ∧ m2 ≠ n1 ∧ m2 ≠ n2) (h4 : w0.heap.size ≤ m1 ∧ w0.heap.size ≤ m2 ∧ w0.heap.size ≤ n1 ∧ w0.heap.size ≤ n2) (f : w0.heap.size ≤ d ∧ w0.heap.size ≤ c) (hk : Keeps w0 w []) (p : DkPost w c n1 n2 r e w') :
    e = .returned (.int .i64 (r.1 : Nat)) ∧ DkTwo w0 w' d D c r.2 ∧ Apart w w' c := by
  obtain ⟨he, n1', U', hp, hn, hk'⟩ := p
  have hsz := hk.size
  have l1 := h1.l.lt
  have l2 := h1.n.lt
  have q1 := imap_ne_row h1.l h2.row
  have q2 := imap_ne_row h1.n h2.row
  have q3 := imap_ne_row h2.n h1.row
  have nw : ∀ x ∈ [c, n2], ∀ cs, ¬ Row w x 75 cs := fun x hx cs hc => by
    rcases List.mem_cons.1 hx with rfl | hx
    · exact Row.ne_type hc h2.row (by decide) rfl
    · obtain rfl := List.mem_singleton.1 hx
      exact imap_ne_row h2.n hc rfl
  have hd := h1.keep hk' (by simp; omega) (by simp; omega) (by simp; omega) nw
  refine ⟨he, ⟨⟨m1, m2, V, n1', n2, U', hd, hp, ⟨h3.1, ?_, h3.2.2.1, ?_, h3.2.2.2.2⟩, h4.1, h4.2.1, ?_, h4.2.2.2⟩, f, hk.trans hk' (fun y hy hlt => by simp at hy; omega)⟩, n2, fun t cs hr => imap_ne_row h2.n hr rfl, hk'⟩
  · rcases hn with rfl | hn <;> omega
  · rcases hn with rfl | hn <;> omega
  · rcases hn with rfl | hn <;> omega
end
theorem DkSense.two (w0 : World) (d : Nat) (D : Dk) (c : Nat) : DkSense w0.heap.size (fun w C => DkTwo w0 w d D c C) c where
  size := fun h => h.h.size
  box := fun h hb hr ht ht' hk => h.box hb hr ht ht' hk
  keeps := fun h k => h.keeps k
  row := fun h => h.two.row
  write := fun h page A n cc bs hn hA hl => by
    obtain ⟨⟨m1, m2, V, n1, n2, U, h1, h2, h3, h4⟩, h8, h9⟩ := h
    exact (dkWrite_any _ _ n1 n2 U _ h2 page A n cc bs hn hA hl).mono fun e w' hp => DkTwo.post h1 h2 h3 h4 h8 h9 hp
  flush := fun h => by
    obtain ⟨⟨m1, m2, V, n1, n2, U, h1, h2, h3, h4⟩, h8, h9⟩ := h
    exact (dkFlush_any _ _ n1 n2 U _ h2).mono fun e w' hp => DkTwo.post h1 h2 h3 h4 h8 h9 hp
  arm := fun h k s hs => by
    obtain ⟨⟨m1, m2, V, n1, n2, U, h1, h2, h3, h4⟩, h8, h9⟩ := h
    refine (dkArm_any _ _ n1 n2 U _ h2 k s hs).mono ?_
    rintro e w' ⟨he, hp, hk⟩
    exact DkTwo.post h1 h2 h3 h4 h8 h9 ⟨he, n1, U, hp, .inl rfl, hk.weaken (by simp)⟩
theorem dkCopy_two {w0 w : World} {d : Nat} {D : Dk} (h : DkIn w0 w d D) :
    Calls Try.prog 20 #[.pointer (some ⟨d, 0, none⟩)] w fun e w' => ∃ c, e = .returned (.pointer (some ⟨c, 0, none⟩)) ∧ DkTwo w0 w' d D c D ∧ w.heap.size ≤ c ∧ Keeps w w' [] := by
  obtain ⟨⟨m1, m2, V, h1, h2, h3⟩, h4, h5⟩ := h
  refine (dkCopy_any w d m1 m2 V D h1).mono ?_
  rintro e w' ⟨c, n1, n2, rfl, a1, a2, a3, a4, a5⟩
  have l := dk_ne_new h1
  have s := h5.size
  exact ⟨c, rfl, ⟨⟨m1, m2, V, n1, n2, V, h1.keeps a5, a1, by omega, h2, h3, by omega, by omega⟩, by omega, h5.trans a5 (by simp)⟩, a2, a5⟩
theorem dkSame_in {w0 w1 w : World} {d c : Nat} {D C : Dk} (h : DkIn w0 w d D) (h' : DkIn w1 w c C) (hl : D.waits.length ≤ 1000000) : Calls Try.prog 26 #[.pointer (some ⟨d, 0, none⟩), .pointer (some ⟨c, 0, none⟩)] w (TruthOf w (SameD D C)) := by
  obtain ⟨⟨m1, m2, V, h1, -, -⟩, -, -⟩ := h
  obtain ⟨⟨n1, n2, U, g1, -, -⟩, -, -⟩ := h'
  exact dkSame_any h1 g1 hl
theorem dkSame_nil {w0 w : World} {d : Nat} {D : Dk} (h : DkIn w0 w d D) : Calls Try.prog 26 #[.pointer (some ⟨d, 0, none⟩), .pointer none] w fun e w' => e = .returned (.bool false) ∧ Keeps w w' [] := by
  obtain ⟨⟨m1, m2, V, h1, -, -⟩, -, -⟩ := h
  exact dkSame_no h1 (.inl rfl)
/-- An armed disk's steps left, where it is not armed. -/
def Dk.z (D : Dk) : Prop := D.kind = 0 → D.left = 0
theorem Dk.z_act {D : Dk} (h : D.z) (x : ActV) : (D.act x).2.z := by
  have hr : D.refused.z := by
    unfold Dk.refused
    split
    · exact h
    · exact fun _ => rfl
  have ht : ∀ E : Dk, E.kind = D.ticked.kind → E.left = D.ticked.left → E.z := fun E e1 e2 => by
    unfold Dk.ticked at e1 e2
    split at e1
    · rw [if_pos (by assumption)] at e2
      intro hk
      rw [e2]
      exact h (by rw [← e1]; exact hk)
    · rename_i hk
      exact fun hk' => absurd (show D.kind = 0 by rw [← hk', e1]) hk
  unfold Dk.act
  split
  · unfold Dk.write
    split
    · exact h
    · split
      · exact h
      · split
        · exact hr
        · exact ht _ rfl rfl
  · split
    · unfold Dk.flush
      split
      · exact hr
      · exact ht _ rfl rfl
    · split
      · unfold Dk.arm
        split
        · exact h
        · split
          · exact h
          · split
            · exact fun _ => rfl
            · rename_i h1 _ h3
              intro hk
              exact absurd (.inr (.inr ⟨hk, by omega⟩)) h1
      · exact h
/-- Two references are alike. -/
structure SameR (R S : Rk) : Prop where
  wl : R.waits.length = S.waits.length
  k : R.kind = S.kind
  dd : R.dead = S.dead
  lf : R.kind = 0 ∨ R.left = S.left
  l : R.lasts = S.lasts
  w : R.waits = S.waits
theorem sameD_iff {D C : Dk} {R S : Rk} (h : DkRk D R) (h' : DkRk C S) (hz : D.z) (hz' : C.z) (hp : D.pages = C.pages) (ok : DkOk D) (ok' : DkOk C) : SameD D C ↔ SameR R S := by
  have far : ∀ (M : Int → Option (List UInt8)) (E : Dk), PagesOk E.pages M → ∀ x : Int, ¬ (0 ≤ x ∧ x < E.pages) → M x = none := fun M E hM x hx => by
    cases hm : M x with
    | none => rfl
    | some b => exact absurd ⟨(hM x b hm).1, (hM x b hm).2.1⟩ hx
  constructor
  · intro s
    refine ⟨by rw [h.w, h'.w, s.w], by rw [h.k, h'.k, s.k], by rw [h.dd, h'.dd, s.dd], ?_, ?_, by rw [h.w, h'.w, s.w]⟩
    · by_cases hk : D.kind = 0
      · exact .inl (by rw [h.k]; exact hk)
      · refine .inr ?_
        have e1 : R.left = D.left := by rcases h.lf with e | e; exact absurd e hk; exact e
        have e2 : S.left = C.left := by rcases h'.lf with e | e; exact absurd (by rw [s.k]; exact e) hk; exact e
        rw [e1, e2, s.lf]
    · rw [h.l, h'.l, ← hp]
      exact listOf_congr fun i _ => s.l i
  · intro s
    have ek : D.kind = C.kind := by rw [← h.k, ← h'.k, s.k]
    have ew : D.waits = C.waits := by rw [← h.w, ← h'.w, s.w]
    have el : ∀ x, AlikeAt D.lasts C.lasts x := fun x => by
      unfold AlikeAt
      by_cases hx : 0 ≤ x ∧ x < D.pages
      · have e := s.l
        rw [h.l, h'.l, ← hp] at e
        obtain ⟨i, rfl⟩ : ∃ i : Nat, x = i := ⟨x.toNat, by omega⟩
        have h1 : i < (listOf D.pages D.lasts).length := by rw [listOf_length]; omega
        have h2 : i < (listOf D.pages C.lasts).length := by rw [listOf_length]; omega
        have := List.getElem_of_eq e h1
        rwa [listOf_get, listOf_get] at this
      · rw [far _ D ok.l x hx, far _ C ok'.l x (by rw [← hp]; exact hx)]
    refine ⟨ek, ?_, hp, by rw [← h.dd, ← h'.dd, s.dd], el, fun x => ?_, ew⟩
    · by_cases hk : D.kind = 0
      · rw [hz hk, hz' (by rw [← ek]; exact hk)]
      · have e1 : R.left = D.left := by rcases h.lf with e | e; exact absurd e hk; exact e
        have e2 : S.left = C.left := by rcases h'.lf with e | e; exact absurd (by rw [ek]; exact e) hk; exact e
        rcases s.lf with e | e
        · exact absurd (by rw [← h.k]; exact e) hk
        · rw [← e1, ← e2, e]
    · show D.page x = C.page x
      rw [h.pg, h'.pg, ew, el x]
end Go.Proofs.Ytehlabdbbbbopaa
