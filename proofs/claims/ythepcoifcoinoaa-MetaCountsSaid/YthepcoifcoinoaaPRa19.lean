/- Walks over package page (layer 4): Look, where the sum is right. Walks over package page (layer 4): Look, whole. Walks over package page (layer 4): Parse. Plain law of a page's bytes (layer 4): numbers and their bytes. Plain law of a page's bytes (layer 4): a page's bytes are those of its parts. Plain law of a page's bytes (layer 4): the parts of the bytes of a page. Plain law of a page's bytes (layer 4): when are the bytes those of their parts. -/
import Derived.Test.YthepcoifcoinoaaPRa18
import Derived.Deep.RegionHeld3
import Derived.Deep.DeepCutAuto
import Derived.Deep.CutRange
import Derived.BigRegion

namespace Go.Proofs.Ythepcoifcoinoaa
open Go.RowKit

/-- The parts of a page's bytes. -/
def pgKind (l : List UInt8) : Nat := beN ((l.drop 4).take 1)
def pgLen (l : List UInt8) : Nat := beN ((l.drop 5).take 1)
def pgTxid (l : List UInt8) : Int := wrap64 (beN ((l.drop 6).take 8) : Nat)
def pgNum (l : List UInt8) : Nat := beN ((l.drop 14).take 4)
def pgNext (l : List UInt8) : Nat := beN ((l.drop 18).take 4)
def pgPad (l : List UInt8) : Nat := beN ((l.drop 22).take 2)
def pgBody (l : List UInt8) : List UInt8 := (l.drop 24).take (pgLen l)
/-- Are these (of the right sum) a page's bytes? -/
def lookOk (l : List UInt8) : Bool := (decide (pgLen l ≤ 232) && decide (pgPad l = 0)) && (allZero (l.drop (24 + pgLen l)) && (pageOk (pgKind l) (pgTxid l) (pgNext l) (pgLen l) && withinB (pgNum l) 0 4095))
/-- In the midst of Look: a reader at r that has read m bytes; the boxes of the results; the reader's box bx. -/
structure LookSt (w W wx : World) (r bx : Nat) (l : List UInt8) (m : Nat) (x2 q0 q1 q2 q3 : Value) : Prop where
  rd : Rd wx W.heap.size r (l.drop m)
  kp : Keeps W wx [w.heap.size, w.heap.size + 1, w.heap.size + 1 + 1]
  r2 : Row wx w.heap.size 2 #[x2]
  r3 : Row wx (w.heap.size + 1) 26 #[q0, q1, q2, q3]
  r4 : Row wx (w.heap.size + 1 + 1) 27 #[.int .i64 0]
  rb : Row wx bx 71 #[.pointer (some ⟨r, 0, none⟩)]
  hw : w.heap.size + 3 ≤ W.heap.size
  hb : r < bx
  kw : Keeps w W []

theorem LookSt.keeps {w W wx : World} {r bx : Nat} {l : List UInt8} {m : Nat} {x2 q0 q1 q2 q3 : Value} (h : LookSt w W wx r bx l m x2 q0 q1 q2 q3) : Keeps w wx [] :=
  h.kw.trans h.kp (fun x hx hl => by simp at hx; omega)
theorem LookSt.base {w W wx : World} {r bx : Nat} {l : List UInt8} {m : Nat} {x2 q0 q1 q2 q3 : Value} (h : LookSt w W wx r bx l m x2 q0 q1 q2 q3) : W.heap.size ≤ r := h.rd.choose_spec.choose_spec.2.1

theorem LookSt.other {w W wx wy : World} {r bx : Nat} {l : List UInt8} {m : Nat} {x2 q0 q1 q2 q3 : Value} (h : LookSt w W wx r bx l m x2 q0 q1 q2 q3) (hk : Keeps wx wy []) : LookSt w W wy r bx l m x2 q0 q1 q2 q3 :=
  ⟨h.rd.keep hk (by simp), h.kp.trans hk (by simp), h.r2.keep hk (by simp), h.r3.keep hk (by simp), h.r4.keep hk (by simp), h.rb.keep hk (by simp), h.hw, h.hb, h.kw⟩

theorem LookSt.put2 {w W wx : World} {r bx : Nat} {l : List UInt8} {m : Nat} {x2 q0 q1 q2 q3 : Value} (h : LookSt w W wx r bx l m x2 q0 q1 q2 q3) (v : Value) : LookSt w W (wx.setCell ⟨w.heap.size, 0, none⟩ v) r bx l m v q0 q1 q2 q3 := by
  have hb := h.base
  have hw := h.hw
  have hbx := h.hb
  have k := Keeps.setCell wx ⟨w.heap.size, 0, none⟩ v
  exact ⟨h.rd.keep k (by simp; omega), h.kp.trans k (by simp), h.r2.store 0 v, h.r3.keep k (by simp), h.r4.keep k (by simp; omega), h.rb.keep k (by simp; omega), h.hw, h.hb, h.kw⟩
theorem LookSt.put3 {w W wx : World} {r bx : Nat} {l : List UInt8} {m : Nat} {x2 q0 q1 q2 q3 : Value} (h : LookSt w W wx r bx l m x2 q0 q1 q2 q3) (i : Nat) (v : Value) (q0' q1' q2' q3' : Value) (hq : #[q0, q1, q2, q3].setIfInBounds i v = #[q0', q1', q2', q3']) : LookSt w W (wx.setCell ⟨w.heap.size + 1, i, none⟩ v) r bx l m x2 q0' q1' q2' q3' := by
  have hb := h.base
  have hw := h.hw
  have hbx := h.hb
  have k := Keeps.setCell wx ⟨w.heap.size + 1, i, none⟩ v
  exact ⟨h.rd.keep k (by simp; omega), h.kp.trans k (by simp), h.r2.keep k (by simp), hq ▸ h.r3.store i v, h.r4.keep k (by simp), h.rb.keep k (by simp; omega), h.hw, h.hb, h.kw⟩

def LookSays (w : World) (l : List UInt8) (e : Ending) (w' : World) : Prop :=
  (lookOk l = true ∧ Keeps w w' [] ∧ ∃ A c, e = .returned (.tuple #[.int .i64 (pgNum l : Nat), .agg #[.int .i64 (pgKind l : Nat), .int .i64 (pgTxid l), .int .i64 (pgNext l : Nat), .slice A (pgBody l).length c], .int .i64 0]) ∧ Owned w' w.heap.size (.slice A (pgBody l).length c) (pgBody l)) ∨
  (lookOk l = false ∧ e = .returned (noLook 141) ∧ Keeps w w' [])

theorem LookSt.take {w W wx : World} {r bx : Nat} {l : List UInt8} {m : Nat} {x2 q0 q1 q2 q3 : Value} (h : LookSt w W wx r bx l m x2 q0 q1 q2 q3) (k : Nat) (K : Int) (hK : K = k) (hk1 : 1 ≤ k) (hk8 : k ≤ 8) (hkl : m + k ≤ l.length) (V : Int) (hV : wrap64 (beN ((l.drop m).take k) : Nat) = V) :
    Calls Try.prog 38 #[.int .i64 K, .pointer (some ⟨bx, 0, none⟩)] wx fun e w' => e = .returned (.int .i64 V) ∧ LookSt w W w' r bx l (m + k) x2 q0 q1 q2 q3 := by
  subst hV
  refine (lookTake_any wx W.heap.size r bx k K hK (l.drop m) (h.rb.cell 0) h.rd hk1 hk8 (by rw [List.length_drop]; omega)).mono ?_
  rintro e w' ⟨rfl, h1, h2⟩
  rw [List.drop_drop] at h1
  have hb := h.base
  have hw := h.hw
  have hbx := h.hb
  exact ⟨rfl, h1, h.kp.trans h2 (fun x hx hl => by simp at hx; omega), h.r2.keep h2 (by simp; omega), h.r3.keep h2 (by simp; omega), h.r4.keep h2 (by simp; omega), h.rb.keep h2 (by simp; omega), h.hw, h.hb, h.kw⟩

theorem LookSt.put4 {w W wx : World} {r bx : Nat} {l : List UInt8} {m : Nat} {x2 q0 q1 q2 q3 : Value} (h : LookSt w W wx r bx l m x2 q0 q1 q2 q3) : LookSt w W (wx.setCell ⟨w.heap.size + 1 + 1, 0, none⟩ (.int .i64 0)) r bx l m x2 q0 q1 q2 q3 := by
  have hb := h.base
  have hw := h.hw
  have hbx := h.hb
  have k := Keeps.setCell wx ⟨w.heap.size + 1 + 1, 0, none⟩ (.int .i64 0)
  exact ⟨h.rd.keep k (by simp; omega), h.kp.trans k (by simp), h.r2.keep k (by simp; omega), h.r3.keep k (by simp), h.r4.store 0 _, h.rb.keep k (by simp; omega), h.hw, h.hb, h.kw⟩
theorem LookSt.fin {w W wx : World} {r bx : Nat} {l : List UInt8} {m : Nat} {x2 q0 q1 q2 q3 : Value} (h : LookSt w W wx r bx l m x2 q0 q1 q2 q3) :
    LookSt w W ((((((wx.setCell ⟨w.heap.size, 0, none⟩ x2).setCell ⟨w.heap.size + 1, 0, none⟩ q0).setCell ⟨w.heap.size + 1, 1, none⟩ q1).setCell ⟨w.heap.size + 1, 2, none⟩ q2).setCell ⟨w.heap.size + 1, 3, none⟩ q3).setCell ⟨w.heap.size + 1 + 1, 0, none⟩ (.int .i64 0)).drew r bx l m x2 q0 q1 q2 q3 ∧
    ∀ v b, Owned wx W.heap.size v b → Owned ((((((wx.setCell ⟨w.heap.size, 0, none⟩ x2).setCell ⟨w.heap.size + 1, 0, none⟩ q0).setCell ⟨w.heap.size + 1, 1, none⟩ q1).setCell ⟨w.heap.size + 1, 2, none⟩ q2).setCell ⟨w.heap.size + 1, 3, none⟩ q3).setCell ⟨w.heap.size + 1 + 1, 0, none⟩ (.int .i64 0)).drew w.heap.size v b := by
  refine ⟨((((((h.put2 x2).put3 0 q0 _ _ _ _ rfl).put3 1 q1 _ _ _ _ rfl).put3 2 q2 _ _ _ _ rfl).put3 3 q3 _ _ _ _ rfl).put4).other (Keeps.drew _), fun v b ho => ?_⟩
  have hw := h.hw
  have lt := fun g hg => (owned_lt ho g hg).1
  refine own_base (base := W.heap.size) ?_ (by omega)
  refine own_keep (S := []) ?_ (Keeps.drew _) (by simp)
  refine own_keep ?_ (Keeps.setCell _ _ _) (fun g hg hm => by have := lt g hg; simp at hm; omega)
  refine own_keep ?_ (Keeps.setCell _ _ _) (fun g hg hm => by have := lt g hg; simp at hm; omega)
  refine own_keep ?_ (Keeps.setCell _ _ _) (fun g hg hm => by have := lt g hg; simp at hm; omega)
  refine own_keep ?_ (Keeps.setCell _ _ _) (fun g hg hm => by have := lt g hg; simp at hm; omega)
  refine own_keep ?_ (Keeps.setCell _ _ _) (fun g hg hm => by have := lt g hg; simp at hm; omega)
  exact own_keep ho (Keeps.setCell _ _ _) (fun g hg hm => by have := lt g hg; simp at hm; omega)

theorem pg_bounds (l : List UInt8) (hl : l.length = 256) : pgKind l < 256 ∧ pgLen l < 256 ∧ pgNum l < 4294967296 ∧ pgNext l < 4294967296 ∧ pgPad l < 65536 := by
  have h : ∀ m k, m + k ≤ 256 → beN ((l.drop m).take k) < 256 ^ k := fun m k hmk => by
    have := beN_lt ((l.drop m).take k)
    rw [show ((l.drop m).take k).length = k by rw [List.length_take, List.length_drop]; omega] at this
    exact this
  exact ⟨h 4 1 (by omega), h 5 1 (by omega), h 14 4 (by omega), h 18 4 (by omega), h 22 2 (by omega)⟩

theorem look_door_st {w W wx : World} {r bx : Nat} {l : List UInt8} {m : Nat} {x2 q0 q1 q2 q3 : Value} (h : LookSt w W wx r bx l m x2 q0 q1 q2 q3) (hno : lookOk l = false) (t : Array Value) (h2 : t.getD 2 undef = .pointer (some ⟨w.heap.size, 0, none⟩)) (h3 : t.getD 3 undef = .pointer (some ⟨w.heap.size + 1, 0, none⟩)) (h4 : t.getD 4 undef = .pointer (some ⟨w.heap.size + 1 + 1, 0, none⟩)) :
    bodyPostD Try.prog Try.f14 (LookSays w l) (Exit.panic [{ v := stopV 141, recovered := false }])
      { tmps := t, defers := [{ target := .fn (.func 35) #[.pointer (some ⟨w.heap.size, 0, none⟩), .pointer (some ⟨w.heap.size + 1, 0, none⟩), .pointer (some ⟨w.heap.size + 1 + 1, 0, none⟩)], args := #[] }] } wx := by
  exact look_doorR w wx t _ _ _ 141 _ _ _ _ _ _ h2 h3 h4 h.r2 h.r3 h.r4 h.keeps (by omega) (by omega) (by omega) _ fun w' hk => .inr ⟨hno, rfl, hk⟩

theorem Keeps.allocDrew (w : World) (o : Obj) : Keeps w.drew (w.alloc o).drew [] :=
  let h := Keeps.alloc w o
  ⟨h.os, h.tape, h.output, h.size, h.block⟩

theorem lookTakeAt (w : World) (base r bx m k : Nat) (K : Int) (hK : K = k) (l : List UInt8) (hb : w.cell? ⟨bx, 0, none⟩ = some (.pointer (some ⟨r, 0, none⟩))) (h : Rd w base r (l.drop m)) (hk1 : 1 ≤ k) (hk8 : k ≤ 8) (hkl : m + k ≤ l.length) :
    Calls Try.prog 38 #[.int .i64 K, .pointer (some ⟨bx, 0, none⟩)] w fun e w' => e = .returned (.int .i64 (wrap64 (beN ((l.drop m).take k) : Nat))) ∧ Rd w' base r (l.drop (m + k)) ∧ Keeps w w' [r] := by
  refine (lookTake_any w base r bx k K hK (l.drop m) hb h hk1 hk8 (by rw [List.length_drop]; omega)).mono ?_
  rintro e w' ⟨rfl, h1, h2⟩
  rw [List.drop_drop] at h1
  exact ⟨rfl, h1, h2⟩

set_option maxRecDepth 100000 in
set_option maxHeartbeats 4000000 in
theorem look_rest (w : World) (A : Option Addr) (c : Nat) (l : List UInt8) (hB : Bytes w w.heap.size (.slice A l.length c) l) (hl : l.length = 256) (hs : beN (l.take 4) = crcSum (l.drop 4)) :
    Calls Try.prog 14 #[.slice A 256 c] w (LookSays w l) := by
  have hmf : ∀ (fn : Fn) (first cap : Array Value) (w : World), (Instr.makeFunc fn first cap).run Try.prog w = .ok (.func fn first cap) w := fun _ _ _ _ => rfl
  have hc : 256 ≤ c ∧ c ≤ 9223372036854775807 := by
    obtain ⟨A', c', h1, h2, h3, h4, _⟩ := hB
    injection h1 with e1 e2 e3
    subst e3
    simp only [maxLen] at h4
    omega
  obtain ⟨hc1, hc2⟩ := hc
  have hcne : ¬ c = 4 := by omega
  have hb4 : beN (l.take 4) < 4294967296 := by
    have := beN_lt (l.take 4)
    rw [show (l.take 4).length = 4 by rw [List.length_take]; omega] at this
    exact this
  have hcs := crcSum_lt (l.drop 4)
  have HSUM := Lib.hid (show (((beN (l.take 4) : Nat) : Int) == ((crcSum (l.drop 4) : Nat) : Int)) = true by simp; omega)
  have HL := Lib.hid hl
  have HB := Lib.hid hB
  have HN := Lib.hid (show (l.drop 4).length = 252 by rw [List.length_drop]; omega)
  have HLL := Lib.hid (show ∀ W : World, Keeps w W [] → Lies W w.heap.size (A.map (·.add 4)) ((l.drop 4).map byteV) from fun W hk => by
    have := (hB.lies.below (hk.below (Nat.le_refl _) (by simp))).cut (k := 4) (cap := c) (by simp; omega)
    rw [if_neg (by omega), ← List.map_drop] at this
    exact this)
  clear hB hl hs
  go_enter_defers Try.func14, Try.ntmps14
  go_wp2_with fail
  obtain ⟨W, hW, r2, r3, r4, hk, hsz⟩ := look_boxes w
  rw [← hW]
  have hWs : w.heap.size + 3 ≤ W.heap.size := by omega
  have H0 := Lib.hid (And.intro r2 (And.intro r3 (And.intro r4 hk)))
  clear hW r2 r3 r4 hk hsz
  refine (must_yes _ _).mono ?_
  rintro e w1 ⟨rfl, rfl⟩
  go_wp2_with fail
  rw [← HL.out]
  refine (newReader_any W _ l ((HB.out.below (H0.out.2.2.2.below (Nat.le_refl _) (by simp))).mono (by omega))).mono ?_
  rw [HL.out]
  rintro e w2 ⟨r, rfl, hr, hk2⟩
  have hs2 := hk2.size
  have H2 := Lib.hid (And.intro hr hk2)
  clear hr hk2
  go_upto_region 5 with fail
  obtain ⟨W3, hW3⟩ : ∃ W3, w2.alloc (.cells #[.pointer (some ⟨r, 0, none⟩)] 71) = W3 := ⟨_, rfl⟩
  have hk3 : Keeps w2 W3 [] := by rw [← hW3]; exact Keeps.alloc _ _
  have hb3 : Row W3 w2.heap.size 71 #[.pointer (some ⟨r, 0, none⟩)] := by rw [← hW3]; exact Row.new _ _ _
  rw [hW3]
  have hs3 : w2.heap.size + 1 = W3.heap.size := by rw [← hW3]; simp
  have H3 := Lib.hid (show ∀ wc : World, Keeps W3.drew wc [] → wc.cell? ⟨w2.heap.size, 0, none⟩ = some (.pointer (some ⟨r, 0, none⟩)) ∧ Rd wc W.heap.size r l from fun wc hkc => by
    have hk3c := (hk3.trans (Keeps.drew _) (by simp)).trans hkc (by simp)
    refine ⟨?_, H2.out.1.keep hk3c (by simp)⟩
    have := (hb3.keep ((Keeps.drew _).trans hkc (by simp)) (by simp)).cell 0
    simpa using this)
  have H3k := Lib.hid (show Keeps W W3 [] from H2.out.2.trans hk3 (by simp))
  have hs3' : w2.heap.size + 1 ≤ W3.heap.size := by omega
  have H3b := Lib.hid hb3
  clear hk3 hb3 hs3 hW3
  have hA4 : A.map (·.add 4) = (A.map fun x => ({ block := x.block, off := x.off + 4, spot := none } : Addr)) := by cases A <;> rfl
  have HL4 := Lib.hid (show ∀ W : World, Keeps w W [] → Lies W w.heap.size (A.map fun x => ({ block := x.block, off := x.off + 4, spot := none } : Addr)) ((l.drop 4).map byteV) from fun W hk => by
    have := HLL.out W hk
    rw [hA4] at this
    exact this)
  clear hA4
  have hrW : W.heap.size ≤ r := (H2.out.1).choose_spec.choose_spec.2.1
  have hrl : r < w2.heap.size := (H2.out.1).choose_spec.choose_spec.1.lt
  have H4of : ∀ wa w4 : World, Keeps W3.drew wa [] → Rd w4 W.heap.size r (l.drop 4) → Keeps wa w4 [r] → Rd w4 W.heap.size r (l.drop 4) ∧ Keeps W w4 [] ∧ Row w4 w2.heap.size 71 #[.pointer (some ⟨r, 0, none⟩)] := fun wa w4 ha hr4 hk4 =>
    ⟨hr4, ((H3k.out.trans (Keeps.drew _) (by simp)).trans ha (by simp)).trans hk4 (fun x hx hl => by simp at hx; omega),
     (H3b.out.keep ((Keeps.drew W3).trans ha (by simp)) (by simp)).keep hk4 (by simp; omega)⟩
  have H4h := Lib.hid H4of
  clear H4of
  go_cut [17] from 17 to 25 (fun _ wx => Rd wx W.heap.size r (l.drop 4) ∧ Keeps W wx [] ∧ Row wx w2.heap.size 71 #[.pointer (some ⟨r, 0, none⟩)])
  case first =>
    go_region_held3 (fun _ => True) (trivial)
      (first
        | (go_at_call 38; (with_reducible refine (lookTake_any W3.drew W.heap.size r w2.heap.size 4 4 rfl l (H3.out _ (Keeps.refl _ _)).1 (H3.out _ (Keeps.refl _ _)).2 (by omega) (by omega) (by rw [HL.out]; omega)).mono ?_); rintro e w4 ⟨rfl, hr4, hk4⟩; have hs4 : W3.heap.size ≤ w4.heap.size := hk4.size; have H4 := Lib.hid (H4h.out W3.drew w4 (Keeps.refl _ _) hr4 hk4); clear hr4 hk4)
        | (go_at_call 38; (with_reducible refine (lookTake_any (W3.alloc (.cells #[.slice (A.map fun x => ({ block := x.block, off := x.off + 4, spot := none } : Addr)) 252 (c - 4)] 22)).drew W.heap.size r w2.heap.size 4 4 rfl l (H3.out (W3.alloc (.cells #[.slice (A.map fun x => ({ block := x.block, off := x.off + 4, spot := none } : Addr)) 252 (c - 4)] 22)).drew (Keeps.allocDrew W3 _)).1 (H3.out (W3.alloc (.cells #[.slice (A.map fun x => ({ block := x.block, off := x.off + 4, spot := none } : Addr)) 252 (c - 4)] 22)).drew (Keeps.allocDrew W3 _)).2 (by omega) (by omega) (by rw [HL.out]; omega)).mono ?_); rintro e w4 ⟨rfl, hr4, hk4⟩; have hs4 : W3.heap.size + 1 ≤ w4.heap.size := (by have := hk4.size; simp at this; exact this); have H4 := Lib.hid (And.intro (H4h.out (W3.alloc (.cells #[.slice (A.map fun x => ({ block := x.block, off := x.off + 4, spot := none } : Addr)) 252 (c - 4)] 22)).drew w4 (Keeps.allocDrew W3 _) hr4 hk4) ((show Row (W3.alloc (.cells #[.slice (A.map fun x => ({ block := x.block, off := x.off + 4, spot := none } : Addr)) 252 (c - 4)] 22)).drew W3.heap.size 22 #[.slice (A.map fun x => ({ block := x.block, off := x.off + 4, spot := none } : Addr)) 252 (c - 4)] from Row.new W3 _ _).keep hk4 (by simp; omega))); clear hr4 hk4)
        | (go_at_call 40; (refine (crcSum_any (w4.alloc (.cells #[.slice (A.map fun x => ({ block := x.block, off := x.off + 4, spot := none } : Addr)) 252 (c - 4)] 22)) w4.heap.size (A.map fun x => ({ block := x.block, off := x.off + 4, spot := none } : Addr)) (c - 4) (l.drop 4) (by rw [HN.out]; omega) (by rw [HN.out]; omega) (by simp) (by rw [HN.out]; exact (Row.new w4 22 #[.slice (A.map fun x => ({ block := x.block, off := x.off + 4, spot := none } : Addr)) 252 (c - 4)]).cell 0) ((HL4.out _ ((H0.out.2.2.2.trans H4.out.2.1 (by simp)).trans (Keeps.alloc w4 _) (by simp))).mono (by simp; omega))).mono ?_); rintro e w5 ⟨rfl, hk5⟩; have hkk5 := (Keeps.alloc w4 _).trans hk5 (by simp); have hs5 := hkk5.size; have H5 := Lib.hid (And.intro (H4.out.1.keep hkk5 (by simp)) (And.intro (H4.out.2.1.trans hkk5 (by simp)) (H4.out.2.2.keep hkk5 (by simp)))); clear hk5 hkk5)
        | (go_at_call 40; (refine (crcSum_any w4 W3.heap.size (A.map fun x => ({ block := x.block, off := x.off + 4, spot := none } : Addr)) (c - 4) (l.drop 4) (by rw [HN.out]; omega) (by rw [HN.out]; omega) (by omega) (by rw [HN.out]; exact H4.out.2.cell 0) ((HL4.out w4 (H0.out.2.2.2.trans H4.out.1.2.1 (by simp))).mono (by omega))).mono ?_); rintro e w5 ⟨rfl, hk5⟩; have hs5 := hk5.size; have H5 := Lib.hid (And.intro (H4.out.1.1.keep hk5 (by simp)) (And.intro (H4.out.1.2.1.trans hk5 (by simp)) (H4.out.1.2.2.keep hk5 (by simp)))); clear hk5)
        | (go_at_call 36; (first | rw [cast32 _ hb4, IntWalk.i64_in _ (by omega), HSUM.out] | rw [cast32 _ hb4, HSUM.out]); refine (must_yes _ _).mono ?_; rintro e w6 ⟨rfl, rfl⟩))
    all_goals (go_wp2_with fail; go_meet; exact H5.out)
  case rest =>
    obtain ⟨hr0, hk0, hb0⟩ := hcut
    have S : LookSt w W wc r w2.heap.size l 4 (.int .i64 0) (.int .i64 0) (.int .i64 0) (.int .i64 0) (.slice none 0 0) :=
      ⟨hr0, hk0.weaken (by simp), H0.out.1.keep hk0 (by simp), H0.out.2.1.keep hk0 (by simp), H0.out.2.2.1.keep hk0 (by simp), hb0, hWs, hrl, H0.out.2.2.2⟩
    have S0 := Lib.hid S
    clear hr0 hk0 hb0 S H3 H3k H3b HL4 H4h HSUM HLL
    obtain ⟨bk, bn, bnum, bnx, bpad⟩ := pg_bounds l HL.out
    have V1 := Lib.hid (show wrap64 (beN ((l.drop 4).take 1) : Nat) = ((pgKind l : Nat) : Int) from cast32 _ (Nat.lt_trans bk (by omega)))
    have V2 := Lib.hid (show wrap64 (beN ((l.drop 5).take 1) : Nat) = ((pgLen l : Nat) : Int) from cast32 _ (Nat.lt_trans bn (by omega)))
    have V3 := Lib.hid (show wrap64 (beN ((l.drop 6).take 8) : Nat) = pgTxid l from rfl)
    have V4 := Lib.hid (show wrap64 (beN ((l.drop 14).take 4) : Nat) = ((pgNum l : Nat) : Int) from cast32 _ bnum)
    have V5 := Lib.hid (show wrap64 (beN ((l.drop 18).take 4) : Nat) = ((pgNext l : Nat) : Int) from cast32 _ bnx)
    have V6 := Lib.hid (show wrap64 (beN ((l.drop 22).take 2) : Nat) = ((pgPad l : Nat) : Int) from cast32 _ (Nat.lt_trans bpad (by omega)))
    go_wp2_with fail
    (refine (S0.out.take 1 1 rfl (by omega) (by omega) (by rw [HL.out]; omega) _ V1.out).mono ?_)
    rintro e w5 ⟨rfl, S⟩
    have c1 : w5.cell? ⟨w.heap.size + 1, 0, none⟩ = some (.int .i64 0) := S.r3.cell 0
    have f1 := S.r3.frozen 0
    have S1 := Lib.hid (S.put3 0 (.int .i64 (pgKind l : Nat)) _ _ _ _ rfl)
    clear S S0
    go_wp2_with fail
    (refine (S1.out.take 1 1 rfl (by omega) (by omega) (by rw [HL.out]; omega) _ V2.out).mono ?_)
    rintro e w6 ⟨rfl, S⟩
    have S2 := Lib.hid S
    clear S S1 c1 f1
    go_wp2_with fail
    (refine (S2.out.take 8 8 rfl (by omega) (by omega) (by rw [HL.out]; omega) _ V3.out).mono ?_)
    rintro e w7 ⟨rfl, S⟩
    have S3 := Lib.hid S
    clear S S2
    go_wp2_with fail
    (refine (S3.out.take 4 4 rfl (by omega) (by omega) (by rw [HL.out]; omega) _ V4.out).mono ?_)
    rintro e w8 ⟨rfl, S⟩
    have S4 := Lib.hid S
    clear S S3
    go_wp2_with fail
    (refine (S4.out.take 4 4 rfl (by omega) (by omega) (by rw [HL.out]; omega) _ V5.out).mono ?_)
    rintro e w9 ⟨rfl, S⟩
    have c1 : w9.cell? ⟨w.heap.size + 1, 1, none⟩ = some (.int .i64 0) := S.r3.cell 1
    have f1 := S.r3.frozen 1
    have c2 : w9.cell? ⟨w.heap.size + 1, 2, none⟩ = some (.int .i64 0) := S.r3.cell 2
    have f2 := S.r3.frozen 2
    have c3 : w9.cell? ⟨w.heap.size, 0, none⟩ = some (.int .i64 0) := S.r2.cell 0
    have f3 := S.r2.frozen 0
    have S5 := Lib.hid (((S.put3 1 (.int .i64 (pgTxid l)) _ _ _ _ rfl).put2 (.int .i64 (pgNum l : Nat))).put3 2 (.int .i64 (pgNext l : Nat)) _ _ _ _ rfl)
    clear S S4
    by_cases hn : pgLen l ≤ 232
    · have hdn : decide (((pgLen l : Nat) : Int) ≤ 232) = true := by simp; omega
      go_wp2_with fail
      (refine (S5.out.take 2 2 rfl (by omega) (by omega) (by rw [HL.out]; omega) _ V6.out).mono ?_)
      rintro e w10 ⟨rfl, S⟩
      have S6 := Lib.hid S
      clear S S5 c1 f1 c2 f2 c3 f3 V1 V2 V3 V4 V5 V6
      by_cases hp : pgPad l = 0
      · have hpb : (((pgPad l : Nat) : Int) == 0) = true := by simp [hp]
        have HPP := Lib.hid hp
        clear hp
        go_wp2_with fail
        refine (must_yes _ _).mono ?_
        rintro e w11 ⟨rfl, rfl⟩
        clear hpb
        have cb : w10.cell? ⟨w2.heap.size, 0, none⟩ = some (.pointer (some ⟨r, 0, none⟩)) := S6.out.rb.cell 0
        go_wp2_with fail
        have hl24 : (l.drop 24).length = 232 := by rw [List.length_drop, HL.out]
        refine (rdRest_any w10 W.heap.size r (l.drop 24) S6.out.rd (by omega)).mono ?_
        rintro e w11 ⟨v11, rfl, ho11, hk11⟩
        obtain ⟨A11, c11, rfl, hca, hcb⟩ := own_slice ho11
        have hlie := Lies.of_own ho11
        have hblk : ∀ b o, A11 = some ⟨b, o, none⟩ → w10.heap.size ≤ b := fun b o e => (owned_lt ho11 b (by subst e; rfl)).1
        rw [hl24] at hca ⊢
        have hcb' : c11 ≤ 9223372036854775807 := by simpa [maxLen] using hcb
        have S7 := Lib.hid (And.intro (S6.out.other hk11) (And.intro hlie hblk))
        have hw10 : w.heap.size + 1 < w10.heap.size := S6.out.r3.lt
        clear ho11 hk11 cb S6 hl24 hcb hlie hblk
        have HBL := Lib.hid (show (pgBody l).length = pgLen l by unfold pgBody; rw [List.length_take, List.length_drop, HL.out]; omega)
        have HNN := Lib.hid (show (l.drop (24 + pgLen l)).length = 232 - pgLen l by rw [List.length_drop, HL.out]; omega)
        have hcn1 : ((pgLen l : Nat) : Int) ≤ (c11 : Int) := by omega
        have hcn2 : pgLen l ≤ c11 := by omega
        by_cases h0 : 0 < pgLen l
        · have h0b : decide ((0 : Int) < ((pgLen l : Nat) : Int)) = true := by simp; omega
          go_wp2_with fail
          have HB12 := Lib.hid (show Bytes w11 w11.heap.size (.slice A11 (pgLen l) (pgLen l)) (pgBody l) from ⟨A11, pgLen l, by rw [HBL.out], by rw [HBL.out]; exact Nat.le_refl _, (fun h => by
            subst h
            obtain ⟨b, o, e, _⟩ := S7.out.2.1 (by rw [List.length_map, List.length_drop, HL.out]; omega)
            cases e), by simp [maxLen]; omega, by rw [HBL.out]; omega, by
              have := S7.out.2.1.take (pgLen l)
              rw [← List.map_take] at this
              exact this⟩)
          refine (clone_any _ _ _ HB12.out).mono ?_
          rintro e w12 ⟨v12, rfl, ho12, hk12⟩
          obtain ⟨A12, c12, rfl, _, _⟩ := own_slice ho12
          have S := S7.out.1.other hk12
          have e3 : w12.cell? ⟨w.heap.size + 1, 3, none⟩ = some (.slice none 0 0) := S.r3.cell 3
          have g3 := S.r3.frozen 3
          have kst := Keeps.setCell w12 ⟨w.heap.size + 1, 3, none⟩ (.slice A12 (pgBody l).length c12)
          have S8 := Lib.hid (S.put3 3 (.slice A12 (pgBody l).length c12) _ _ _ _ rfl)
          have hw11 : w.heap.size + 1 < w11.heap.size := S7.out.1.r3.lt
          have HO8 := Lib.hid (own_base (own_keep ho12 kst (fun g hg hm => by have := (owned_lt ho12 g hg).1; simp at hm; omega)) (base' := W.heap.size) S7.out.1.kp.size)
          have HLX := Lib.hid (show Lies (w12.setCell ⟨w.heap.size + 1, 3, none⟩ (.slice A12 (pgBody l).length c12)) (w12.setCell ⟨w.heap.size + 1, 3, none⟩ (.slice A12 (pgBody l).length c12)).heap.size A11 ((l.drop 24).map byteV) from
            (S7.out.2.1.keep' (((hk12.weaken (T := [w.heap.size + 1]) (by simp))).trans kst (by simp)) (Nat.le_refl _) (fun b o e hm => by have := S7.out.2.2 b o e; simp at hm; omega)).mono (by have := hk12.size; simp; omega))
          clear ho12 hk12 S kst
          have HBLn := HBL
          by_cases hcn : c11 = pgLen l
          · subst hcn
            have HLR := Lib.hid (show Lies (w12.setCell ⟨w.heap.size + 1, 3, none⟩ (.slice A12 (pgBody l).length c12)) (w12.setCell ⟨w.heap.size + 1, 3, none⟩ (.slice A12 (pgBody l).length c12)).heap.size A11 ((l.drop (24 + pgLen l)).map byteV) from fun hn => absurd hn (by rw [List.length_map, HNN.out]; omega))
            have HNA := Lib.hid (none_any _ _ 0 (l.drop (24 + pgLen l)) HLR.out (by rw [HNN.out]; omega))
            rw [show (l.drop (24 + pgLen l)).length = 0 by rw [HNN.out]; omega] at HNA
            by_cases hz : allZero (l.drop (24 + pgLen l)) = true
            · have HZ := Lib.hid hz
              clear hz
              go_wp2_with fail
              first
                | (rw [← HNN.out]; refine (none_any _ _ _ (l.drop (24 + pgLen l)) HLR.out (by rw [HNN.out]; omega)).mono ?_)
                | refine HNA.out.mono ?_
              rintro e w13 ⟨rfl, rfl⟩
              rw [HZ.out]
              go_wp2_with fail
              refine (must_yes _ _).mono ?_
              rintro e w14 ⟨rfl, rfl⟩
              have c0 := S8.out.r3.cell 0
              have c1 := S8.out.r3.cell 1
              have c2 := S8.out.r3.cell 2
              have c3 := S8.out.r3.cell 3
              go_wp2_with fail
              by_cases hok : pageOk (pgKind l) (pgTxid l) (pgNext l) (pgBody l).length = true
              · refine (checkYes_any _ _ _ _ _ _ hok _).mono ?_
                rintro e w15 ⟨rfl, hk15⟩
                have HOK := Lib.hid hok
                have S9 := Lib.hid (And.intro (S8.out.other hk15) (own_keep HO8.out hk15 (by simp)))
                have d0 := S9.out.1.r2.cell 0
                clear hok hk15 c0 c1 c2 c3
                go_wp2_with fail
                refine (within_any _ _ _ _).mono ?_
                rintro e w16 ⟨rfl, rfl⟩
                by_cases hwi : withinB (pgNum l : Nat) 0 4095 = true
                · rw [hwi]
                  have HWI := Lib.hid hwi
                  clear hwi
                  go_wp2_with fail
                  refine (must_yes _ _).mono ?_
                  rintro e w17 ⟨rfl, rfl⟩
                  have c0 := S9.out.1.r3.cell 0
                  have c1 := S9.out.1.r3.cell 1
                  have c2 := S9.out.1.r3.cell 2
                  have c3 := S9.out.1.r3.cell 3
                  have g0 := S9.out.1.r3.frozen 0
                  have g1 := S9.out.1.r3.frozen 1
                  have g2 := S9.out.1.r3.frozen 2
                  have g3 := S9.out.1.r3.frozen 3
                  have d1 := S9.out.1.r2.frozen 0
                  have e0 := S9.out.1.r4.cell 0
                  have e1 := S9.out.1.r4.frozen 0
                  go_wp2_with fail
                  go_region
                  all_goals (go_wp2_with fail)
                  all_goals
                    (have SF := S9.out.1.fin
                     exact look_door_ok w _ _ _ _ _ _ _ _ _ _ _ rfl rfl rfl SF.1.r2 SF.1.r3 SF.1.r4 _ (.inl ⟨by
                      have h1 : pageOk (pgKind l) (pgTxid l) (pgNext l) (pgLen l) = true := by rw [← HBLn.out]; exact HOK.out
                      simp [lookOk, HWI.out, HZ.out, HPP.out, h1, hn], SF.1.keeps, _, _, by first | rfl | (rw [HBLn.out, HBL.out]), by have := SF.2 _ _ S9.out.2; first | exact this | (rw [HBL.out, ← HBLn.out]; exact this)⟩))
                · have hwi' : withinB (pgNum l : Nat) 0 4095 = false := by simpa using hwi
                  rw [hwi']
                  have hno : lookOk l = false := by simp [lookOk, hwi']
                  have HNO := Lib.hid hno
                  clear hno hwi hwi'
                  go_wp2_with fail
                  refine (must_no _ _).mono ?_
                  rintro e w17 ⟨rfl, rfl⟩
                  go_wp2_with fail
                  exact look_door_st S9.out.1 HNO.out _ rfl rfl rfl
              · have hok' : pageOk (pgKind l) (pgTxid l) (pgNext l) (pgBody l).length = false := by simpa using hok
                refine (checkNo_any _ _ _ _ _ _ (by have := HBLn.out; have := hn; omega) hok' _).mono ?_
                rintro e w15 ⟨rfl, hk15⟩
                have hno : lookOk l = false := by
                  have hok2 : pageOk (pgKind l) (pgTxid l) (pgNext l) (pgLen l) = false := by rw [← HBLn.out]; exact hok'
                  simp [lookOk, hok2]
                have HNO := Lib.hid hno
                have S9 := Lib.hid (S8.out.other hk15)
                clear hok hok' hk15 c0 c1 c2 c3 hno
                go_wp2_with fail
                refine (must_no _ _).mono ?_
                rintro e w17 ⟨rfl, rfl⟩
                go_wp2_with fail
                exact look_door_st S9.out HNO.out _ rfl rfl rfl
            · have hz' : allZero (l.drop (24 + pgLen l)) = false := by simpa using hz
              have hno : lookOk l = false := by simp [lookOk, hz']
              have HZ := Lib.hid hz'
              have HNO := Lib.hid hno
              clear hno hz hz'
              go_wp2_with fail
              first
                | (rw [← HNN.out]; refine (none_any _ _ _ (l.drop (24 + pgLen l)) HLR.out (by rw [HNN.out]; omega)).mono ?_)
                | refine HNA.out.mono ?_
              rintro e w13 ⟨rfl, rfl⟩
              rw [HZ.out]
              go_wp2_with fail
              refine (must_no _ _).mono ?_
              rintro e w14 ⟨rfl, rfl⟩
              go_wp2_with fail
              exact look_door_st S8.out HNO.out _ rfl rfl rfl
          · have HLR := Lib.hid (show Lies (w12.setCell ⟨w.heap.size + 1, 3, none⟩ (.slice A12 (pgBody l).length c12)) (w12.setCell ⟨w.heap.size + 1, 3, none⟩ (.slice A12 (pgBody l).length c12)).heap.size (A11.map (·.add (pgLen l))) ((l.drop (24 + pgLen l)).map byteV) from by
              have := HLX.out.cut (k := pgLen l) (cap := c11) (by simp; rw [HL.out]; omega)
              rw [if_neg hcn, ← List.map_drop, List.drop_drop] at this
              exact this)
            by_cases hz : allZero (l.drop (24 + pgLen l)) = true
            · have HZ := Lib.hid hz
              clear hz
              go_wp2_with fail
              first
                | (rw [← HNN.out]; refine (none_any _ _ _ (l.drop (24 + pgLen l)) HLR.out (by rw [HNN.out]; omega)).mono ?_)
                | refine HNA.out.mono ?_
              rintro e w13 ⟨rfl, rfl⟩
              rw [HZ.out]
              go_wp2_with fail
              refine (must_yes _ _).mono ?_
              rintro e w14 ⟨rfl, rfl⟩
              have c0 := S8.out.r3.cell 0
              have c1 := S8.out.r3.cell 1
              have c2 := S8.out.r3.cell 2
              have c3 := S8.out.r3.cell 3
              go_wp2_with fail
              by_cases hok : pageOk (pgKind l) (pgTxid l) (pgNext l) (pgBody l).length = true
              · refine (checkYes_any _ _ _ _ _ _ hok _).mono ?_
                rintro e w15 ⟨rfl, hk15⟩
                have HOK := Lib.hid hok
                have S9 := Lib.hid (And.intro (S8.out.other hk15) (own_keep HO8.out hk15 (by simp)))
                have d0 := S9.out.1.r2.cell 0
                clear hok hk15 c0 c1 c2 c3
                go_wp2_with fail
                refine (within_any _ _ _ _).mono ?_
                rintro e w16 ⟨rfl, rfl⟩
                by_cases hwi : withinB (pgNum l : Nat) 0 4095 = true
                · rw [hwi]
                  have HWI := Lib.hid hwi
                  clear hwi
                  go_wp2_with fail
                  refine (must_yes _ _).mono ?_
                  rintro e w17 ⟨rfl, rfl⟩
                  have c0 := S9.out.1.r3.cell 0
                  have c1 := S9.out.1.r3.cell 1
                  have c2 := S9.out.1.r3.cell 2
                  have c3 := S9.out.1.r3.cell 3
                  have g0 := S9.out.1.r3.frozen 0
                  have g1 := S9.out.1.r3.frozen 1
                  have g2 := S9.out.1.r3.frozen 2
                  have g3 := S9.out.1.r3.frozen 3
                  have d1 := S9.out.1.r2.frozen 0
                  have e0 := S9.out.1.r4.cell 0
                  have e1 := S9.out.1.r4.frozen 0
                  go_wp2_with fail
                  go_region
                  all_goals (go_wp2_with fail)
                  all_goals
                    (have SF := S9.out.1.fin
                     exact look_door_ok w _ _ _ _ _ _ _ _ _ _ _ rfl rfl rfl SF.1.r2 SF.1.r3 SF.1.r4 _ (.inl ⟨by
                      have h1 : pageOk (pgKind l) (pgTxid l) (pgNext l) (pgLen l) = true := by rw [← HBLn.out]; exact HOK.out
                      simp [lookOk, HWI.out, HZ.out, HPP.out, h1, hn], SF.1.keeps, _, _, by first | rfl | (rw [HBLn.out, HBL.out]), by have := SF.2 _ _ S9.out.2; first | exact this | (rw [HBL.out, ← HBLn.out]; exact this)⟩))
                · have hwi' : withinB (pgNum l : Nat) 0 4095 = false := by simpa using hwi
                  rw [hwi']
                  have hno : lookOk l = false := by simp [lookOk, hwi']
                  have HNO := Lib.hid hno
                  clear hno hwi hwi'
                  go_wp2_with fail
                  refine (must_no _ _).mono ?_
                  rintro e w17 ⟨rfl, rfl⟩
                  go_wp2_with fail
                  exact look_door_st S9.out.1 HNO.out _ rfl rfl rfl
              · have hok' : pageOk (pgKind l) (pgTxid l) (pgNext l) (pgBody l).length = false := by simpa using hok
                refine (checkNo_any _ _ _ _ _ _ (by have := HBLn.out; have := hn; omega) hok' _).mono ?_
                rintro e w15 ⟨rfl, hk15⟩
                have hno : lookOk l = false := by
                  have hok2 : pageOk (pgKind l) (pgTxid l) (pgNext l) (pgLen l) = false := by rw [← HBLn.out]; exact hok'
                  simp [lookOk, hok2]
                have HNO := Lib.hid hno
                have S9 := Lib.hid (S8.out.other hk15)
                clear hok hok' hk15 c0 c1 c2 c3 hno
                go_wp2_with fail
                refine (must_no _ _).mono ?_
                rintro e w17 ⟨rfl, rfl⟩
                go_wp2_with fail
                exact look_door_st S9.out HNO.out _ rfl rfl rfl
            · have hz' : allZero (l.drop (24 + pgLen l)) = false := by simpa using hz
              have hno : lookOk l = false := by simp [lookOk, hz']
              have HZ := Lib.hid hz'
              have HNO := Lib.hid hno
              clear hno hz hz'
              go_wp2_with fail
              first
                | (rw [← HNN.out]; refine (none_any _ _ _ (l.drop (24 + pgLen l)) HLR.out (by rw [HNN.out]; omega)).mono ?_)
                | refine HNA.out.mono ?_
              rintro e w13 ⟨rfl, rfl⟩
              rw [HZ.out]
              go_wp2_with fail
              refine (must_no _ _).mono ?_
              rintro e w14 ⟨rfl, rfl⟩
              go_wp2_with fail
              exact look_door_st S8.out HNO.out _ rfl rfl rfl
        · have h0b : decide ((0 : Int) < ((pgLen l : Nat) : Int)) = false := by simp; omega
          have hcn : ¬ c11 = pgLen l := by omega
          have HBLn := Lib.hid (show 0 = pgLen l by omega)
          have S8 := Lib.hid S7.out.1
          have HO8 := Lib.hid (show Owned w11 W.heap.size (.slice none 0 0) (pgBody l) from by
            have : pgBody l = [] := List.eq_nil_of_length_eq_zero (by rw [HBL.out]; omega)
            rw [this]
            exact World.ownsRow_nil _ _ _ _)
          have HLR := Lib.hid (show Lies w11 w11.heap.size (A11.map (·.add (pgLen l))) ((l.drop (24 + pgLen l)).map byteV) from by
            have := S7.out.2.1.cut (k := pgLen l) (cap := c11) (by simp; rw [HL.out]; omega)
            rw [if_neg hcn, ← List.map_drop, List.drop_drop] at this
            exact this)
          by_cases hz : allZero (l.drop (24 + pgLen l)) = true
          · have HZ := Lib.hid hz
            clear hz
            go_wp2_with fail
            first
              | (rw [← HNN.out]; refine (none_any _ _ _ (l.drop (24 + pgLen l)) HLR.out (by rw [HNN.out]; omega)).mono ?_)
              | refine HNA.out.mono ?_
            rintro e w13 ⟨rfl, rfl⟩
            rw [HZ.out]
            go_wp2_with fail
            refine (must_yes _ _).mono ?_
            rintro e w14 ⟨rfl, rfl⟩
            have c0 := S8.out.r3.cell 0
            have c1 := S8.out.r3.cell 1
            have c2 := S8.out.r3.cell 2
            have c3 := S8.out.r3.cell 3
            go_wp2_with fail
            by_cases hok : pageOk (pgKind l) (pgTxid l) (pgNext l) 0 = true
            · refine (checkYes_any _ _ _ _ _ _ hok _).mono ?_
              rintro e w15 ⟨rfl, hk15⟩
              have HOK := Lib.hid hok
              have S9 := Lib.hid (And.intro (S8.out.other hk15) (own_keep HO8.out hk15 (by simp)))
              have d0 := S9.out.1.r2.cell 0
              clear hok hk15 c0 c1 c2 c3
              go_wp2_with fail
              refine (within_any _ _ _ _).mono ?_
              rintro e w16 ⟨rfl, rfl⟩
              by_cases hwi : withinB (pgNum l : Nat) 0 4095 = true
              · rw [hwi]
                have HWI := Lib.hid hwi
                clear hwi
                go_wp2_with fail
                refine (must_yes _ _).mono ?_
                rintro e w17 ⟨rfl, rfl⟩
                have c0 := S9.out.1.r3.cell 0
                have c1 := S9.out.1.r3.cell 1
                have c2 := S9.out.1.r3.cell 2
                have c3 := S9.out.1.r3.cell 3
                have g0 := S9.out.1.r3.frozen 0
                have g1 := S9.out.1.r3.frozen 1
                have g2 := S9.out.1.r3.frozen 2
                have g3 := S9.out.1.r3.frozen 3
                have d1 := S9.out.1.r2.frozen 0
                have e0 := S9.out.1.r4.cell 0
                have e1 := S9.out.1.r4.frozen 0
                go_wp2_with fail
                go_region
                all_goals (go_wp2_with fail)
                all_goals
                  (have SF := S9.out.1.fin
                   exact look_door_ok w _ _ _ _ _ _ _ _ _ _ _ rfl rfl rfl SF.1.r2 SF.1.r3 SF.1.r4 _ (.inl ⟨by
                    have h1 : pageOk (pgKind l) (pgTxid l) (pgNext l) (pgLen l) = true := by rw [← HBLn.out]; exact HOK.out
                    simp [lookOk, HWI.out, HZ.out, HPP.out, h1, hn], SF.1.keeps, _, _, by first | rfl | (rw [HBLn.out, HBL.out]), by have := SF.2 _ _ S9.out.2; first | exact this | (rw [HBL.out, ← HBLn.out]; exact this)⟩))
              · have hwi' : withinB (pgNum l : Nat) 0 4095 = false := by simpa using hwi
                rw [hwi']
                have hno : lookOk l = false := by simp [lookOk, hwi']
                have HNO := Lib.hid hno
                clear hno hwi hwi'
                go_wp2_with fail
                refine (must_no _ _).mono ?_
                rintro e w17 ⟨rfl, rfl⟩
                go_wp2_with fail
                exact look_door_st S9.out.1 HNO.out _ rfl rfl rfl
            · have hok' : pageOk (pgKind l) (pgTxid l) (pgNext l) 0 = false := by simpa using hok
              refine (checkNo_any _ _ _ _ _ _ (by have := HBLn.out; have := hn; omega) hok' _).mono ?_
              rintro e w15 ⟨rfl, hk15⟩
              have hno : lookOk l = false := by
                have hok2 : pageOk (pgKind l) (pgTxid l) (pgNext l) (pgLen l) = false := by rw [← HBLn.out]; exact hok'
                simp [lookOk, hok2]
              have HNO := Lib.hid hno
              have S9 := Lib.hid (S8.out.other hk15)
              clear hok hok' hk15 c0 c1 c2 c3 hno
              go_wp2_with fail
              refine (must_no _ _).mono ?_
              rintro e w17 ⟨rfl, rfl⟩
              go_wp2_with fail
              exact look_door_st S9.out HNO.out _ rfl rfl rfl
          · have hz' : allZero (l.drop (24 + pgLen l)) = false := by simpa using hz
            have hno : lookOk l = false := by simp [lookOk, hz']
            have HZ := Lib.hid hz'
            have HNO := Lib.hid hno
            clear hno hz hz'
            go_wp2_with fail
            first
              | (rw [← HNN.out]; refine (none_any _ _ _ (l.drop (24 + pgLen l)) HLR.out (by rw [HNN.out]; omega)).mono ?_)
              | refine HNA.out.mono ?_
            rintro e w13 ⟨rfl, rfl⟩
            rw [HZ.out]
            go_wp2_with fail
            refine (must_no _ _).mono ?_
            rintro e w14 ⟨rfl, rfl⟩
            go_wp2_with fail
            exact look_door_st S8.out HNO.out _ rfl rfl rfl
      · have hpb : (((pgPad l : Nat) : Int) == 0) = false := by simp [hp]
        have hno : lookOk l = false := by simp [lookOk, hp]
        have HNO := Lib.hid hno
        clear hno hp
        go_wp2_with fail
        refine (must_no _ _).mono ?_
        rintro e w11 ⟨rfl, rfl⟩
        go_wp2_with fail
        exact look_door_st S6.out HNO.out _ rfl rfl rfl
    · have hdn : decide (((pgLen l : Nat) : Int) ≤ 232) = false := by simp; omega
      have hno : lookOk l = false := by simp [lookOk, hn]
      have HNO := Lib.hid hno
      clear hno
      go_wp2_with fail
      refine (must_no _ _).mono ?_
      rintro e w10 ⟨rfl, rfl⟩
      go_wp2_with fail
      exact look_door_st S5.out HNO.out _ rfl rfl rfl
end Go.Proofs.Ythepcoifcoinoaa

namespace Go.Proofs.Ythepcoifcoinoaa
open Go.RowKit

/-- What Look answers: the error's number, or 0 and the page. -/
def lookErr (l : List UInt8) : Nat :=
  if l.length ≠ 256 then 2 else if beN (l.take 4) ≠ crcSum (l.drop 4) then 140 else if lookOk l then 0 else 141

def LookDone (w : World) (l : List UInt8) (e : Ending) (w' : World) : Prop :=
  Keeps w w' [] ∧
  ((lookErr l = 0 ∧ lookOk l = true ∧ l.length = 256 ∧ ∃ A c, e = .returned (.tuple #[.int .i64 (pgNum l : Nat), .agg #[.int .i64 (pgKind l : Nat), .int .i64 (pgTxid l), .int .i64 (pgNext l : Nat), .slice A (pgBody l).length c], .int .i64 0]) ∧ Owned w' w.heap.size (.slice A (pgBody l).length c) (pgBody l)) ∨
   (lookErr l ≠ 0 ∧ e = .returned (noLook (lookErr l))))

theorem look_any (w : World) (A : Option Addr) (c : Nat) (l : List UInt8) (hB : Bytes w w.heap.size (.slice A l.length c) l) (hlen : l.length ≤ 140737488351232) :
    Calls Try.prog 14 #[.slice A l.length c] w (LookDone w l) := by
  by_cases h1 : l.length = 256
  · by_cases h2 : beN (l.take 4) = crcSum (l.drop 4)
    · have := look_rest w A c l hB h1 h2
      rw [← h1] at this
      refine this.mono ?_
      rintro e w' (⟨h3, hk, hA⟩ | ⟨h3, rfl, hk⟩)
      · exact ⟨hk, .inl ⟨by simp [lookErr, h1, h2, h3], h3, h1, hA⟩⟩
      · have : lookErr l = 141 := by simp [lookErr, h1, h2, h3]
        exact ⟨hk, .inr ⟨by omega, by rw [this]; rfl⟩⟩
    · have := look_sum w A c l hB h1 h2
      rw [← h1] at this
      refine this.mono ?_
      rintro e w' ⟨rfl, hk⟩
      have : lookErr l = 140 := by simp [lookErr, h1, h2]
      exact ⟨hk, .inr ⟨by omega, by rw [this]; rfl⟩⟩
  · refine (look_len w A l.length c h1 hlen).mono ?_
    rintro e w' ⟨rfl, hk⟩
    have : lookErr l = 2 := by simp [lookErr, h1]
    exact ⟨hk, .inr ⟨by omega, by rw [this]; rfl⟩⟩
end Go.Proofs.Ythepcoifcoinoaa

namespace Go.Proofs.Ythepcoifcoinoaa
open Go.RowKit

def noParse (why : Int) : Value := .tuple #[.agg #[.int .i64 0, .int .i64 0, .int .i64 0, .slice none 0 0], .int .i64 why]
/-- What Parse answers: the error's number, or 0 and the page. -/
def parseErr (n : Int) (l : List UInt8) : Nat :=
  if withinB n 0 4095 = false then 2 else if lookErr l ≠ 0 then lookErr l else if ((pgNum l : Nat) : Int) = n then 0 else 141

def ParseDone (w : World) (n : Int) (l : List UInt8) (e : Ending) (w' : World) : Prop :=
  Keeps w w' [] ∧
  ((parseErr n l = 0 ∧ lookOk l = true ∧ l.length = 256 ∧ ∃ A c, e = .returned (.tuple #[.agg #[.int .i64 (pgKind l : Nat), .int .i64 (pgTxid l), .int .i64 (pgNext l : Nat), .slice A (pgBody l).length c], .int .i64 0]) ∧ Owned w' w.heap.size (.slice A (pgBody l).length c) (pgBody l)) ∨
   (parseErr n l ≠ 0 ∧ e = .returned (noParse (parseErr n l))))

theorem parse_door (W : World) (t : Array Value) (b : Nat) (k tx nx err : Int) (bv : Value) (h4 : t.getD 4 undef = .pointer (some ⟨b, 0, none⟩)) (h5 : t.getD 5 undef = .int .i64 err)
    (r3 : Row W b 26 #[.int .i64 k, .int .i64 tx, .int .i64 nx, bv]) (R : Ending → World → Prop)
    (hR : R (.returned (.tuple #[.agg #[.int .i64 k, .int .i64 tx, .int .i64 nx, bv], .int .i64 err])) W) :
    bodyPost Try.prog Try.f17 R Exit.ret { tmps := t, defers := [] } W := by
  have c30 := r3.cell 0
  have c31 := r3.cell 1
  have c32 := r3.cell 2
  have c33 := r3.cell 3
  rw [Array.getD_eq_getD_getElem?] at h4 h5
  simp at c30 c31 c32 c33
  refine bodyPost_ret (v := .tuple #[.agg #[.int .i64 k, .int .i64 tx, .int .i64 nx, bv], .int .i64 err]) ?_ rfl hR
  simp [results, Try.results17, go_sem, h4, h5, c30, c31, c32, c33]

theorem page_put {W : World} {b : Nat} {p0 p1 p2 p3 : Value} (h : Row W b 26 #[p0, p1, p2, p3]) (q0 q1 q2 q3 : Value) :
    Row ((((W.setCell ⟨b, 0, none⟩ q0).setCell ⟨b, 1, none⟩ q1).setCell ⟨b, 2, none⟩ q2).setCell ⟨b, 3, none⟩ q3) b 26 #[q0, q1, q2, q3] ∧
    Keeps W ((((W.setCell ⟨b, 0, none⟩ q0).setCell ⟨b, 1, none⟩ q1).setCell ⟨b, 2, none⟩ q2).setCell ⟨b, 3, none⟩ q3) [b] :=
  ⟨(((h.store 0 q0).store 1 q1).store 2 q2).store 3 q3, (((Keeps.setCell _ _ _).trans (Keeps.setCell _ _ _) (by simp)).trans (Keeps.setCell _ _ _) (by simp)).trans (Keeps.setCell _ _ _) (by simp)⟩

set_option maxRecDepth 100000 in
set_option maxHeartbeats 2000000 in
theorem parse_any (w : World) (n : Int) (A : Option Addr) (c : Nat) (l : List UInt8) (hB : Bytes w w.heap.size (.slice A l.length c) l) (hlen : l.length ≤ 140737488351232) :
    Calls Try.prog 17 #[.int .i64 n, .slice A l.length c] w (ParseDone w n l) := by
  have HB := Lib.hid hB
  clear hB
  by_cases h1 : withinB n 0 4095 = true
  · go_enter Try.func17, Try.ntmps17
    go_wp2_with fail
    refine (within_any _ _ _ _).mono ?_
    rintro e w1 ⟨rfl, rfl⟩
    rw [h1]
    go_wp2_with fail
    obtain ⟨W, hW⟩ : ∃ W, w.alloc (.cells #[.int .i64 0, .int .i64 0, .int .i64 0, .slice none 0 0] 26) = W := ⟨_, rfl⟩
    have hk0 : Keeps w W [] := by rw [← hW]; exact Keeps.alloc _ _
    have rz : Row W w.heap.size 26 #[.int .i64 0, .int .i64 0, .int .i64 0, .slice none 0 0] := by rw [← hW]; exact Row.new _ _ _
    rw [hW]
    clear hW
    refine (look_any W A c l ((HB.out.below (hk0.below (Nat.le_refl _) (by simp))).mono hk0.size) hlen).mono ?_
    rintro e w1 ⟨hk, ⟨h2, h3, h4, A1, cc1, rfl, ho⟩ | ⟨h2, rfl⟩⟩
    all_goals
      have rz1 := rz.keep hk (by simp)
      have RZ := Lib.hid rz1
      have g0 := rz1.frozen 0
      have g1 := rz1.frozen 1
      have g2 := rz1.frozen 2
      have g3 := rz1.frozen 3
      have c0 := rz1.cell 0
      have c1 := rz1.cell 1
      have c2 := rz1.cell 2
      have c3 := rz1.cell 3
      have hwW : w.heap.size < W.heap.size := rz.lt
      have hne1 : ¬ w.heap.size = w1.heap.size := Nat.ne_of_lt rz1.lt
      have hne2 : ¬ w1.heap.size = w.heap.size := fun h => hne1 h.symm
      have hne3 := rz1.lt
      clear rz1 rz
    · have HX := Lib.hid (And.intro (hk0.trans hk (by simp)) (And.intro h2 (And.intro h3 (And.intro h4 ho))))
      clear hk h2 h3 h4 ho hk0
      by_cases h5 : ((pgNum l : Nat) : Int) = n
      · have h5b : (((pgNum l : Nat) : Int) != n) = false := by simp [h5]
        have HN := Lib.hid h5
        clear h5
        go_wp2_with fail
        have hp : parseErr n l = 0 := by simp [parseErr, h1, HX.out.2.1, HN.out]
        obtain ⟨pp1, pp2⟩ := page_put RZ.out (.int .i64 (pgKind l : Nat)) (.int .i64 (pgTxid l)) (.int .i64 (pgNext l : Nat)) (.slice A1 (pgBody l).length cc1)
        have ho2 := own_keep HX.out.2.2.2.2 pp2 (fun g hg hm => by have := (owned_lt HX.out.2.2.2.2 g hg).1; simp at hm; omega)
        exact parse_door _ _ w.heap.size _ _ _ _ _ rfl rfl (by first | exact pp1.keep (Keeps.alloc _ _) (by simp) | exact pp1) _
          ⟨by first | exact (HX.out.1.trans pp2 (fun x hx hl => by simp at hx; omega)).trans (Keeps.alloc _ _) (by simp) | exact (HX.out.1.trans pp2 (fun x hx hl => by simp at hx; omega)), .inl ⟨hp, HX.out.2.2.1, HX.out.2.2.2.1, _, _, rfl, by first | exact own_base (own_keep ho2 (Keeps.alloc _ _) (by simp)) (by omega) | exact own_base ho2 (by omega)⟩⟩
      · have h5b : (((pgNum l : Nat) : Int) != n) = true := by simp [h5]
        have HN := Lib.hid h5
        clear h5
        go_wp2_with fail
        have hp : parseErr n l = 141 := by simp [parseErr, h1, HX.out.2.1, HN.out]
        obtain ⟨pp1, pp2⟩ := page_put RZ.out (.int .i64 0) (.int .i64 0) (.int .i64 0) (.slice none 0 0)
        exact parse_door _ _ w.heap.size _ _ _ _ _ rfl rfl (by first | exact pp1.keep (Keeps.alloc _ _) (by simp) | exact pp1) _
          ⟨by first | exact (HX.out.1.trans pp2 (fun x hx hl => by simp at hx; omega)).trans (Keeps.alloc _ _) (by simp) | exact (HX.out.1.trans pp2 (fun x hx hl => by simp at hx; omega)), .inr ⟨by omega, by rw [hp]; rfl⟩⟩
    · have h2b : (((lookErr l : Nat) : Int) == 0) = false := by simp; omega
      have h2c : (((lookErr l : Nat) : Int) != 0) = true := by simp; omega
      have HX := Lib.hid (And.intro (hk0.trans hk (by simp)) h2)
      clear hk h2 hk0
      simp only [noLook]
      go_wp2_with fail
      have hp : parseErr n l = lookErr l := by simp [parseErr, h1, HX.out.2]
      obtain ⟨pp1, pp2⟩ := page_put RZ.out (.int .i64 0) (.int .i64 0) (.int .i64 0) (.slice none 0 0)
      exact parse_door _ _ w.heap.size _ _ _ _ _ rfl rfl (by first | exact pp1.keep (Keeps.alloc _ _) (by simp) | exact pp1) _
        ⟨by first | exact (HX.out.1.trans pp2 (fun x hx hl => by simp at hx; omega)).trans (Keeps.alloc _ _) (by simp) | exact (HX.out.1.trans pp2 (fun x hx hl => by simp at hx; omega)), .inr ⟨by have := HX.out.2; omega, by rw [hp]; rfl⟩⟩
  · have h1' : withinB n 0 4095 = false := by simpa using h1
    go_enter Try.func17, Try.ntmps17
    go_wp2_with fail
    refine (within_any _ _ _ _).mono ?_
    rintro e w1 ⟨rfl, rfl⟩
    rw [h1']
    go_wp2_with fail
    have hp : parseErr n l = 2 := by simp [parseErr, h1']
    exact parse_door _ _ w.heap.size _ _ _ _ _ rfl rfl (Row.new _ _ _) _ ⟨Keeps.alloc _ _, .inr ⟨by omega, by rw [hp]; rfl⟩⟩
end Go.Proofs.Ythepcoifcoinoaa

namespace Go.Proofs.Ythepcoifcoinoaa
open Go.RowKit

theorem toBE_beN_rev (l : List UInt8) : toBE l.reverse.length (beN l.reverse) = l.reverse := by
  induction l with
  | nil => rfl
  | cons b t ih =>
    have hb := b.toNat_lt
    rw [List.reverse_cons, beN_snoc, List.length_append]
    show toBE t.reverse.length ((beN t.reverse * 256 + b.toNat) / 256) ++ [UInt8.ofNat ((beN t.reverse * 256 + b.toNat) % 256)] = _
    rw [show (beN t.reverse * 256 + b.toNat) / 256 = beN t.reverse by omega, show (beN t.reverse * 256 + b.toNat) % 256 = b.toNat by omega, ih]
    simp
theorem toBE_beN (l : List UInt8) (k : Nat) (h : l.length = k) : toBE k (beN l) = l := by
  have := toBE_beN_rev l.reverse
  rw [List.reverse_reverse, h] at this
  exact this
theorem beN_toBE (k n : Nat) (h : n < 256 ^ k) : beN (toBE k n) = n := by
  induction k generalizing n with
  | zero =>
    have : n = 0 := by simpa using h
    subst this
    rfl
  | succ k ih =>
    show beN (toBE k (n / 256) ++ [UInt8.ofNat (n % 256)]) = n
    rw [beN_snoc, ih (n / 256) (by rw [Nat.pow_succ] at h; omega)]
    simp
    omega
theorem allZero_replicate (l : List UInt8) (h : allZero l = true) : l = List.replicate l.length 0 := by
  apply List.eq_replicate_iff.2
  refine ⟨rfl, fun b hb => ?_⟩
  simpa using (List.all_eq_true.1 h) b hb
end Go.Proofs.Ythepcoifcoinoaa

namespace Go.Proofs.Ythepcoifcoinoaa
open Go.RowKit

theorem drop_cut (l : List UInt8) (m k : Nat) : l.drop m = (l.drop m).take k ++ l.drop (m + k) := by
  rw [← List.drop_drop, List.take_append_drop]
theorem pg_split (l : List UInt8) : l = l.take 4 ++ ((l.drop 4).take 1 ++ ((l.drop 5).take 1 ++ ((l.drop 6).take 8 ++ ((l.drop 14).take 4 ++ ((l.drop 18).take 4 ++ ((l.drop 22).take 2 ++ (pgBody l ++ l.drop (24 + pgLen l)))))))) := by
  have h0 := (List.take_append_drop 4 l).symm
  have h1 := drop_cut l 4 1
  have h2 := drop_cut l 5 1
  have h3 := drop_cut l 6 8
  have h4 := drop_cut l 14 4
  have h5 := drop_cut l 18 4
  have h6 := drop_cut l 22 2
  have h7 := drop_cut l 24 (pgLen l)
  unfold pgBody
  rw [← h7, ← h6, ← h5, ← h4, ← h3, ← h2, ← h1, ← h0]
theorem pg_part (l : List UInt8) (hl : l.length = 256) (m k : Nat) (h : m + k ≤ 256) : toBE k (beN ((l.drop m).take k)) = (l.drop m).take k :=
  toBE_beN _ _ (by rw [List.length_take, List.length_drop]; omega)
/-- Where the padding and the rest are zeros, the bytes are those of the parts. -/
theorem raw_of_parts (l : List UInt8) (hl : l.length = 256) (hs : beN (l.take 4) = crcSum (l.drop 4)) (hn : pgLen l ≤ 232) (hp : pgPad l = 0) (hz : allZero (l.drop (24 + pgLen l)) = true) (_ht : 0 ≤ pgTxid l) (_ht2 : pgTxid l ≤ 4611686018427387904) (htx : (pgTxid l).toNat = beN ((l.drop 6).take 8)) :
    rawPage (pgNum l) (pgKind l) (pgTxid l).toNat (pgNext l) (pgBody l) = l := by
  have hb : (pgBody l).length = pgLen l := by unfold pgBody; rw [List.length_take, List.length_drop, hl]; omega
  have e1 := pg_part l hl 4 1 (by omega)
  have e2 := pg_part l hl 5 1 (by omega)
  have e3 := pg_part l hl 6 8 (by omega)
  have e4 := pg_part l hl 14 4 (by omega)
  have e5 := pg_part l hl 18 4 (by omega)
  have e6 := pg_part l hl 22 2 (by omega)
  have e7 := allZero_replicate _ hz
  rw [List.length_drop, hl, show 256 - (24 + pgLen l) = 232 - pgLen l by omega] at e7
  have et : rawTail (pgNum l) (pgKind l) (pgTxid l).toNat (pgNext l) (pgBody l) = l.drop 4 := by
    unfold rawTail
    rw [hb, htx, ← e7]
    have hs := congrArg (List.drop 4) (pg_split l)
    rw [List.drop_append_of_le_length (by rw [List.length_take]; omega), List.drop_eq_nil_of_le (by rw [List.length_take]; omega : (l.take 4).length ≤ 4), List.nil_append] at hs
    rw [hs]
    have e6' : toBE 2 0 = (l.drop 22).take 2 := by rw [← e6]; unfold pgPad at hp; rw [hp]
    unfold pgKind pgNum pgNext
    rw [e6', e1, show toBE 1 (pgLen l) = (l.drop 5).take 1 from e2, e3, e4, e5]
    simp only [List.append_assoc]
  unfold rawPage
  rw [et, ← hs, toBE_beN _ 4 (by rw [List.length_take]; omega), List.take_append_drop]
end Go.Proofs.Ythepcoifcoinoaa

namespace Go.Proofs.Ythepcoifcoinoaa
open Go.RowKit

theorem drop_past {a b : List UInt8} {m k : Nat} (h : a.length = m) (hk : m ≤ k) : (a ++ b).drop k = b.drop (k - m) := by
  subst h
  rw [List.drop_append, List.drop_eq_nil_of_le hk, List.nil_append]
theorem take_here {a b : List UInt8} {m : Nat} (h : a.length = m) : (a ++ b).take m = a := by
  subst h
  simp
theorem raw_parts (a k t n : Nat) (body : List UInt8) (hk : k < 256) (hl : body.length ≤ 232) (ht : t < 18446744073709551616) (ha : a < 4294967296) (hn : n < 4294967296) :
    let L := rawPage a k t n body
    L.take 4 = toBE 4 (crcSum (rawTail a k t n body)) ∧ L.drop 4 = rawTail a k t n body ∧ pgKind L = k ∧ pgLen L = body.length ∧ beN ((L.drop 6).take 8) = t ∧ pgNum L = a ∧ pgNext L = n ∧ pgPad L = 0 ∧ pgBody L = body ∧ allZero (L.drop (24 + body.length)) = true := by
  intro L
  have hL : L = toBE 4 (crcSum (rawTail a k t n body)) ++ (toBE 1 k ++ (toBE 1 body.length ++ (toBE 8 t ++ (toBE 4 a ++ (toBE 4 n ++ (toBE 2 0 ++ (body ++ List.replicate (232 - body.length) 0))))))) := by
    simp only [L, rawPage, rawTail, List.append_assoc]
  have d4 : L.drop 4 = toBE 1 k ++ (toBE 1 body.length ++ (toBE 8 t ++ (toBE 4 a ++ (toBE 4 n ++ (toBE 2 0 ++ (body ++ List.replicate (232 - body.length) 0)))))) := by
    rw [hL, drop_past (toBE_length _ _) (Nat.le_refl 4)]; rfl
  have d5 : L.drop 5 = toBE 1 body.length ++ (toBE 8 t ++ (toBE 4 a ++ (toBE 4 n ++ (toBE 2 0 ++ (body ++ List.replicate (232 - body.length) 0))))) := by
    rw [show 5 = 4 + 1 from rfl, ← List.drop_drop, d4, drop_past (toBE_length _ _) (Nat.le_refl 1)]; rfl
  have d6 : L.drop 6 = toBE 8 t ++ (toBE 4 a ++ (toBE 4 n ++ (toBE 2 0 ++ (body ++ List.replicate (232 - body.length) 0)))) := by
    rw [show 6 = 5 + 1 from rfl, ← List.drop_drop, d5, drop_past (toBE_length _ _) (Nat.le_refl 1)]; rfl
  have d14 : L.drop 14 = toBE 4 a ++ (toBE 4 n ++ (toBE 2 0 ++ (body ++ List.replicate (232 - body.length) 0))) := by
    rw [show 14 = 6 + 8 from rfl, ← List.drop_drop, d6, drop_past (toBE_length _ _) (Nat.le_refl 8)]; rfl
  have d18 : L.drop 18 = toBE 4 n ++ (toBE 2 0 ++ (body ++ List.replicate (232 - body.length) 0)) := by
    rw [show 18 = 14 + 4 from rfl, ← List.drop_drop, d14, drop_past (toBE_length _ _) (Nat.le_refl 4)]; rfl
  have d22 : L.drop 22 = toBE 2 0 ++ (body ++ List.replicate (232 - body.length) 0) := by
    rw [show 22 = 18 + 4 from rfl, ← List.drop_drop, d18, drop_past (toBE_length _ _) (Nat.le_refl 4)]; rfl
  have d24 : L.drop 24 = body ++ List.replicate (232 - body.length) 0 := by
    rw [show 24 = 22 + 2 from rfl, ← List.drop_drop, d22, drop_past (toBE_length _ _) (Nat.le_refl 2)]; rfl
  have hlen : pgLen L = body.length := by
    unfold pgLen
    rw [d5, take_here (toBE_length _ _), beN_toBE _ _ (by omega)]
  refine ⟨?_, ?_, ?_, hlen, ?_, ?_, ?_, ?_, ?_, ?_⟩
  · rw [hL, take_here (toBE_length _ _)]
  · rw [d4]; simp only [rawTail, List.append_assoc]
  · unfold pgKind; rw [d4, take_here (toBE_length _ _), beN_toBE _ _ (by omega)]
  · rw [d6, take_here (toBE_length _ _), beN_toBE _ _ (by omega)]
  · unfold pgNum; rw [d14, take_here (toBE_length _ _), beN_toBE _ _ (by omega)]
  · unfold pgNext; rw [d18, take_here (toBE_length _ _), beN_toBE _ _ (by omega)]
  · unfold pgPad; rw [d22, take_here (toBE_length _ _), beN_toBE _ _ (by omega)]
  · unfold pgBody; rw [d24, hlen]; simp
  · rw [← List.drop_drop, d24]; simp [allZero]
end Go.Proofs.Ythepcoifcoinoaa

namespace Go.Proofs.Ythepcoifcoinoaa
open Go.RowKit

/-- The bytes of the page whose parts the bytes hold. -/
def pgRaw (l : List UInt8) : List UInt8 := rawPage (pgNum l) (pgKind l) (pgTxid l).toNat (pgNext l) (pgBody l)
theorem pgBody_length (l : List UInt8) (hl : l.length = 256) (hn : pgLen l ≤ 232) : (pgBody l).length = pgLen l := by
  unfold pgBody; rw [List.length_take, List.length_drop, hl]; omega
theorem pgTxid_nat (l : List UInt8) (h : 0 ≤ pgTxid l) (hb : beN ((l.drop 6).take 8) < 18446744073709551616) : (pgTxid l).toNat = beN ((l.drop 6).take 8) := by
  have e : pgTxid l = wrap64 (beN ((l.drop 6).take 8) : Nat) := rfl
  rw [e] at h ⊢
  generalize beN ((l.drop 6).take 8) = n at *
  unfold wrap64 at *
  omega
theorem pgTxid_lt (l : List UInt8) (hl : l.length = 256) : beN ((l.drop 6).take 8) < 18446744073709551616 := by
  have := beN_lt ((l.drop 6).take 8)
  rw [show ((l.drop 6).take 8).length = 8 by rw [List.length_take, List.length_drop]; omega] at this
  exact this
theorem pgRaw_iff (l : List UInt8) (hl : l.length = 256) (hs : beN (l.take 4) = crcSum (l.drop 4)) (hn : pgLen l ≤ 232) (hok : pageOk (pgKind l) (pgTxid l) (pgNext l) (pgLen l) = true) :
    pgRaw l = l ↔ pgPad l = 0 ∧ allZero (l.drop (24 + pgLen l)) = true := by
  obtain ⟨hk, ht, hnx, _⟩ := pageOk_true hok
  obtain ⟨bk, bn, bnum, bnx, bpad⟩ := pg_bounds l hl
  have hb := pgBody_length l hl hn
  have h64 : ∀ x : Int, 0 ≤ x → x ≤ 4611686018427387904 → x.toNat < 18446744073709551616 := fun x h1 h2 => by omega
  have h64 := h64 (pgTxid l) ht.1 ht.2
  constructor
  · intro h
    have := raw_parts (pgNum l) (pgKind l) (pgTxid l).toNat (pgNext l) (pgBody l) bk (by rw [hb]; exact hn) h64 bnum bnx
    have hL : rawPage (pgNum l) (pgKind l) (pgTxid l).toNat (pgNext l) (pgBody l) = l := h
    simp only [hL, hb] at this
    exact ⟨this.2.2.2.2.2.2.2.1, this.2.2.2.2.2.2.2.2.2⟩
  · rintro ⟨hp, hz⟩
    exact raw_of_parts l hl hs hn hp hz ht.1 ht.2 (pgTxid_nat l ht.1 (pgTxid_lt l hl))
theorem pgRaw_length (l : List UInt8) (hl : l.length = 256) (hn : pgLen l ≤ 232) : (pgRaw l).length = 256 := by
  unfold pgRaw rawPage
  rw [List.length_append, toBE_length, rawTail_length _ _ _ _ _ (by rw [pgBody_length l hl hn]; exact hn)]
end Go.Proofs.Ythepcoifcoinoaa
