/- A region whose operations each keep what was there, each operation met once. -/
import Derived.Test.YtfglgeoookbppaaGreatDoorPa3
import Derived.Test.YtfglgeoookbppaaGreatDoorPa4
import Derived.Test.YtfglgeoookbppaaGreatDoorPa0
import Derived.Test.YtfglgeoookbppaaGreatDoorPa5

namespace Go.Proofs.YtfglgeoookbppaaGreatDoor

/-- All that was there stays. -/
abbrev KeepsAll (w w' : World) : Prop := Keeps w w' []

theorem Bytes.keeps {w w' : World} {v : Value} {l : List UInt8} (h : Bytes w w.heap.size v l) (hk : Keeps w w' []) : Bytes w' w'.heap.size v l := (h.below (hk.below (Nat.le_refl _) (by simp))).mono hk.size
theorem Lies.keeps {w w' : World} {A : Option Addr} {xs : List Value} (h : Lies w w.heap.size A xs) (hk : Keeps w w' []) : Lies w' w'.heap.size A xs := (h.below (hk.below (Nat.le_refl _) (by simp))).mono hk.size
theorem Row.keeps {w w' : World} {g : Nat} {t : TypeId} {cs : Array Value} (h : Row w g t cs) (hk : Keeps w w' []) : Row w' g t cs := h.keep hk (by simp)

section
variable {P : Program} {R : World → World → Prop} {w0 : World} {ops : Array Oper} {a0 : Act} {Q : List Ent → Prop} {o : Oper} {rest : List Oper} {env : List Ent}

theorem loose_nil (h : Q env) : wpLoose P R w0 ops a0 Q [] env := h
/-- One operation whose value is known. -/
theorem loose_is (v : Value) (h : ∀ W vals, R w0 W → knows R w0 vals (o.looksAt ops) W env → opOk P R ops (fill vals env a0) o (fun u _ => u = v) W)
    (hk : wpLoose P R w0 ops a0 Q rest (addEnt o.dst (some v) [] (fun _ _ _ => True) env)) : wpLoose P R w0 ops a0 Q (o :: rest) env :=
  ⟨some v, [], _, (fun _ h => nomatch h), h, hk⟩
/-- One operation of whose value something is known. -/
theorem loose_has (φ : Value → World → Prop) (h : ∀ W vals, R w0 W → knows R w0 vals (o.looksAt ops) W env → ∀ φ' : Value → World → Prop, RowKit.Hid (∀ u w, φ u w → φ' u w) → opOk P R ops (fill vals env a0) o φ' W)
    (hk : wpLoose P R w0 ops a0 Q rest (addEnt o.dst none [] (fun _ => φ) env)) : wpLoose P R w0 ops a0 Q (o :: rest) env :=
  ⟨none, [], fun _ => φ, (fun _ h => nomatch h), fun W vals hW hkn => h W vals hW hkn φ (Lib.hid fun _ _ h => h), hk⟩
/-- One operation of whose value, and of what it read, something is known. -/
theorem loose_had (rd : List Tmp) (φ : List Value → Value → World → Prop) (hrd : rd.all (waitsB ops o) = true) (h : ∀ W vals, R w0 W → knows R w0 vals (o.looksAt ops) W env → ∀ φ' : Value → World → Prop, RowKit.Hid (∀ u w, φ (rd.map vals) u w → φ' u w) → opOk P R ops (fill vals env a0) o φ' W)
    (hk : wpLoose P R w0 ops a0 Q rest (addEnt o.dst none rd φ env)) : wpLoose P R w0 ops a0 Q (o :: rest) env :=
  ⟨none, rd, φ, fun t ht => List.all_eq_true.1 hrd t ht, fun W vals hW hkn => h W vals hW hkn _ (Lib.hid fun _ _ h => h), hk⟩
/-- One operation that is not wanted. -/
theorem loose_off (hw : ∀ vals : Tmp → Value, Region.wanted o (yielded ops (fill vals env a0).tmps) = false) (hk : wpLoose P R w0 ops a0 Q rest (addEnt o.dst (some undef) [] (fun _ _ _ => True) env)) : wpLoose P R w0 ops a0 Q (o :: rest) env :=
  ⟨some undef, [], fun _ _ _ => True, (fun _ h => nomatch h), fun W vals _ _ => ⟨by rw [hw vals]; exact rfl⟩, hk⟩
theorem looseUpon_calls {W : World} {φ : Value → World → Prop} {f : FuncId} {args : Array Value} (h : Calls P f args W (fun e w'' => ∃ v, e = .returned v ∧ Keeps W w'' [] ∧ φ v w'')) :
    looseUpon P KeepsAll W φ (.ok (.enter f args) W) := ⟨Keeps.refl _ _, h⟩
theorem looseUpon_has {W : World} {φ φ' : Value → World → Prop} {f : FuncId} {args : Array Value} (hφ : RowKit.Hid (∀ u w, φ u w → φ' u w)) (h : Calls P f args W (fun e w'' => ∃ v, e = .returned v ∧ Keeps W w'' [] ∧ φ v w'')) :
    looseUpon P KeepsAll W φ' (.ok (.enter f args) W) := ⟨Keeps.refl _ _, h.mono fun _ _ ⟨v, he, hk, hv⟩ => ⟨v, he, hk, hφ.out _ _ hv⟩⟩
theorem looseUpon_value {W W' : World} {φ φ' : Value → World → Prop} {v : Value} (hφ : RowKit.Hid (∀ u w, φ u w → φ' u w)) (hk : Keeps W W' []) (h : φ v W') : looseUpon P KeepsAll W φ' (.ok (.value v) W') := ⟨hk, hφ.out _ _ h⟩
theorem wp_region_keeps {id : Nat} {Q : Exit → Act → World → Prop} {a : Act} {w : World} {l : List Oper} (n : Nat) (hm : P.follows .mixedOrders = true) (hn : a.tmps.size = n) (hB : looseB n l.toArray = true)
    (h : wpLoose P KeepsAll w l.toArray a (fun env => ∀ W vals, Keeps w W [] → knowsAll KeepsAll w vals W env → Q .normal (fill vals env a) W) l []) : (Code.region id l.toArray true).wp P Q a w :=
  wp_region_loose KeepsAll w n hm hn hB (fun _ => Keeps.refl _ _) (fun _ _ _ h k => h.trans k (by simp)) (Keeps.drew _) h
end
end Go.Proofs.YtfglgeoookbppaaGreatDoor
