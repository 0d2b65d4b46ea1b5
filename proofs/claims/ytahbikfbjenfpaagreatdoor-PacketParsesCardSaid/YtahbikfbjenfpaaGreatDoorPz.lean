/- Short names for rows of cells and for lemmas of lists. -/
import Derived.Test.YtahbikfbjenfpaaGreatDoorProg
import Derived.Lib.Hide
namespace Go.Proofs.YtahbikfbjenfpaaGreatDoor
open Go Go.RowKit
abbrev zP (k : Int) (dup ret : Bool) (q : Int) (t b : List UInt8) (id : Int) (c : List UInt8) (cl : Bool) (keep : Int) (hw : Bool) (wt wb : List UInt8) (wq : Int) (wr hu hp : Bool) (u pw : List UInt8) (pr : Bool) (code : Int) (sw sc sf : Value) : Array Value := #[.int .i64 k, .bool dup, .bool ret, .int .i64 q, .string ⟨t.toArray⟩, .string ⟨b.toArray⟩, .int .i64 id, .string ⟨c.toArray⟩, .bool cl, .int .i64 keep, .bool hw, .string ⟨wt.toArray⟩, .string ⟨wb.toArray⟩, .int .i64 wq, .bool wr, .bool hu, .bool hp, .string ⟨u.toArray⟩, .string ⟨pw.toArray⟩, .bool pr, .int .i64 code, sw, sc, sf]
abbrev zL (k : Int) (dup ret : Bool) (q : Int) (t b : List UInt8) (id : Int) (c : List UInt8) (cl : Bool) (keep : Int) (hw : Bool) (wt wb : List UInt8) (wq : Int) (wr hu hp : Bool) (u pw : List UInt8) (pr : Bool) (code : Int) (sw sc sf : Value) : List Value := [.int .i64 k, .bool dup, .bool ret, .int .i64 q, .string ⟨t.toArray⟩, .string ⟨b.toArray⟩, .int .i64 id, .string ⟨c.toArray⟩, .bool cl, .int .i64 keep, .bool hw, .string ⟨wt.toArray⟩, .string ⟨wb.toArray⟩, .int .i64 wq, .bool wr, .bool hu, .bool hp, .string ⟨u.toArray⟩, .string ⟨pw.toArray⟩, .bool pr, .int .i64 code, sw, sc, sf]
abbrev eM : Array Value := #[.int .i64 0, .bool false, .bool false, .int .i64 0, .string ⟨#[]⟩, .string ⟨#[]⟩, .int .i64 0, .string ⟨#[]⟩, .bool false, .int .i64 0, .bool false, .string ⟨#[]⟩, .string ⟨#[]⟩, .int .i64 0, .bool false, .bool false, .bool false, .string ⟨#[]⟩, .string ⟨#[]⟩, .bool false, .int .i64 0, .slice none 0 0, .slice none 0 0, .slice none 0 0]
abbrev Ub : List Value := [.int .i64 0, .bool false, .bool false, .int .i64 0, .string ⟨#[]⟩, .string ⟨#[]⟩, .int .i64 0, .string ⟨#[]⟩, .bool false, .int .i64 0, .bool false, .string ⟨#[]⟩, .string ⟨#[]⟩, .int .i64 0, .bool false, .bool false, .bool false, .string ⟨#[]⟩, .string ⟨#[]⟩, .bool false, .int .i64 0, .slice none 0 0, .slice none 0 0, .slice none 0 0]
abbrev aN : Value := .slice none 0 0
abbrev tf (k id : Int) (a b d : Value) : Array Value := zP k false false 0 [] [] id [] false 0 false [] [] 0 false false false [] [] false 0 a b d
abbrev qz (k id : Int) : Array Value := zP k false false 0 [] [] id [] false 0 false [] [] 0 false false false [] [] false 0 aN aN aN
abbrev j_ (k : Int) (c : List UInt8) (cl : Bool) (keep : Int) (hw : Bool) (wt wb : List UInt8) (wq : Int) (wr hu hp : Bool) (u pw : List UInt8) : Array Value := zP k false false 0 [] [] 0 c cl keep hw wt wb wq wr hu hp u pw false 0 aN aN aN
abbrev Qn (k id : Int) (a b d : Value) : List Value := zL k false false 0 [] [] id [] false 0 false [] [] 0 false false false [] [] false 0 a b d
abbrev Wc (k id : Int) : List Value := zL k false false 0 [] [] id [] false 0 false [] [] 0 false false false [] [] false 0 aN aN aN
abbrev qA (k : Int) (c : List UInt8) (cl : Bool) (keep : Int) (hw : Bool) (wt wb : List UInt8) (wq : Int) (wr hu hp : Bool) (u pw : List UInt8) : List Value := zL k false false 0 [] [] 0 c cl keep hw wt wb wq wr hu hp u pw false 0 aN aN aN
abbrev aG := List UInt8
abbrev au := World
theorem _root_.Go.RowKit.Hid.o {p : Prop} (h : Hid p) : p := h
theorem qj : type_of% @of_decide_eq_true := @of_decide_eq_true
theorem aE : type_of% @if_pos := @if_pos
theorem aj : type_of% @if_neg := @if_neg
theorem Ez : type_of% @List.mem_append_right := @List.mem_append_right
theorem di : type_of% @Option.bind_some := @Option.bind_some
theorem tg : type_of% @Option.map_some := @Option.map_some
theorem jF : type_of% @if_true := @if_true
theorem F6 : type_of% @List.mem_append_left := @List.mem_append_left
theorem Ey : type_of% @Nat.eq_zero_or_pos := @Nat.eq_zero_or_pos
theorem Ex : type_of% @List.eq_nil_of_length_eq_zero := @List.eq_nil_of_length_eq_zero
theorem dJ : type_of% @List.append_nil := @List.append_nil
theorem bE : type_of% @Nat.le_refl := @Nat.le_refl
theorem cH : type_of% @Nat.le_trans := @Nat.le_trans
theorem kB : type_of% @Nat.lt_of_lt_of_le := @Nat.lt_of_lt_of_le
theorem eS : type_of% @Nat.lt_or_ge := @Nat.lt_or_ge
theorem tW : type_of% @Array.getElem?_eq_none := @Array.getElem?_eq_none
theorem rE : type_of% @List.getElem?_eq_getElem := @List.getElem?_eq_getElem
theorem tV : type_of% @wpList_plain := @wpList_plain
theorem fo : type_of% @Sem.run_bind := @Sem.run_bind
theorem gq : type_of% @Sem.run_pure := @Sem.run_pure
theorem fk : type_of% @Result.andThen_ok := @Result.andThen_ok
theorem xH : type_of% @List.map_toArray := @List.map_toArray
theorem eu : type_of% @List.map_cons := @List.map_cons
theorem fU : type_of% @List.map_nil := @List.map_nil
theorem bI : type_of% @List.length_append := @List.length_append
theorem du : type_of% @List.length_cons := @List.length_cons
theorem dR : type_of% @List.length_nil := @List.length_nil
theorem oK : type_of% @Nat.pow_succ := @Nat.pow_succ
theorem Aa : type_of% @Nat.div_div_eq_div_mul := @Nat.div_div_eq_div_mul
theorem z_ : type_of% @UInt8.toNat_ofNat' := @UInt8.toNat_ofNat'
theorem jS : type_of% @List.cons_append := @List.cons_append
theorem bD : type_of% @bodyPost_ret := @bodyPost_ret
theorem ai : type_of% @and_true := @and_true
theorem cV : type_of% @wp_region_lit := @wp_region_lit
theorem xG : type_of% @Array.length_toList := @Array.length_toList
theorem ou : type_of% @Array.getD_eq_getD_getElem? := @Array.getD_eq_getD_getElem?
theorem eK : type_of% @List.append_assoc := @List.append_assoc
theorem jD : type_of% @List.nil_append := @List.nil_append
theorem fT : type_of% @Int.toNat_natCast := @Int.toNat_natCast
theorem rD : type_of% @List.mem_singleton := @List.mem_singleton
theorem kY : type_of% @Option.some.injEq := @Option.some.injEq
theorem xF : type_of% @List.length_map := @List.length_map
theorem ek : type_of% @congrArg := @congrArg
theorem zZ : type_of% @Nat.lt_of_le_of_lt := @Nat.lt_of_le_of_lt
theorem tU : type_of% @List.mem_cons := @List.mem_cons
theorem tT : type_of% @List.not_mem_nil := @List.not_mem_nil
theorem fA : type_of% @decide_eq_true_eq := @decide_eq_true_eq
theorem oq : type_of% @List.size_toArray := @List.size_toArray
theorem xE : type_of% @Array.replicate_succ := @Array.replicate_succ
theorem xD : type_of% @Array.replicate_zero := @Array.replicate_zero
theorem xC : type_of% @List.push_toArray := @List.push_toArray
theorem xB : type_of% @List.append_toArray := @List.append_toArray
theorem qD : type_of% @List.take_of_length_le := @List.take_of_length_le
theorem dQ : type_of% @List.length_drop := @List.length_drop
theorem jR : type_of% @results_none := @results_none
theorem cR : type_of% @Bool.and_eq_true := @Bool.and_eq_true
theorem kX : type_of% @beq_iff_eq := @beq_iff_eq
theorem kW : type_of% @Bool.or_eq_true := @Bool.or_eq_true
theorem zY : type_of% @Bool.false_eq_true := @Bool.false_eq_true
theorem oJ : type_of% @Array.getElem?_setIfInBounds_ne := @Array.getElem?_setIfInBounds_ne
theorem lS : type_of% @Array.getElem?_eq_getElem := @Array.getElem?_eq_getElem
theorem fS : type_of% @List.getElem_mem := @List.getElem_mem
theorem zX : type_of% @List.map_congr_left := @List.map_congr_left
theorem xA : type_of% @Array.ext_getElem? := @Array.ext_getElem?
theorem dq : type_of% @List.length_take := @List.length_take
theorem kV : type_of% @Nat.le_of_lt := @Nat.le_of_lt
theorem jC : type_of% @if_false := @if_false
theorem iP : type_of% @Nat.zero_add := @Nat.zero_add
theorem kA : type_of% @List.flatMap_cons := @List.flatMap_cons
theorem uS : type_of% @Array.getElem?_toList := @Array.getElem?_toList
theorem xy : type_of% @Nat.mul_le_mul_right := @Nat.mul_le_mul_right
theorem lR : type_of% @Nat.mul_le_mul := @Nat.mul_le_mul
theorem zW : type_of% @List.flatMap_append := @List.flatMap_append
theorem iO : type_of% @Nat.mul_one := @Nat.mul_one
theorem xx : type_of% @List.getElem?_map := @List.getElem?_map
theorem fj : type_of% @Nat.add_zero := @Nat.add_zero
theorem bz : type_of% @decide_eq_true := @decide_eq_true
theorem aZ : type_of% @decide_eq_false := @decide_eq_false
theorem lQ : type_of% @Nat.pow_le_pow_right := @Nat.pow_le_pow_right
theorem hO : type_of% @List.take_succ_eq_append_getElem := @List.take_succ_eq_append_getElem
theorem zV : type_of% @List.foldl_append := @List.foldl_append
theorem lP : type_of% @Bool.eq_iff_iff := @Bool.eq_iff_iff
theorem eQ : type_of% @List.take_length := @List.take_length
theorem mM : type_of% @bodyPost_end := @bodyPost_end
theorem xw : type_of% @World.ownsRow_nil := @World.ownsRow_nil
theorem uR : type_of% @List.getElem_cons_succ := @List.getElem_cons_succ
theorem xo : type_of% @of_decide_eq_false := @of_decide_eq_false
theorem xm : type_of% @Bool.and_false := @Bool.and_false
theorem iG : type_of% @Nat.succ_pos := @Nat.succ_pos
theorem tS : type_of% @beq_eq_false_iff_ne := @beq_eq_false_iff_ne
theorem cj : type_of% @Option.bind_eq_some_iff := @Option.bind_eq_some_iff
theorem jQ : type_of% @Int.toNat_of_nonneg := @Int.toNat_of_nonneg
theorem qC : type_of% @World.size_alloc := @World.size_alloc
theorem So : type_of% @List.findIdx?_cons := @List.findIdx?_cons
theorem Sn : type_of% @World.cell?_alloc_new := @World.cell?_alloc_new
theorem qB : type_of% @List.getElem_cons_zero := @List.getElem_cons_zero
theorem zU : type_of% @Nat.mod_eq_of_lt := @Nat.mod_eq_of_lt
theorem rC : type_of% @Int.tmod_eq_emod_of_nonneg := @Int.tmod_eq_emod_of_nonneg
theorem zT : type_of% @Int.tdiv_eq_ediv_of_nonneg := @Int.tdiv_eq_ediv_of_nonneg
theorem xj : type_of% @Array.size_setIfInBounds := @Array.size_setIfInBounds
theorem fL : type_of% @Nat.le_of_ble_eq_true := @Nat.le_of_ble_eq_true
theorem bo {α : Type _} (l : List α) (i : Nat) (a : α) : l.toArray.setIfInBounds i a = (l.set i a).toArray := List.setIfInBounds_toArray ..
theorem bn {α : Type _} {x : α} {xs : List α} {n : Nat} {a : α} : (x :: xs).set (n + 1) a = x :: xs.set n a := List.set_cons_succ ..
theorem bh {α : Type _} {x : α} {xs : List α} {a : α} : (x :: xs).set 0 a = a :: xs := List.set_cons_zero ..
theorem cg {α : Type _} {xs : List α} {i : Nat} : xs.toArray[i]? = xs[i]? := List.getElem?_toArray ..
theorem bU {α : Type _} {a : α} {l : List α} : (a :: l)[0]? = some a := List.getElem?_cons_zero ..
theorem fe {α : Type _} {a : α} {l : List α} {i : Nat} : (a :: l)[i + 1]? = l[i]? := List.getElem?_cons_succ ..
theorem dc {α : Type _} {a : α} {Tt : List α} {i : Nat} : List.take (i + 1) (a :: Tt) = a :: List.take i Tt := List.take_succ_cons ..
theorem dg {α : Type _} {l : List α} : List.take 0 l = [] := List.take_zero ..
theorem dF {α : Type _} {a : α} {l : List α} {i : Nat} : List.drop (i + 1) (a :: l) = List.drop i l := List.drop_succ_cons ..
theorem dK {α : Type _} {l : List α} : List.drop 0 l = l := List.drop_zero ..
theorem zh {p : Prop} (h : p) : RowKit.Hid p := Lib.hid h
end Go.Proofs.YtahbikfbjenfpaaGreatDoor
