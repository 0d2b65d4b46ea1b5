/- Package disk, plain: what a crash leaves, page by page. -/
import Derived.Test.YtehlabdbbbbopaaPa25

namespace Go.Proofs.Ytehlabdbbbbopaa
open Go.RowKit Go.Maps

/-- What a crash makes of a page. -/
def pgRun (ws : List (Int × List UInt8)) (st : (Int → Option (List UInt8)) × List Int) (x : Int) : (Int → Option (List UInt8)) × List Int := if pagesOf ws x = [] then st else secRun ws (four x) st.1 st.2
/-- .. of the first pages. -/
def pgsRun (ws : List (Int × List UInt8)) (n : Nat) (M : Int → Option (List UInt8)) (ps : List Int) : (Int → Option (List UInt8)) × List Int := (List.range n).foldl (fun st (k : Nat) => pgRun ws st (k : Int)) (M, ps)
theorem pgsRun_succ (ws : List (Int × List UInt8)) (n : Nat) (M : Int → Option (List UInt8)) (ps : List Int) : pgsRun ws (n + 1) M ps = pgRun ws (pgsRun ws n M ps) n := by
  unfold pgsRun
  rw [List.range_succ, List.foldl_append]
  rfl
theorem secRun_pgs {ws : List (Int × List UInt8)} {n : Nat} (h : ∀ p ∈ ws, p.1 < n) (hn : n ≤ 4096) (M : Int → Option (List UInt8)) (ps : List Int) : secRun ws (secList ws) M ps = pgsRun ws n M ps := by
  unfold secList
  rw [secKeys_lt h hn]
  unfold pgsRun
  have key : ∀ (l : List Nat) (st : (Int → Option (List UInt8)) × List Int), List.foldl (secStep ws) st (((l.map (fun k : Nat => (k : Int))).filter fun x => !(pagesOf ws x).isEmpty).flatMap four) = l.foldl (fun st (k : Nat) => pgRun ws st (k : Int)) st := by
    intro l
    induction l with
    | nil => intro st; rfl
    | cons a l ih =>
      intro st
      rw [List.map_cons, List.foldl_cons]
      by_cases ha : pagesOf ws a = []
      · rw [List.filter_cons_of_neg (by simp [ha]), ih]
        congr 1
        unfold pgRun
        rw [if_pos ha]
      · rw [List.filter_cons_of_pos (by simpa using ha), List.flatMap_cons, List.foldl_append, ih]
        congr 1
        unfold pgRun
        rw [if_neg ha]
        rfl
  exact key _ _
end Go.Proofs.Ytehlabdbbbbopaa
