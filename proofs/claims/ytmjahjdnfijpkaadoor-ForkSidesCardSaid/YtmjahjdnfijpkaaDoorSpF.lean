/- What space.Access returns. -/
import Derived.Test.YtmjahjdnfijpkaaDoorHJ
import Derived.Test.YtmjahjdnfijpkaaDoorGT
namespace Go.Proofs.YtmjahjdnfijpkaaDoor
open Go Go.Proofs Go.RowKit
set_option linter.unusedSimpArgs false
set_option linter.unusedVariables false
set_option maxRecDepth 100000

theorem SpV.tab {w : World} {rs : List (Int × Int)} {r : Int} {ls : List Int} {es : List Nat} {A L B : Option Addr} {c cl d : Nat} (hL : Rd w 1 L ls.length (iw ls)) (hB : Rd w 1 B es.length (uw es)) (h : ls.length ≤ cl) : TbV w (.agg #[.int .i64 r, .slice L ls.length cl, .slice B es.length d]) (r, ls, es) := tbv_of hL hB h

def finV (m lk wr a : Bool) (k count : Int) : Int := if m = false then 1 else if k = 2 then 8 else if k = 0 then (if wr = false then 2 else if lk = true then 5 else 6) else if wr = false ∨ a = true then 3 else if count ≤ 1 then 4 else 7
theorem finR_eq (s : Sp) (p : Nat) (wr : Bool) (count : Int) : finR s p wr count = finV (hasP s.1 p) (decide (s.2.2.1.getD (p / 8) 0 = -1)) wr (entP s.2.2.2 p).2.2.1 (entP s.2.2.2 p).1 count := by
  unfold finR finV
  simp only [decide_eq_true_eq]
end Go.Proofs.YtmjahjdnfijpkaaDoor
