/- MerkleMeans: the law's walk, all cases. -/
import Derived.Test.YtbabjepblakboaaZo
namespace Go.Proofs.Ytbabjepblakboaa
set_option linter.unusedVariables false
set_option linter.unusedSimpArgs false
open Go.RowKit

theorem ymeans_row (w : World) (v : Value) (l : List Bs) (h : Hs w v l) (n : Int) (O : Bs) (hO : O.length = 32) (q : Int) :
    Calls Try.prog 11 #[v, .int .i64 n, .agg (bvs O).toArray, .int .i64 q] w fun e w' => e = .returned (.bool true) ∧ Below w.heap.size w w' := by
  by_cases h7 : 70 < l.length ∨ n < 0 ∨ (l.length : Int) ≤ n
  · exact ym_none w v l h n O hO q h7
  · obtain ⟨p, rfl⟩ := Int.eq_ofNat_of_zero_le (show 0 ≤ n by omega)
    exact ym_main w v l h p O hO q (by omega) (by omega)

end Go.Proofs.Ytbabjepblakboaa
