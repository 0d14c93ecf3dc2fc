/- MerkleCollides: the law's walk, all cases. -/
import Derived.Test.YtbabjepblakboaaZe
import Derived.Test.YtbabjepblakboaaZf
namespace Go.Proofs.Ytbabjepblakboaa
set_option linter.unusedVariables false
set_option linter.unusedSimpArgs false
open Go.RowKit Go.Lib

theorem ycoll_row (w : World) (vi : Value) (l : List Bs) (hi : Hs w vi l) (x : Bs) (hx : x.length = 32) (n c : Int) (v : Value) (hs : List Bs) (h : Hs w v hs) :
    Calls Try.prog 10 #[vi, .agg (bvs x).toArray, .agg #[.int .i64 n, .int .i64 c, v]] w fun e w' => e = .returned (.bool true) ∧ Below w.heap.size w w' := by
  by_cases h7 : 70 < l.length ∨ 100 < hs.length
  · exact ycoll_great w v vi x n c hs l hx h hi h7
  by_cases hc : c = (l.length : Int)
  · by_cases h0 : 0 ≤ n
    · by_cases hn : n < c
      · exact ycoll_in w v vi x n c hs l hx h hi (by omega) (by omega) hc h0 hn
      · exact ycoll_past w v vi x n c hs l hx h hi (by omega) (by omega) hc h0 (by omega)
    · exact ycoll_neg w v vi x n c hs l hx h hi (by omega) (by omega) hc (by omega)
  · exact ycoll_count w v vi x n c hs l hx h hi (by omega) (by omega) hc

end Go.Proofs.Ytbabjepblakboaa
