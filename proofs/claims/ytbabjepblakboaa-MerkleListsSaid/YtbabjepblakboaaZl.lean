/- MerkleLists: the law's walk, all cases. -/
import Derived.Test.YtbabjepblakboaaZk
namespace Go.Proofs.Ytbabjepblakboaa
set_option linter.unusedVariables false
set_option linter.unusedSimpArgs false
open Go.RowKit

theorem ylists_row (w : World) (v : Value) (l : List Bs) (h : Hs w v l) (u : Value) (m : List Bs) (hi : Hs w u m) :
    Calls Try.prog 12 #[v, u] w fun e w' => e = .returned (.bool true) ∧ Below w.heap.size w w' := by
  by_cases h7 : 70 < l.length ∨ 70 < m.length
  · exact yl_great w v u l m h hi h7
  by_cases hr : rootB l = rootB m
  · by_cases hlm : l = m
    · exact yl_same w v u l m h hi (by omega) (by omega) hr hlm
    · by_cases h0 : l.length = 0 ∨ m.length = 0
      · exact yl_nil w v u l m h hi (by omega) (by omega) hr hlm h0
      · exact yl_main w v u l m h hi (by omega) (by omega) hr hlm (by omega) (by omega)
  · exact yl_roots w v u l m h hi (by omega) (by omega) hr

end Go.Proofs.Ytbabjepblakboaa
