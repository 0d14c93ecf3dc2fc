/- Numbers of the program's types: sizes, and what two hashes compare as. -/
import Derived.Test.YtbabjepblakboaaProg
import Derived.Test.YtbabjepblakboaaAgg
import Derived.Stop.BytesEq
namespace Go.Proofs.Ytbabjepblakboaa
set_option linter.unusedVariables false
set_option linter.unusedSimpArgs false
open Go.RowKit

theorem infoU8 : (Try.prog.info? 5).map (fun i => (i.zero, i.size, i.bytes)) = some (some (.int .u8 0), 1, 1) := by kernel_rfl

theorem sizeU8 : (Try.prog.info? 5).map (·.size) = some 1 := by kernel_rfl

theorem infoHash : (Try.prog.info? 24).map (·.size) = some 32 := by kernel_rfl

theorem hash_eq (w : World) (xs ys : List UInt8) (hx : xs.length = 32) (hy : ys.length = 32) :
    (binOp .eql 24 (.agg (bvs xs).toArray) (.agg (bvs ys).toArray)).run Try.prog w = .ok (.bool (xs == ys)) w :=
  run_eql_bytes w 24 5 32 Try.underlying24 Try.underlying5 (fun w' => run_size_of sizeU8 w') xs ys hx hy

end Go.Proofs.Ytbabjepblakboaa
