/- Numbers of the program's types: sizes, and what two hashes compare as. -/
import Derived.Test.YtdljpgihfjpnjaaProg
import Derived.Test.YtdljpgihfjpnjaaAgg
import Derived.Stop.BytesEq
namespace Go.Proofs.Ytdljpgihfjpnjaa
set_option linter.unusedVariables false
set_option linter.unusedSimpArgs false
open Go.RowKit

theorem infoU8 : (Try.prog.info? 5).map (fun i => (i.zero, i.size, i.bytes)) = some (some (.int .u8 0), 1, 1) := by kernel_rfl

theorem sizeU8 : (Try.prog.info? 5).map (·.size) = some 1 := by kernel_rfl

theorem infoHash : (Try.prog.info? 30).map (·.size) = some 32 := by kernel_rfl

theorem hash_eq (w : World) (xs ys : List UInt8) (hx : xs.length = 32) (hy : ys.length = 32) :
    (binOp .eql 30 (.agg (bvs xs).toArray) (.agg (bvs ys).toArray)).run Try.prog w = .ok (.bool (xs == ys)) w :=
  run_eql_bytes w 30 5 32 Try.underlying30 Try.underlying5 (fun w' => run_size_of sizeU8 w') xs ys hx hy

end Go.Proofs.Ytdljpgihfjpnjaa
