/- The program's orders. No condition. -/
import Derived.Test.YtffigokicddekaaMD2
import Derived.Test.YtffigokicddekaaMA27
import Derived.Test.YtffigokicddekaaProg
set_option linter.unusedVariables false
set_option linter.unusedSimpArgs false
namespace Go.Proofs.Ytffigokicddekaa.Abs
open Go Go.Proofs
theorem mixed : Try.prog.follows .mixedOrders = true := by kernel_rfl
end Go.Proofs.Ytffigokicddekaa.Abs
