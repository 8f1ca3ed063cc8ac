/-
  What the functions of this claim come to on the abstract machine (printed by wip/tools/genfn.py).
-/
import Derived.Test.YtlmoijifgbkapaaFn
import Derived.Test.YtlmoijifgbkapaaProg
namespace Go.Proofs.Ytlmoijifgbkapaa.Fn
open Go.AM
set_option maxRecDepth 100000

theorem t61 : trFunc Try.prog pf 61 = some a61 := by kernel_rfl
theorem t62 : trFunc Try.prog pf 62 = some a62 := by kernel_rfl
theorem t63 : trFunc Try.prog pf 63 = some a63 := by kernel_rfl
theorem t64 : trFunc Try.prog pf 64 = some a64 := by kernel_rfl
theorem t65 : trFunc Try.prog pf 65 = some a65 := by kernel_rfl
theorem t66 : trFunc Try.prog pf 66 = some a66 := by kernel_rfl
theorem t67 : trFunc Try.prog pf 67 = some a67 := by kernel_rfl
theorem t68 : trFunc Try.prog pf 68 = some a68 := by kernel_rfl
theorem t69 : trFunc Try.prog pf 69 = some a69 := by kernel_rfl
theorem t70 : trFunc Try.prog pf 70 = some a70 := by kernel_rfl
theorem t71 : trFunc Try.prog pf 71 = some a71 := by kernel_rfl

end Go.Proofs.Ytlmoijifgbkapaa.Fn
