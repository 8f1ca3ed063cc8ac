/-
  What the functions of this claim come to on the abstract machine (printed by wip/tools/genfn.py).
-/
import Derived.Test.YtlmoijifgbkapaaFn
import Derived.Test.YtlmoijifgbkapaaProg
namespace Go.Proofs.Ytlmoijifgbkapaa.Fn
open Go.AM
set_option maxRecDepth 100000

theorem t72 : trFunc Try.prog pf 72 = some a72 := by kernel_rfl
theorem t73 : trFunc Try.prog pf 73 = some a73 := by kernel_rfl
theorem t74 : trFunc Try.prog pf 74 = some a74 := by kernel_rfl
theorem t75 : trFunc Try.prog pf 75 = some a75 := by kernel_rfl
theorem t76 : trFunc Try.prog pf 76 = some a76 := by kernel_rfl
theorem t77 : trFunc Try.prog pf 77 = some a77 := by kernel_rfl
theorem t78 : trFunc Try.prog pf 78 = some a78 := by kernel_rfl
theorem t79 : trFunc Try.prog pf 79 = some a79 := by kernel_rfl
theorem t80 : trFunc Try.prog pf 80 = some a80 := by kernel_rfl
theorem t81 : trFunc Try.prog pf 81 = some a81 := by kernel_rfl
theorem t82 : trFunc Try.prog pf 82 = some a82 := by kernel_rfl

end Go.Proofs.Ytlmoijifgbkapaa.Fn
