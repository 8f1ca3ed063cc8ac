/-
  What the functions of this claim come to on the abstract machine (printed by wip/tools/genfn.py).
-/
import Derived.Test.YtlmoijifgbkapaaFn
import Derived.Test.YtlmoijifgbkapaaProg
namespace Go.Proofs.Ytlmoijifgbkapaa.Fn
open Go.AM
set_option maxRecDepth 100000

theorem t50 : trFunc Try.prog pf 50 = some a50 := by kernel_rfl
theorem t51 : trFunc Try.prog pf 51 = some a51 := by kernel_rfl
theorem t52 : trFunc Try.prog pf 52 = some a52 := by kernel_rfl
theorem t53 : trFunc Try.prog pf 53 = some a53 := by kernel_rfl
theorem t54 : trFunc Try.prog pf 54 = some a54 := by kernel_rfl
theorem t55 : trFunc Try.prog pf 55 = some a55 := by kernel_rfl
theorem t56 : trFunc Try.prog pf 56 = some a56 := by kernel_rfl
theorem t57 : trFunc Try.prog pf 57 = some a57 := by kernel_rfl
theorem t58 : trFunc Try.prog pf 58 = some a58 := by kernel_rfl
theorem t59 : trFunc Try.prog pf 59 = some a59 := by kernel_rfl
theorem t60 : trFunc Try.prog pf 60 = some a60 := by kernel_rfl

end Go.Proofs.Ytlmoijifgbkapaa.Fn
