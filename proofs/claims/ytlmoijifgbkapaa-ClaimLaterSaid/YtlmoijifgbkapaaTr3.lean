/-
  What the functions of this claim come to on the abstract machine (printed by wip/tools/genfn.py).
-/
import Derived.Test.YtlmoijifgbkapaaFn
import Derived.Test.YtlmoijifgbkapaaProg
namespace Go.Proofs.Ytlmoijifgbkapaa.Fn
open Go.AM
set_option maxRecDepth 100000

theorem t28 : trFunc Try.prog pf 28 = some a28 := by kernel_rfl
theorem t29 : trFunc Try.prog pf 29 = some a29 := by kernel_rfl
theorem t30 : trFunc Try.prog pf 30 = some a30 := by kernel_rfl
theorem t31 : trFunc Try.prog pf 31 = some a31 := by kernel_rfl
theorem t32 : trFunc Try.prog pf 32 = some a32 := by kernel_rfl
theorem t33 : trFunc Try.prog pf 33 = some a33 := by kernel_rfl
theorem t34 : trFunc Try.prog pf 34 = some a34 := by kernel_rfl
theorem t35 : trFunc Try.prog pf 35 = some a35 := by kernel_rfl
theorem t36 : trFunc Try.prog pf 36 = some a36 := by kernel_rfl
theorem t37 : trFunc Try.prog pf 37 = some a37 := by kernel_rfl
theorem t38 : trFunc Try.prog pf 38 = some a38 := by kernel_rfl

end Go.Proofs.Ytlmoijifgbkapaa.Fn
