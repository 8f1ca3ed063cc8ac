/-
  What the functions of this claim come to on the abstract machine (printed by wip/tools/genfn.py).
-/
import Derived.Test.YtlmoijifgbkapaaFn
import Derived.Test.YtlmoijifgbkapaaProg
namespace Go.Proofs.Ytlmoijifgbkapaa.Fn
open Go.AM
set_option maxRecDepth 100000

theorem t3 : trFunc Try.prog pf 3 = some a3 := by kernel_rfl
theorem t4 : trFunc Try.prog pf 4 = some a4 := by kernel_rfl
theorem t5 : trFunc Try.prog pf 5 = some a5 := by kernel_rfl
theorem t6 : trFunc Try.prog pf 6 = some a6 := by kernel_rfl
theorem t8 : trFunc Try.prog pf 8 = some a8 := by kernel_rfl
theorem t10 : trFunc Try.prog pf 10 = some a10 := by kernel_rfl
theorem t11 : trFunc Try.prog pf 11 = some a11 := by kernel_rfl
theorem t12 : trFunc Try.prog pf 12 = some a12 := by kernel_rfl
theorem t13 : trFunc Try.prog pf 13 = some a13 := by kernel_rfl
theorem t14 : trFunc Try.prog pf 14 = some a14 := by kernel_rfl
theorem t15 : trFunc Try.prog pf 15 = some a15 := by kernel_rfl

end Go.Proofs.Ytlmoijifgbkapaa.Fn
