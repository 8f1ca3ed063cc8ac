/-
  What the functions of this claim come to on the abstract machine (printed by wip/tools/genfn.py).
-/
import Derived.Test.YtlmoijifgbkapaaFn
import Derived.Test.YtlmoijifgbkapaaProg
namespace Go.Proofs.Ytlmoijifgbkapaa.Fn
open Go.AM
set_option maxRecDepth 100000

theorem t16 : trFunc Try.prog pf 16 = some a16 := by kernel_rfl
theorem t17 : trFunc Try.prog pf 17 = some a17 := by kernel_rfl
theorem t18 : trFunc Try.prog pf 18 = some a18 := by kernel_rfl
theorem t19 : trFunc Try.prog pf 19 = some a19 := by kernel_rfl
theorem t20 : trFunc Try.prog pf 20 = some a20 := by kernel_rfl
theorem t21 : trFunc Try.prog pf 21 = some a21 := by kernel_rfl
theorem t22 : trFunc Try.prog pf 22 = some a22 := by kernel_rfl
theorem t24 : trFunc Try.prog pf 24 = some a24 := by kernel_rfl
theorem t25 : trFunc Try.prog pf 25 = some a25 := by kernel_rfl
theorem t26 : trFunc Try.prog pf 26 = some a26 := by kernel_rfl
theorem t27 : trFunc Try.prog pf 27 = some a27 := by kernel_rfl

end Go.Proofs.Ytlmoijifgbkapaa.Fn
