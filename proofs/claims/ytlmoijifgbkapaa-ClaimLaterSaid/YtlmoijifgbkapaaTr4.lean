/-
  What the functions of this claim come to on the abstract machine (printed by wip/tools/genfn.py).
-/
import Derived.Test.YtlmoijifgbkapaaFn
import Derived.Test.YtlmoijifgbkapaaProg
namespace Go.Proofs.Ytlmoijifgbkapaa.Fn
open Go.AM
set_option maxRecDepth 100000

theorem t39 : trFunc Try.prog pf 39 = some a39 := by kernel_rfl
theorem t40 : trFunc Try.prog pf 40 = some a40 := by kernel_rfl
theorem t41 : trFunc Try.prog pf 41 = some a41 := by kernel_rfl
theorem t42 : trFunc Try.prog pf 42 = some a42 := by kernel_rfl
theorem t43 : trFunc Try.prog pf 43 = some a43 := by kernel_rfl
theorem t44 : trFunc Try.prog pf 44 = some a44 := by kernel_rfl
theorem t45 : trFunc Try.prog pf 45 = some a45 := by kernel_rfl
theorem t46 : trFunc Try.prog pf 46 = some a46 := by kernel_rfl
theorem t47 : trFunc Try.prog pf 47 = some a47 := by kernel_rfl
theorem t48 : trFunc Try.prog pf 48 = some a48 := by kernel_rfl
theorem t49 : trFunc Try.prog pf 49 = some a49 := by kernel_rfl

end Go.Proofs.Ytlmoijifgbkapaa.Fn
