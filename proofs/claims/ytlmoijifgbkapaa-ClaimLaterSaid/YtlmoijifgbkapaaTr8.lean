/-
  What the functions of this claim come to on the abstract machine (printed by wip/tools/genfn.py).
-/
import Derived.Test.YtlmoijifgbkapaaFn
import Derived.Test.YtlmoijifgbkapaaProg
namespace Go.Proofs.Ytlmoijifgbkapaa.Fn
open Go.AM
set_option maxRecDepth 100000

theorem t83 : trFunc Try.prog pf 83 = some a83 := by kernel_rfl
theorem t84 : trFunc Try.prog pf 84 = some a84 := by kernel_rfl
theorem t85 : trFunc Try.prog pf 85 = some a85 := by kernel_rfl
theorem t86 : trFunc Try.prog pf 86 = some a86 := by kernel_rfl
theorem t87 : trFunc Try.prog pf 87 = some a87 := by kernel_rfl
theorem t88 : trFunc Try.prog pf 88 = some a88 := by kernel_rfl
theorem t89 : trFunc Try.prog pf 89 = some a89 := by kernel_rfl
theorem t90 : trFunc Try.prog pf 90 = some a90 := by kernel_rfl
theorem t91 : trFunc Try.prog pf 91 = some a91 := by kernel_rfl
theorem t92 : trFunc Try.prog pf 92 = some a92 := by kernel_rfl
theorem t93 : trFunc Try.prog pf 93 = some a93 := by kernel_rfl

end Go.Proofs.Ytlmoijifgbkapaa.Fn
