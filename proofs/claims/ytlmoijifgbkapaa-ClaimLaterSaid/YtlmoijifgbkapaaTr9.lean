/-
  What the functions of this claim come to on the abstract machine (printed by wip/tools/genfn.py).
-/
import Derived.Test.YtlmoijifgbkapaaFn
import Derived.Test.YtlmoijifgbkapaaProg
namespace Go.Proofs.Ytlmoijifgbkapaa.Fn
open Go.AM
set_option maxRecDepth 100000

theorem t94 : trFunc Try.prog pf 94 = some a94 := by kernel_rfl
theorem t95 : trFunc Try.prog pf 95 = some a95 := by kernel_rfl
theorem t96 : trFunc Try.prog pf 96 = some a96 := by kernel_rfl
theorem t97 : trFunc Try.prog pf 97 = some a97 := by kernel_rfl
theorem t98 : trFunc Try.prog pf 98 = some a98 := by kernel_rfl
theorem t99 : trFunc Try.prog pf 99 = some a99 := by kernel_rfl
theorem t100 : trFunc Try.prog pf 100 = some a100 := by kernel_rfl

end Go.Proofs.Ytlmoijifgbkapaa.Fn
