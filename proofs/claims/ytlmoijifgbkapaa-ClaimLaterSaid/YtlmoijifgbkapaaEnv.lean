/-
  What the functions of this claim come to on the abstract machine (printed by wip/tools/genfn.py).
-/
import Derived.Test.YtlmoijifgbkapaaTr1
import Derived.Test.YtlmoijifgbkapaaTr2
import Derived.Test.YtlmoijifgbkapaaTr3
import Derived.Test.YtlmoijifgbkapaaTr4
import Derived.Test.YtlmoijifgbkapaaTr5
import Derived.Test.YtlmoijifgbkapaaTr6
import Derived.Test.YtlmoijifgbkapaaTr7
import Derived.Test.YtlmoijifgbkapaaTr8
import Derived.Test.YtlmoijifgbkapaaTr9
namespace Go.Proofs.Ytlmoijifgbkapaa.Fn
open Go.AM
set_option maxRecDepth 100000

def E0 : Env := ⟨tr, pf, fun _ _ => none⟩
theorem tr_ok (g : FuncId) (af : AFunc) (h : tr g = some af) : trFunc Try.prog pf g = some af := by
  unfold tr table at h
  simp only [List.lookup] at h
  split at h
  · rename_i e; cases h; rw [beq_iff_eq.1 e]; exact t3
  split at h
  · rename_i e; cases h; rw [beq_iff_eq.1 e]; exact t4
  split at h
  · rename_i e; cases h; rw [beq_iff_eq.1 e]; exact t5
  split at h
  · rename_i e; cases h; rw [beq_iff_eq.1 e]; exact t6
  split at h
  · rename_i e; cases h; rw [beq_iff_eq.1 e]; exact t8
  split at h
  · rename_i e; cases h; rw [beq_iff_eq.1 e]; exact t10
  split at h
  · rename_i e; cases h; rw [beq_iff_eq.1 e]; exact t11
  split at h
  · rename_i e; cases h; rw [beq_iff_eq.1 e]; exact t12
  split at h
  · rename_i e; cases h; rw [beq_iff_eq.1 e]; exact t13
  split at h
  · rename_i e; cases h; rw [beq_iff_eq.1 e]; exact t14
  split at h
  · rename_i e; cases h; rw [beq_iff_eq.1 e]; exact t15
  split at h
  · rename_i e; cases h; rw [beq_iff_eq.1 e]; exact t16
  split at h
  · rename_i e; cases h; rw [beq_iff_eq.1 e]; exact t17
  split at h
  · rename_i e; cases h; rw [beq_iff_eq.1 e]; exact t18
  split at h
  · rename_i e; cases h; rw [beq_iff_eq.1 e]; exact t19
  split at h
  · rename_i e; cases h; rw [beq_iff_eq.1 e]; exact t20
  split at h
  · rename_i e; cases h; rw [beq_iff_eq.1 e]; exact t21
  split at h
  · rename_i e; cases h; rw [beq_iff_eq.1 e]; exact t22
  split at h
  · rename_i e; cases h; rw [beq_iff_eq.1 e]; exact t24
  split at h
  · rename_i e; cases h; rw [beq_iff_eq.1 e]; exact t25
  split at h
  · rename_i e; cases h; rw [beq_iff_eq.1 e]; exact t26
  split at h
  · rename_i e; cases h; rw [beq_iff_eq.1 e]; exact t27
  split at h
  · rename_i e; cases h; rw [beq_iff_eq.1 e]; exact t28
  split at h
  · rename_i e; cases h; rw [beq_iff_eq.1 e]; exact t29
  split at h
  · rename_i e; cases h; rw [beq_iff_eq.1 e]; exact t30
  split at h
  · rename_i e; cases h; rw [beq_iff_eq.1 e]; exact t31
  split at h
  · rename_i e; cases h; rw [beq_iff_eq.1 e]; exact t32
  split at h
  · rename_i e; cases h; rw [beq_iff_eq.1 e]; exact t33
  split at h
  · rename_i e; cases h; rw [beq_iff_eq.1 e]; exact t34
  split at h
  · rename_i e; cases h; rw [beq_iff_eq.1 e]; exact t35
  split at h
  · rename_i e; cases h; rw [beq_iff_eq.1 e]; exact t36
  split at h
  · rename_i e; cases h; rw [beq_iff_eq.1 e]; exact t37
  split at h
  · rename_i e; cases h; rw [beq_iff_eq.1 e]; exact t38
  split at h
  · rename_i e; cases h; rw [beq_iff_eq.1 e]; exact t39
  split at h
  · rename_i e; cases h; rw [beq_iff_eq.1 e]; exact t40
  split at h
  · rename_i e; cases h; rw [beq_iff_eq.1 e]; exact t41
  split at h
  · rename_i e; cases h; rw [beq_iff_eq.1 e]; exact t42
  split at h
  · rename_i e; cases h; rw [beq_iff_eq.1 e]; exact t43
  split at h
  · rename_i e; cases h; rw [beq_iff_eq.1 e]; exact t44
  split at h
  · rename_i e; cases h; rw [beq_iff_eq.1 e]; exact t45
  split at h
  · rename_i e; cases h; rw [beq_iff_eq.1 e]; exact t46
  split at h
  · rename_i e; cases h; rw [beq_iff_eq.1 e]; exact t47
  split at h
  · rename_i e; cases h; rw [beq_iff_eq.1 e]; exact t48
  split at h
  · rename_i e; cases h; rw [beq_iff_eq.1 e]; exact t49
  split at h
  · rename_i e; cases h; rw [beq_iff_eq.1 e]; exact t50
  split at h
  · rename_i e; cases h; rw [beq_iff_eq.1 e]; exact t51
  split at h
  · rename_i e; cases h; rw [beq_iff_eq.1 e]; exact t52
  split at h
  · rename_i e; cases h; rw [beq_iff_eq.1 e]; exact t53
  split at h
  · rename_i e; cases h; rw [beq_iff_eq.1 e]; exact t54
  split at h
  · rename_i e; cases h; rw [beq_iff_eq.1 e]; exact t55
  split at h
  · rename_i e; cases h; rw [beq_iff_eq.1 e]; exact t56
  split at h
  · rename_i e; cases h; rw [beq_iff_eq.1 e]; exact t57
  split at h
  · rename_i e; cases h; rw [beq_iff_eq.1 e]; exact t58
  split at h
  · rename_i e; cases h; rw [beq_iff_eq.1 e]; exact t59
  split at h
  · rename_i e; cases h; rw [beq_iff_eq.1 e]; exact t60
  split at h
  · rename_i e; cases h; rw [beq_iff_eq.1 e]; exact t61
  split at h
  · rename_i e; cases h; rw [beq_iff_eq.1 e]; exact t62
  split at h
  · rename_i e; cases h; rw [beq_iff_eq.1 e]; exact t63
  split at h
  · rename_i e; cases h; rw [beq_iff_eq.1 e]; exact t64
  split at h
  · rename_i e; cases h; rw [beq_iff_eq.1 e]; exact t65
  split at h
  · rename_i e; cases h; rw [beq_iff_eq.1 e]; exact t66
  split at h
  · rename_i e; cases h; rw [beq_iff_eq.1 e]; exact t67
  split at h
  · rename_i e; cases h; rw [beq_iff_eq.1 e]; exact t68
  split at h
  · rename_i e; cases h; rw [beq_iff_eq.1 e]; exact t69
  split at h
  · rename_i e; cases h; rw [beq_iff_eq.1 e]; exact t70
  split at h
  · rename_i e; cases h; rw [beq_iff_eq.1 e]; exact t71
  split at h
  · rename_i e; cases h; rw [beq_iff_eq.1 e]; exact t72
  split at h
  · rename_i e; cases h; rw [beq_iff_eq.1 e]; exact t73
  split at h
  · rename_i e; cases h; rw [beq_iff_eq.1 e]; exact t74
  split at h
  · rename_i e; cases h; rw [beq_iff_eq.1 e]; exact t75
  split at h
  · rename_i e; cases h; rw [beq_iff_eq.1 e]; exact t76
  split at h
  · rename_i e; cases h; rw [beq_iff_eq.1 e]; exact t77
  split at h
  · rename_i e; cases h; rw [beq_iff_eq.1 e]; exact t78
  split at h
  · rename_i e; cases h; rw [beq_iff_eq.1 e]; exact t79
  split at h
  · rename_i e; cases h; rw [beq_iff_eq.1 e]; exact t80
  split at h
  · rename_i e; cases h; rw [beq_iff_eq.1 e]; exact t81
  split at h
  · rename_i e; cases h; rw [beq_iff_eq.1 e]; exact t82
  split at h
  · rename_i e; cases h; rw [beq_iff_eq.1 e]; exact t83
  split at h
  · rename_i e; cases h; rw [beq_iff_eq.1 e]; exact t84
  split at h
  · rename_i e; cases h; rw [beq_iff_eq.1 e]; exact t85
  split at h
  · rename_i e; cases h; rw [beq_iff_eq.1 e]; exact t86
  split at h
  · rename_i e; cases h; rw [beq_iff_eq.1 e]; exact t87
  split at h
  · rename_i e; cases h; rw [beq_iff_eq.1 e]; exact t88
  split at h
  · rename_i e; cases h; rw [beq_iff_eq.1 e]; exact t89
  split at h
  · rename_i e; cases h; rw [beq_iff_eq.1 e]; exact t90
  split at h
  · rename_i e; cases h; rw [beq_iff_eq.1 e]; exact t91
  split at h
  · rename_i e; cases h; rw [beq_iff_eq.1 e]; exact t92
  split at h
  · rename_i e; cases h; rw [beq_iff_eq.1 e]; exact t93
  split at h
  · rename_i e; cases h; rw [beq_iff_eq.1 e]; exact t94
  split at h
  · rename_i e; cases h; rw [beq_iff_eq.1 e]; exact t95
  split at h
  · rename_i e; cases h; rw [beq_iff_eq.1 e]; exact t96
  split at h
  · rename_i e; cases h; rw [beq_iff_eq.1 e]; exact t97
  split at h
  · rename_i e; cases h; rw [beq_iff_eq.1 e]; exact t98
  split at h
  · rename_i e; cases h; rw [beq_iff_eq.1 e]; exact t99
  split at h
  · rename_i e; cases h; rw [beq_iff_eq.1 e]; exact t100
  cases h
theorem ok0 : EnvOk Try.prog E0 := ⟨tr_ok, (fun _ _ _ h => by cases h), (fun _ _ _ h => by cases h), (fun _ _ _ h => by cases h), by kernel_rfl⟩

end Go.Proofs.Ytlmoijifgbkapaa.Fn
