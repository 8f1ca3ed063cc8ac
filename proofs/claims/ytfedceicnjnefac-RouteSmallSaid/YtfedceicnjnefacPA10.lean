/-
  Joined texts, 10 of 10. A part of the claim that the last text states.
-/
import Derived.Test.YtfedceicnjnefacProg
import Derived.Test.YtfedceicnjnefacRows
import Derived.Test.YtfedceicnjnefacPA9
namespace Go.Proofs.Ytfedceicnjnefac.Fn
open Go.AM
set_option maxRecDepth 100000
theorem t3:trFunc Try.prog pf 3=some a3:=by kernel_rfl
theorem t4:trFunc Try.prog pf 4=some a4:=by kernel_rfl
theorem t5:trFunc Try.prog pf 5=some a5:=by kernel_rfl
theorem t6:trFunc Try.prog pf 6=some a6:=by kernel_rfl
theorem t7:trFunc Try.prog pf 7=some a7:=by kernel_rfl
theorem t8:trFunc Try.prog pf 8=some a8:=by kernel_rfl
theorem t9:trFunc Try.prog pf 9=some a9:=by kernel_rfl
theorem t10:trFunc Try.prog pf 10=some a10:=by kernel_rfl
theorem t11:trFunc Try.prog pf 11=some a11:=by kernel_rfl
theorem t12:trFunc Try.prog pf 12=some a12:=by kernel_rfl
theorem t13:trFunc Try.prog pf 13=some a13:=by kernel_rfl
theorem t14:trFunc Try.prog pf 14=some a14:=by kernel_rfl
theorem t15:trFunc Try.prog pf 15=some a15:=by kernel_rfl
theorem t16:trFunc Try.prog pf 16=some a16:=by kernel_rfl
theorem t17:trFunc Try.prog pf 17=some a17:=by kernel_rfl
theorem t18:trFunc Try.prog pf 18=some a18:=by kernel_rfl
theorem t19:trFunc Try.prog pf 19=some a19:=by kernel_rfl
theorem t20:trFunc Try.prog pf 20=some a20:=by kernel_rfl
theorem t21:trFunc Try.prog pf 21=some a21:=by kernel_rfl
theorem t22:trFunc Try.prog pf 22=some a22:=by kernel_rfl
theorem t23:trFunc Try.prog pf 23=some a23:=by kernel_rfl
theorem t24:trFunc Try.prog pf 24=some a24:=by kernel_rfl
theorem t25:trFunc Try.prog pf 25=some a25:=by kernel_rfl
theorem t26:trFunc Try.prog pf 26=some a26:=by kernel_rfl
theorem t27:trFunc Try.prog pf 27=some a27:=by kernel_rfl
theorem t28:trFunc Try.prog pf 28=some a28:=by kernel_rfl
theorem t29:trFunc Try.prog pf 29=some a29:=by kernel_rfl
theorem t30:trFunc Try.prog pf 30=some a30:=by kernel_rfl
theorem t31:trFunc Try.prog pf 31=some a31:=by kernel_rfl
theorem t32:trFunc Try.prog pf 32=some a32:=by kernel_rfl
theorem t33:trFunc Try.prog pf 33=some a33:=by kernel_rfl
theorem t34:trFunc Try.prog pf 34=some a34:=by kernel_rfl
theorem t35:trFunc Try.prog pf 35=some a35:=by kernel_rfl
theorem t36:trFunc Try.prog pf 36=some a36:=by kernel_rfl
theorem t37:trFunc Try.prog pf 37=some a37:=by kernel_rfl
theorem t38:trFunc Try.prog pf 38=some a38:=by kernel_rfl
theorem t39:trFunc Try.prog pf 39=some a39:=by kernel_rfl
theorem t40:trFunc Try.prog pf 40=some a40:=by kernel_rfl
theorem t41:trFunc Try.prog pf 41=some a41:=by kernel_rfl
theorem t42:trFunc Try.prog pf 42=some a42:=by kernel_rfl
theorem t43:trFunc Try.prog pf 43=some a43:=by kernel_rfl
theorem t44:trFunc Try.prog pf 44=some a44:=by kernel_rfl
theorem t45:trFunc Try.prog pf 45=some a45:=by kernel_rfl
theorem t46:trFunc Try.prog pf 46=some a46:=by kernel_rfl
theorem t47:trFunc Try.prog pf 47=some a47:=by kernel_rfl
theorem t48:trFunc Try.prog pf 48=some a48:=by kernel_rfl
theorem t49:trFunc Try.prog pf 49=some a49:=by kernel_rfl
theorem t50:trFunc Try.prog pf 50=some a50:=by kernel_rfl
theorem t51:trFunc Try.prog pf 51=some a51:=by kernel_rfl
theorem t52:trFunc Try.prog pf 52=some a52:=by kernel_rfl
theorem t53:trFunc Try.prog pf 53=some a53:=by kernel_rfl
theorem t54:trFunc Try.prog pf 54=some a54:=by kernel_rfl
theorem t55:trFunc Try.prog pf 55=some a55:=by kernel_rfl
theorem t56:trFunc Try.prog pf 56=some a56:=by kernel_rfl
theorem t57:trFunc Try.prog pf 57=some a57:=by kernel_rfl
theorem t58:trFunc Try.prog pf 58=some a58:=by kernel_rfl
theorem t59:trFunc Try.prog pf 59=some a59:=by kernel_rfl
theorem t60:trFunc Try.prog pf 60=some a60:=by kernel_rfl
theorem t61:trFunc Try.prog pf 61=some a61:=by kernel_rfl
theorem t62:trFunc Try.prog pf 62=some a62:=by kernel_rfl
theorem t63:trFunc Try.prog pf 63=some a63:=by kernel_rfl
theorem t64:trFunc Try.prog pf 64=some a64:=by kernel_rfl
theorem t65:trFunc Try.prog pf 65=some a65:=by kernel_rfl
theorem t66:trFunc Try.prog pf 66=some a66:=by kernel_rfl
theorem t67:trFunc Try.prog pf 67=some a67:=by kernel_rfl
theorem t68:trFunc Try.prog pf 68=some a68:=by kernel_rfl
theorem t69:trFunc Try.prog pf 69=some a69:=by kernel_rfl
theorem t70:trFunc Try.prog pf 70=some a70:=by kernel_rfl
theorem t71:trFunc Try.prog pf 71=some a71:=by kernel_rfl
theorem t72:trFunc Try.prog pf 72=some a72:=by kernel_rfl
theorem t73:trFunc Try.prog pf 73=some a73:=by kernel_rfl
theorem t74:trFunc Try.prog pf 74=some a74:=by kernel_rfl
theorem t75:trFunc Try.prog pf 75=some a75:=by kernel_rfl
theorem t76:trFunc Try.prog pf 76=some a76:=by kernel_rfl
theorem t77:trFunc Try.prog pf 77=some a77:=by kernel_rfl
theorem t78:trFunc Try.prog pf 78=some a78:=by kernel_rfl
theorem t79:trFunc Try.prog pf 79=some a79:=by kernel_rfl
theorem t80:trFunc Try.prog pf 80=some a80:=by kernel_rfl
def E0:Env:=⟨tr,pf,fun _ _=>none,false⟩
theorem tr_ok (g:FuncId) (af:AFunc) (h:tr g=some af):trFunc Try.prog pf g=some af:=by
 unfold tr table at h
 simp only [List.lookup] at h
 split at h
 ·rename_i e;cases h;rw [beq_iff_eq.1 e];exact t3
 split at h
 ·rename_i e;cases h;rw [beq_iff_eq.1 e];exact t4
 split at h
 ·rename_i e;cases h;rw [beq_iff_eq.1 e];exact t5
 split at h
 ·rename_i e;cases h;rw [beq_iff_eq.1 e];exact t6
 split at h
 ·rename_i e;cases h;rw [beq_iff_eq.1 e];exact t7
 split at h
 ·rename_i e;cases h;rw [beq_iff_eq.1 e];exact t8
 split at h
 ·rename_i e;cases h;rw [beq_iff_eq.1 e];exact t9
 split at h
 ·rename_i e;cases h;rw [beq_iff_eq.1 e];exact t10
 split at h
 ·rename_i e;cases h;rw [beq_iff_eq.1 e];exact t11
 split at h
 ·rename_i e;cases h;rw [beq_iff_eq.1 e];exact t12
 split at h
 ·rename_i e;cases h;rw [beq_iff_eq.1 e];exact t13
 split at h
 ·rename_i e;cases h;rw [beq_iff_eq.1 e];exact t14
 split at h
 ·rename_i e;cases h;rw [beq_iff_eq.1 e];exact t15
 split at h
 ·rename_i e;cases h;rw [beq_iff_eq.1 e];exact t16
 split at h
 ·rename_i e;cases h;rw [beq_iff_eq.1 e];exact t17
 split at h
 ·rename_i e;cases h;rw [beq_iff_eq.1 e];exact t18
 split at h
 ·rename_i e;cases h;rw [beq_iff_eq.1 e];exact t19
 split at h
 ·rename_i e;cases h;rw [beq_iff_eq.1 e];exact t20
 split at h
 ·rename_i e;cases h;rw [beq_iff_eq.1 e];exact t21
 split at h
 ·rename_i e;cases h;rw [beq_iff_eq.1 e];exact t22
 split at h
 ·rename_i e;cases h;rw [beq_iff_eq.1 e];exact t23
 split at h
 ·rename_i e;cases h;rw [beq_iff_eq.1 e];exact t24
 split at h
 ·rename_i e;cases h;rw [beq_iff_eq.1 e];exact t25
 split at h
 ·rename_i e;cases h;rw [beq_iff_eq.1 e];exact t26
 split at h
 ·rename_i e;cases h;rw [beq_iff_eq.1 e];exact t27
 split at h
 ·rename_i e;cases h;rw [beq_iff_eq.1 e];exact t28
 split at h
 ·rename_i e;cases h;rw [beq_iff_eq.1 e];exact t29
 split at h
 ·rename_i e;cases h;rw [beq_iff_eq.1 e];exact t30
 split at h
 ·rename_i e;cases h;rw [beq_iff_eq.1 e];exact t31
 split at h
 ·rename_i e;cases h;rw [beq_iff_eq.1 e];exact t32
 split at h
 ·rename_i e;cases h;rw [beq_iff_eq.1 e];exact t33
 split at h
 ·rename_i e;cases h;rw [beq_iff_eq.1 e];exact t34
 split at h
 ·rename_i e;cases h;rw [beq_iff_eq.1 e];exact t35
 split at h
 ·rename_i e;cases h;rw [beq_iff_eq.1 e];exact t36
 split at h
 ·rename_i e;cases h;rw [beq_iff_eq.1 e];exact t37
 split at h
 ·rename_i e;cases h;rw [beq_iff_eq.1 e];exact t38
 split at h
 ·rename_i e;cases h;rw [beq_iff_eq.1 e];exact t39
 split at h
 ·rename_i e;cases h;rw [beq_iff_eq.1 e];exact t40
 split at h
 ·rename_i e;cases h;rw [beq_iff_eq.1 e];exact t41
 split at h
 ·rename_i e;cases h;rw [beq_iff_eq.1 e];exact t42
 split at h
 ·rename_i e;cases h;rw [beq_iff_eq.1 e];exact t43
 split at h
 ·rename_i e;cases h;rw [beq_iff_eq.1 e];exact t44
 split at h
 ·rename_i e;cases h;rw [beq_iff_eq.1 e];exact t45
 split at h
 ·rename_i e;cases h;rw [beq_iff_eq.1 e];exact t46
 split at h
 ·rename_i e;cases h;rw [beq_iff_eq.1 e];exact t47
 split at h
 ·rename_i e;cases h;rw [beq_iff_eq.1 e];exact t48
 split at h
 ·rename_i e;cases h;rw [beq_iff_eq.1 e];exact t49
 split at h
 ·rename_i e;cases h;rw [beq_iff_eq.1 e];exact t50
 split at h
 ·rename_i e;cases h;rw [beq_iff_eq.1 e];exact t51
 split at h
 ·rename_i e;cases h;rw [beq_iff_eq.1 e];exact t52
 split at h
 ·rename_i e;cases h;rw [beq_iff_eq.1 e];exact t53
 split at h
 ·rename_i e;cases h;rw [beq_iff_eq.1 e];exact t54
 split at h
 ·rename_i e;cases h;rw [beq_iff_eq.1 e];exact t55
 split at h
 ·rename_i e;cases h;rw [beq_iff_eq.1 e];exact t56
 split at h
 ·rename_i e;cases h;rw [beq_iff_eq.1 e];exact t57
 split at h
 ·rename_i e;cases h;rw [beq_iff_eq.1 e];exact t58
 split at h
 ·rename_i e;cases h;rw [beq_iff_eq.1 e];exact t59
 split at h
 ·rename_i e;cases h;rw [beq_iff_eq.1 e];exact t60
 split at h
 ·rename_i e;cases h;rw [beq_iff_eq.1 e];exact t61
 split at h
 ·rename_i e;cases h;rw [beq_iff_eq.1 e];exact t62
 split at h
 ·rename_i e;cases h;rw [beq_iff_eq.1 e];exact t63
 split at h
 ·rename_i e;cases h;rw [beq_iff_eq.1 e];exact t64
 split at h
 ·rename_i e;cases h;rw [beq_iff_eq.1 e];exact t65
 split at h
 ·rename_i e;cases h;rw [beq_iff_eq.1 e];exact t66
 split at h
 ·rename_i e;cases h;rw [beq_iff_eq.1 e];exact t67
 split at h
 ·rename_i e;cases h;rw [beq_iff_eq.1 e];exact t68
 split at h
 ·rename_i e;cases h;rw [beq_iff_eq.1 e];exact t69
 split at h
 ·rename_i e;cases h;rw [beq_iff_eq.1 e];exact t70
 split at h
 ·rename_i e;cases h;rw [beq_iff_eq.1 e];exact t71
 split at h
 ·rename_i e;cases h;rw [beq_iff_eq.1 e];exact t72
 split at h
 ·rename_i e;cases h;rw [beq_iff_eq.1 e];exact t73
 split at h
 ·rename_i e;cases h;rw [beq_iff_eq.1 e];exact t74
 split at h
 ·rename_i e;cases h;rw [beq_iff_eq.1 e];exact t75
 split at h
 ·rename_i e;cases h;rw [beq_iff_eq.1 e];exact t76
 split at h
 ·rename_i e;cases h;rw [beq_iff_eq.1 e];exact t77
 split at h
 ·rename_i e;cases h;rw [beq_iff_eq.1 e];exact t78
 split at h
 ·rename_i e;cases h;rw [beq_iff_eq.1 e];exact t79
 split at h
 ·rename_i e;cases h;rw [beq_iff_eq.1 e];exact t80
 cases h
theorem ok0:EnvOk Try.prog E0:=⟨tr_ok,(fun _ _ _ h=>by cases h),(fun _ _ _ h=>by cases h),(fun _ _ _ h=>by cases h),by kernel_rfl⟩
end Go.Proofs.Ytfedceicnjnefac.Fn

namespace Go.Proofs.Ytfedceicnjnefac
open Go.AM Go.RowKit
set_option maxRecDepth 100000
set_option linter.unusedVariables false
set_option linter.unusedSimpArgs false
set_option maxHeartbeats 4000000
abbrev off:Fn.OB:=⟨fun _=>false⟩
theorem orc_off (g:FuncId) (xs:List Value):@Fn.orc off g xs=none:=by
 unfold Fn.orc
 rw [if_neg fun h=>by cases h.2.1]
theorem okE:EnvOk Try.prog (@Fn.E off):=by
 refine ⟨Fn.tr_ok,fun g xs v h=>?_,fun g xs v h=>?_,fun g xs v h=>?_,Fn.ok0.mixed⟩<;>(change @Fn.orc off g xs=some v at h;rw [orc_off] at h;cases h)
theorem own:ownKnob Try.prog.godebug=none:=by kernel_rfl
theorem laidOut:laidOutB Try.prog=true:=by kernel_rfl
end Go.Proofs.Ytfedceicnjnefac

