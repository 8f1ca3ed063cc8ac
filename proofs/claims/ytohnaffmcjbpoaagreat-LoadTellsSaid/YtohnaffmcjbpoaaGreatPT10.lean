/-
  Joined texts, 10 of 10. A part of the claim that the last text states.
-/
import Derived.Test.YtohnaffmcjbpoaaGreatProg
import Derived.Test.YtohnaffmcjbpoaaGreatRows
import Derived.Test.YtohnaffmcjbpoaaGreatPT9
set_option linter.unusedVariables false
set_option linter.unusedSimpArgs false
set_option linter.defProp false
set_option linter.unusedSectionVars false
set_option maxRecDepth 100000
set_option maxHeartbeats 4000000
namespace Go.Proofs.YtohnaffmcjbpoaaGreat.Fn
open Go.AM
theorem t3:NT Tryz.prog pf 3=some a3:=by kernel_rfl
theorem t6:NT Tryz.prog pf 6=some a6:=by kernel_rfl
theorem t7:NT Tryz.prog pf 7=some a7:=by kernel_rfl
theorem t8:NT Tryz.prog pf 8=some a8:=by kernel_rfl
theorem t9:NT Tryz.prog pf 9=some a9:=by kernel_rfl
theorem t10:NT Tryz.prog pf 10=some a10:=by kernel_rfl
theorem t11:NT Tryz.prog pf 11=some a11:=by kernel_rfl
theorem t13:NT Tryz.prog pf 13=some a13:=by kernel_rfl
theorem t17:NT Tryz.prog pf 17=some a17:=by kernel_rfl
theorem t18:NT Tryz.prog pf 18=some a18:=by kernel_rfl
theorem t20:NT Tryz.prog pf 20=some a20:=by kernel_rfl
theorem t21:NT Tryz.prog pf 21=some a21:=by kernel_rfl
theorem t22:NT Tryz.prog pf 22=some a22:=by kernel_rfl
theorem t23:NT Tryz.prog pf 23=some a23:=by kernel_rfl
theorem t24:NT Tryz.prog pf 24=some a24:=by kernel_rfl
theorem t25:NT Tryz.prog pf 25=some a25:=by kernel_rfl
theorem t26:NT Tryz.prog pf 26=some a26:=by kernel_rfl
theorem t27:NT Tryz.prog pf 27=some a27:=by kernel_rfl
theorem t28:NT Tryz.prog pf 28=some a28:=by kernel_rfl
theorem t29:NT Tryz.prog pf 29=some a29:=by kernel_rfl
theorem t30:NT Tryz.prog pf 30=some a30:=by kernel_rfl
theorem t31:NT Tryz.prog pf 31=some a31:=by kernel_rfl
theorem t32:NT Tryz.prog pf 32=some a32:=by kernel_rfl
theorem t33:NT Tryz.prog pf 33=some a33:=by kernel_rfl
theorem t34:NT Tryz.prog pf 34=some a34:=by kernel_rfl
theorem t35:NT Tryz.prog pf 35=some a35:=by kernel_rfl
theorem t38:NT Tryz.prog pf 38=some a38:=by kernel_rfl
theorem t39:NT Tryz.prog pf 39=some a39:=by kernel_rfl
theorem t41:NT Tryz.prog pf 41=some a41:=by kernel_rfl
theorem t45:NT Tryz.prog pf 45=some a45:=by kernel_rfl
theorem t46:NT Tryz.prog pf 46=some a46:=by kernel_rfl
theorem t47:NT Tryz.prog pf 47=some a47:=by kernel_rfl
theorem t48:NT Tryz.prog pf 48=some a48:=by kernel_rfl
theorem t49:NT Tryz.prog pf 49=some a49:=by kernel_rfl
theorem t50:NT Tryz.prog pf 50=some a50:=by kernel_rfl
theorem t51:NT Tryz.prog pf 51=some a51:=by kernel_rfl
theorem t52:NT Tryz.prog pf 52=some a52:=by kernel_rfl
theorem t53:NT Tryz.prog pf 53=some a53:=by kernel_rfl
theorem t54:NT Tryz.prog pf 54=some a54:=by kernel_rfl
theorem t55:NT Tryz.prog pf 55=some a55:=by kernel_rfl
theorem t56:NT Tryz.prog pf 56=some a56:=by kernel_rfl
theorem t57:NT Tryz.prog pf 57=some a57:=by kernel_rfl
theorem t58:NT Tryz.prog pf 58=some a58:=by kernel_rfl
theorem t59:NT Tryz.prog pf 59=some a59:=by kernel_rfl
theorem t60:NT Tryz.prog pf 60=some a60:=by kernel_rfl
theorem t61:NT Tryz.prog pf 61=some a61:=by kernel_rfl
theorem t62:NT Tryz.prog pf 62=some a62:=by kernel_rfl
theorem t63:NT Tryz.prog pf 63=some a63:=by kernel_rfl
theorem t64:NT Tryz.prog pf 64=some a64:=by kernel_rfl
theorem t67:NT Tryz.prog pf 67=some a67:=by kernel_rfl
theorem t68:NT Tryz.prog pf 68=some a68:=by kernel_rfl
theorem t74:NT Tryz.prog pf 74=some a74:=by kernel_rfl
theorem t75:NT Tryz.prog pf 75=some a75:=by kernel_rfl
theorem t77:NT Tryz.prog pf 77=some a77:=by kernel_rfl
theorem t78:NT Tryz.prog pf 78=some a78:=by kernel_rfl
theorem t79:NT Tryz.prog pf 79=some a79:=by kernel_rfl
theorem t80:NT Tryz.prog pf 80=some a80:=by kernel_rfl
theorem t81:NT Tryz.prog pf 81=some a81:=by kernel_rfl
theorem t82:NT Tryz.prog pf 82=some a82:=by kernel_rfl
theorem t83:NT Tryz.prog pf 83=some a83:=by kernel_rfl
theorem t85:NT Tryz.prog pf 85=some a85:=by kernel_rfl
theorem t86:NT Tryz.prog pf 86=some a86:=by kernel_rfl
theorem t95:NT Tryz.prog pf 95=some a95:=by kernel_rfl
theorem t97:NT Tryz.prog pf 97=some a97:=by kernel_rfl
theorem t99:NT Tryz.prog pf 99=some a99:=by kernel_rfl
theorem N5l:NT Tryz.prog pf 101=some Nsn:=by kernel_rfl
theorem N5k:NT Tryz.prog pf 102=some Nsm:=by kernel_rfl
theorem N5j:NT Tryz.prog pf 103=some Nsl:=by kernel_rfl
theorem N5i:NT Tryz.prog pf 104=some Nsk:=by kernel_rfl
theorem N5h:NT Tryz.prog pf 106=some Nsj:=by kernel_rfl
theorem N42:NT Tryz.prog pf 129=some N4p:=by kernel_rfl
theorem t130:NT Tryz.prog pf 130=some a130:=by kernel_rfl
theorem t40:NT Tryz.prog pf 40=some (Srt.aSORT zL):=by kernel_rfl
theorem t65:NT Tryz.prog pf 65=some (Srt.aPDQ zL):=by kernel_rfl
theorem t66:NT Tryz.prog pf 66=some (Srt.aLEN zL):=by kernel_rfl
theorem t76:NT Tryz.prog pf 76=some (Srt.aSORT zC):=by kernel_rfl
theorem t84:NT Tryz.prog pf 84=some (Srt.aSORT zP):=by kernel_rfl
theorem t87:NT Tryz.prog pf 87=some (Srt.aINS zL):=by kernel_rfl
theorem t88:NT Tryz.prog pf 88=some (Srt.aHEAP zL):=by kernel_rfl
theorem t89:NT Tryz.prog pf 89=some (Srt.aBRK zL):=by kernel_rfl
theorem t90:NT Tryz.prog pf 90=some (Srt.aCHO zL):=by kernel_rfl
theorem t91:NT Tryz.prog pf 91=some (Srt.aREV zL):=by kernel_rfl
theorem t92:NT Tryz.prog pf 92=some (Srt.aPIS zL):=by kernel_rfl
theorem t93:NT Tryz.prog pf 93=some (Srt.aPEQ zL):=by kernel_rfl
theorem t94:NT Tryz.prog pf 94=some (Srt.aPART zL):=by kernel_rfl
theorem t96:NT Tryz.prog pf 96=some (Srt.aLEN64 zL):=by kernel_rfl
theorem N5m:NT Tryz.prog pf 100=some (Srt.aPDQ zC):=by kernel_rfl
theorem t105:NT Tryz.prog pf 105=some (Srt.aPDQ zP):=by kernel_rfl
theorem t107:NT Tryz.prog pf 107=some (Srt.aSIFT zL):=by kernel_rfl
theorem N5g:NT Tryz.prog pf 108=some (Srt.aNPT zL):=by kernel_rfl
theorem t109:NT Tryz.prog pf 109=some (Srt.aXOR zL):=by kernel_rfl
theorem N5f:NT Tryz.prog pf 110=some (Srt.aMEDA zL):=by kernel_rfl
theorem N5e:NT Tryz.prog pf 111=some (Srt.aMED zL):=by kernel_rfl
theorem N5d:NT Tryz.prog pf 113=some (Srt.aINS zC):=by kernel_rfl
theorem N5c:NT Tryz.prog pf 114=some (Srt.aHEAP zC):=by kernel_rfl
theorem N5b:NT Tryz.prog pf 115=some (Srt.aBRK zC):=by kernel_rfl
theorem t116:NT Tryz.prog pf 116=some (Srt.aCHO zC):=by kernel_rfl
theorem t117:NT Tryz.prog pf 117=some (Srt.aREV zC):=by kernel_rfl
theorem N5a:NT Tryz.prog pf 118=some (Srt.aPIS zC):=by kernel_rfl
theorem t119:NT Tryz.prog pf 119=some (Srt.aPEQ zC):=by kernel_rfl
theorem N49:NT Tryz.prog pf 120=some (Srt.aPART zC):=by kernel_rfl
theorem N48:NT Tryz.prog pf 121=some (Srt.aINS zP):=by kernel_rfl
theorem N47:NT Tryz.prog pf 122=some (Srt.aHEAP zP):=by kernel_rfl
theorem N46:NT Tryz.prog pf 123=some (Srt.aBRK zP):=by kernel_rfl
theorem t124:NT Tryz.prog pf 124=some (Srt.aCHO zP):=by kernel_rfl
theorem N45:NT Tryz.prog pf 125=some (Srt.aREV zP):=by kernel_rfl
theorem N44:NT Tryz.prog pf 126=some (Srt.aPIS zP):=by kernel_rfl
theorem t127:NT Tryz.prog pf 127=some (Srt.aPEQ zP):=by kernel_rfl
theorem N43:NT Tryz.prog pf 128=some (Srt.aPART zP):=by kernel_rfl
theorem t131:NT Tryz.prog pf 131=some (Srt.aORD zL):=by kernel_rfl
theorem N41:NT Tryz.prog pf 132=some (Srt.aSIFT zC):=by kernel_rfl
theorem N40:NT Tryz.prog pf 133=some (Srt.aMEDA zC):=by kernel_rfl
theorem N4z:NT Tryz.prog pf 134=some (Srt.aMED zC):=by kernel_rfl
theorem N4y:NT Tryz.prog pf 135=some (Srt.aSIFT zP):=by kernel_rfl
theorem N4x:NT Tryz.prog pf 136=some (Srt.aMEDA zP):=by kernel_rfl
theorem N4w:NT Tryz.prog pf 137=some (Srt.aMED zP):=by kernel_rfl
theorem t138:NT Tryz.prog pf 138=some (Srt.aORD zC):=by kernel_rfl
theorem t139:NT Tryz.prog pf 139=some (Srt.aORD zP):=by kernel_rfl
def E0:Env:=⟨tr,pf,fun _ _=>none,false⟩
theorem tr_ok (g:FuncId) (af:AFunc) (h:tr g=some af):NT Tryz.prog pf g=some af:=by
 unfold tr table at h
 simp only [List.lookup] at h
 split at h
 ·rename_i e;cases h;rw [beq_iff_eq.1 e];exact t3
 split at h
 ·rename_i e;cases h;rw [beq_iff_eq.1 e];exact t6
 split at h
 ·rename_i e;cases h;rw [beq_iff_eq.1 e];exact t7
 split at h
 ·rename_i e;cases h;rw [beq_iff_eq.1 e];exact t8
 split at h
 ·rename_i e;cases h;rw [beq_iff_eq.1 e];exact t9
 split at h
 ·rename_i e;cases h;rw [beq_iff_eq.1 e];exact t10
 split at h
 ·rename_i e;cases h;rw [beq_iff_eq.1 e];exact t11
 split at h
 ·rename_i e;cases h;rw [beq_iff_eq.1 e];exact t13
 split at h
 ·rename_i e;cases h;rw [beq_iff_eq.1 e];exact t17
 split at h
 ·rename_i e;cases h;rw [beq_iff_eq.1 e];exact t18
 split at h
 ·rename_i e;cases h;rw [beq_iff_eq.1 e];exact t20
 split at h
 ·rename_i e;cases h;rw [beq_iff_eq.1 e];exact t21
 split at h
 ·rename_i e;cases h;rw [beq_iff_eq.1 e];exact t22
 split at h
 ·rename_i e;cases h;rw [beq_iff_eq.1 e];exact t23
 split at h
 ·rename_i e;cases h;rw [beq_iff_eq.1 e];exact t24
 split at h
 ·rename_i e;cases h;rw [beq_iff_eq.1 e];exact t25
 split at h
 ·rename_i e;cases h;rw [beq_iff_eq.1 e];exact t26
 split at h
 ·rename_i e;cases h;rw [beq_iff_eq.1 e];exact t27
 split at h
 ·rename_i e;cases h;rw [beq_iff_eq.1 e];exact t28
 split at h
 ·rename_i e;cases h;rw [beq_iff_eq.1 e];exact t29
 split at h
 ·rename_i e;cases h;rw [beq_iff_eq.1 e];exact t30
 split at h
 ·rename_i e;cases h;rw [beq_iff_eq.1 e];exact t31
 split at h
 ·rename_i e;cases h;rw [beq_iff_eq.1 e];exact t32
 split at h
 ·rename_i e;cases h;rw [beq_iff_eq.1 e];exact t33
 split at h
 ·rename_i e;cases h;rw [beq_iff_eq.1 e];exact t34
 split at h
 ·rename_i e;cases h;rw [beq_iff_eq.1 e];exact t35
 split at h
 ·rename_i e;cases h;rw [beq_iff_eq.1 e];exact t38
 split at h
 ·rename_i e;cases h;rw [beq_iff_eq.1 e];exact t39
 split at h
 ·rename_i e;cases h;rw [beq_iff_eq.1 e];exact t41
 split at h
 ·rename_i e;cases h;rw [beq_iff_eq.1 e];exact t45
 split at h
 ·rename_i e;cases h;rw [beq_iff_eq.1 e];exact t46
 split at h
 ·rename_i e;cases h;rw [beq_iff_eq.1 e];exact t47
 split at h
 ·rename_i e;cases h;rw [beq_iff_eq.1 e];exact t48
 split at h
 ·rename_i e;cases h;rw [beq_iff_eq.1 e];exact t49
 split at h
 ·rename_i e;cases h;rw [beq_iff_eq.1 e];exact t50
 split at h
 ·rename_i e;cases h;rw [beq_iff_eq.1 e];exact t51
 split at h
 ·rename_i e;cases h;rw [beq_iff_eq.1 e];exact t52
 split at h
 ·rename_i e;cases h;rw [beq_iff_eq.1 e];exact t53
 split at h
 ·rename_i e;cases h;rw [beq_iff_eq.1 e];exact t54
 split at h
 ·rename_i e;cases h;rw [beq_iff_eq.1 e];exact t55
 split at h
 ·rename_i e;cases h;rw [beq_iff_eq.1 e];exact t56
 split at h
 ·rename_i e;cases h;rw [beq_iff_eq.1 e];exact t57
 split at h
 ·rename_i e;cases h;rw [beq_iff_eq.1 e];exact t58
 split at h
 ·rename_i e;cases h;rw [beq_iff_eq.1 e];exact t59
 split at h
 ·rename_i e;cases h;rw [beq_iff_eq.1 e];exact t60
 split at h
 ·rename_i e;cases h;rw [beq_iff_eq.1 e];exact t61
 split at h
 ·rename_i e;cases h;rw [beq_iff_eq.1 e];exact t62
 split at h
 ·rename_i e;cases h;rw [beq_iff_eq.1 e];exact t63
 split at h
 ·rename_i e;cases h;rw [beq_iff_eq.1 e];exact t64
 split at h
 ·rename_i e;cases h;rw [beq_iff_eq.1 e];exact t67
 split at h
 ·rename_i e;cases h;rw [beq_iff_eq.1 e];exact t68
 split at h
 ·rename_i e;cases h;rw [beq_iff_eq.1 e];exact t74
 split at h
 ·rename_i e;cases h;rw [beq_iff_eq.1 e];exact t75
 split at h
 ·rename_i e;cases h;rw [beq_iff_eq.1 e];exact t77
 split at h
 ·rename_i e;cases h;rw [beq_iff_eq.1 e];exact t78
 split at h
 ·rename_i e;cases h;rw [beq_iff_eq.1 e];exact t79
 split at h
 ·rename_i e;cases h;rw [beq_iff_eq.1 e];exact t80
 split at h
 ·rename_i e;cases h;rw [beq_iff_eq.1 e];exact t81
 split at h
 ·rename_i e;cases h;rw [beq_iff_eq.1 e];exact t82
 split at h
 ·rename_i e;cases h;rw [beq_iff_eq.1 e];exact t83
 split at h
 ·rename_i e;cases h;rw [beq_iff_eq.1 e];exact t85
 split at h
 ·rename_i e;cases h;rw [beq_iff_eq.1 e];exact t86
 split at h
 ·rename_i e;cases h;rw [beq_iff_eq.1 e];exact t95
 split at h
 ·rename_i e;cases h;rw [beq_iff_eq.1 e];exact t97
 split at h
 ·rename_i e;cases h;rw [beq_iff_eq.1 e];exact t99
 split at h
 ·rename_i e;cases h;rw [beq_iff_eq.1 e];exact N5l
 split at h
 ·rename_i e;cases h;rw [beq_iff_eq.1 e];exact N5k
 split at h
 ·rename_i e;cases h;rw [beq_iff_eq.1 e];exact N5j
 split at h
 ·rename_i e;cases h;rw [beq_iff_eq.1 e];exact N5i
 split at h
 ·rename_i e;cases h;rw [beq_iff_eq.1 e];exact N5h
 split at h
 ·rename_i e;cases h;rw [beq_iff_eq.1 e];exact N42
 split at h
 ·rename_i e;cases h;rw [beq_iff_eq.1 e];exact t130
 split at h
 ·rename_i e;cases h;rw [beq_iff_eq.1 e];exact t40
 split at h
 ·rename_i e;cases h;rw [beq_iff_eq.1 e];exact t65
 split at h
 ·rename_i e;cases h;rw [beq_iff_eq.1 e];exact t66
 split at h
 ·rename_i e;cases h;rw [beq_iff_eq.1 e];exact t76
 split at h
 ·rename_i e;cases h;rw [beq_iff_eq.1 e];exact t84
 split at h
 ·rename_i e;cases h;rw [beq_iff_eq.1 e];exact t87
 split at h
 ·rename_i e;cases h;rw [beq_iff_eq.1 e];exact t88
 split at h
 ·rename_i e;cases h;rw [beq_iff_eq.1 e];exact t89
 split at h
 ·rename_i e;cases h;rw [beq_iff_eq.1 e];exact t90
 split at h
 ·rename_i e;cases h;rw [beq_iff_eq.1 e];exact t91
 split at h
 ·rename_i e;cases h;rw [beq_iff_eq.1 e];exact t92
 split at h
 ·rename_i e;cases h;rw [beq_iff_eq.1 e];exact t93
 split at h
 ·rename_i e;cases h;rw [beq_iff_eq.1 e];exact t94
 split at h
 ·rename_i e;cases h;rw [beq_iff_eq.1 e];exact t96
 split at h
 ·rename_i e;cases h;rw [beq_iff_eq.1 e];exact N5m
 split at h
 ·rename_i e;cases h;rw [beq_iff_eq.1 e];exact t105
 split at h
 ·rename_i e;cases h;rw [beq_iff_eq.1 e];exact t107
 split at h
 ·rename_i e;cases h;rw [beq_iff_eq.1 e];exact N5g
 split at h
 ·rename_i e;cases h;rw [beq_iff_eq.1 e];exact t109
 split at h
 ·rename_i e;cases h;rw [beq_iff_eq.1 e];exact N5f
 split at h
 ·rename_i e;cases h;rw [beq_iff_eq.1 e];exact N5e
 split at h
 ·rename_i e;cases h;rw [beq_iff_eq.1 e];exact N5d
 split at h
 ·rename_i e;cases h;rw [beq_iff_eq.1 e];exact N5c
 split at h
 ·rename_i e;cases h;rw [beq_iff_eq.1 e];exact N5b
 split at h
 ·rename_i e;cases h;rw [beq_iff_eq.1 e];exact t116
 split at h
 ·rename_i e;cases h;rw [beq_iff_eq.1 e];exact t117
 split at h
 ·rename_i e;cases h;rw [beq_iff_eq.1 e];exact N5a
 split at h
 ·rename_i e;cases h;rw [beq_iff_eq.1 e];exact t119
 split at h
 ·rename_i e;cases h;rw [beq_iff_eq.1 e];exact N49
 split at h
 ·rename_i e;cases h;rw [beq_iff_eq.1 e];exact N48
 split at h
 ·rename_i e;cases h;rw [beq_iff_eq.1 e];exact N47
 split at h
 ·rename_i e;cases h;rw [beq_iff_eq.1 e];exact N46
 split at h
 ·rename_i e;cases h;rw [beq_iff_eq.1 e];exact t124
 split at h
 ·rename_i e;cases h;rw [beq_iff_eq.1 e];exact N45
 split at h
 ·rename_i e;cases h;rw [beq_iff_eq.1 e];exact N44
 split at h
 ·rename_i e;cases h;rw [beq_iff_eq.1 e];exact t127
 split at h
 ·rename_i e;cases h;rw [beq_iff_eq.1 e];exact N43
 split at h
 ·rename_i e;cases h;rw [beq_iff_eq.1 e];exact t131
 split at h
 ·rename_i e;cases h;rw [beq_iff_eq.1 e];exact N41
 split at h
 ·rename_i e;cases h;rw [beq_iff_eq.1 e];exact N40
 split at h
 ·rename_i e;cases h;rw [beq_iff_eq.1 e];exact N4z
 split at h
 ·rename_i e;cases h;rw [beq_iff_eq.1 e];exact N4y
 split at h
 ·rename_i e;cases h;rw [beq_iff_eq.1 e];exact N4x
 split at h
 ·rename_i e;cases h;rw [beq_iff_eq.1 e];exact N4w
 split at h
 ·rename_i e;cases h;rw [beq_iff_eq.1 e];exact t138
 split at h
 ·rename_i e;cases h;rw [beq_iff_eq.1 e];exact t139
 cases h
theorem ok0:EnvOk Tryz.prog E0:=⟨tr_ok,(fun _ _ _ h=>by cases h),(fun _ _ _ h=>by cases h),(fun _ _ _ h=>by cases h),by kernel_rfl⟩
end Go.Proofs.YtohnaffmcjbpoaaGreat.Fn


namespace Go.Proofs.YtohnaffmcjbpoaaGreat
open Go.AM Go.AM.Sym Go.RowKit
def Ef [Fn.OB]:Env:=⟨Fn.tr,Fn.pf,Fn.orc,false⟩
instance dtF [Fn.OB]:DT Ef Fn.E:=⟨rfl⟩
abbrev off:Fn.OB:=⟨fun _=>false⟩
abbrev onL:Fn.OB:=⟨fun g=>g == 7⟩
theorem N4q:@Ef off=Fn.E0:=by
 unfold Ef Fn.E0
 congr 1
 funext g xs
 unfold Fn.orc
 rw [Nf fun h=>by cases h.2.1]
theorem Nmy:∃n L,QP Fn.E0 n false 0 (.inl 7) [] []=some L/\∀r∈L,r.1=.bool true:=by
 have h:NR (@Ef off) false 0 7 [] [] (fun v H'=>v=.bool true):=by
  have a:NR (@Fn.E off) false 0 7 [] [] (fun v H'=>v=.bool true):=by rw [@Fn.awake_go off false 0 [] _ rfl]
  exact NR.weak (E:=@Ef off) (E':=@Fn.E off) (h:=@dtF off) a
 rw [N4q] at h
 obtain ⟨n,L,h1,h2⟩:=h
 exact ⟨n,L,h1,h2.2⟩
theorem Nj8 {g:FuncId} (hr:∃n L,QP Fn.E0 n false 0 (.inl g) [] []=some L/\∀r∈L,r.1=.bool true) (w:World):Calls Tryz.prog g #[] w fun e w'=>e=.returned (.bool true)/\Below w.heap.size w w':=by
 obtain ⟨n,L,h,c⟩:=hr
 refine ((Nhj Fn.ok0 n).calls _ _ _ _ _ _ h (Ng _) _ _ w [] (Inv.nil (P:=Tryz.prog) (E:=Fn.E0) w) OW.nil).mono fun e w' hp=>?_
 obtain ⟨r,hr,v',f,rfl,b,_,a,_⟩:=hp
 rw [c r hr] at b
 rw [b.bool_left]
 exact ⟨rfl,a.os,a.tape,a.output,a.size,fun k d=>a.block k (by omega)⟩
theorem N4f {g:FuncId} (hr:∃n L,QP Fn.E0 n false 0 (.inl g) [] []=some L/\∀r∈L,r.1=.bool true):∃fn,Tryz.prog.funcs[g]? = some fn/\fn.body.isSome=true/\(fn.name == "runtime.NumGoroutine")=false:=by
 obtain ⟨n,L,h,_⟩:=hr
 exact (Nhj Fn.ok0 n).fn _ _ _ _ _ _ h
theorem okD (d:Bool):EnvOk Tryz.prog ⟨Fn.tr,Fn.pf,@Fn.orc onL,d⟩:=by
 have key:∀g xs v,(@Fn.orc onL) g xs=some v->(∃n L,QP Fn.E0 n false 0 (.inl g) [] []=some L/\∀r∈L,r.1=.bool true)/\xs=[]/\v=.bool true:=by
  intro g xs v h
  simp only [Fn.orc] at h
  split at h
  ·rename_i hc;cases h
   have a:(g == 7)=true:=hc.2.1
   rw [beq_iff_eq] at a
   subst a
   exact ⟨Nmy,hc.2.2,rfl⟩
  ·cases h
 refine ⟨Fn.tr_ok,fun g xs v h=>?_,fun g xs v h w=>?_,fun g xs v h σ=>?_,Fn.ok0.mixed⟩
 ·obtain ⟨hr,rfl,rfl⟩:=key g xs v h;exact N4f hr
 ·obtain ⟨hr,rfl,rfl⟩:=key g xs v h;exact Nj8 hr w
 ·obtain ⟨hr,rfl,rfl⟩:=key g xs v h;exact .atom rfl
theorem N5y:EnvOk Tryz.prog (@Fn.E onL):=okD true
theorem own:ownKnob Tryz.prog.godebug=none:=by kernel_rfl
theorem laidOut:laidOutB Tryz.prog=true:=by kernel_rfl
abbrev Nga:Ty:=.pair (.int .i64) (.pair (.int .i64) (.pair (.int .i64) (.pair (.int .i64) (.pair (.int .i64) (.pair (.int .i64) (.pair (.int .i64) (.pair (.int .u8) .nil)))))))
def Nhy (x:Nga.den):Go.Net.Leg:=⟨x.1,x.2.1,x.2.2.1,x.2.2.2.1,x.2.2.2.2.1,x.2.2.2.2.2.1,x.2.2.2.2.2.2.1,x.2.2.2.2.2.2.2.1⟩
theorem Nn4 (H:NA) (x:Nga.den) (c:List Value) (h:X0 Nga H x c):c=Fn.encL (Nhy x):=by
 obtain ⟨c1,k,rfl,h1,c2,l,rfl,h2,c3,r3,rfl,a,c4,m,rfl,b,j,n,rfl,d,c6,r6,rfl,e,c7,r7,rfl,f,c8,r8,rfl,g,i⟩:=h
 simp only [X0] at h1 h2 a b d e f g i
 rw [h1.1,h2.1,a.1,b.1,d.1,e.1,f.1,g.1,i]
 rfl
theorem N2g (H:NA) (x:Nga.den) (c:List Value) (h:X0 Nga H x c):Fn.By (Nhy x):=by
 obtain ⟨c1,k,rfl,h1,c2,l,rfl,h2,c3,r3,rfl,d,c4,m,rfl,e,b,n,rfl,f,c6,r6,rfl,g,c7,r7,rfl,i,c8,r8,rfl,a,j⟩:=h
 simp only [X0] at a
 exact ⟨a.2.1,a.2.2⟩
theorem Nog (H:NA) (x:(Ty.int .i64).den) (c:List Value) (h:X0 (.int .i64) H x c):c=Fn.encI (id x):=h.1
abbrev Ns6:Ty:=.pair (.slice (.int .i64)) (.pair (.slice Nga) .nil)
theorem Nyv {H:NA} {x:Ns6.den} {v:Value} (h:V6 Ns6 H x v):∃pp cp pl cl,∃(P:List Int) (L:List Go.Net.Leg),v=.agg (Fn.netV pp P.length cp pl L.length cl).toArray/\Fn.NetIn H pp pl P L/\Nd6 8 cl L.length/\Nd6 1 cp P.length:=by
 obtain ⟨cs,rfl,hr⟩:=h.row rfl
 obtain ⟨c1,m,rfl,h1,c2,n,rfl,h2,d⟩:=hr
 have e3:=X0.nil_of d
 subst e3
 obtain ⟨j,f,e1,_⟩:=X0.sl (t:=.int .i64) id Fn.encI Nog h1
 obtain ⟨k,g,e2,_⟩:=X0.sl (t:=Nga) Nhy Fn.encL Nn4 h2
 have a:V6 (.slice (.int .i64)) H x.1 (.slice j (List.map id x.1).length f):=by unfold V6;rw [Nf (by decide),<-e1];exact h1
 have b:V6 (.slice Nga) H x.2.1 (.slice k (List.map Nhy x.2.1).length g):=by unfold V6;rw [Nf (by decide),<-e2];exact h2
 obtain ⟨p,k1,d1,s1,q1,l1⟩:=Mt (t:=.int .i64) id Fn.encI Nog a
 obtain ⟨q,k2,d2,s2,q2,i⟩:=Mt (t:=Nga) Nhy Fn.encL Nn4 b
 rw [d1] at e1
 rw [d2] at e2
 refine ⟨p,k1,q,k2,_,_, ?_,⟨s1,s2,l1,i,fun l hl=>?_⟩,q2,q1⟩
 ·rw [e1,e2];rfl
 ·obtain ⟨y,e,rfl⟩:=List.mem_map.1 hl
  obtain ⟨c,hc⟩:=X0.slice_mem h2 y e
  exact N2g H y c hc
abbrev Nf9:Ty:=.pair (.int .i64) (.pair (.int .i64) (.pair (.int .i64) .nil))
def N0g (x:Nf9.den):Go.Flow.Src:=⟨x.1,x.2.1,x.2.2.1⟩
theorem Nx6 (H:NA) (x:Nf9.den) (c:List Value) (h:X0 Nf9 H x c):c=Fn.encS (N0g x):=by
 obtain ⟨c1,d,rfl,h1,c2,e,rfl,h2,c3,r3,rfl,a,b⟩:=h
 simp only [X0] at h1 h2 a b
 rw [h1.1,h2.1,a.1,b]
 rfl
theorem Ns9 {H:NA} {l:List Nf9.den} {v:Value} (h:V6 (.slice Nf9) H l v):∃p k,∃s:List Go.Flow.Src,v=.slice p s.length k/\Sl H Fn.encS 3 p s/\Nd6 3 k s.length/\s.length<2 ^ 63:=by
 obtain ⟨p,k,e,h1,a,h2⟩:=Mt (t:=Nf9) N0g Fn.encS Nx6 h
 exact ⟨p,k,_,e,h1,a,h2⟩
theorem Noh {k:IntKind} {H:NA} {n:Int} {v:Value} (h:V6 (.int k) H n v):v=.int k n/\k.min<=n/\n<=k.max:=by
 unfold V6 at h
 rw [Nf (by simp [isRow])] at h
 obtain ⟨e,h⟩:=h
 cases e
 exact ⟨rfl,h⟩
end Go.Proofs.YtohnaffmcjbpoaaGreat


