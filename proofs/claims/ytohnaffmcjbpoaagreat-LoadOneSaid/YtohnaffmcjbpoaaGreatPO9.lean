/-
  Joined texts, 9 of 9. A part of the claim that the last text states.
-/
import Derived.Test.YtohnaffmcjbpoaaGreatProg
import Derived.Test.YtohnaffmcjbpoaaGreatRows
import Derived.Test.YtohnaffmcjbpoaaGreatPO8
set_option linter.unusedVariables false
set_option linter.unusedSimpArgs false
set_option linter.defProp false
set_option linter.unusedSectionVars false
set_option maxRecDepth 100000
set_option maxHeartbeats 4000000
namespace Go.Proofs.YtohnaffmcjbpoaaGreat.Fn
open Go.AM
theorem t5:zTf Tryz.prog pf 5=some a5:=by kernel_rfl
theorem t6:zTf Tryz.prog pf 6=some a6:=by kernel_rfl
theorem t7:zTf Tryz.prog pf 7=some a7:=by kernel_rfl
theorem t11:zTf Tryz.prog pf 11=some a11:=by kernel_rfl
theorem t13:zTf Tryz.prog pf 13=some a13:=by kernel_rfl
theorem t14:zTf Tryz.prog pf 14=some a14:=by kernel_rfl
theorem t15:zTf Tryz.prog pf 15=some a15:=by kernel_rfl
theorem t16:zTf Tryz.prog pf 16=some a16:=by kernel_rfl
theorem t17:zTf Tryz.prog pf 17=some a17:=by kernel_rfl
theorem t18:zTf Tryz.prog pf 18=some a18:=by kernel_rfl
theorem t19:zTf Tryz.prog pf 19=some a19:=by kernel_rfl
theorem t20:zTf Tryz.prog pf 20=some a20:=by kernel_rfl
theorem t21:zTf Tryz.prog pf 21=some a21:=by kernel_rfl
theorem t22:zTf Tryz.prog pf 22=some a22:=by kernel_rfl
theorem t23:zTf Tryz.prog pf 23=some a23:=by kernel_rfl
theorem t24:zTf Tryz.prog pf 24=some a24:=by kernel_rfl
theorem t35:zTf Tryz.prog pf 35=some a35:=by kernel_rfl
theorem t36:zTf Tryz.prog pf 36=some a36:=by kernel_rfl
theorem t37:zTf Tryz.prog pf 37=some a37:=by kernel_rfl
theorem t38:zTf Tryz.prog pf 38=some a38:=by kernel_rfl
theorem t39:zTf Tryz.prog pf 39=some a39:=by kernel_rfl
theorem t41:zTf Tryz.prog pf 41=some a41:=by kernel_rfl
theorem t42:zTf Tryz.prog pf 42=some a42:=by kernel_rfl
theorem t43:zTf Tryz.prog pf 43=some a43:=by kernel_rfl
theorem t44:zTf Tryz.prog pf 44=some a44:=by kernel_rfl
theorem t45:zTf Tryz.prog pf 45=some a45:=by kernel_rfl
theorem t46:zTf Tryz.prog pf 46=some a46:=by kernel_rfl
theorem t57:zTf Tryz.prog pf 57=some a57:=by kernel_rfl
theorem t58:zTf Tryz.prog pf 58=some a58:=by kernel_rfl
theorem t59:zTf Tryz.prog pf 59=some a59:=by kernel_rfl
theorem t60:zTf Tryz.prog pf 60=some a60:=by kernel_rfl
theorem t61:zTf Tryz.prog pf 61=some a61:=by kernel_rfl
theorem t62:zTf Tryz.prog pf 62=some a62:=by kernel_rfl
theorem t63:zTf Tryz.prog pf 63=some a63:=by kernel_rfl
theorem t64:zTf Tryz.prog pf 64=some a64:=by kernel_rfl
theorem t67:zTf Tryz.prog pf 67=some a67:=by kernel_rfl
theorem t68:zTf Tryz.prog pf 68=some a68:=by kernel_rfl
theorem t69:zTf Tryz.prog pf 69=some a69:=by kernel_rfl
theorem t70:zTf Tryz.prog pf 70=some a70:=by kernel_rfl
theorem t71:zTf Tryz.prog pf 71=some a71:=by kernel_rfl
theorem t72:zTf Tryz.prog pf 72=some a72:=by kernel_rfl
theorem t73:zTf Tryz.prog pf 73=some a73:=by kernel_rfl
theorem t74:zTf Tryz.prog pf 74=some a74:=by kernel_rfl
theorem t75:zTf Tryz.prog pf 75=some a75:=by kernel_rfl
theorem t77:zTf Tryz.prog pf 77=some a77:=by kernel_rfl
theorem t83:zTf Tryz.prog pf 83=some a83:=by kernel_rfl
theorem t85:zTf Tryz.prog pf 85=some a85:=by kernel_rfl
theorem t86:zTf Tryz.prog pf 86=some a86:=by kernel_rfl
theorem t95:zTf Tryz.prog pf 95=some a95:=by kernel_rfl
theorem t97:zTf Tryz.prog pf 97=some a97:=by kernel_rfl
theorem t98:zTf Tryz.prog pf 98=some a98:=by kernel_rfl
theorem t99:zTf Tryz.prog pf 99=some a99:=by kernel_rfl
theorem t106:zTf Tryz.prog pf 106=some a106:=by kernel_rfl
theorem t112:zTf Tryz.prog pf 112=some a112:=by kernel_rfl
theorem t129:zTf Tryz.prog pf 129=some a129:=by kernel_rfl
theorem t130:zTf Tryz.prog pf 130=some a130:=by kernel_rfl
theorem t40:zTf Tryz.prog pf 40=some (Srt.aSORT zL):=by kernel_rfl
theorem t65:zTf Tryz.prog pf 65=some (Srt.aPDQ zL):=by kernel_rfl
theorem t66:zTf Tryz.prog pf 66=some (Srt.aLEN zL):=by kernel_rfl
theorem t76:zTf Tryz.prog pf 76=some (Srt.aSORT zC):=by kernel_rfl
theorem t84:zTf Tryz.prog pf 84=some (Srt.aSORT zP):=by kernel_rfl
theorem t87:zTf Tryz.prog pf 87=some (Srt.aINS zL):=by kernel_rfl
theorem t88:zTf Tryz.prog pf 88=some (Srt.aHEAP zL):=by kernel_rfl
theorem t89:zTf Tryz.prog pf 89=some (Srt.aBRK zL):=by kernel_rfl
theorem t90:zTf Tryz.prog pf 90=some (Srt.aCHO zL):=by kernel_rfl
theorem t91:zTf Tryz.prog pf 91=some (Srt.aREV zL):=by kernel_rfl
theorem t92:zTf Tryz.prog pf 92=some (Srt.aPIS zL):=by kernel_rfl
theorem t93:zTf Tryz.prog pf 93=some (Srt.aPEQ zL):=by kernel_rfl
theorem t94:zTf Tryz.prog pf 94=some (Srt.aPART zL):=by kernel_rfl
theorem t96:zTf Tryz.prog pf 96=some (Srt.aLEN64 zL):=by kernel_rfl
theorem t100:zTf Tryz.prog pf 100=some (Srt.aPDQ zC):=by kernel_rfl
theorem t105:zTf Tryz.prog pf 105=some (Srt.aPDQ zP):=by kernel_rfl
theorem t107:zTf Tryz.prog pf 107=some (Srt.aSIFT zL):=by kernel_rfl
theorem t108:zTf Tryz.prog pf 108=some (Srt.aNPT zL):=by kernel_rfl
theorem t109:zTf Tryz.prog pf 109=some (Srt.aXOR zL):=by kernel_rfl
theorem t110:zTf Tryz.prog pf 110=some (Srt.aMEDA zL):=by kernel_rfl
theorem t111:zTf Tryz.prog pf 111=some (Srt.aMED zL):=by kernel_rfl
theorem t113:zTf Tryz.prog pf 113=some (Srt.aINS zC):=by kernel_rfl
theorem t114:zTf Tryz.prog pf 114=some (Srt.aHEAP zC):=by kernel_rfl
theorem t115:zTf Tryz.prog pf 115=some (Srt.aBRK zC):=by kernel_rfl
theorem t116:zTf Tryz.prog pf 116=some (Srt.aCHO zC):=by kernel_rfl
theorem t117:zTf Tryz.prog pf 117=some (Srt.aREV zC):=by kernel_rfl
theorem t118:zTf Tryz.prog pf 118=some (Srt.aPIS zC):=by kernel_rfl
theorem t119:zTf Tryz.prog pf 119=some (Srt.aPEQ zC):=by kernel_rfl
theorem t120:zTf Tryz.prog pf 120=some (Srt.aPART zC):=by kernel_rfl
theorem t121:zTf Tryz.prog pf 121=some (Srt.aINS zP):=by kernel_rfl
theorem t122:zTf Tryz.prog pf 122=some (Srt.aHEAP zP):=by kernel_rfl
theorem t123:zTf Tryz.prog pf 123=some (Srt.aBRK zP):=by kernel_rfl
theorem t124:zTf Tryz.prog pf 124=some (Srt.aCHO zP):=by kernel_rfl
theorem t125:zTf Tryz.prog pf 125=some (Srt.aREV zP):=by kernel_rfl
theorem t126:zTf Tryz.prog pf 126=some (Srt.aPIS zP):=by kernel_rfl
theorem t127:zTf Tryz.prog pf 127=some (Srt.aPEQ zP):=by kernel_rfl
theorem t128:zTf Tryz.prog pf 128=some (Srt.aPART zP):=by kernel_rfl
theorem t131:zTf Tryz.prog pf 131=some (Srt.aORD zL):=by kernel_rfl
theorem t132:zTf Tryz.prog pf 132=some (Srt.aSIFT zC):=by kernel_rfl
theorem t133:zTf Tryz.prog pf 133=some (Srt.aMEDA zC):=by kernel_rfl
theorem t134:zTf Tryz.prog pf 134=some (Srt.aMED zC):=by kernel_rfl
theorem t135:zTf Tryz.prog pf 135=some (Srt.aSIFT zP):=by kernel_rfl
theorem t136:zTf Tryz.prog pf 136=some (Srt.aMEDA zP):=by kernel_rfl
theorem t137:zTf Tryz.prog pf 137=some (Srt.aMED zP):=by kernel_rfl
theorem t138:zTf Tryz.prog pf 138=some (Srt.aORD zC):=by kernel_rfl
theorem t139:zTf Tryz.prog pf 139=some (Srt.aORD zP):=by kernel_rfl
def E0:Env:=⟨tr,pf,fun _ _=>none,false⟩
theorem tr_ok (g:FuncId) (af:zAf) (h:tr g=some af):zTf Tryz.prog pf g=some af:=by
 unfold tr table at h
 simp only [List.lookup] at h
 split at h
 ·rename_i e;cases h;rw [beq_iff_eq.1 e];exact t5
 split at h
 ·rename_i e;cases h;rw [beq_iff_eq.1 e];exact t6
 split at h
 ·rename_i e;cases h;rw [beq_iff_eq.1 e];exact t7
 split at h
 ·rename_i e;cases h;rw [beq_iff_eq.1 e];exact t11
 split at h
 ·rename_i e;cases h;rw [beq_iff_eq.1 e];exact t13
 split at h
 ·rename_i e;cases h;rw [beq_iff_eq.1 e];exact t14
 split at h
 ·rename_i e;cases h;rw [beq_iff_eq.1 e];exact t15
 split at h
 ·rename_i e;cases h;rw [beq_iff_eq.1 e];exact t16
 split at h
 ·rename_i e;cases h;rw [beq_iff_eq.1 e];exact t17
 split at h
 ·rename_i e;cases h;rw [beq_iff_eq.1 e];exact t18
 split at h
 ·rename_i e;cases h;rw [beq_iff_eq.1 e];exact t19
 split at h
 ·rename_i e;cases h;rw [beq_iff_eq.1 e];exact t20
 split at h
 ·rename_i e;cases h;rw [beq_iff_eq.1 e];exact t21
 split at h
 ·rename_i e;cases h;rw [beq_iff_eq.1 e];exact t22
 split at h
 ·rename_i e;cases h;rw [beq_iff_eq.1 e];exact t23
 split at h
 ·rename_i e;cases h;rw [beq_iff_eq.1 e];exact t24
 split at h
 ·rename_i e;cases h;rw [beq_iff_eq.1 e];exact t35
 split at h
 ·rename_i e;cases h;rw [beq_iff_eq.1 e];exact t36
 split at h
 ·rename_i e;cases h;rw [beq_iff_eq.1 e];exact t37
 split at h
 ·rename_i e;cases h;rw [beq_iff_eq.1 e];exact t38
 split at h
 ·rename_i e;cases h;rw [beq_iff_eq.1 e];exact t39
 split at h
 ·rename_i e;cases h;rw [beq_iff_eq.1 e];exact t41
 split at h
 ·rename_i e;cases h;rw [beq_iff_eq.1 e];exact t42
 split at h
 ·rename_i e;cases h;rw [beq_iff_eq.1 e];exact t43
 split at h
 ·rename_i e;cases h;rw [beq_iff_eq.1 e];exact t44
 split at h
 ·rename_i e;cases h;rw [beq_iff_eq.1 e];exact t45
 split at h
 ·rename_i e;cases h;rw [beq_iff_eq.1 e];exact t46
 split at h
 ·rename_i e;cases h;rw [beq_iff_eq.1 e];exact t57
 split at h
 ·rename_i e;cases h;rw [beq_iff_eq.1 e];exact t58
 split at h
 ·rename_i e;cases h;rw [beq_iff_eq.1 e];exact t59
 split at h
 ·rename_i e;cases h;rw [beq_iff_eq.1 e];exact t60
 split at h
 ·rename_i e;cases h;rw [beq_iff_eq.1 e];exact t61
 split at h
 ·rename_i e;cases h;rw [beq_iff_eq.1 e];exact t62
 split at h
 ·rename_i e;cases h;rw [beq_iff_eq.1 e];exact t63
 split at h
 ·rename_i e;cases h;rw [beq_iff_eq.1 e];exact t64
 split at h
 ·rename_i e;cases h;rw [beq_iff_eq.1 e];exact t67
 split at h
 ·rename_i e;cases h;rw [beq_iff_eq.1 e];exact t68
 split at h
 ·rename_i e;cases h;rw [beq_iff_eq.1 e];exact t69
 split at h
 ·rename_i e;cases h;rw [beq_iff_eq.1 e];exact t70
 split at h
 ·rename_i e;cases h;rw [beq_iff_eq.1 e];exact t71
 split at h
 ·rename_i e;cases h;rw [beq_iff_eq.1 e];exact t72
 split at h
 ·rename_i e;cases h;rw [beq_iff_eq.1 e];exact t73
 split at h
 ·rename_i e;cases h;rw [beq_iff_eq.1 e];exact t74
 split at h
 ·rename_i e;cases h;rw [beq_iff_eq.1 e];exact t75
 split at h
 ·rename_i e;cases h;rw [beq_iff_eq.1 e];exact t77
 split at h
 ·rename_i e;cases h;rw [beq_iff_eq.1 e];exact t83
 split at h
 ·rename_i e;cases h;rw [beq_iff_eq.1 e];exact t85
 split at h
 ·rename_i e;cases h;rw [beq_iff_eq.1 e];exact t86
 split at h
 ·rename_i e;cases h;rw [beq_iff_eq.1 e];exact t95
 split at h
 ·rename_i e;cases h;rw [beq_iff_eq.1 e];exact t97
 split at h
 ·rename_i e;cases h;rw [beq_iff_eq.1 e];exact t98
 split at h
 ·rename_i e;cases h;rw [beq_iff_eq.1 e];exact t99
 split at h
 ·rename_i e;cases h;rw [beq_iff_eq.1 e];exact t106
 split at h
 ·rename_i e;cases h;rw [beq_iff_eq.1 e];exact t112
 split at h
 ·rename_i e;cases h;rw [beq_iff_eq.1 e];exact t129
 split at h
 ·rename_i e;cases h;rw [beq_iff_eq.1 e];exact t130
 split at h
 ·rename_i e;cases h;rw [beq_iff_eq.1 e];exact t40
 split at h
 ·rename_i e;cases h;rw [beq_iff_eq.1 e];exact t65
 split at h
 ·rename_i e;cases h;rw [beq_iff_eq.1 e];exact t66
 split at h
 ·rename_i e;cases h;rw [beq_iff_eq.1 e];exact t76
 split at h
 ·rename_i e;cases h;rw [beq_iff_eq.1 e];exact t84
 split at h
 ·rename_i e;cases h;rw [beq_iff_eq.1 e];exact t87
 split at h
 ·rename_i e;cases h;rw [beq_iff_eq.1 e];exact t88
 split at h
 ·rename_i e;cases h;rw [beq_iff_eq.1 e];exact t89
 split at h
 ·rename_i e;cases h;rw [beq_iff_eq.1 e];exact t90
 split at h
 ·rename_i e;cases h;rw [beq_iff_eq.1 e];exact t91
 split at h
 ·rename_i e;cases h;rw [beq_iff_eq.1 e];exact t92
 split at h
 ·rename_i e;cases h;rw [beq_iff_eq.1 e];exact t93
 split at h
 ·rename_i e;cases h;rw [beq_iff_eq.1 e];exact t94
 split at h
 ·rename_i e;cases h;rw [beq_iff_eq.1 e];exact t96
 split at h
 ·rename_i e;cases h;rw [beq_iff_eq.1 e];exact t100
 split at h
 ·rename_i e;cases h;rw [beq_iff_eq.1 e];exact t105
 split at h
 ·rename_i e;cases h;rw [beq_iff_eq.1 e];exact t107
 split at h
 ·rename_i e;cases h;rw [beq_iff_eq.1 e];exact t108
 split at h
 ·rename_i e;cases h;rw [beq_iff_eq.1 e];exact t109
 split at h
 ·rename_i e;cases h;rw [beq_iff_eq.1 e];exact t110
 split at h
 ·rename_i e;cases h;rw [beq_iff_eq.1 e];exact t111
 split at h
 ·rename_i e;cases h;rw [beq_iff_eq.1 e];exact t113
 split at h
 ·rename_i e;cases h;rw [beq_iff_eq.1 e];exact t114
 split at h
 ·rename_i e;cases h;rw [beq_iff_eq.1 e];exact t115
 split at h
 ·rename_i e;cases h;rw [beq_iff_eq.1 e];exact t116
 split at h
 ·rename_i e;cases h;rw [beq_iff_eq.1 e];exact t117
 split at h
 ·rename_i e;cases h;rw [beq_iff_eq.1 e];exact t118
 split at h
 ·rename_i e;cases h;rw [beq_iff_eq.1 e];exact t119
 split at h
 ·rename_i e;cases h;rw [beq_iff_eq.1 e];exact t120
 split at h
 ·rename_i e;cases h;rw [beq_iff_eq.1 e];exact t121
 split at h
 ·rename_i e;cases h;rw [beq_iff_eq.1 e];exact t122
 split at h
 ·rename_i e;cases h;rw [beq_iff_eq.1 e];exact t123
 split at h
 ·rename_i e;cases h;rw [beq_iff_eq.1 e];exact t124
 split at h
 ·rename_i e;cases h;rw [beq_iff_eq.1 e];exact t125
 split at h
 ·rename_i e;cases h;rw [beq_iff_eq.1 e];exact t126
 split at h
 ·rename_i e;cases h;rw [beq_iff_eq.1 e];exact t127
 split at h
 ·rename_i e;cases h;rw [beq_iff_eq.1 e];exact t128
 split at h
 ·rename_i e;cases h;rw [beq_iff_eq.1 e];exact t131
 split at h
 ·rename_i e;cases h;rw [beq_iff_eq.1 e];exact t132
 split at h
 ·rename_i e;cases h;rw [beq_iff_eq.1 e];exact t133
 split at h
 ·rename_i e;cases h;rw [beq_iff_eq.1 e];exact t134
 split at h
 ·rename_i e;cases h;rw [beq_iff_eq.1 e];exact t135
 split at h
 ·rename_i e;cases h;rw [beq_iff_eq.1 e];exact t136
 split at h
 ·rename_i e;cases h;rw [beq_iff_eq.1 e];exact t137
 split at h
 ·rename_i e;cases h;rw [beq_iff_eq.1 e];exact t138
 split at h
 ·rename_i e;cases h;rw [beq_iff_eq.1 e];exact t139
 cases h
theorem ok0:EnvOk Tryz.prog E0:=⟨tr_ok,(fun _ _ _ h=>by cases h),(fun _ _ _ h=>by cases h),(fun _ _ _ h=>by cases h),by kernel_rfl⟩
end Go.Proofs.YtohnaffmcjbpoaaGreat.Fn

namespace Go.Proofs.YtohnaffmcjbpoaaGreat
open Go.AM Go.AM.Sym Go.RowKit
def Ef [Fn.OB]:Env:=⟨Fn.tr,Fn.pf,Fn.orc,false⟩
instance dtF [Fn.OB]:DT Ef Fn.E:=⟨rfl⟩
abbrev off:Fn.OB:=⟨fun _=>false⟩
abbrev onL:Fn.OB:=⟨fun g=>g == 7⟩
theorem E_off:@Ef off=Fn.E0:=by
 unfold Ef Fn.E0
 congr 1
 funext g xs
 unfold Fn.orc
 rw [if_neg fun h=>by cases h.2.1]
theorem awakeL_run:∃n L,zak Fn.E0 n false 0 (.inl 7) [] []=some L∧∀r∈L,r.1=.bool true:=by
 have h:za0 (@Ef off) false 0 7 [] [] (fun v H'=>v=.bool true):=by
  have h0:za0 (@Fn.E off) false 0 7 [] [] (fun v H'=>v=.bool true):=by rw [@Fn.awake_go off false 0 [] _ rfl]
  exact za0.weak (E:=@Ef off) (E':=@Fn.E off) (h:=@dtF off) h0
 rw [E_off] at h
 obtain ⟨n,L,h1,h2⟩:=h
 exact ⟨n,L,h1,h2.2⟩
theorem awake_calls {g:FuncId} (hr:∃n L,zak Fn.E0 n false 0 (.inl g) [] []=some L∧∀r∈L,r.1=.bool true) (w:World):Calls Tryz.prog g #[] w fun e w'=>e=.returned (.bool true)∧Below w.heap.size w w':=by
 obtain ⟨n,L,h,hL⟩:=hr
 refine ((callOkS Fn.ok0 n).calls _ _ _ _ _ _ h (Nat.le_refl _) _ _ w [] (Inv.nil (P:=Tryz.prog) (E:=Fn.E0) w) zLr.nil).mono fun e w' hp=>?_
 obtain ⟨r,hr,v',σ',rfl,hv,_,hst,_⟩:=hp
 rw [hL r hr] at hv
 rw [hv.bool_left]
 exact ⟨rfl,hst.os,hst.tape,hst.output,hst.size,fun k hk=>hst.block k (by omega)⟩
theorem fn_of {g:FuncId} (hr:∃n L,zak Fn.E0 n false 0 (.inl g) [] []=some L∧∀r∈L,r.1=.bool true):∃fn,Tryz.prog.funcs[g]? = some fn∧fn.body.isSome=true∧(fn.name == "runtime.NumGoroutine")=false:=by
 obtain ⟨n,L,h,_⟩:=hr
 exact (callOkS Fn.ok0 n).fn _ _ _ _ _ _ h
theorem okD (d:Bool):EnvOk Tryz.prog ⟨Fn.tr,Fn.pf,@Fn.orc onL,d⟩:=by
 have key:∀g xs v,(@Fn.orc onL) g xs=some v→(∃n L,zak Fn.E0 n false 0 (.inl g) [] []=some L∧∀r∈L,r.1=.bool true)∧xs=[]∧v=.bool true:=by
  intro g xs v h
  simp only [Fn.orc] at h
  split at h
  ·rename_i hc;cases h
   have hg:(g == 7)=true:=hc.2.1
   rw [beq_iff_eq] at hg
   subst hg
   exact ⟨awakeL_run,hc.2.2,rfl⟩
  ·cases h
 refine ⟨Fn.tr_ok,fun g xs v h=>?_,fun g xs v h w=>?_,fun g xs v h σ=>?_,Fn.ok0.mixed⟩
 ·obtain ⟨hr,rfl,rfl⟩:=key g xs v h;exact fn_of hr
 ·obtain ⟨hr,rfl,rfl⟩:=key g xs v h;exact awake_calls hr w
 ·obtain ⟨hr,rfl,rfl⟩:=key g xs v h;exact .atom rfl
theorem okEL:EnvOk Tryz.prog (@Fn.E onL):=okD true
theorem own:ownKnob Tryz.prog.godebug=none:=by kernel_rfl
theorem laidOut:laidOutB Tryz.prog=true:=by kernel_rfl
abbrev tLeg:Ty:=.pair (.int .i64) (.pair (.int .i64) (.pair (.int .i64) (.pair (.int .i64) (.pair (.int .i64) (.pair (.int .i64) (.pair (.int .i64) (.pair (.int .u8) .nil)))))))
def toLeg (x:tLeg.den):Go.Net.Leg:=⟨x.1,x.2.1,x.2.2.1,x.2.2.2.1,x.2.2.2.2.1,x.2.2.2.2.2.1,x.2.2.2.2.2.2.1,x.2.2.2.2.2.2.2.1⟩
theorem leg_enc (H:zH) (x:tLeg.den) (c:List Value) (h:Rep tLeg H x c):c=Fn.encL (toLeg x):=by
 obtain ⟨c1,r1,rfl,h1,c2,r2,rfl,h2,c3,r3,rfl,h3,c4,r4,rfl,h4,c5,r5,rfl,h5,c6,r6,rfl,h6,c7,r7,rfl,h7,c8,r8,rfl,h8,h9⟩:=h
 simp only [Rep] at h1 h2 h3 h4 h5 h6 h7 h8 h9
 rw [h1.1,h2.1,h3.1,h4.1,h5.1,h6.1,h7.1,h8.1,h9]
 rfl
theorem leg_by (H:zH) (x:tLeg.den) (c:List Value) (h:Rep tLeg H x c):Fn.By (toLeg x):=by
 obtain ⟨c1,r1,rfl,h1,c2,r2,rfl,h2,c3,r3,rfl,h3,c4,r4,rfl,h4,c5,r5,rfl,h5,c6,r6,rfl,h6,c7,r7,rfl,h7,c8,r8,rfl,h8,h9⟩:=h
 simp only [Rep] at h8
 exact ⟨h8.2.1,h8.2.2⟩
theorem int_enc (H:zH) (x:(Ty.int .i64).den) (c:List Value) (h:Rep (.int .i64) H x c):c=Fn.encI (id x):=h.1
abbrev tNet:Ty:=.pair (.slice (.int .i64)) (.pair (.slice tLeg) .nil)
theorem net_arg {H:zH} {x:tNet.den} {v:Value} (h:RepV tNet H x v):∃pp cp pl cl,∃(P:List Int) (L:List Go.Net.Leg),v=.agg (Fn.netV pp P.length cp pl L.length cl).toArray∧Fn.NetIn H pp pl P L∧CapOk 8 cl L.length∧CapOk 1 cp P.length:=by
 obtain ⟨cs,rfl,hr⟩:=h.row rfl
 obtain ⟨c1,r1,rfl,h1,c2,r2,rfl,h2,h3⟩:=hr
 have e3:=Rep.nil_of h3
 subst e3
 obtain ⟨p0,j1,e1,_⟩:=Rep.sl (t:=.int .i64) id Fn.encI int_enc h1
 obtain ⟨q0,j2,e2,_⟩:=Rep.sl (t:=tLeg) toLeg Fn.encL leg_enc h2
 have a1:RepV (.slice (.int .i64)) H x.1 (.slice p0 (List.map id x.1).length j1):=by unfold RepV;rw [if_neg (by decide),←e1];exact h1
 have a2:RepV (.slice tLeg) H x.2.1 (.slice q0 (List.map toLeg x.2.1).length j2):=by unfold RepV;rw [if_neg (by decide),←e2];exact h2
 obtain ⟨p,k1,d1,s1,q1,l1⟩:=slice_arg (t:=.int .i64) id Fn.encI int_enc a1
 obtain ⟨q,k2,d2,s2,q2,l2⟩:=slice_arg (t:=tLeg) toLeg Fn.encL leg_enc a2
 rw [d1] at e1
 rw [d2] at e2
 refine ⟨p,k1,q,k2,_,_, ?_,⟨s1,s2,l1,l2,fun l hl=>?_⟩,q2,q1⟩
 ·rw [e1,e2];rfl
 ·obtain ⟨y,hy,rfl⟩:=List.mem_map.1 hl
  obtain ⟨c,hc⟩:=Rep.slice_mem h2 y hy
  exact leg_by H y c hc
theorem int_arg {k:IntKind} {H:zH} {n:Int} {v:Value} (h:RepV (.int k) H n v):v=.int k n∧k.min≤n∧n≤k.max:=by
 unfold RepV at h
 rw [if_neg (by simp [isRow])] at h
 obtain ⟨e,h⟩:=h
 cases e
 exact ⟨rfl,h⟩
end Go.Proofs.YtohnaffmcjbpoaaGreat

