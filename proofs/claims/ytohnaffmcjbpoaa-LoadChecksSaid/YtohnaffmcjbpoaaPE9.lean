/-
  Joined texts, 9 of 9. A part of the claim that the last text states.
-/
import Derived.Test.YtohnaffmcjbpoaaProg
import Derived.Test.YtohnaffmcjbpoaaRows
import Derived.Test.YtohnaffmcjbpoaaPE8
set_option linter.unusedVariables false
set_option linter.unusedSimpArgs false
set_option linter.defProp false
set_option linter.unusedSectionVars false
set_option maxRecDepth 100000
set_option maxHeartbeats 4000000
namespace Go.Proofs.Ytohnaffmcjbpoaa.Fn
open Go.AM
theorem t3:zTf Try.prog pf 3=some a3:=by kernel_rfl
theorem t8:zTf Try.prog pf 8=some a8:=by kernel_rfl
theorem t9:zTf Try.prog pf 9=some a9:=by kernel_rfl
theorem t10:zTf Try.prog pf 10=some a10:=by kernel_rfl
theorem t11:zTf Try.prog pf 11=some a11:=by kernel_rfl
theorem t12:zTf Try.prog pf 12=some a12:=by kernel_rfl
theorem t13:zTf Try.prog pf 13=some a13:=by kernel_rfl
theorem t14:zTf Try.prog pf 14=some a14:=by kernel_rfl
theorem t15:zTf Try.prog pf 15=some a15:=by kernel_rfl
theorem t16:zTf Try.prog pf 16=some a16:=by kernel_rfl
theorem t17:zTf Try.prog pf 17=some a17:=by kernel_rfl
theorem t23:zTf Try.prog pf 23=some a23:=by kernel_rfl
theorem t24:zTf Try.prog pf 24=some a24:=by kernel_rfl
theorem t25:zTf Try.prog pf 25=some a25:=by kernel_rfl
theorem t26:zTf Try.prog pf 26=some a26:=by kernel_rfl
theorem t27:zTf Try.prog pf 27=some a27:=by kernel_rfl
theorem t28:zTf Try.prog pf 28=some a28:=by kernel_rfl
theorem t29:zTf Try.prog pf 29=some a29:=by kernel_rfl
theorem t30:zTf Try.prog pf 30=some a30:=by kernel_rfl
theorem t31:zTf Try.prog pf 31=some a31:=by kernel_rfl
theorem t32:zTf Try.prog pf 32=some a32:=by kernel_rfl
theorem t33:zTf Try.prog pf 33=some a33:=by kernel_rfl
theorem t34:zTf Try.prog pf 34=some a34:=by kernel_rfl
theorem t35:zTf Try.prog pf 35=some a35:=by kernel_rfl
theorem t36:zTf Try.prog pf 36=some a36:=by kernel_rfl
theorem t39:zTf Try.prog pf 39=some a39:=by kernel_rfl
theorem t42:zTf Try.prog pf 42=some a42:=by kernel_rfl
theorem t43:zTf Try.prog pf 43=some a43:=by kernel_rfl
theorem t44:zTf Try.prog pf 44=some a44:=by kernel_rfl
theorem t45:zTf Try.prog pf 45=some a45:=by kernel_rfl
theorem t46:zTf Try.prog pf 46=some a46:=by kernel_rfl
theorem t48:zTf Try.prog pf 48=some a48:=by kernel_rfl
theorem t49:zTf Try.prog pf 49=some a49:=by kernel_rfl
theorem t50:zTf Try.prog pf 50=some a50:=by kernel_rfl
theorem t51:zTf Try.prog pf 51=some a51:=by kernel_rfl
theorem t52:zTf Try.prog pf 52=some a52:=by kernel_rfl
theorem t53:zTf Try.prog pf 53=some a53:=by kernel_rfl
theorem t54:zTf Try.prog pf 54=some a54:=by kernel_rfl
theorem t55:zTf Try.prog pf 55=some a55:=by kernel_rfl
theorem t56:zTf Try.prog pf 56=some a56:=by kernel_rfl
theorem t57:zTf Try.prog pf 57=some a57:=by kernel_rfl
theorem t58:zTf Try.prog pf 58=some a58:=by kernel_rfl
theorem t61:zTf Try.prog pf 61=some a61:=by kernel_rfl
theorem t62:zTf Try.prog pf 62=some a62:=by kernel_rfl
theorem t63:zTf Try.prog pf 63=some a63:=by kernel_rfl
theorem t65:zTf Try.prog pf 65=some a65:=by kernel_rfl
theorem t66:zTf Try.prog pf 66=some a66:=by kernel_rfl
theorem t67:zTf Try.prog pf 67=some a67:=by kernel_rfl
theorem t68:zTf Try.prog pf 68=some a68:=by kernel_rfl
theorem t70:zTf Try.prog pf 70=some a70:=by kernel_rfl
theorem t71:zTf Try.prog pf 71=some a71:=by kernel_rfl
theorem t80:zTf Try.prog pf 80=some a80:=by kernel_rfl
theorem t91:zTf Try.prog pf 91=some a91:=by kernel_rfl
theorem t108:zTf Try.prog pf 108=some a108:=by kernel_rfl
theorem t109:zTf Try.prog pf 109=some a109:=by kernel_rfl
theorem t37:zTf Try.prog pf 37=some (Srt.aSORT zL):=by kernel_rfl
theorem t47:zTf Try.prog pf 47=some (Srt.aSORT zC):=by kernel_rfl
theorem t59:zTf Try.prog pf 59=some (Srt.aPDQ zL):=by kernel_rfl
theorem t60:zTf Try.prog pf 60=some (Srt.aLEN zL):=by kernel_rfl
theorem t64:zTf Try.prog pf 64=some (Srt.aPDQ zC):=by kernel_rfl
theorem t69:zTf Try.prog pf 69=some (Srt.aSORT zP):=by kernel_rfl
theorem t72:zTf Try.prog pf 72=some (Srt.aINS zL):=by kernel_rfl
theorem t73:zTf Try.prog pf 73=some (Srt.aHEAP zL):=by kernel_rfl
theorem t74:zTf Try.prog pf 74=some (Srt.aBRK zL):=by kernel_rfl
theorem t75:zTf Try.prog pf 75=some (Srt.aCHO zL):=by kernel_rfl
theorem t76:zTf Try.prog pf 76=some (Srt.aREV zL):=by kernel_rfl
theorem t77:zTf Try.prog pf 77=some (Srt.aPIS zL):=by kernel_rfl
theorem t78:zTf Try.prog pf 78=some (Srt.aPEQ zL):=by kernel_rfl
theorem t79:zTf Try.prog pf 79=some (Srt.aPART zL):=by kernel_rfl
theorem t81:zTf Try.prog pf 81=some (Srt.aLEN64 zL):=by kernel_rfl
theorem t82:zTf Try.prog pf 82=some (Srt.aINS zC):=by kernel_rfl
theorem t83:zTf Try.prog pf 83=some (Srt.aHEAP zC):=by kernel_rfl
theorem t84:zTf Try.prog pf 84=some (Srt.aBRK zC):=by kernel_rfl
theorem t85:zTf Try.prog pf 85=some (Srt.aCHO zC):=by kernel_rfl
theorem t86:zTf Try.prog pf 86=some (Srt.aREV zC):=by kernel_rfl
theorem t87:zTf Try.prog pf 87=some (Srt.aPIS zC):=by kernel_rfl
theorem t88:zTf Try.prog pf 88=some (Srt.aPEQ zC):=by kernel_rfl
theorem t89:zTf Try.prog pf 89=some (Srt.aPART zC):=by kernel_rfl
theorem t90:zTf Try.prog pf 90=some (Srt.aPDQ zP):=by kernel_rfl
theorem t92:zTf Try.prog pf 92=some (Srt.aSIFT zL):=by kernel_rfl
theorem t93:zTf Try.prog pf 93=some (Srt.aNPT zL):=by kernel_rfl
theorem t94:zTf Try.prog pf 94=some (Srt.aXOR zL):=by kernel_rfl
theorem t95:zTf Try.prog pf 95=some (Srt.aMEDA zL):=by kernel_rfl
theorem t96:zTf Try.prog pf 96=some (Srt.aMED zL):=by kernel_rfl
theorem t97:zTf Try.prog pf 97=some (Srt.aSIFT zC):=by kernel_rfl
theorem t98:zTf Try.prog pf 98=some (Srt.aMEDA zC):=by kernel_rfl
theorem t99:zTf Try.prog pf 99=some (Srt.aMED zC):=by kernel_rfl
theorem t100:zTf Try.prog pf 100=some (Srt.aINS zP):=by kernel_rfl
theorem t101:zTf Try.prog pf 101=some (Srt.aHEAP zP):=by kernel_rfl
theorem t102:zTf Try.prog pf 102=some (Srt.aBRK zP):=by kernel_rfl
theorem t103:zTf Try.prog pf 103=some (Srt.aCHO zP):=by kernel_rfl
theorem t104:zTf Try.prog pf 104=some (Srt.aREV zP):=by kernel_rfl
theorem t105:zTf Try.prog pf 105=some (Srt.aPIS zP):=by kernel_rfl
theorem t106:zTf Try.prog pf 106=some (Srt.aPEQ zP):=by kernel_rfl
theorem t107:zTf Try.prog pf 107=some (Srt.aPART zP):=by kernel_rfl
theorem t110:zTf Try.prog pf 110=some (Srt.aORD zL):=by kernel_rfl
theorem t111:zTf Try.prog pf 111=some (Srt.aORD zC):=by kernel_rfl
theorem t112:zTf Try.prog pf 112=some (Srt.aSIFT zP):=by kernel_rfl
theorem t113:zTf Try.prog pf 113=some (Srt.aMEDA zP):=by kernel_rfl
theorem t114:zTf Try.prog pf 114=some (Srt.aMED zP):=by kernel_rfl
theorem t115:zTf Try.prog pf 115=some (Srt.aORD zP):=by kernel_rfl
def E0:Env:=⟨tr,pf,fun _ _=>none,false⟩
theorem tr_ok (g:FuncId) (af:zAf) (h:tr g=some af):zTf Try.prog pf g=some af:=by
 unfold tr table at h
 simp only [List.lookup] at h
 split at h
 ·rename_i e;cases h;rw [beq_iff_eq.1 e];exact t3
 split at h
 ·rename_i e;cases h;rw [beq_iff_eq.1 e];exact t8
 split at h
 ·rename_i e;cases h;rw [beq_iff_eq.1 e];exact t9
 split at h
 ·rename_i e;cases h;rw [beq_iff_eq.1 e];exact t10
 split at h
 ·rename_i e;cases h;rw [beq_iff_eq.1 e];exact t11
 split at h
 ·rename_i e;cases h;rw [beq_iff_eq.1 e];exact t12
 split at h
 ·rename_i e;cases h;rw [beq_iff_eq.1 e];exact t13
 split at h
 ·rename_i e;cases h;rw [beq_iff_eq.1 e];exact t14
 split at h
 ·rename_i e;cases h;rw [beq_iff_eq.1 e];exact t15
 split at h
 ·rename_i e;cases h;rw [beq_iff_eq.1 e];exact t16
 split at h
 ·rename_i e;cases h;rw [beq_iff_eq.1 e];exact t17
 split at h
 ·rename_i e;cases h;rw [beq_iff_eq.1 e];exact t23
 split at h
 ·rename_i e;cases h;rw [beq_iff_eq.1 e];exact t24
 split at h
 ·rename_i e;cases h;rw [beq_iff_eq.1 e];exact t25
 split at h
 ·rename_i e;cases h;rw [beq_iff_eq.1 e];exact t26
 split at h
 ·rename_i e;cases h;rw [beq_iff_eq.1 e];exact t27
 split at h
 ·rename_i e;cases h;rw [beq_iff_eq.1 e];exact t28
 split at h
 ·rename_i e;cases h;rw [beq_iff_eq.1 e];exact t29
 split at h
 ·rename_i e;cases h;rw [beq_iff_eq.1 e];exact t30
 split at h
 ·rename_i e;cases h;rw [beq_iff_eq.1 e];exact t31
 split at h
 ·rename_i e;cases h;rw [beq_iff_eq.1 e];exact t32
 split at h
 ·rename_i e;cases h;rw [beq_iff_eq.1 e];exact t33
 split at h
 ·rename_i e;cases h;rw [beq_iff_eq.1 e];exact t34
 split at h
 ·rename_i e;cases h;rw [beq_iff_eq.1 e];exact t35
 split at h
 ·rename_i e;cases h;rw [beq_iff_eq.1 e];exact t36
 split at h
 ·rename_i e;cases h;rw [beq_iff_eq.1 e];exact t39
 split at h
 ·rename_i e;cases h;rw [beq_iff_eq.1 e];exact t42
 split at h
 ·rename_i e;cases h;rw [beq_iff_eq.1 e];exact t43
 split at h
 ·rename_i e;cases h;rw [beq_iff_eq.1 e];exact t44
 split at h
 ·rename_i e;cases h;rw [beq_iff_eq.1 e];exact t45
 split at h
 ·rename_i e;cases h;rw [beq_iff_eq.1 e];exact t46
 split at h
 ·rename_i e;cases h;rw [beq_iff_eq.1 e];exact t48
 split at h
 ·rename_i e;cases h;rw [beq_iff_eq.1 e];exact t49
 split at h
 ·rename_i e;cases h;rw [beq_iff_eq.1 e];exact t50
 split at h
 ·rename_i e;cases h;rw [beq_iff_eq.1 e];exact t51
 split at h
 ·rename_i e;cases h;rw [beq_iff_eq.1 e];exact t52
 split at h
 ·rename_i e;cases h;rw [beq_iff_eq.1 e];exact t53
 split at h
 ·rename_i e;cases h;rw [beq_iff_eq.1 e];exact t54
 split at h
 ·rename_i e;cases h;rw [beq_iff_eq.1 e];exact t55
 split at h
 ·rename_i e;cases h;rw [beq_iff_eq.1 e];exact t56
 split at h
 ·rename_i e;cases h;rw [beq_iff_eq.1 e];exact t57
 split at h
 ·rename_i e;cases h;rw [beq_iff_eq.1 e];exact t58
 split at h
 ·rename_i e;cases h;rw [beq_iff_eq.1 e];exact t61
 split at h
 ·rename_i e;cases h;rw [beq_iff_eq.1 e];exact t62
 split at h
 ·rename_i e;cases h;rw [beq_iff_eq.1 e];exact t63
 split at h
 ·rename_i e;cases h;rw [beq_iff_eq.1 e];exact t65
 split at h
 ·rename_i e;cases h;rw [beq_iff_eq.1 e];exact t66
 split at h
 ·rename_i e;cases h;rw [beq_iff_eq.1 e];exact t67
 split at h
 ·rename_i e;cases h;rw [beq_iff_eq.1 e];exact t68
 split at h
 ·rename_i e;cases h;rw [beq_iff_eq.1 e];exact t70
 split at h
 ·rename_i e;cases h;rw [beq_iff_eq.1 e];exact t71
 split at h
 ·rename_i e;cases h;rw [beq_iff_eq.1 e];exact t80
 split at h
 ·rename_i e;cases h;rw [beq_iff_eq.1 e];exact t91
 split at h
 ·rename_i e;cases h;rw [beq_iff_eq.1 e];exact t108
 split at h
 ·rename_i e;cases h;rw [beq_iff_eq.1 e];exact t109
 split at h
 ·rename_i e;cases h;rw [beq_iff_eq.1 e];exact t37
 split at h
 ·rename_i e;cases h;rw [beq_iff_eq.1 e];exact t47
 split at h
 ·rename_i e;cases h;rw [beq_iff_eq.1 e];exact t59
 split at h
 ·rename_i e;cases h;rw [beq_iff_eq.1 e];exact t60
 split at h
 ·rename_i e;cases h;rw [beq_iff_eq.1 e];exact t64
 split at h
 ·rename_i e;cases h;rw [beq_iff_eq.1 e];exact t69
 split at h
 ·rename_i e;cases h;rw [beq_iff_eq.1 e];exact t72
 split at h
 ·rename_i e;cases h;rw [beq_iff_eq.1 e];exact t73
 split at h
 ·rename_i e;cases h;rw [beq_iff_eq.1 e];exact t74
 split at h
 ·rename_i e;cases h;rw [beq_iff_eq.1 e];exact t75
 split at h
 ·rename_i e;cases h;rw [beq_iff_eq.1 e];exact t76
 split at h
 ·rename_i e;cases h;rw [beq_iff_eq.1 e];exact t77
 split at h
 ·rename_i e;cases h;rw [beq_iff_eq.1 e];exact t78
 split at h
 ·rename_i e;cases h;rw [beq_iff_eq.1 e];exact t79
 split at h
 ·rename_i e;cases h;rw [beq_iff_eq.1 e];exact t81
 split at h
 ·rename_i e;cases h;rw [beq_iff_eq.1 e];exact t82
 split at h
 ·rename_i e;cases h;rw [beq_iff_eq.1 e];exact t83
 split at h
 ·rename_i e;cases h;rw [beq_iff_eq.1 e];exact t84
 split at h
 ·rename_i e;cases h;rw [beq_iff_eq.1 e];exact t85
 split at h
 ·rename_i e;cases h;rw [beq_iff_eq.1 e];exact t86
 split at h
 ·rename_i e;cases h;rw [beq_iff_eq.1 e];exact t87
 split at h
 ·rename_i e;cases h;rw [beq_iff_eq.1 e];exact t88
 split at h
 ·rename_i e;cases h;rw [beq_iff_eq.1 e];exact t89
 split at h
 ·rename_i e;cases h;rw [beq_iff_eq.1 e];exact t90
 split at h
 ·rename_i e;cases h;rw [beq_iff_eq.1 e];exact t92
 split at h
 ·rename_i e;cases h;rw [beq_iff_eq.1 e];exact t93
 split at h
 ·rename_i e;cases h;rw [beq_iff_eq.1 e];exact t94
 split at h
 ·rename_i e;cases h;rw [beq_iff_eq.1 e];exact t95
 split at h
 ·rename_i e;cases h;rw [beq_iff_eq.1 e];exact t96
 split at h
 ·rename_i e;cases h;rw [beq_iff_eq.1 e];exact t97
 split at h
 ·rename_i e;cases h;rw [beq_iff_eq.1 e];exact t98
 split at h
 ·rename_i e;cases h;rw [beq_iff_eq.1 e];exact t99
 split at h
 ·rename_i e;cases h;rw [beq_iff_eq.1 e];exact t100
 split at h
 ·rename_i e;cases h;rw [beq_iff_eq.1 e];exact t101
 split at h
 ·rename_i e;cases h;rw [beq_iff_eq.1 e];exact t102
 split at h
 ·rename_i e;cases h;rw [beq_iff_eq.1 e];exact t103
 split at h
 ·rename_i e;cases h;rw [beq_iff_eq.1 e];exact t104
 split at h
 ·rename_i e;cases h;rw [beq_iff_eq.1 e];exact t105
 split at h
 ·rename_i e;cases h;rw [beq_iff_eq.1 e];exact t106
 split at h
 ·rename_i e;cases h;rw [beq_iff_eq.1 e];exact t107
 split at h
 ·rename_i e;cases h;rw [beq_iff_eq.1 e];exact t110
 split at h
 ·rename_i e;cases h;rw [beq_iff_eq.1 e];exact t111
 split at h
 ·rename_i e;cases h;rw [beq_iff_eq.1 e];exact t112
 split at h
 ·rename_i e;cases h;rw [beq_iff_eq.1 e];exact t113
 split at h
 ·rename_i e;cases h;rw [beq_iff_eq.1 e];exact t114
 split at h
 ·rename_i e;cases h;rw [beq_iff_eq.1 e];exact t115
 cases h
theorem ok0:EnvOk Try.prog E0:=⟨tr_ok,(fun _ _ _ h=>by cases h),(fun _ _ _ h=>by cases h),(fun _ _ _ h=>by cases h),by kernel_rfl⟩
end Go.Proofs.Ytohnaffmcjbpoaa.Fn

namespace Go.Proofs.Ytohnaffmcjbpoaa
open Go.AM Go.AM.Sym Go.RowKit
def Ef [Fn.OB]:Env:=⟨Fn.tr,Fn.pf,Fn.orc,false⟩
instance dtF [Fn.OB]:DT Ef Fn.E:=⟨rfl⟩
abbrev off:Fn.OB:=⟨fun _=>false⟩
abbrev onL:Fn.OB:=⟨fun g=>g == 9⟩
theorem E_off:@Ef off=Fn.E0:=by
 unfold Ef Fn.E0
 congr 1
 funext g xs
 unfold Fn.orc
 rw [if_neg fun h=>by cases h.2.1]
theorem awakeL_run:∃n L,zai Fn.E0 n false 0 (.inl 9) [] []=some L∧∀r∈L,r.1=.bool true:=by
 have h:za0 (@Ef off) false 0 9 [] [] (fun v H'=>v=.bool true):=by
  have h0:za0 (@Fn.E off) false 0 9 [] [] (fun v H'=>v=.bool true):=by rw [@Fn.awake_go off false 0 [] _ rfl]
  exact za0.weak (E:=@Ef off) (E':=@Fn.E off) (h:=@dtF off) h0
 rw [E_off] at h
 obtain ⟨n,L,h1,h2⟩:=h
 exact ⟨n,L,h1,h2.2⟩
theorem awake_calls {g:FuncId} (hr:∃n L,zai Fn.E0 n false 0 (.inl g) [] []=some L∧∀r∈L,r.1=.bool true) (w:World):Calls Try.prog g #[] w fun e w'=>e=.returned (.bool true)∧Below w.heap.size w w':=by
 obtain ⟨n,L,h,hL⟩:=hr
 refine ((callOkS Fn.ok0 n).calls _ _ _ _ _ _ h (Nat.le_refl _) _ _ w [] (Inv.nil (P:=Try.prog) (E:=Fn.E0) w) zLr.nil).mono fun e w' hp=>?_
 obtain ⟨r,hr,v',σ',rfl,hv,_,hst,_⟩:=hp
 rw [hL r hr] at hv
 rw [hv.bool_left]
 exact ⟨rfl,hst.os,hst.tape,hst.output,hst.size,fun k hk=>hst.block k (by omega)⟩
theorem fn_of {g:FuncId} (hr:∃n L,zai Fn.E0 n false 0 (.inl g) [] []=some L∧∀r∈L,r.1=.bool true):∃fn,Try.prog.funcs[g]? = some fn∧fn.body.isSome=true∧(fn.name == "runtime.NumGoroutine")=false:=by
 obtain ⟨n,L,h,_⟩:=hr
 exact (callOkS Fn.ok0 n).fn _ _ _ _ _ _ h
theorem okD (d:Bool):EnvOk Try.prog ⟨Fn.tr,Fn.pf,@Fn.orc onL,d⟩:=by
 have key:∀g xs v,(@Fn.orc onL) g xs=some v→(∃n L,zai Fn.E0 n false 0 (.inl g) [] []=some L∧∀r∈L,r.1=.bool true)∧xs=[]∧v=.bool true:=by
  intro g xs v h
  simp only [Fn.orc] at h
  split at h
  ·rename_i hc;cases h
   have hg:(g == 9)=true:=hc.2.1
   rw [beq_iff_eq] at hg
   subst hg
   exact ⟨awakeL_run,hc.2.2,rfl⟩
  ·cases h
 refine ⟨Fn.tr_ok,fun g xs v h=>?_,fun g xs v h w=>?_,fun g xs v h σ=>?_,Fn.ok0.mixed⟩
 ·obtain ⟨hr,rfl,rfl⟩:=key g xs v h;exact fn_of hr
 ·obtain ⟨hr,rfl,rfl⟩:=key g xs v h;exact awake_calls hr w
 ·obtain ⟨hr,rfl,rfl⟩:=key g xs v h;exact .atom rfl
theorem okEL:EnvOk Try.prog (@Fn.E onL):=okD true
theorem own:ownKnob Try.prog.godebug=none:=by kernel_rfl
theorem laidOut:laidOutB Try.prog=true:=by kernel_rfl
abbrev tLeg:Ty:=.pair (.int .i64) (.pair (.int .i64) (.pair (.int .i64) (.pair (.int .i64) (.pair (.int .i64) (.pair (.int .i64) (.pair (.int .i64) (.pair (.int .u8) .nil)))))))
def toLeg (x:tLeg.den):Go.Net.Leg:=⟨x.1,x.2.1,x.2.2.1,x.2.2.2.1,x.2.2.2.2.1,x.2.2.2.2.2.1,x.2.2.2.2.2.2.1,x.2.2.2.2.2.2.2.1⟩
theorem leg_enc (H:zH) (x:tLeg.den) (c:List Value) (h:Rep tLeg H x c):c=Fn.encL (toLeg x):=by
 obtain ⟨c1,r1,rfl,h1,c2,r2,rfl,h2,c3,r3,rfl,h3,c4,r4,rfl,h4,c5,r5,rfl,h5,c6,r6,rfl,h6,c7,r7,rfl,h7,c8,r8,rfl,h8,h9⟩:=h
 simp only [Rep] at h1 h2 h3 h4 h5 h6 h7 h8 h9
 rw [h1.1,h2.1,h3.1,h4.1,h5.1,h6.1,h7.1,h8.1,h9]
 rfl
theorem leg_by (H:zH) (x:tLeg.den) (c:List Value) (h:Rep tLeg H x c):Fn.By (toLeg x):=by
 obtain ⟨c1,r1,rfl,h1,c2,r2,rfl,h2,c3,r3,rfl,h3,c4,r4,rfl,h4,c5,r5,rfl,h5,c6,r6,rfl,h6,c7,r7,rfl,h7,c8,r8,rfl,h8,h9⟩:=h
 simp only [Rep] at h8
 exact ⟨h8.2.1,h8.2.2⟩
theorem int_enc (H:zH) (x:(Ty.int .i64).den) (c:List Value) (h:Rep (.int .i64) H x c):c=Fn.encI (id x):=h.1
abbrev tNet:Ty:=.pair (.slice (.int .i64)) (.pair (.slice tLeg) .nil)
theorem net_arg {H:zH} {x:tNet.den} {v:Value} (h:RepV tNet H x v):∃pp cp pl cl,∃(P:List Int) (L:List Go.Net.Leg),v=.agg (Fn.netV pp P.length cp pl L.length cl).toArray∧Fn.NetIn H pp pl P L∧CapOk 8 cl L.length∧CapOk 1 cp P.length:=by
 obtain ⟨cs,rfl,hr⟩:=h.row rfl
 obtain ⟨c1,r1,rfl,h1,c2,r2,rfl,h2,h3⟩:=hr
 have e3:=Rep.nil_of h3
 subst e3
 obtain ⟨p0,j1,e1,_⟩:=Rep.sl (t:=.int .i64) id Fn.encI int_enc h1
 obtain ⟨q0,j2,e2,_⟩:=Rep.sl (t:=tLeg) toLeg Fn.encL leg_enc h2
 have a1:RepV (.slice (.int .i64)) H x.1 (.slice p0 (List.map id x.1).length j1):=by unfold RepV;rw [if_neg (by decide),←e1];exact h1
 have a2:RepV (.slice tLeg) H x.2.1 (.slice q0 (List.map toLeg x.2.1).length j2):=by unfold RepV;rw [if_neg (by decide),←e2];exact h2
 obtain ⟨p,k1,d1,s1,q1,l1⟩:=slice_arg (t:=.int .i64) id Fn.encI int_enc a1
 obtain ⟨q,k2,d2,s2,q2,l2⟩:=slice_arg (t:=tLeg) toLeg Fn.encL leg_enc a2
 rw [d1] at e1
 rw [d2] at e2
 refine ⟨p,k1,q,k2,_,_, ?_,⟨s1,s2,l1,l2,fun l hl=>?_⟩,q2,q1⟩
 ·rw [e1,e2];rfl
 ·obtain ⟨y,hy,rfl⟩:=List.mem_map.1 hl
  obtain ⟨c,hc⟩:=Rep.slice_mem h2 y hy
  exact leg_by H y c hc
abbrev tSrc:Ty:=.pair (.int .i64) (.pair (.int .i64) (.pair (.int .i64) .nil))
def toSrc (x:tSrc.den):Go.Flow.Src:=⟨x.1,x.2.1,x.2.2.1⟩
theorem src_enc (H:zH) (x:tSrc.den) (c:List Value) (h:Rep tSrc H x c):c=Fn.encS (toSrc x):=by
 obtain ⟨c1,r1,rfl,h1,c2,r2,rfl,h2,c3,r3,rfl,h3,h4⟩:=h
 simp only [Rep] at h1 h2 h3 h4
 rw [h1.1,h2.1,h3.1,h4]
 rfl
theorem srcs_arg {H:zH} {l:List tSrc.den} {v:Value} (h:RepV (.slice tSrc) H l v):∃p k,∃s:List Go.Flow.Src,v=.slice p s.length k∧Sl H Fn.encS 3 p s∧CapOk 3 k s.length∧s.length<2 ^ 63:=by
 obtain ⟨p,k,e,h1,h3,h2⟩:=slice_arg (t:=tSrc) toSrc Fn.encS src_enc h
 exact ⟨p,k,_,e,h1,h3,h2⟩
abbrev tLd:Ty:=.pair (.int .i64) (.pair (.int .i64) (.pair (.int .i64) (.pair (.int .i64) .nil)))
def toLd (x:tLd.den):Go.Flow.Ld:=⟨x.1,x.2.1,x.2.2.1,x.2.2.2.1⟩
theorem ld_enc (H:zH) (x:tLd.den) (c:List Value) (h:Rep tLd H x c):c=Fn.encD (toLd x):=by
 obtain ⟨c1,r1,rfl,h1,c2,r2,rfl,h2,c3,r3,rfl,h3,c4,r4,rfl,h4,h5⟩:=h
 simp only [Rep] at h1 h2 h3 h4 h5
 rw [h1.1,h2.1,h3.1,h4.1,h5]
 rfl
theorem lds_arg {H:zH} {l:List tLd.den} {v:Value} (h:RepV (.slice tLd) H l v):∃p k,∃s:List Go.Flow.Ld,v=.slice p s.length k∧Sl H Fn.encD 4 p s∧CapOk 4 k s.length∧s.length<2 ^ 63:=by
 obtain ⟨p,k,e,h1,h3,h2⟩:=slice_arg (t:=tLd) toLd Fn.encD ld_enc h
 exact ⟨p,k,_,e,h1,h3,h2⟩
theorem int_arg {k:IntKind} {H:zH} {n:Int} {v:Value} (h:RepV (.int k) H n v):v=.int k n∧k.min≤n∧n≤k.max:=by
 unfold RepV at h
 rw [if_neg (by simp [isRow])] at h
 obtain ⟨e,h⟩:=h
 cases e
 exact ⟨rfl,h⟩
end Go.Proofs.Ytohnaffmcjbpoaa

