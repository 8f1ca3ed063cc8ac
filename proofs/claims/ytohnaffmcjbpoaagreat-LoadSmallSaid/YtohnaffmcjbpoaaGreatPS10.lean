/-
  Joined texts, 10 of 10. A part of the claim that the last text states.
-/
import Derived.Test.YtohnaffmcjbpoaaGreatProg
import Derived.Test.YtohnaffmcjbpoaaGreatRows
import Derived.Test.YtohnaffmcjbpoaaGreatPS9
set_option linter.unusedVariables false
set_option linter.unusedSimpArgs false
set_option linter.defProp false
set_option linter.unusedSectionVars false
set_option maxRecDepth 100000
set_option maxHeartbeats 4000000
namespace Go.Proofs.YtohnaffmcjbpoaaGreat.Fn
open Go.AM
theorem t4:NW Tryz.prog pf 4=some a4:=by kernel_rfl
theorem t7:NW Tryz.prog pf 7=some a7:=by kernel_rfl
theorem t9:NW Tryz.prog pf 9=some a9:=by kernel_rfl
theorem t11:NW Tryz.prog pf 11=some a11:=by kernel_rfl
theorem t12:NW Tryz.prog pf 12=some a12:=by kernel_rfl
theorem t13:NW Tryz.prog pf 13=some a13:=by kernel_rfl
theorem t17:NW Tryz.prog pf 17=some a17:=by kernel_rfl
theorem t18:NW Tryz.prog pf 18=some a18:=by kernel_rfl
theorem t20:NW Tryz.prog pf 20=some a20:=by kernel_rfl
theorem t21:NW Tryz.prog pf 21=some a21:=by kernel_rfl
theorem t22:NW Tryz.prog pf 22=some a22:=by kernel_rfl
theorem t23:NW Tryz.prog pf 23=some a23:=by kernel_rfl
theorem t24:NW Tryz.prog pf 24=some a24:=by kernel_rfl
theorem t27:NW Tryz.prog pf 27=some a27:=by kernel_rfl
theorem t28:NW Tryz.prog pf 28=some a28:=by kernel_rfl
theorem t29:NW Tryz.prog pf 29=some a29:=by kernel_rfl
theorem t30:NW Tryz.prog pf 30=some a30:=by kernel_rfl
theorem t31:NW Tryz.prog pf 31=some a31:=by kernel_rfl
theorem t35:NW Tryz.prog pf 35=some a35:=by kernel_rfl
theorem t38:NW Tryz.prog pf 38=some a38:=by kernel_rfl
theorem t39:NW Tryz.prog pf 39=some a39:=by kernel_rfl
theorem t41:NW Tryz.prog pf 41=some a41:=by kernel_rfl
theorem t45:NW Tryz.prog pf 45=some a45:=by kernel_rfl
theorem t46:NW Tryz.prog pf 46=some a46:=by kernel_rfl
theorem t49:NW Tryz.prog pf 49=some a49:=by kernel_rfl
theorem t50:NW Tryz.prog pf 50=some a50:=by kernel_rfl
theorem t51:NW Tryz.prog pf 51=some a51:=by kernel_rfl
theorem t52:NW Tryz.prog pf 52=some a52:=by kernel_rfl
theorem t53:NW Tryz.prog pf 53=some a53:=by kernel_rfl
theorem t54:NW Tryz.prog pf 54=some a54:=by kernel_rfl
theorem t55:NW Tryz.prog pf 55=some a55:=by kernel_rfl
theorem t57:NW Tryz.prog pf 57=some a57:=by kernel_rfl
theorem t58:NW Tryz.prog pf 58=some a58:=by kernel_rfl
theorem t59:NW Tryz.prog pf 59=some a59:=by kernel_rfl
theorem t60:NW Tryz.prog pf 60=some a60:=by kernel_rfl
theorem t61:NW Tryz.prog pf 61=some a61:=by kernel_rfl
theorem t62:NW Tryz.prog pf 62=some a62:=by kernel_rfl
theorem t63:NW Tryz.prog pf 63=some a63:=by kernel_rfl
theorem t64:NW Tryz.prog pf 64=some a64:=by kernel_rfl
theorem t67:NW Tryz.prog pf 67=some a67:=by kernel_rfl
theorem t68:NW Tryz.prog pf 68=some a68:=by kernel_rfl
theorem t74:NW Tryz.prog pf 74=some a74:=by kernel_rfl
theorem t75:NW Tryz.prog pf 75=some a75:=by kernel_rfl
theorem t77:NW Tryz.prog pf 77=some a77:=by kernel_rfl
theorem t78:NW Tryz.prog pf 78=some a78:=by kernel_rfl
theorem t79:NW Tryz.prog pf 79=some a79:=by kernel_rfl
theorem t80:NW Tryz.prog pf 80=some a80:=by kernel_rfl
theorem t81:NW Tryz.prog pf 81=some a81:=by kernel_rfl
theorem t82:NW Tryz.prog pf 82=some a82:=by kernel_rfl
theorem t83:NW Tryz.prog pf 83=some a83:=by kernel_rfl
theorem t85:NW Tryz.prog pf 85=some a85:=by kernel_rfl
theorem t86:NW Tryz.prog pf 86=some a86:=by kernel_rfl
theorem t95:NW Tryz.prog pf 95=some a95:=by kernel_rfl
theorem t97:NW Tryz.prog pf 97=some a97:=by kernel_rfl
theorem t99:NW Tryz.prog pf 99=some a99:=by kernel_rfl
theorem N42:NW Tryz.prog pf 101=some Nr2:=by kernel_rfl
theorem N41:NW Tryz.prog pf 102=some Nr1:=by kernel_rfl
theorem N40:NW Tryz.prog pf 103=some Nr0:=by kernel_rfl
theorem N4z:NW Tryz.prog pf 104=some Nrz:=by kernel_rfl
theorem N4y:NW Tryz.prog pf 106=some Nry:=by kernel_rfl
theorem N4j:NW Tryz.prog pf 129=some N36:=by kernel_rfl
theorem t130:NW Tryz.prog pf 130=some a130:=by kernel_rfl
theorem t40:NW Tryz.prog pf 40=some (Srt.aSORT zL):=by kernel_rfl
theorem t65:NW Tryz.prog pf 65=some (Srt.aPDQ zL):=by kernel_rfl
theorem t66:NW Tryz.prog pf 66=some (Srt.aLEN zL):=by kernel_rfl
theorem t76:NW Tryz.prog pf 76=some (Srt.aSORT zC):=by kernel_rfl
theorem t84:NW Tryz.prog pf 84=some (Srt.aSORT zP):=by kernel_rfl
theorem t87:NW Tryz.prog pf 87=some (Srt.aINS zL):=by kernel_rfl
theorem t88:NW Tryz.prog pf 88=some (Srt.aHEAP zL):=by kernel_rfl
theorem t89:NW Tryz.prog pf 89=some (Srt.aBRK zL):=by kernel_rfl
theorem t90:NW Tryz.prog pf 90=some (Srt.aCHO zL):=by kernel_rfl
theorem t91:NW Tryz.prog pf 91=some (Srt.aREV zL):=by kernel_rfl
theorem t92:NW Tryz.prog pf 92=some (Srt.aPIS zL):=by kernel_rfl
theorem t93:NW Tryz.prog pf 93=some (Srt.aPEQ zL):=by kernel_rfl
theorem t94:NW Tryz.prog pf 94=some (Srt.aPART zL):=by kernel_rfl
theorem t96:NW Tryz.prog pf 96=some (Srt.aLEN64 zL):=by kernel_rfl
theorem N43:NW Tryz.prog pf 100=some (Srt.aPDQ zC):=by kernel_rfl
theorem t105:NW Tryz.prog pf 105=some (Srt.aPDQ zP):=by kernel_rfl
theorem t107:NW Tryz.prog pf 107=some (Srt.aSIFT zL):=by kernel_rfl
theorem N4x:NW Tryz.prog pf 108=some (Srt.aNPT zL):=by kernel_rfl
theorem t109:NW Tryz.prog pf 109=some (Srt.aXOR zL):=by kernel_rfl
theorem N4w:NW Tryz.prog pf 110=some (Srt.aMEDA zL):=by kernel_rfl
theorem N4v:NW Tryz.prog pf 111=some (Srt.aMED zL):=by kernel_rfl
theorem N4u:NW Tryz.prog pf 113=some (Srt.aINS zC):=by kernel_rfl
theorem N4t:NW Tryz.prog pf 114=some (Srt.aHEAP zC):=by kernel_rfl
theorem N4s:NW Tryz.prog pf 115=some (Srt.aBRK zC):=by kernel_rfl
theorem t116:NW Tryz.prog pf 116=some (Srt.aCHO zC):=by kernel_rfl
theorem t117:NW Tryz.prog pf 117=some (Srt.aREV zC):=by kernel_rfl
theorem N4r:NW Tryz.prog pf 118=some (Srt.aPIS zC):=by kernel_rfl
theorem t119:NW Tryz.prog pf 119=some (Srt.aPEQ zC):=by kernel_rfl
theorem N4q:NW Tryz.prog pf 120=some (Srt.aPART zC):=by kernel_rfl
theorem N4p:NW Tryz.prog pf 121=some (Srt.aINS zP):=by kernel_rfl
theorem N4o:NW Tryz.prog pf 122=some (Srt.aHEAP zP):=by kernel_rfl
theorem N4n:NW Tryz.prog pf 123=some (Srt.aBRK zP):=by kernel_rfl
theorem t124:NW Tryz.prog pf 124=some (Srt.aCHO zP):=by kernel_rfl
theorem N4m:NW Tryz.prog pf 125=some (Srt.aREV zP):=by kernel_rfl
theorem N4l:NW Tryz.prog pf 126=some (Srt.aPIS zP):=by kernel_rfl
theorem t127:NW Tryz.prog pf 127=some (Srt.aPEQ zP):=by kernel_rfl
theorem N4k:NW Tryz.prog pf 128=some (Srt.aPART zP):=by kernel_rfl
theorem t131:NW Tryz.prog pf 131=some (Srt.aORD zL):=by kernel_rfl
theorem N4i:NW Tryz.prog pf 132=some (Srt.aSIFT zC):=by kernel_rfl
theorem N4h:NW Tryz.prog pf 133=some (Srt.aMEDA zC):=by kernel_rfl
theorem N4g:NW Tryz.prog pf 134=some (Srt.aMED zC):=by kernel_rfl
theorem N4f:NW Tryz.prog pf 135=some (Srt.aSIFT zP):=by kernel_rfl
theorem N4e:NW Tryz.prog pf 136=some (Srt.aMEDA zP):=by kernel_rfl
theorem N4d:NW Tryz.prog pf 137=some (Srt.aMED zP):=by kernel_rfl
theorem t138:NW Tryz.prog pf 138=some (Srt.aORD zC):=by kernel_rfl
theorem t139:NW Tryz.prog pf 139=some (Srt.aORD zP):=by kernel_rfl
def E0:Env:=⟨tr,pf,fun _ _=>none,false⟩
theorem tr_ok (g:FuncId) (af:AFunc) (h:tr g=some af):NW Tryz.prog pf g=some af:=by
 unfold tr table at h
 simp only [List.lookup] at h
 split at h
 ·rename_i e;cases h;rw [beq_iff_eq.1 e];exact t4
 split at h
 ·rename_i e;cases h;rw [beq_iff_eq.1 e];exact t7
 split at h
 ·rename_i e;cases h;rw [beq_iff_eq.1 e];exact t9
 split at h
 ·rename_i e;cases h;rw [beq_iff_eq.1 e];exact t11
 split at h
 ·rename_i e;cases h;rw [beq_iff_eq.1 e];exact t12
 split at h
 ·rename_i e;cases h;rw [beq_iff_eq.1 e];exact t13
 split at h
 ·rename_i e;cases h;rw [beq_iff_eq.1 e];exact t17
 split at h
 ·rename_i e;cases h;rw [beq_iff_eq.1 e];exact t18
 split at h
 ·rename_i e;cases h;rw [beq_iff_eq.1 e];exact t20
 split at h
 ·rename_i e;cases h;rw [beq_iff_eq.1 e];exact t21
 split at h
 ·rename_i e;cases h;rw [beq_iff_eq.1 e];exact t22
 split at h
 ·rename_i e;cases h;rw [beq_iff_eq.1 e];exact t23
 split at h
 ·rename_i e;cases h;rw [beq_iff_eq.1 e];exact t24
 split at h
 ·rename_i e;cases h;rw [beq_iff_eq.1 e];exact t27
 split at h
 ·rename_i e;cases h;rw [beq_iff_eq.1 e];exact t28
 split at h
 ·rename_i e;cases h;rw [beq_iff_eq.1 e];exact t29
 split at h
 ·rename_i e;cases h;rw [beq_iff_eq.1 e];exact t30
 split at h
 ·rename_i e;cases h;rw [beq_iff_eq.1 e];exact t31
 split at h
 ·rename_i e;cases h;rw [beq_iff_eq.1 e];exact t35
 split at h
 ·rename_i e;cases h;rw [beq_iff_eq.1 e];exact t38
 split at h
 ·rename_i e;cases h;rw [beq_iff_eq.1 e];exact t39
 split at h
 ·rename_i e;cases h;rw [beq_iff_eq.1 e];exact t41
 split at h
 ·rename_i e;cases h;rw [beq_iff_eq.1 e];exact t45
 split at h
 ·rename_i e;cases h;rw [beq_iff_eq.1 e];exact t46
 split at h
 ·rename_i e;cases h;rw [beq_iff_eq.1 e];exact t49
 split at h
 ·rename_i e;cases h;rw [beq_iff_eq.1 e];exact t50
 split at h
 ·rename_i e;cases h;rw [beq_iff_eq.1 e];exact t51
 split at h
 ·rename_i e;cases h;rw [beq_iff_eq.1 e];exact t52
 split at h
 ·rename_i e;cases h;rw [beq_iff_eq.1 e];exact t53
 split at h
 ·rename_i e;cases h;rw [beq_iff_eq.1 e];exact t54
 split at h
 ·rename_i e;cases h;rw [beq_iff_eq.1 e];exact t55
 split at h
 ·rename_i e;cases h;rw [beq_iff_eq.1 e];exact t57
 split at h
 ·rename_i e;cases h;rw [beq_iff_eq.1 e];exact t58
 split at h
 ·rename_i e;cases h;rw [beq_iff_eq.1 e];exact t59
 split at h
 ·rename_i e;cases h;rw [beq_iff_eq.1 e];exact t60
 split at h
 ·rename_i e;cases h;rw [beq_iff_eq.1 e];exact t61
 split at h
 ·rename_i e;cases h;rw [beq_iff_eq.1 e];exact t62
 split at h
 ·rename_i e;cases h;rw [beq_iff_eq.1 e];exact t63
 split at h
 ·rename_i e;cases h;rw [beq_iff_eq.1 e];exact t64
 split at h
 ·rename_i e;cases h;rw [beq_iff_eq.1 e];exact t67
 split at h
 ·rename_i e;cases h;rw [beq_iff_eq.1 e];exact t68
 split at h
 ·rename_i e;cases h;rw [beq_iff_eq.1 e];exact t74
 split at h
 ·rename_i e;cases h;rw [beq_iff_eq.1 e];exact t75
 split at h
 ·rename_i e;cases h;rw [beq_iff_eq.1 e];exact t77
 split at h
 ·rename_i e;cases h;rw [beq_iff_eq.1 e];exact t78
 split at h
 ·rename_i e;cases h;rw [beq_iff_eq.1 e];exact t79
 split at h
 ·rename_i e;cases h;rw [beq_iff_eq.1 e];exact t80
 split at h
 ·rename_i e;cases h;rw [beq_iff_eq.1 e];exact t81
 split at h
 ·rename_i e;cases h;rw [beq_iff_eq.1 e];exact t82
 split at h
 ·rename_i e;cases h;rw [beq_iff_eq.1 e];exact t83
 split at h
 ·rename_i e;cases h;rw [beq_iff_eq.1 e];exact t85
 split at h
 ·rename_i e;cases h;rw [beq_iff_eq.1 e];exact t86
 split at h
 ·rename_i e;cases h;rw [beq_iff_eq.1 e];exact t95
 split at h
 ·rename_i e;cases h;rw [beq_iff_eq.1 e];exact t97
 split at h
 ·rename_i e;cases h;rw [beq_iff_eq.1 e];exact t99
 split at h
 ·rename_i e;cases h;rw [beq_iff_eq.1 e];exact N42
 split at h
 ·rename_i e;cases h;rw [beq_iff_eq.1 e];exact N41
 split at h
 ·rename_i e;cases h;rw [beq_iff_eq.1 e];exact N40
 split at h
 ·rename_i e;cases h;rw [beq_iff_eq.1 e];exact N4z
 split at h
 ·rename_i e;cases h;rw [beq_iff_eq.1 e];exact N4y
 split at h
 ·rename_i e;cases h;rw [beq_iff_eq.1 e];exact N4j
 split at h
 ·rename_i e;cases h;rw [beq_iff_eq.1 e];exact t130
 split at h
 ·rename_i e;cases h;rw [beq_iff_eq.1 e];exact t40
 split at h
 ·rename_i e;cases h;rw [beq_iff_eq.1 e];exact t65
 split at h
 ·rename_i e;cases h;rw [beq_iff_eq.1 e];exact t66
 split at h
 ·rename_i e;cases h;rw [beq_iff_eq.1 e];exact t76
 split at h
 ·rename_i e;cases h;rw [beq_iff_eq.1 e];exact t84
 split at h
 ·rename_i e;cases h;rw [beq_iff_eq.1 e];exact t87
 split at h
 ·rename_i e;cases h;rw [beq_iff_eq.1 e];exact t88
 split at h
 ·rename_i e;cases h;rw [beq_iff_eq.1 e];exact t89
 split at h
 ·rename_i e;cases h;rw [beq_iff_eq.1 e];exact t90
 split at h
 ·rename_i e;cases h;rw [beq_iff_eq.1 e];exact t91
 split at h
 ·rename_i e;cases h;rw [beq_iff_eq.1 e];exact t92
 split at h
 ·rename_i e;cases h;rw [beq_iff_eq.1 e];exact t93
 split at h
 ·rename_i e;cases h;rw [beq_iff_eq.1 e];exact t94
 split at h
 ·rename_i e;cases h;rw [beq_iff_eq.1 e];exact t96
 split at h
 ·rename_i e;cases h;rw [beq_iff_eq.1 e];exact N43
 split at h
 ·rename_i e;cases h;rw [beq_iff_eq.1 e];exact t105
 split at h
 ·rename_i e;cases h;rw [beq_iff_eq.1 e];exact t107
 split at h
 ·rename_i e;cases h;rw [beq_iff_eq.1 e];exact N4x
 split at h
 ·rename_i e;cases h;rw [beq_iff_eq.1 e];exact t109
 split at h
 ·rename_i e;cases h;rw [beq_iff_eq.1 e];exact N4w
 split at h
 ·rename_i e;cases h;rw [beq_iff_eq.1 e];exact N4v
 split at h
 ·rename_i e;cases h;rw [beq_iff_eq.1 e];exact N4u
 split at h
 ·rename_i e;cases h;rw [beq_iff_eq.1 e];exact N4t
 split at h
 ·rename_i e;cases h;rw [beq_iff_eq.1 e];exact N4s
 split at h
 ·rename_i e;cases h;rw [beq_iff_eq.1 e];exact t116
 split at h
 ·rename_i e;cases h;rw [beq_iff_eq.1 e];exact t117
 split at h
 ·rename_i e;cases h;rw [beq_iff_eq.1 e];exact N4r
 split at h
 ·rename_i e;cases h;rw [beq_iff_eq.1 e];exact t119
 split at h
 ·rename_i e;cases h;rw [beq_iff_eq.1 e];exact N4q
 split at h
 ·rename_i e;cases h;rw [beq_iff_eq.1 e];exact N4p
 split at h
 ·rename_i e;cases h;rw [beq_iff_eq.1 e];exact N4o
 split at h
 ·rename_i e;cases h;rw [beq_iff_eq.1 e];exact N4n
 split at h
 ·rename_i e;cases h;rw [beq_iff_eq.1 e];exact t124
 split at h
 ·rename_i e;cases h;rw [beq_iff_eq.1 e];exact N4m
 split at h
 ·rename_i e;cases h;rw [beq_iff_eq.1 e];exact N4l
 split at h
 ·rename_i e;cases h;rw [beq_iff_eq.1 e];exact t127
 split at h
 ·rename_i e;cases h;rw [beq_iff_eq.1 e];exact N4k
 split at h
 ·rename_i e;cases h;rw [beq_iff_eq.1 e];exact t131
 split at h
 ·rename_i e;cases h;rw [beq_iff_eq.1 e];exact N4i
 split at h
 ·rename_i e;cases h;rw [beq_iff_eq.1 e];exact N4h
 split at h
 ·rename_i e;cases h;rw [beq_iff_eq.1 e];exact N4g
 split at h
 ·rename_i e;cases h;rw [beq_iff_eq.1 e];exact N4f
 split at h
 ·rename_i e;cases h;rw [beq_iff_eq.1 e];exact N4e
 split at h
 ·rename_i e;cases h;rw [beq_iff_eq.1 e];exact N4d
 split at h
 ·rename_i e;cases h;rw [beq_iff_eq.1 e];exact t138
 split at h
 ·rename_i e;cases h;rw [beq_iff_eq.1 e];exact t139
 cases h
theorem ok0:EnvOk Tryz.prog E0:=⟨tr_ok,(fun _ _ _ h=>by cases h),(fun _ _ _ h=>by cases h),(fun _ _ _ h=>by cases h),by kernel_rfl⟩
end Go.Proofs.YtohnaffmcjbpoaaGreat.Fn


namespace Go.Proofs.YtohnaffmcjbpoaaGreat
open Go.AM Go.AM.Sym Go.RowKit
def Ef [Fn.OB]:Env:=⟨Fn.tr,Fn.pf,Fn.orc,false⟩
instance dtF [Fn.OB]:DT Ef Fn.E:=⟨rfl⟩
abbrev off:Fn.OB:=⟨fun _=>false⟩
abbrev onL:Fn.OB:=⟨fun g=>g == 7⟩
theorem N37:@Ef off=Fn.E0:=by
 unfold Ef Fn.E0
 congr 1
 funext g xs
 unfold Fn.orc
 rw [Nf fun h=>by cases h.2.1]
theorem Nme:∃n L,QR Fn.E0 n false 0 (.inl 7) [] []=some L/\∀r∈L,r.1=.bool true:=by
 have h:NR (@Ef off) false 0 7 [] [] (fun v H'=>v=.bool true):=by
  have a:NR (@Fn.E off) false 0 7 [] [] (fun v H'=>v=.bool true):=by rw [@Fn.awake_go off false 0 [] _ rfl]
  exact NR.weak (E:=@Ef off) (E':=@Fn.E off) (h:=@dtF off) a
 rw [N37] at h
 obtain ⟨n,L,h1,h2⟩:=h
 exact ⟨n,L,h1,h2.2⟩
theorem Njr {g:FuncId} (hr:∃n L,QR Fn.E0 n false 0 (.inl g) [] []=some L/\∀r∈L,r.1=.bool true) (w:World):Calls Tryz.prog g #[] w fun e w'=>e=.returned (.bool true)/\Below w.heap.size w w':=by
 obtain ⟨n,L,h,c⟩:=hr
 refine ((Ng5 Fn.ok0 n).calls _ _ _ _ _ _ h (Ng _) _ _ w [] (Inv.nil (P:=Tryz.prog) (E:=Fn.E0) w) OV.nil).mono fun e w' hp=>?_
 obtain ⟨r,hr,v',f,rfl,b,_,a,_⟩:=hp
 rw [c r hr] at b
 rw [b.bool_left]
 exact ⟨rfl,a.os,a.tape,a.output,a.size,fun k d=>a.block k (by omega)⟩
theorem N3w {g:FuncId} (hr:∃n L,QR Fn.E0 n false 0 (.inl g) [] []=some L/\∀r∈L,r.1=.bool true):∃fn,Tryz.prog.funcs[g]? = some fn/\fn.body.isSome=true/\(fn.name == "runtime.NumGoroutine")=false:=by
 obtain ⟨n,L,h,_⟩:=hr
 exact (Ng5 Fn.ok0 n).fn _ _ _ _ _ _ h
theorem okD (d:Bool):EnvOk Tryz.prog ⟨Fn.tr,Fn.pf,@Fn.orc onL,d⟩:=by
 have key:∀g xs v,(@Fn.orc onL) g xs=some v->(∃n L,QR Fn.E0 n false 0 (.inl g) [] []=some L/\∀r∈L,r.1=.bool true)/\xs=[]/\v=.bool true:=by
  intro g xs v h
  simp only [Fn.orc] at h
  split at h
  ·rename_i hc;cases h
   have a:(g == 7)=true:=hc.2.1
   rw [beq_iff_eq] at a
   subst a
   exact ⟨Nme,hc.2.2,rfl⟩
  ·cases h
 refine ⟨Fn.tr_ok,fun g xs v h=>?_,fun g xs v h w=>?_,fun g xs v h σ=>?_,Fn.ok0.mixed⟩
 ·obtain ⟨hr,rfl,rfl⟩:=key g xs v h;exact N3w hr
 ·obtain ⟨hr,rfl,rfl⟩:=key g xs v h;exact Njr hr w
 ·obtain ⟨hr,rfl,rfl⟩:=key g xs v h;exact .atom rfl
theorem N5f:EnvOk Tryz.prog (@Fn.E onL):=okD true
theorem own:ownKnob Tryz.prog.godebug=none:=by kernel_rfl
theorem laidOut:laidOutB Tryz.prog=true:=by kernel_rfl
end Go.Proofs.YtohnaffmcjbpoaaGreat


