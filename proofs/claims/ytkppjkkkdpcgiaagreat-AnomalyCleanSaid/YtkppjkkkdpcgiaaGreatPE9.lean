/-
  Joined texts, 9 of 9. A part of the claim that the last text states.
-/
import Derived.Test.YtkppjkkkdpcgiaaGreatProg
import Derived.Test.YtkppjkkkdpcgiaaGreatRows
import Derived.Test.YtkppjkkkdpcgiaaGreatPE8
set_option linter.unusedVariables false
set_option linter.unusedSimpArgs false
set_option linter.defProp false
set_option linter.unusedSectionVars false
set_option maxRecDepth 100000
set_option maxHeartbeats 4000000
namespace Go.Proofs.YtkppjkkkdpcgiaaGreat.Fn
open Go.AM
theorem t8:NP Tryz.prog pf 8=some a8:=by kernel_rfl
theorem t12:NP Tryz.prog pf 12=some a12:=by kernel_rfl
theorem t13:NP Tryz.prog pf 13=some a13:=by kernel_rfl
theorem t17:NP Tryz.prog pf 17=some a17:=by kernel_rfl
theorem t18:NP Tryz.prog pf 18=some a18:=by kernel_rfl
theorem t27:NP Tryz.prog pf 27=some a27:=by kernel_rfl
theorem t28:NP Tryz.prog pf 28=some a28:=by kernel_rfl
theorem t30:NP Tryz.prog pf 30=some a30:=by kernel_rfl
theorem t31:NP Tryz.prog pf 31=some a31:=by kernel_rfl
theorem t32:NP Tryz.prog pf 32=some a32:=by kernel_rfl
theorem t33:NP Tryz.prog pf 33=some a33:=by kernel_rfl
theorem t34:NP Tryz.prog pf 34=some a34:=by kernel_rfl
theorem t35:NP Tryz.prog pf 35=some a35:=by kernel_rfl
theorem t36:NP Tryz.prog pf 36=some a36:=by kernel_rfl
theorem t37:NP Tryz.prog pf 37=some a37:=by kernel_rfl
theorem t38:NP Tryz.prog pf 38=some a38:=by kernel_rfl
theorem t39:NP Tryz.prog pf 39=some a39:=by kernel_rfl
theorem t55:NP Tryz.prog pf 55=some a55:=by kernel_rfl
theorem t56:NP Tryz.prog pf 56=some a56:=by kernel_rfl
theorem t58:NP Tryz.prog pf 58=some a58:=by kernel_rfl
theorem t59:NP Tryz.prog pf 59=some a59:=by kernel_rfl
theorem t60:NP Tryz.prog pf 60=some a60:=by kernel_rfl
theorem t61:NP Tryz.prog pf 61=some a61:=by kernel_rfl
theorem t62:NP Tryz.prog pf 62=some a62:=by kernel_rfl
theorem t63:NP Tryz.prog pf 63=some a63:=by kernel_rfl
theorem t64:NP Tryz.prog pf 64=some a64:=by kernel_rfl
theorem t65:NP Tryz.prog pf 65=some a65:=by kernel_rfl
theorem t66:NP Tryz.prog pf 66=some a66:=by kernel_rfl
theorem t67:NP Tryz.prog pf 67=some a67:=by kernel_rfl
theorem t68:NP Tryz.prog pf 68=some a68:=by kernel_rfl
theorem t69:NP Tryz.prog pf 69=some a69:=by kernel_rfl
theorem t70:NP Tryz.prog pf 70=some a70:=by kernel_rfl
theorem t71:NP Tryz.prog pf 71=some a71:=by kernel_rfl
theorem t72:NP Tryz.prog pf 72=some a72:=by kernel_rfl
theorem t73:NP Tryz.prog pf 73=some a73:=by kernel_rfl
theorem t74:NP Tryz.prog pf 74=some a74:=by kernel_rfl
theorem t75:NP Tryz.prog pf 75=some a75:=by kernel_rfl
theorem t76:NP Tryz.prog pf 76=some a76:=by kernel_rfl
theorem t77:NP Tryz.prog pf 77=some a77:=by kernel_rfl
theorem t92:NP Tryz.prog pf 92=some a92:=by kernel_rfl
theorem t93:NP Tryz.prog pf 93=some a93:=by kernel_rfl
theorem t94:NP Tryz.prog pf 94=some a94:=by kernel_rfl
theorem t96:NP Tryz.prog pf 96=some a96:=by kernel_rfl
theorem t97:NP Tryz.prog pf 97=some a97:=by kernel_rfl
theorem t98:NP Tryz.prog pf 98=some a98:=by kernel_rfl
theorem t99:NP Tryz.prog pf 99=some a99:=by kernel_rfl
theorem Ob3:NP Tryz.prog pf 100=some Ngc:=by kernel_rfl
theorem Ob2:NP Tryz.prog pf 101=some Nwf:=by kernel_rfl
theorem Ob0:NP Tryz.prog pf 103=some Nwe:=by kernel_rfl
theorem Obz:NP Tryz.prog pf 104=some Nwd:=by kernel_rfl
theorem t105:NP Tryz.prog pf 105=some a105:=by kernel_rfl
theorem Oby:NP Tryz.prog pf 106=some Nwc:=by kernel_rfl
theorem t107:NP Tryz.prog pf 107=some a107:=by kernel_rfl
theorem Obx:NP Tryz.prog pf 108=some Nwb:=by kernel_rfl
theorem t109:NP Tryz.prog pf 109=some a109:=by kernel_rfl
theorem Obw:NP Tryz.prog pf 110=some Nwa:=by kernel_rfl
theorem Obv:NP Tryz.prog pf 120=some Nv9:=by kernel_rfl
theorem Obu:NP Tryz.prog pf 121=some Nv8:=by kernel_rfl
theorem Obt:NP Tryz.prog pf 122=some Nv7:=by kernel_rfl
theorem Obs:NP Tryz.prog pf 123=some Nv6:=by kernel_rfl
theorem t124:NP Tryz.prog pf 124=some a124:=by kernel_rfl
theorem Obr:NP Tryz.prog pf 125=some Nv5:=by kernel_rfl
theorem Obq:NP Tryz.prog pf 126=some Nv4:=by kernel_rfl
theorem t127:NP Tryz.prog pf 127=some a127:=by kernel_rfl
theorem Obp:NP Tryz.prog pf 128=some Nje:=by kernel_rfl
theorem t131:NP Tryz.prog pf 131=some a131:=by kernel_rfl
theorem Obn:NP Tryz.prog pf 132=some Ngb:=by kernel_rfl
theorem Obl:NP Tryz.prog pf 134=some Nqq:=by kernel_rfl
theorem Obk:NP Tryz.prog pf 135=some Nv3:=by kernel_rfl
theorem Obi:NP Tryz.prog pf 136=some Nv2:=by kernel_rfl
theorem Obh:NP Tryz.prog pf 137=some Nv1:=by kernel_rfl
theorem t141:NP Tryz.prog pf 141=some a141:=by kernel_rfl
theorem t143:NP Tryz.prog pf 143=some a143:=by kernel_rfl
theorem Obf:NP Tryz.prog pf 144=some Nv0:=by kernel_rfl
theorem t145:NP Tryz.prog pf 145=some a145:=by kernel_rfl
theorem t154:NP Tryz.prog pf 154=some a154:=by kernel_rfl
theorem t156:NP Tryz.prog pf 156=some a156:=by kernel_rfl
theorem Oa5:NP Tryz.prog pf 165=some Nvz:=by kernel_rfl
theorem t167:NP Tryz.prog pf 167=some a167:=by kernel_rfl
theorem Oa4:NP Tryz.prog pf 169=some Nvy:=by kernel_rfl
theorem Oa3:NP Tryz.prog pf 170=some Nvx:=by kernel_rfl
theorem t171:NP Tryz.prog pf 171=some a171:=by kernel_rfl
theorem t95:NP Tryz.prog pf 95=some (Srt.aSORT zE):=by kernel_rfl
theorem Ob1:NP Tryz.prog pf 102=some (Srt.aSORT zL):=by kernel_rfl
theorem Obo:NP Tryz.prog pf 129=some (Srt.aPDQ zE):=by kernel_rfl
theorem t130:NP Tryz.prog pf 130=some (Srt.aLEN zE):=by kernel_rfl
theorem Obm:NP Tryz.prog pf 133=some (Srt.aPDQ zL):=by kernel_rfl
theorem Obg:NP Tryz.prog pf 142=some (Srt.aSORT zM):=by kernel_rfl
theorem t146:NP Tryz.prog pf 146=some (Srt.aINS zE):=by kernel_rfl
theorem Obe:NP Tryz.prog pf 147=some (Srt.aHEAP zE):=by kernel_rfl
theorem t148:NP Tryz.prog pf 148=some (Srt.aBRK zE):=by kernel_rfl
theorem Obd:NP Tryz.prog pf 149=some (Srt.aCHO zE):=by kernel_rfl
theorem Obc:NP Tryz.prog pf 150=some (Srt.aREV zE):=by kernel_rfl
theorem Obb:NP Tryz.prog pf 151=some (Srt.aPIS zE):=by kernel_rfl
theorem t152:NP Tryz.prog pf 152=some (Srt.aPEQ zE):=by kernel_rfl
theorem Oba:NP Tryz.prog pf 153=some (Srt.aPART zE):=by kernel_rfl
theorem Oa9:NP Tryz.prog pf 155=some (Srt.aLEN64 zE):=by kernel_rfl
theorem t157:NP Tryz.prog pf 157=some (Srt.aINS zL):=by kernel_rfl
theorem Oa8:NP Tryz.prog pf 158=some (Srt.aHEAP zL):=by kernel_rfl
theorem t159:NP Tryz.prog pf 159=some (Srt.aBRK zL):=by kernel_rfl
theorem t160:NP Tryz.prog pf 160=some (Srt.aCHO zL):=by kernel_rfl
theorem Oa7:NP Tryz.prog pf 161=some (Srt.aREV zL):=by kernel_rfl
theorem t162:NP Tryz.prog pf 162=some (Srt.aPIS zL):=by kernel_rfl
theorem Oa6:NP Tryz.prog pf 163=some (Srt.aPEQ zL):=by kernel_rfl
theorem t164:NP Tryz.prog pf 164=some (Srt.aPART zL):=by kernel_rfl
theorem t168:NP Tryz.prog pf 168=some (Srt.aPDQ zM):=by kernel_rfl
theorem Oa2:NP Tryz.prog pf 172=some (Srt.aSIFT zE):=by kernel_rfl
theorem t173:NP Tryz.prog pf 173=some (Srt.aNPT zE):=by kernel_rfl
theorem Oa1:NP Tryz.prog pf 174=some (Srt.aXOR zE):=by kernel_rfl
theorem t175:NP Tryz.prog pf 175=some (Srt.aMEDA zE):=by kernel_rfl
theorem Oa0:NP Tryz.prog pf 176=some (Srt.aMED zE):=by kernel_rfl
theorem Oaz:NP Tryz.prog pf 177=some (Srt.aSIFT zL):=by kernel_rfl
theorem Oay:NP Tryz.prog pf 178=some (Srt.aMEDA zL):=by kernel_rfl
theorem Oax:NP Tryz.prog pf 179=some (Srt.aMED zL):=by kernel_rfl
theorem Oaw:NP Tryz.prog pf 180=some (Srt.aINS zM):=by kernel_rfl
theorem Oav:NP Tryz.prog pf 181=some (Srt.aHEAP zM):=by kernel_rfl
theorem t182:NP Tryz.prog pf 182=some (Srt.aBRK zM):=by kernel_rfl
theorem t183:NP Tryz.prog pf 183=some (Srt.aCHO zM):=by kernel_rfl
theorem Oau:NP Tryz.prog pf 184=some (Srt.aREV zM):=by kernel_rfl
theorem Oat:NP Tryz.prog pf 185=some (Srt.aPIS zM):=by kernel_rfl
theorem Oas:NP Tryz.prog pf 186=some (Srt.aPEQ zM):=by kernel_rfl
theorem Oar:NP Tryz.prog pf 187=some (Srt.aPART zM):=by kernel_rfl
theorem Oaq:NP Tryz.prog pf 188=some (Srt.aORD zE):=by kernel_rfl
theorem Oap:NP Tryz.prog pf 189=some (Srt.aORD zL):=by kernel_rfl
theorem Oao:NP Tryz.prog pf 190=some (Srt.aSIFT zM):=by kernel_rfl
theorem Oan:NP Tryz.prog pf 191=some (Srt.aMEDA zM):=by kernel_rfl
theorem Oam:NP Tryz.prog pf 192=some (Srt.aMED zM):=by kernel_rfl
theorem t193:NP Tryz.prog pf 193=some (Srt.aORD zM):=by kernel_rfl
def E0:Env:=⟨tr,pf,fun _ _=>none,false,fun _ _ _=>none⟩
theorem tr_ok (g:FuncId) (af:AFunc) (h:tr g=some af):NP Tryz.prog pf g=some af:=by
 unfold tr table at h
 simp only [List.lookup] at h
 split at h
 ·rename_i e;cases h;rw [beq_iff_eq.1 e];exact t8
 split at h
 ·rename_i e;cases h;rw [beq_iff_eq.1 e];exact t12
 split at h
 ·rename_i e;cases h;rw [beq_iff_eq.1 e];exact t13
 split at h
 ·rename_i e;cases h;rw [beq_iff_eq.1 e];exact t17
 split at h
 ·rename_i e;cases h;rw [beq_iff_eq.1 e];exact t18
 split at h
 ·rename_i e;cases h;rw [beq_iff_eq.1 e];exact t27
 split at h
 ·rename_i e;cases h;rw [beq_iff_eq.1 e];exact t28
 split at h
 ·rename_i e;cases h;rw [beq_iff_eq.1 e];exact t30
 split at h
 ·rename_i e;cases h;rw [beq_iff_eq.1 e];exact t31
 split at h
 ·rename_i e;cases h;rw [beq_iff_eq.1 e];exact t32
 split at h
 ·rename_i e;cases h;rw [beq_iff_eq.1 e];exact t33
 split at h
 ·rename_i e;cases h;rw [beq_iff_eq.1 e];exact t34
 split at h
 ·rename_i e;cases h;rw [beq_iff_eq.1 e];exact t35
 split at h
 ·rename_i e;cases h;rw [beq_iff_eq.1 e];exact t36
 split at h
 ·rename_i e;cases h;rw [beq_iff_eq.1 e];exact t37
 split at h
 ·rename_i e;cases h;rw [beq_iff_eq.1 e];exact t38
 split at h
 ·rename_i e;cases h;rw [beq_iff_eq.1 e];exact t39
 split at h
 ·rename_i e;cases h;rw [beq_iff_eq.1 e];exact t55
 split at h
 ·rename_i e;cases h;rw [beq_iff_eq.1 e];exact t56
 split at h
 ·rename_i e;cases h;rw [beq_iff_eq.1 e];exact t58
 split at h
 ·rename_i e;cases h;rw [beq_iff_eq.1 e];exact t59
 split at h
 ·rename_i e;cases h;rw [beq_iff_eq.1 e];exact t60
 split at h
 ·rename_i e;cases h;rw [beq_iff_eq.1 e];exact t61
 split at h
 ·rename_i e;cases h;rw [beq_iff_eq.1 e];exact t62
 split at h
 ·rename_i e;cases h;rw [beq_iff_eq.1 e];exact t63
 split at h
 ·rename_i e;cases h;rw [beq_iff_eq.1 e];exact t64
 split at h
 ·rename_i e;cases h;rw [beq_iff_eq.1 e];exact t65
 split at h
 ·rename_i e;cases h;rw [beq_iff_eq.1 e];exact t66
 split at h
 ·rename_i e;cases h;rw [beq_iff_eq.1 e];exact t67
 split at h
 ·rename_i e;cases h;rw [beq_iff_eq.1 e];exact t68
 split at h
 ·rename_i e;cases h;rw [beq_iff_eq.1 e];exact t69
 split at h
 ·rename_i e;cases h;rw [beq_iff_eq.1 e];exact t70
 split at h
 ·rename_i e;cases h;rw [beq_iff_eq.1 e];exact t71
 split at h
 ·rename_i e;cases h;rw [beq_iff_eq.1 e];exact t72
 split at h
 ·rename_i e;cases h;rw [beq_iff_eq.1 e];exact t73
 split at h
 ·rename_i e;cases h;rw [beq_iff_eq.1 e];exact t74
 split at h
 ·rename_i e;cases h;rw [beq_iff_eq.1 e];exact t75
 split at h
 ·rename_i e;cases h;rw [beq_iff_eq.1 e];exact t76
 split at h
 ·rename_i e;cases h;rw [beq_iff_eq.1 e];exact t77
 split at h
 ·rename_i e;cases h;rw [beq_iff_eq.1 e];exact t92
 split at h
 ·rename_i e;cases h;rw [beq_iff_eq.1 e];exact t93
 split at h
 ·rename_i e;cases h;rw [beq_iff_eq.1 e];exact t94
 split at h
 ·rename_i e;cases h;rw [beq_iff_eq.1 e];exact t96
 split at h
 ·rename_i e;cases h;rw [beq_iff_eq.1 e];exact t97
 split at h
 ·rename_i e;cases h;rw [beq_iff_eq.1 e];exact t98
 split at h
 ·rename_i e;cases h;rw [beq_iff_eq.1 e];exact t99
 split at h
 ·rename_i e;cases h;rw [beq_iff_eq.1 e];exact Ob3
 split at h
 ·rename_i e;cases h;rw [beq_iff_eq.1 e];exact Ob2
 split at h
 ·rename_i e;cases h;rw [beq_iff_eq.1 e];exact Ob0
 split at h
 ·rename_i e;cases h;rw [beq_iff_eq.1 e];exact Obz
 split at h
 ·rename_i e;cases h;rw [beq_iff_eq.1 e];exact t105
 split at h
 ·rename_i e;cases h;rw [beq_iff_eq.1 e];exact Oby
 split at h
 ·rename_i e;cases h;rw [beq_iff_eq.1 e];exact t107
 split at h
 ·rename_i e;cases h;rw [beq_iff_eq.1 e];exact Obx
 split at h
 ·rename_i e;cases h;rw [beq_iff_eq.1 e];exact t109
 split at h
 ·rename_i e;cases h;rw [beq_iff_eq.1 e];exact Obw
 split at h
 ·rename_i e;cases h;rw [beq_iff_eq.1 e];exact Obv
 split at h
 ·rename_i e;cases h;rw [beq_iff_eq.1 e];exact Obu
 split at h
 ·rename_i e;cases h;rw [beq_iff_eq.1 e];exact Obt
 split at h
 ·rename_i e;cases h;rw [beq_iff_eq.1 e];exact Obs
 split at h
 ·rename_i e;cases h;rw [beq_iff_eq.1 e];exact t124
 split at h
 ·rename_i e;cases h;rw [beq_iff_eq.1 e];exact Obr
 split at h
 ·rename_i e;cases h;rw [beq_iff_eq.1 e];exact Obq
 split at h
 ·rename_i e;cases h;rw [beq_iff_eq.1 e];exact t127
 split at h
 ·rename_i e;cases h;rw [beq_iff_eq.1 e];exact Obp
 split at h
 ·rename_i e;cases h;rw [beq_iff_eq.1 e];exact t131
 split at h
 ·rename_i e;cases h;rw [beq_iff_eq.1 e];exact Obn
 split at h
 ·rename_i e;cases h;rw [beq_iff_eq.1 e];exact Obl
 split at h
 ·rename_i e;cases h;rw [beq_iff_eq.1 e];exact Obk
 split at h
 ·rename_i e;cases h;rw [beq_iff_eq.1 e];exact Obi
 split at h
 ·rename_i e;cases h;rw [beq_iff_eq.1 e];exact Obh
 split at h
 ·rename_i e;cases h;rw [beq_iff_eq.1 e];exact t141
 split at h
 ·rename_i e;cases h;rw [beq_iff_eq.1 e];exact t143
 split at h
 ·rename_i e;cases h;rw [beq_iff_eq.1 e];exact Obf
 split at h
 ·rename_i e;cases h;rw [beq_iff_eq.1 e];exact t145
 split at h
 ·rename_i e;cases h;rw [beq_iff_eq.1 e];exact t154
 split at h
 ·rename_i e;cases h;rw [beq_iff_eq.1 e];exact t156
 split at h
 ·rename_i e;cases h;rw [beq_iff_eq.1 e];exact Oa5
 split at h
 ·rename_i e;cases h;rw [beq_iff_eq.1 e];exact t167
 split at h
 ·rename_i e;cases h;rw [beq_iff_eq.1 e];exact Oa4
 split at h
 ·rename_i e;cases h;rw [beq_iff_eq.1 e];exact Oa3
 split at h
 ·rename_i e;cases h;rw [beq_iff_eq.1 e];exact t171
 split at h
 ·rename_i e;cases h;rw [beq_iff_eq.1 e];exact t95
 split at h
 ·rename_i e;cases h;rw [beq_iff_eq.1 e];exact Ob1
 split at h
 ·rename_i e;cases h;rw [beq_iff_eq.1 e];exact Obo
 split at h
 ·rename_i e;cases h;rw [beq_iff_eq.1 e];exact t130
 split at h
 ·rename_i e;cases h;rw [beq_iff_eq.1 e];exact Obm
 split at h
 ·rename_i e;cases h;rw [beq_iff_eq.1 e];exact Obg
 split at h
 ·rename_i e;cases h;rw [beq_iff_eq.1 e];exact t146
 split at h
 ·rename_i e;cases h;rw [beq_iff_eq.1 e];exact Obe
 split at h
 ·rename_i e;cases h;rw [beq_iff_eq.1 e];exact t148
 split at h
 ·rename_i e;cases h;rw [beq_iff_eq.1 e];exact Obd
 split at h
 ·rename_i e;cases h;rw [beq_iff_eq.1 e];exact Obc
 split at h
 ·rename_i e;cases h;rw [beq_iff_eq.1 e];exact Obb
 split at h
 ·rename_i e;cases h;rw [beq_iff_eq.1 e];exact t152
 split at h
 ·rename_i e;cases h;rw [beq_iff_eq.1 e];exact Oba
 split at h
 ·rename_i e;cases h;rw [beq_iff_eq.1 e];exact Oa9
 split at h
 ·rename_i e;cases h;rw [beq_iff_eq.1 e];exact t157
 split at h
 ·rename_i e;cases h;rw [beq_iff_eq.1 e];exact Oa8
 split at h
 ·rename_i e;cases h;rw [beq_iff_eq.1 e];exact t159
 split at h
 ·rename_i e;cases h;rw [beq_iff_eq.1 e];exact t160
 split at h
 ·rename_i e;cases h;rw [beq_iff_eq.1 e];exact Oa7
 split at h
 ·rename_i e;cases h;rw [beq_iff_eq.1 e];exact t162
 split at h
 ·rename_i e;cases h;rw [beq_iff_eq.1 e];exact Oa6
 split at h
 ·rename_i e;cases h;rw [beq_iff_eq.1 e];exact t164
 split at h
 ·rename_i e;cases h;rw [beq_iff_eq.1 e];exact t168
 split at h
 ·rename_i e;cases h;rw [beq_iff_eq.1 e];exact Oa2
 split at h
 ·rename_i e;cases h;rw [beq_iff_eq.1 e];exact t173
 split at h
 ·rename_i e;cases h;rw [beq_iff_eq.1 e];exact Oa1
 split at h
 ·rename_i e;cases h;rw [beq_iff_eq.1 e];exact t175
 split at h
 ·rename_i e;cases h;rw [beq_iff_eq.1 e];exact Oa0
 split at h
 ·rename_i e;cases h;rw [beq_iff_eq.1 e];exact Oaz
 split at h
 ·rename_i e;cases h;rw [beq_iff_eq.1 e];exact Oay
 split at h
 ·rename_i e;cases h;rw [beq_iff_eq.1 e];exact Oax
 split at h
 ·rename_i e;cases h;rw [beq_iff_eq.1 e];exact Oaw
 split at h
 ·rename_i e;cases h;rw [beq_iff_eq.1 e];exact Oav
 split at h
 ·rename_i e;cases h;rw [beq_iff_eq.1 e];exact t182
 split at h
 ·rename_i e;cases h;rw [beq_iff_eq.1 e];exact t183
 split at h
 ·rename_i e;cases h;rw [beq_iff_eq.1 e];exact Oau
 split at h
 ·rename_i e;cases h;rw [beq_iff_eq.1 e];exact Oat
 split at h
 ·rename_i e;cases h;rw [beq_iff_eq.1 e];exact Oas
 split at h
 ·rename_i e;cases h;rw [beq_iff_eq.1 e];exact Oar
 split at h
 ·rename_i e;cases h;rw [beq_iff_eq.1 e];exact Oaq
 split at h
 ·rename_i e;cases h;rw [beq_iff_eq.1 e];exact Oap
 split at h
 ·rename_i e;cases h;rw [beq_iff_eq.1 e];exact Oao
 split at h
 ·rename_i e;cases h;rw [beq_iff_eq.1 e];exact Oan
 split at h
 ·rename_i e;cases h;rw [beq_iff_eq.1 e];exact Oam
 split at h
 ·rename_i e;cases h;rw [beq_iff_eq.1 e];exact t193
 cases h
theorem ok0:EnvOk Tryz.prog E0:=⟨tr_ok,(fun _ _ _ h=>by cases h),(fun _ _ _ h=>by cases h),(fun _ _ _ h=>by cases h),by kernel_rfl,(fun _ _ _ _ h=>by cases h),(fun _ _ _ _ h=>by cases h)⟩
end Go.Proofs.YtkppjkkkdpcgiaaGreat.Fn


namespace Go.Proofs.YtkppjkkkdpcgiaaGreat
open Go.AM Go.AM.Sym Go.RowKit Go.Scan
abbrev off:Fn.OB:=⟨fun _=>false,fun _ _ _=>none,fun _ _ _ _ _=>rfl⟩
noncomputable abbrev mid:Fn.OB:=⟨fun _=>false,Fn.effO,Fn.effO_no⟩
noncomputable abbrev Nti:Fn.OB:=⟨fun g=>g == 18,Fn.effO,Fn.effO_no⟩
theorem Oal:@Fn.Ef off=Fn.E0:=by
 unfold Fn.Ef Fn.E0
 congr 1
 funext g xs
 unfold Fn.orc
 rw [Nh fun h=>by cases h.2.1]
theorem Nrb:EnvOk Tryz.prog (@Fn.Ef off):=Oal▸Fn.ok0
theorem atoms (L:List Ev):∀x∈L.flatMap Fn.encE,atom x=true:=fun x a=>by
 obtain ⟨e,_,h⟩:=List.mem_flatMap.1 a
 simp only [Fn.encE,Np,O8,or_false] at h
 rcases h with rfl | rfl | rfl | rfl | rfl | rfl | rfl<;>rfl
theorem Nmh {g:FuncId} {vs:List Value} {L:List Ev} {H:NE} (h:NL (@Fn.Ef off) false H.length g vs H fun v H'=>∃G p c,v=.tuple #[.slice p L.length c,Vi 0]/\H'=G++[]/\Own H.length G Fn.encE 7 p c L/\(L=[]->p=none)) {lim:Nat} {W:Nat->Prop} {σ:PK} {w:World} {b:List Value}
  (a:Inv (Prg.mk Tryz.prog Fn.pf) W lim σ H w) (i:OJ σ vs b):Calls Tryz.prog g b.toArray w (Td (Prg.mk Tryz.prog Fn.pf) W lim σ H (Fn.effL H.length L).1 (H++news (Fn.effL H.length L).2) w):=by
 unfold Fn.effL
 by_cases hL:L=[]
 ·rw [Ni hL]
  subst hL
  refine Nez Nrb rfl ?_ a i
  refine NL.mono h fun v H' e=>?_
  obtain ⟨G,p,c,rfl,_,d,hp⟩:=e
  rcases d with ⟨_,rfl,rfl⟩ | ⟨R,rfl,rfl,f,_⟩
  ·rfl
  ·have:=hp rfl;cases this
 ·rw [Nh hL]
  refine Nu2 Nrb (atoms L) (NL.mono h fun v H' e=>?_) a i
  obtain ⟨G,p,c,rfl,rfl,d,_⟩:=e
  rcases d with ⟨j,_⟩ | ⟨R,rfl,rfl,f,hl⟩
  ·exact absurd j hL
  ·exact ⟨R,rfl,by rw [Nb];exact f,hl⟩
theorem Nhg {g:FuncId} {vs:List Value} {H:NE} {r} (h:Fn.effO g vs H=some r) {lim:Nat} {W:Nat->Prop} {σ:PK} {w:World} {b:List Value} (a:Inv (Prg.mk Tryz.prog Fn.pf) W lim σ H w) (d:OJ σ vs b):Calls Tryz.prog g b.toArray w (Td (Prg.mk Tryz.prog Fn.pf) W lim σ H r.1 (H++news r.2) w):=by
 obtain ⟨i,p,c,S,rfl,hn,hs,rfl⟩:=Fn.effO_some h
 by_cases hS:QW S
 ·rcases i with rfl | rfl
  ·have e:Fn.effR (decide ((36:Nat)=36)) H.length S=Fn.effL H.length (OO S).1:=Ni hS
   rw [e]
   exact Nmh (@Fn.Order_ok off (fun _ _=>rfl) _ _ _ _ _ _ hs hS (Nd _) fun G kp kc h1 _ f=>⟨G,kp,kc,rfl,rfl,h1,f⟩) a d
  ·have e:Fn.effR (decide ((27:Nat)=36)) H.length S=Fn.effL H.length (OO S).2:=Ni hS
   rw [e]
   exact Nmh (@Fn.Doubled_ok off (fun _ _=>rfl) _ _ _ _ _ _ hs hS (Nd _) fun G kp kc h1 _ f=>⟨G,kp,kc,rfl,rfl,h1,f⟩) a d
 ·rw [Fn.effR_no hS]
  rcases i with rfl | rfl
  ·exact Nez Nrb rfl (by rw [@Fn.Order_no off (fun _ _=>rfl) _ _ _ _ _ _ hs hn hS]) a d
  ·exact Nez Nrb rfl (by rw [@Fn.Doubled_no off (fun _ _=>rfl) _ _ _ _ _ _ hs hn hS]) a d
theorem N02 {g:FuncId} {vs:List Value} {H:NE} {r} (h:Fn.effO g vs H=some r):∃fn,Tryz.prog.funcs[g]? = some fn/\fn.body.isSome=true/\(fn.name == "runtime.NumGoroutine")=false:=by
 have key:∀{g af},Fn.tr g=some af->∃fn,Tryz.prog.funcs[g]? = some fn/\fn.body.isSome=true/\(fn.name == "runtime.NumGoroutine")=false:=fun {g af} h=>by
  obtain ⟨fn,body,md,c,rs,hfn,hb,hc,hrs,hn,_⟩:=ZO (Fn.tr_ok g af h)
  exact ⟨fn,hfn,by rw [hb];rfl,hn⟩
 obtain ⟨hg,_⟩:=Fn.effO_some h
 rcases hg with rfl | rfl
 ·exact key Fn.e36
 ·exact key Fn.e27
theorem N5i:EnvOk Tryz.prog (@Fn.E mid):=by
 have no:∀g xs v,(@Fn.E mid).orc g xs≠some v:=by
  intro g xs v h
  simp only [Fn.E,Fn.orc] at h
  rw [Nh fun h=>by cases h.2.1] at h
  cases h
 exact ⟨Fn.tr_ok,fun g xs v h=>absurd h (no g xs v),fun g xs v h=>absurd h (no g xs v),fun g xs v h=>absurd h (no g xs v),Fn.ok0.mixed,fun g xs H r h=>N02 h,fun g xs H r h lim hl W σ w c a b=>Nhg h a b⟩
theorem Nhl:∃n L,Rw (@Fn.E mid) n false 0 (.inl 18) [] []=some L/\∀r∈L,r.1=.bool true:=by
 have h:NL (@Fn.E mid) false 0 18 [] [] (fun v H'=>v=.bool true):=by
  rw [@Fn.awake_go mid (fun _ _ _=>rfl) rfl]
 obtain ⟨n,L,h1,h2⟩:=h
 exact ⟨n,L,h1,h2.2⟩
theorem Nmv (w:World):Calls Tryz.prog 18 #[] w fun e w'=>e=.returned (.bool true)/\Below w.heap.size w w':=by
 obtain ⟨n,L,h,hL⟩:=Nhl
 refine ((MX N5i n).calls _ _ _ _ _ _ h (Nd _) _ _ w [] (Inv.nil (P:=Tryz.prog) (E:=@Fn.E mid) w) OJ.nil).mono fun e w' hp=>?_
 obtain ⟨r,hr,v',c,rfl,b,_,a,_⟩:=hp
 rw [hL r hr] at b
 rw [b.bool_left]
 exact ⟨rfl,a.os,a.tape,a.output,a.size,fun k hk=>a.block k (by omega)⟩
theorem N1r:∃fn,Tryz.prog.funcs[18]? = some fn/\fn.body.isSome=true/\(fn.name == "runtime.NumGoroutine")=false:=by
 obtain ⟨n,L,h,_⟩:=Nhl
 exact (MX N5i n).fn _ _ _ _ _ _ h
theorem N9k:EnvOk Tryz.prog (@Fn.E Nti):=by
 have key:∀g xs v,(@Fn.E Nti).orc g xs=some v->g=18/\xs=[]/\v=.bool true:=by
  intro g xs v h
  simp only [Fn.E,Fn.orc] at h
  split at h
  ·rename_i hc;cases h
   exact ⟨hc.1,hc.2.2,rfl⟩
  ·cases h
 refine ⟨Fn.tr_ok,fun g xs v h=>?_,fun g xs v h w=>?_,fun g xs v h σ=>?_,Fn.ok0.mixed,fun g xs H r h=>N02 h,fun g xs H r h lim hl W σ w c a b=>Nhg h a b⟩
 ·obtain ⟨rfl,rfl,rfl⟩:=key g xs v h;exact N1r
 ·obtain ⟨rfl,rfl,rfl⟩:=key g xs v h;exact Nmv w
 ·obtain ⟨rfl,rfl,rfl⟩:=key g xs v h;exact .atom rfl
theorem own:ownKnob Tryz.prog.godebug=none:=by kernel_rfl
theorem laidOut:laidOutB Tryz.prog=true:=by kernel_rfl
theorem N92:@Fn.EffOk Nti:=fun _ _ _=>rfl
theorem Nrt {k:IntKind} {H:NE} {n:Int} {v:Value} (h:Yc (.int k) H n v):v=.int k n/\k.min<=n/\n<=k.max:=by
 unfold Yc at h
 rw [Nh (by simp [isRow])] at h
 obtain ⟨e,h⟩:=h
 cases e
 exact ⟨rfl,h⟩
end Go.Proofs.YtkppjkkkdpcgiaaGreat


