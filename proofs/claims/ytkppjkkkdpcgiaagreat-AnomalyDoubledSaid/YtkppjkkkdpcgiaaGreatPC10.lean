/-
  Joined texts, 10 of 10. A part of the claim that the last text states.
-/
import Derived.Test.YtkppjkkkdpcgiaaGreatProg
import Derived.Test.YtkppjkkkdpcgiaaGreatRows
import Derived.Test.YtkppjkkkdpcgiaaGreatPC9
set_option linter.unusedVariables false
set_option linter.unusedSimpArgs false
set_option linter.defProp false
set_option linter.unusedSectionVars false
set_option maxRecDepth 100000
set_option maxHeartbeats 4000000
namespace Go.Proofs.YtkppjkkkdpcgiaaGreat.Fn
open Go.AM
theorem t6:NT Tryz.prog pf 6=some a6:=by kernel_rfl
theorem t10:NT Tryz.prog pf 10=some a10:=by kernel_rfl
theorem t12:NT Tryz.prog pf 12=some a12:=by kernel_rfl
theorem t13:NT Tryz.prog pf 13=some a13:=by kernel_rfl
theorem t17:NT Tryz.prog pf 17=some a17:=by kernel_rfl
theorem t18:NT Tryz.prog pf 18=some a18:=by kernel_rfl
theorem t26:NT Tryz.prog pf 26=some a26:=by kernel_rfl
theorem t27:NT Tryz.prog pf 27=some a27:=by kernel_rfl
theorem t28:NT Tryz.prog pf 28=some a28:=by kernel_rfl
theorem t29:NT Tryz.prog pf 29=some a29:=by kernel_rfl
theorem t30:NT Tryz.prog pf 30=some a30:=by kernel_rfl
theorem t31:NT Tryz.prog pf 31=some a31:=by kernel_rfl
theorem t32:NT Tryz.prog pf 32=some a32:=by kernel_rfl
theorem t33:NT Tryz.prog pf 33=some a33:=by kernel_rfl
theorem t34:NT Tryz.prog pf 34=some a34:=by kernel_rfl
theorem t35:NT Tryz.prog pf 35=some a35:=by kernel_rfl
theorem t36:NT Tryz.prog pf 36=some a36:=by kernel_rfl
theorem t37:NT Tryz.prog pf 37=some a37:=by kernel_rfl
theorem t38:NT Tryz.prog pf 38=some a38:=by kernel_rfl
theorem t39:NT Tryz.prog pf 39=some a39:=by kernel_rfl
theorem t54:NT Tryz.prog pf 54=some a54:=by kernel_rfl
theorem t55:NT Tryz.prog pf 55=some a55:=by kernel_rfl
theorem t56:NT Tryz.prog pf 56=some a56:=by kernel_rfl
theorem t57:NT Tryz.prog pf 57=some a57:=by kernel_rfl
theorem t58:NT Tryz.prog pf 58=some a58:=by kernel_rfl
theorem t59:NT Tryz.prog pf 59=some a59:=by kernel_rfl
theorem t60:NT Tryz.prog pf 60=some a60:=by kernel_rfl
theorem t61:NT Tryz.prog pf 61=some a61:=by kernel_rfl
theorem t62:NT Tryz.prog pf 62=some a62:=by kernel_rfl
theorem t63:NT Tryz.prog pf 63=some a63:=by kernel_rfl
theorem t64:NT Tryz.prog pf 64=some a64:=by kernel_rfl
theorem t65:NT Tryz.prog pf 65=some a65:=by kernel_rfl
theorem t66:NT Tryz.prog pf 66=some a66:=by kernel_rfl
theorem t67:NT Tryz.prog pf 67=some a67:=by kernel_rfl
theorem t68:NT Tryz.prog pf 68=some a68:=by kernel_rfl
theorem t69:NT Tryz.prog pf 69=some a69:=by kernel_rfl
theorem t70:NT Tryz.prog pf 70=some a70:=by kernel_rfl
theorem t71:NT Tryz.prog pf 71=some a71:=by kernel_rfl
theorem t72:NT Tryz.prog pf 72=some a72:=by kernel_rfl
theorem t73:NT Tryz.prog pf 73=some a73:=by kernel_rfl
theorem t74:NT Tryz.prog pf 74=some a74:=by kernel_rfl
theorem t75:NT Tryz.prog pf 75=some a75:=by kernel_rfl
theorem t76:NT Tryz.prog pf 76=some a76:=by kernel_rfl
theorem t77:NT Tryz.prog pf 77=some a77:=by kernel_rfl
theorem t92:NT Tryz.prog pf 92=some a92:=by kernel_rfl
theorem t93:NT Tryz.prog pf 93=some a93:=by kernel_rfl
theorem t94:NT Tryz.prog pf 94=some a94:=by kernel_rfl
theorem t96:NT Tryz.prog pf 96=some a96:=by kernel_rfl
theorem t97:NT Tryz.prog pf 97=some a97:=by kernel_rfl
theorem t98:NT Tryz.prog pf 98=some a98:=by kernel_rfl
theorem t99:NT Tryz.prog pf 99=some a99:=by kernel_rfl
theorem Odh:NT Tryz.prog pf 100=some Ng6:=by kernel_rfl
theorem Odg:NT Tryz.prog pf 101=some Nxd:=by kernel_rfl
theorem Ode:NT Tryz.prog pf 103=some Nxc:=by kernel_rfl
theorem Odd:NT Tryz.prog pf 104=some Nxb:=by kernel_rfl
theorem t105:NT Tryz.prog pf 105=some a105:=by kernel_rfl
theorem Odc:NT Tryz.prog pf 106=some Nxa:=by kernel_rfl
theorem t107:NT Tryz.prog pf 107=some a107:=by kernel_rfl
theorem Odb:NT Tryz.prog pf 108=some Nw9:=by kernel_rfl
theorem t109:NT Tryz.prog pf 109=some a109:=by kernel_rfl
theorem Oda:NT Tryz.prog pf 110=some Nw8:=by kernel_rfl
theorem Oc9:NT Tryz.prog pf 120=some Nw7:=by kernel_rfl
theorem Oc8:NT Tryz.prog pf 121=some Nw6:=by kernel_rfl
theorem Oc7:NT Tryz.prog pf 122=some Nw5:=by kernel_rfl
theorem Oc6:NT Tryz.prog pf 123=some Nw4:=by kernel_rfl
theorem t124:NT Tryz.prog pf 124=some a124:=by kernel_rfl
theorem Oc5:NT Tryz.prog pf 125=some Nw3:=by kernel_rfl
theorem Oc4:NT Tryz.prog pf 126=some Nw2:=by kernel_rfl
theorem t127:NT Tryz.prog pf 127=some a127:=by kernel_rfl
theorem Oc3:NT Tryz.prog pf 128=some Nkd:=by kernel_rfl
theorem t131:NT Tryz.prog pf 131=some a131:=by kernel_rfl
theorem Oc1:NT Tryz.prog pf 132=some Ng5:=by kernel_rfl
theorem Ocz:NT Tryz.prog pf 134=some Nri:=by kernel_rfl
theorem Ocy:NT Tryz.prog pf 135=some Nw1:=by kernel_rfl
theorem Ocx:NT Tryz.prog pf 136=some Nw0:=by kernel_rfl
theorem Ocw:NT Tryz.prog pf 137=some Nwz:=by kernel_rfl
theorem t141:NT Tryz.prog pf 141=some a141:=by kernel_rfl
theorem t143:NT Tryz.prog pf 143=some a143:=by kernel_rfl
theorem Ocu:NT Tryz.prog pf 144=some Nwy:=by kernel_rfl
theorem t145:NT Tryz.prog pf 145=some a145:=by kernel_rfl
theorem t154:NT Tryz.prog pf 154=some a154:=by kernel_rfl
theorem t156:NT Tryz.prog pf 156=some a156:=by kernel_rfl
theorem Ocj:NT Tryz.prog pf 165=some Nwx:=by kernel_rfl
theorem t167:NT Tryz.prog pf 167=some a167:=by kernel_rfl
theorem Oci:NT Tryz.prog pf 169=some Nww:=by kernel_rfl
theorem Och:NT Tryz.prog pf 170=some Nwv:=by kernel_rfl
theorem t171:NT Tryz.prog pf 171=some a171:=by kernel_rfl
theorem t95:NT Tryz.prog pf 95=some (Srt.aSORT zE):=by kernel_rfl
theorem Odf:NT Tryz.prog pf 102=some (Srt.aSORT zL):=by kernel_rfl
theorem Oc2:NT Tryz.prog pf 129=some (Srt.aPDQ zE):=by kernel_rfl
theorem t130:NT Tryz.prog pf 130=some (Srt.aLEN zE):=by kernel_rfl
theorem Oc0:NT Tryz.prog pf 133=some (Srt.aPDQ zL):=by kernel_rfl
theorem Ocv:NT Tryz.prog pf 142=some (Srt.aSORT zM):=by kernel_rfl
theorem t146:NT Tryz.prog pf 146=some (Srt.aINS zE):=by kernel_rfl
theorem Ocs:NT Tryz.prog pf 147=some (Srt.aHEAP zE):=by kernel_rfl
theorem t148:NT Tryz.prog pf 148=some (Srt.aBRK zE):=by kernel_rfl
theorem Ocr:NT Tryz.prog pf 149=some (Srt.aCHO zE):=by kernel_rfl
theorem Ocq:NT Tryz.prog pf 150=some (Srt.aREV zE):=by kernel_rfl
theorem Ocp:NT Tryz.prog pf 151=some (Srt.aPIS zE):=by kernel_rfl
theorem t152:NT Tryz.prog pf 152=some (Srt.aPEQ zE):=by kernel_rfl
theorem Oco:NT Tryz.prog pf 153=some (Srt.aPART zE):=by kernel_rfl
theorem Ocn:NT Tryz.prog pf 155=some (Srt.aLEN64 zE):=by kernel_rfl
theorem t157:NT Tryz.prog pf 157=some (Srt.aINS zL):=by kernel_rfl
theorem Ocm:NT Tryz.prog pf 158=some (Srt.aHEAP zL):=by kernel_rfl
theorem t159:NT Tryz.prog pf 159=some (Srt.aBRK zL):=by kernel_rfl
theorem t160:NT Tryz.prog pf 160=some (Srt.aCHO zL):=by kernel_rfl
theorem Ocl:NT Tryz.prog pf 161=some (Srt.aREV zL):=by kernel_rfl
theorem t162:NT Tryz.prog pf 162=some (Srt.aPIS zL):=by kernel_rfl
theorem Ock:NT Tryz.prog pf 163=some (Srt.aPEQ zL):=by kernel_rfl
theorem t164:NT Tryz.prog pf 164=some (Srt.aPART zL):=by kernel_rfl
theorem t168:NT Tryz.prog pf 168=some (Srt.aPDQ zM):=by kernel_rfl
theorem Ocg:NT Tryz.prog pf 172=some (Srt.aSIFT zE):=by kernel_rfl
theorem t173:NT Tryz.prog pf 173=some (Srt.aNPT zE):=by kernel_rfl
theorem Ocf:NT Tryz.prog pf 174=some (Srt.aXOR zE):=by kernel_rfl
theorem t175:NT Tryz.prog pf 175=some (Srt.aMEDA zE):=by kernel_rfl
theorem Oce:NT Tryz.prog pf 176=some (Srt.aMED zE):=by kernel_rfl
theorem Ocd:NT Tryz.prog pf 177=some (Srt.aSIFT zL):=by kernel_rfl
theorem Occ:NT Tryz.prog pf 178=some (Srt.aMEDA zL):=by kernel_rfl
theorem Ocb:NT Tryz.prog pf 179=some (Srt.aMED zL):=by kernel_rfl
theorem Oca:NT Tryz.prog pf 180=some (Srt.aINS zM):=by kernel_rfl
theorem Ob9:NT Tryz.prog pf 181=some (Srt.aHEAP zM):=by kernel_rfl
theorem t182:NT Tryz.prog pf 182=some (Srt.aBRK zM):=by kernel_rfl
theorem t183:NT Tryz.prog pf 183=some (Srt.aCHO zM):=by kernel_rfl
theorem Ob8:NT Tryz.prog pf 184=some (Srt.aREV zM):=by kernel_rfl
theorem Ob7:NT Tryz.prog pf 185=some (Srt.aPIS zM):=by kernel_rfl
theorem Ob6:NT Tryz.prog pf 186=some (Srt.aPEQ zM):=by kernel_rfl
theorem Ob5:NT Tryz.prog pf 187=some (Srt.aPART zM):=by kernel_rfl
theorem Ob4:NT Tryz.prog pf 188=some (Srt.aORD zE):=by kernel_rfl
theorem Ob3:NT Tryz.prog pf 189=some (Srt.aORD zL):=by kernel_rfl
theorem Ob2:NT Tryz.prog pf 190=some (Srt.aSIFT zM):=by kernel_rfl
theorem Ob1:NT Tryz.prog pf 191=some (Srt.aMEDA zM):=by kernel_rfl
theorem Ob0:NT Tryz.prog pf 192=some (Srt.aMED zM):=by kernel_rfl
theorem t193:NT Tryz.prog pf 193=some (Srt.aORD zM):=by kernel_rfl
def E0:Env:=⟨tr,pf,fun _ _=>none,false,fun _ _ _=>none⟩
theorem tr_ok (g:FuncId) (af:AFunc) (h:tr g=some af):NT Tryz.prog pf g=some af:=by
 unfold tr table at h
 simp only [List.lookup] at h
 split at h
 ·rename_i e;cases h;rw [beq_iff_eq.1 e];exact t6
 split at h
 ·rename_i e;cases h;rw [beq_iff_eq.1 e];exact t10
 split at h
 ·rename_i e;cases h;rw [beq_iff_eq.1 e];exact t12
 split at h
 ·rename_i e;cases h;rw [beq_iff_eq.1 e];exact t13
 split at h
 ·rename_i e;cases h;rw [beq_iff_eq.1 e];exact t17
 split at h
 ·rename_i e;cases h;rw [beq_iff_eq.1 e];exact t18
 split at h
 ·rename_i e;cases h;rw [beq_iff_eq.1 e];exact t26
 split at h
 ·rename_i e;cases h;rw [beq_iff_eq.1 e];exact t27
 split at h
 ·rename_i e;cases h;rw [beq_iff_eq.1 e];exact t28
 split at h
 ·rename_i e;cases h;rw [beq_iff_eq.1 e];exact t29
 split at h
 ·rename_i e;cases h;rw [beq_iff_eq.1 e];exact t30
 split at h
 ·rename_i e;cases h;rw [beq_iff_eq.1 e];exact t31
 split at h
 ·rename_i e;cases h;rw [beq_iff_eq.1 e];exact t32
 split at h
 ·rename_i e;cases h;rw [beq_iff_eq.1 e];exact t33
 split at h
 ·rename_i e;cases h;rw [beq_iff_eq.1 e];exact t34
 split at h
 ·rename_i e;cases h;rw [beq_iff_eq.1 e];exact t35
 split at h
 ·rename_i e;cases h;rw [beq_iff_eq.1 e];exact t36
 split at h
 ·rename_i e;cases h;rw [beq_iff_eq.1 e];exact t37
 split at h
 ·rename_i e;cases h;rw [beq_iff_eq.1 e];exact t38
 split at h
 ·rename_i e;cases h;rw [beq_iff_eq.1 e];exact t39
 split at h
 ·rename_i e;cases h;rw [beq_iff_eq.1 e];exact t54
 split at h
 ·rename_i e;cases h;rw [beq_iff_eq.1 e];exact t55
 split at h
 ·rename_i e;cases h;rw [beq_iff_eq.1 e];exact t56
 split at h
 ·rename_i e;cases h;rw [beq_iff_eq.1 e];exact t57
 split at h
 ·rename_i e;cases h;rw [beq_iff_eq.1 e];exact t58
 split at h
 ·rename_i e;cases h;rw [beq_iff_eq.1 e];exact t59
 split at h
 ·rename_i e;cases h;rw [beq_iff_eq.1 e];exact t60
 split at h
 ·rename_i e;cases h;rw [beq_iff_eq.1 e];exact t61
 split at h
 ·rename_i e;cases h;rw [beq_iff_eq.1 e];exact t62
 split at h
 ·rename_i e;cases h;rw [beq_iff_eq.1 e];exact t63
 split at h
 ·rename_i e;cases h;rw [beq_iff_eq.1 e];exact t64
 split at h
 ·rename_i e;cases h;rw [beq_iff_eq.1 e];exact t65
 split at h
 ·rename_i e;cases h;rw [beq_iff_eq.1 e];exact t66
 split at h
 ·rename_i e;cases h;rw [beq_iff_eq.1 e];exact t67
 split at h
 ·rename_i e;cases h;rw [beq_iff_eq.1 e];exact t68
 split at h
 ·rename_i e;cases h;rw [beq_iff_eq.1 e];exact t69
 split at h
 ·rename_i e;cases h;rw [beq_iff_eq.1 e];exact t70
 split at h
 ·rename_i e;cases h;rw [beq_iff_eq.1 e];exact t71
 split at h
 ·rename_i e;cases h;rw [beq_iff_eq.1 e];exact t72
 split at h
 ·rename_i e;cases h;rw [beq_iff_eq.1 e];exact t73
 split at h
 ·rename_i e;cases h;rw [beq_iff_eq.1 e];exact t74
 split at h
 ·rename_i e;cases h;rw [beq_iff_eq.1 e];exact t75
 split at h
 ·rename_i e;cases h;rw [beq_iff_eq.1 e];exact t76
 split at h
 ·rename_i e;cases h;rw [beq_iff_eq.1 e];exact t77
 split at h
 ·rename_i e;cases h;rw [beq_iff_eq.1 e];exact t92
 split at h
 ·rename_i e;cases h;rw [beq_iff_eq.1 e];exact t93
 split at h
 ·rename_i e;cases h;rw [beq_iff_eq.1 e];exact t94
 split at h
 ·rename_i e;cases h;rw [beq_iff_eq.1 e];exact t96
 split at h
 ·rename_i e;cases h;rw [beq_iff_eq.1 e];exact t97
 split at h
 ·rename_i e;cases h;rw [beq_iff_eq.1 e];exact t98
 split at h
 ·rename_i e;cases h;rw [beq_iff_eq.1 e];exact t99
 split at h
 ·rename_i e;cases h;rw [beq_iff_eq.1 e];exact Odh
 split at h
 ·rename_i e;cases h;rw [beq_iff_eq.1 e];exact Odg
 split at h
 ·rename_i e;cases h;rw [beq_iff_eq.1 e];exact Ode
 split at h
 ·rename_i e;cases h;rw [beq_iff_eq.1 e];exact Odd
 split at h
 ·rename_i e;cases h;rw [beq_iff_eq.1 e];exact t105
 split at h
 ·rename_i e;cases h;rw [beq_iff_eq.1 e];exact Odc
 split at h
 ·rename_i e;cases h;rw [beq_iff_eq.1 e];exact t107
 split at h
 ·rename_i e;cases h;rw [beq_iff_eq.1 e];exact Odb
 split at h
 ·rename_i e;cases h;rw [beq_iff_eq.1 e];exact t109
 split at h
 ·rename_i e;cases h;rw [beq_iff_eq.1 e];exact Oda
 split at h
 ·rename_i e;cases h;rw [beq_iff_eq.1 e];exact Oc9
 split at h
 ·rename_i e;cases h;rw [beq_iff_eq.1 e];exact Oc8
 split at h
 ·rename_i e;cases h;rw [beq_iff_eq.1 e];exact Oc7
 split at h
 ·rename_i e;cases h;rw [beq_iff_eq.1 e];exact Oc6
 split at h
 ·rename_i e;cases h;rw [beq_iff_eq.1 e];exact t124
 split at h
 ·rename_i e;cases h;rw [beq_iff_eq.1 e];exact Oc5
 split at h
 ·rename_i e;cases h;rw [beq_iff_eq.1 e];exact Oc4
 split at h
 ·rename_i e;cases h;rw [beq_iff_eq.1 e];exact t127
 split at h
 ·rename_i e;cases h;rw [beq_iff_eq.1 e];exact Oc3
 split at h
 ·rename_i e;cases h;rw [beq_iff_eq.1 e];exact t131
 split at h
 ·rename_i e;cases h;rw [beq_iff_eq.1 e];exact Oc1
 split at h
 ·rename_i e;cases h;rw [beq_iff_eq.1 e];exact Ocz
 split at h
 ·rename_i e;cases h;rw [beq_iff_eq.1 e];exact Ocy
 split at h
 ·rename_i e;cases h;rw [beq_iff_eq.1 e];exact Ocx
 split at h
 ·rename_i e;cases h;rw [beq_iff_eq.1 e];exact Ocw
 split at h
 ·rename_i e;cases h;rw [beq_iff_eq.1 e];exact t141
 split at h
 ·rename_i e;cases h;rw [beq_iff_eq.1 e];exact t143
 split at h
 ·rename_i e;cases h;rw [beq_iff_eq.1 e];exact Ocu
 split at h
 ·rename_i e;cases h;rw [beq_iff_eq.1 e];exact t145
 split at h
 ·rename_i e;cases h;rw [beq_iff_eq.1 e];exact t154
 split at h
 ·rename_i e;cases h;rw [beq_iff_eq.1 e];exact t156
 split at h
 ·rename_i e;cases h;rw [beq_iff_eq.1 e];exact Ocj
 split at h
 ·rename_i e;cases h;rw [beq_iff_eq.1 e];exact t167
 split at h
 ·rename_i e;cases h;rw [beq_iff_eq.1 e];exact Oci
 split at h
 ·rename_i e;cases h;rw [beq_iff_eq.1 e];exact Och
 split at h
 ·rename_i e;cases h;rw [beq_iff_eq.1 e];exact t171
 split at h
 ·rename_i e;cases h;rw [beq_iff_eq.1 e];exact t95
 split at h
 ·rename_i e;cases h;rw [beq_iff_eq.1 e];exact Odf
 split at h
 ·rename_i e;cases h;rw [beq_iff_eq.1 e];exact Oc2
 split at h
 ·rename_i e;cases h;rw [beq_iff_eq.1 e];exact t130
 split at h
 ·rename_i e;cases h;rw [beq_iff_eq.1 e];exact Oc0
 split at h
 ·rename_i e;cases h;rw [beq_iff_eq.1 e];exact Ocv
 split at h
 ·rename_i e;cases h;rw [beq_iff_eq.1 e];exact t146
 split at h
 ·rename_i e;cases h;rw [beq_iff_eq.1 e];exact Ocs
 split at h
 ·rename_i e;cases h;rw [beq_iff_eq.1 e];exact t148
 split at h
 ·rename_i e;cases h;rw [beq_iff_eq.1 e];exact Ocr
 split at h
 ·rename_i e;cases h;rw [beq_iff_eq.1 e];exact Ocq
 split at h
 ·rename_i e;cases h;rw [beq_iff_eq.1 e];exact Ocp
 split at h
 ·rename_i e;cases h;rw [beq_iff_eq.1 e];exact t152
 split at h
 ·rename_i e;cases h;rw [beq_iff_eq.1 e];exact Oco
 split at h
 ·rename_i e;cases h;rw [beq_iff_eq.1 e];exact Ocn
 split at h
 ·rename_i e;cases h;rw [beq_iff_eq.1 e];exact t157
 split at h
 ·rename_i e;cases h;rw [beq_iff_eq.1 e];exact Ocm
 split at h
 ·rename_i e;cases h;rw [beq_iff_eq.1 e];exact t159
 split at h
 ·rename_i e;cases h;rw [beq_iff_eq.1 e];exact t160
 split at h
 ·rename_i e;cases h;rw [beq_iff_eq.1 e];exact Ocl
 split at h
 ·rename_i e;cases h;rw [beq_iff_eq.1 e];exact t162
 split at h
 ·rename_i e;cases h;rw [beq_iff_eq.1 e];exact Ock
 split at h
 ·rename_i e;cases h;rw [beq_iff_eq.1 e];exact t164
 split at h
 ·rename_i e;cases h;rw [beq_iff_eq.1 e];exact t168
 split at h
 ·rename_i e;cases h;rw [beq_iff_eq.1 e];exact Ocg
 split at h
 ·rename_i e;cases h;rw [beq_iff_eq.1 e];exact t173
 split at h
 ·rename_i e;cases h;rw [beq_iff_eq.1 e];exact Ocf
 split at h
 ·rename_i e;cases h;rw [beq_iff_eq.1 e];exact t175
 split at h
 ·rename_i e;cases h;rw [beq_iff_eq.1 e];exact Oce
 split at h
 ·rename_i e;cases h;rw [beq_iff_eq.1 e];exact Ocd
 split at h
 ·rename_i e;cases h;rw [beq_iff_eq.1 e];exact Occ
 split at h
 ·rename_i e;cases h;rw [beq_iff_eq.1 e];exact Ocb
 split at h
 ·rename_i e;cases h;rw [beq_iff_eq.1 e];exact Oca
 split at h
 ·rename_i e;cases h;rw [beq_iff_eq.1 e];exact Ob9
 split at h
 ·rename_i e;cases h;rw [beq_iff_eq.1 e];exact t182
 split at h
 ·rename_i e;cases h;rw [beq_iff_eq.1 e];exact t183
 split at h
 ·rename_i e;cases h;rw [beq_iff_eq.1 e];exact Ob8
 split at h
 ·rename_i e;cases h;rw [beq_iff_eq.1 e];exact Ob7
 split at h
 ·rename_i e;cases h;rw [beq_iff_eq.1 e];exact Ob6
 split at h
 ·rename_i e;cases h;rw [beq_iff_eq.1 e];exact Ob5
 split at h
 ·rename_i e;cases h;rw [beq_iff_eq.1 e];exact Ob4
 split at h
 ·rename_i e;cases h;rw [beq_iff_eq.1 e];exact Ob3
 split at h
 ·rename_i e;cases h;rw [beq_iff_eq.1 e];exact Ob2
 split at h
 ·rename_i e;cases h;rw [beq_iff_eq.1 e];exact Ob1
 split at h
 ·rename_i e;cases h;rw [beq_iff_eq.1 e];exact Ob0
 split at h
 ·rename_i e;cases h;rw [beq_iff_eq.1 e];exact t193
 cases h
theorem ok0:EnvOk Tryz.prog E0:=⟨tr_ok,(fun _ _ _ h=>by cases h),(fun _ _ _ h=>by cases h),(fun _ _ _ h=>by cases h),by kernel_rfl,(fun _ _ _ _ h=>by cases h),(fun _ _ _ _ h=>by cases h)⟩
end Go.Proofs.YtkppjkkkdpcgiaaGreat.Fn


namespace Go.Proofs.YtkppjkkkdpcgiaaGreat
open Go.AM Go.AM.Sym Go.RowKit Go.Scan
abbrev off:Fn.OB:=⟨fun _=>false,fun _ _ _=>none,fun _ _ _ _ _=>rfl⟩
noncomputable abbrev mid:Fn.OB:=⟨fun _=>false,Fn.effO,Fn.effO_no⟩
noncomputable abbrev Nud:Fn.OB:=⟨fun g=>g == 18,Fn.effO,Fn.effO_no⟩
theorem Obz:@Fn.Ef off=Fn.E0:=by
 unfold Fn.Ef Fn.E0
 congr 1
 funext g xs
 unfold Fn.orc
 rw [Ng fun h=>by cases h.2.1]
theorem Nr4:EnvOk Tryz.prog (@Fn.Ef off):=Obz▸Fn.ok0
theorem atoms (L:List Ev):∀x∈L.flatMap Fn.encE,atom x=true:=fun x a=>by
 obtain ⟨e,_,h⟩:=List.mem_flatMap.1 a
 simp only [Fn.encE,Nr,Oe,or_false] at h
 rcases h with rfl | rfl | rfl | rfl | rfl | rfl | rfl<;>rfl
theorem Nnf {g:FuncId} {vs:List Value} {L:List Ev} {H:NE} (h:NK (@Fn.Ef off) false H.length g vs H fun v H'=>∃G p c,v=.tuple #[.slice p L.length c,Vi 0]/\H'=G++[]/\Own H.length G Fn.encE 7 p c L/\(L=[]->p=none)) {lim:Nat} {W:Nat->Prop} {σ:PK} {w:World} {b:List Value}
  (a:Inv (Prg.mk Tryz.prog Fn.pf) W lim σ H w) (i:OM σ vs b):Calls Tryz.prog g b.toArray w (Tx (Prg.mk Tryz.prog Fn.pf) W lim σ H (Fn.effL H.length L).1 (H++news (Fn.effL H.length L).2) w):=by
 unfold Fn.effL
 by_cases hL:L=[]
 ·rw [Ni hL]
  subst hL
  refine Nfr Nr4 rfl ?_ a i
  refine NK.mono h fun v H' e=>?_
  obtain ⟨G,p,c,rfl,_,d,hp⟩:=e
  rcases d with ⟨_,rfl,rfl⟩ | ⟨R,rfl,rfl,f,_⟩
  ·rfl
  ·have:=hp rfl;cases this
 ·rw [Ng hL]
  refine Nvz Nr4 (atoms L) (NK.mono h fun v H' e=>?_) a i
  obtain ⟨G,p,c,rfl,rfl,d,_⟩:=e
  rcases d with ⟨h0,_⟩ | ⟨R,rfl,rfl,f,hl⟩
  ·exact absurd h0 hL
  ·exact ⟨R,rfl,by rw [Nb];exact f,hl⟩
theorem Nic {g:FuncId} {vs:List Value} {H:NE} {r} (h:Fn.effO g vs H=some r) {lim:Nat} {W:Nat->Prop} {σ:PK} {w:World} {b:List Value} (a:Inv (Prg.mk Tryz.prog Fn.pf) W lim σ H w) (d:OM σ vs b):Calls Tryz.prog g b.toArray w (Tx (Prg.mk Tryz.prog Fn.pf) W lim σ H r.1 (H++news r.2) w):=by
 obtain ⟨i,p,c,S,rfl,hn,hs,rfl⟩:=Fn.effO_some h
 by_cases hS:Rt S
 ·rcases i with rfl | rfl
  ·have e:Fn.effR (decide ((36:Nat)=36)) H.length S=Fn.effL H.length (OJ S).1:=Ni hS
   rw [e]
   exact Nnf (@Fn.Order_ok off (fun _ _=>rfl) _ _ _ _ _ _ hs hS (Nd _) fun G kp kc h1 _ f=>⟨G,kp,kc,rfl,rfl,h1,f⟩) a d
  ·have e:Fn.effR (decide ((27:Nat)=36)) H.length S=Fn.effL H.length (OJ S).2:=Ni hS
   rw [e]
   exact Nnf (@Fn.Doubled_ok off (fun _ _=>rfl) _ _ _ _ _ _ hs hS (Nd _) fun G kp kc h1 _ f=>⟨G,kp,kc,rfl,rfl,h1,f⟩) a d
 ·rw [Fn.effR_no hS]
  rcases i with rfl | rfl
  ·exact Nfr Nr4 rfl (by rw [@Fn.Order_no off (fun _ _=>rfl) _ _ _ _ _ _ hs hn hS]) a d
  ·exact Nfr Nr4 rfl (by rw [@Fn.Doubled_no off (fun _ _=>rfl) _ _ _ _ _ _ hs hn hS]) a d
theorem N10 {g:FuncId} {vs:List Value} {H:NE} {r} (h:Fn.effO g vs H=some r):∃fn,Tryz.prog.funcs[g]? = some fn/\fn.body.isSome=true/\(fn.name == "runtime.NumGoroutine")=false:=by
 have key:∀{g af},Fn.tr g=some af->∃fn,Tryz.prog.funcs[g]? = some fn/\fn.body.isSome=true/\(fn.name == "runtime.NumGoroutine")=false:=fun {g af} h=>by
  obtain ⟨fn,body,md,c,rs,hfn,hb,hc,hrs,hn,_⟩:=ZX (Fn.tr_ok g af h)
  exact ⟨fn,hfn,by rw [hb];rfl,hn⟩
 obtain ⟨hg,_⟩:=Fn.effO_some h
 rcases hg with rfl | rfl
 ·exact key Fn.e36
 ·exact key Fn.e27
theorem N6c:EnvOk Tryz.prog (@Fn.E mid):=by
 have no:∀g xs v,(@Fn.E mid).orc g xs≠some v:=by
  intro g xs v h
  simp only [Fn.E,Fn.orc] at h
  rw [Ng fun h=>by cases h.2.1] at h
  cases h
 exact ⟨Fn.tr_ok,fun g xs v h=>absurd h (no g xs v),fun g xs v h=>absurd h (no g xs v),fun g xs v h=>absurd h (no g xs v),Fn.ok0.mixed,fun g xs H r h=>N10 h,fun g xs H r h lim hl W σ w c a b=>Nic h a b⟩
theorem Nih:∃n L,R4 (@Fn.E mid) n false 0 (.inl 18) [] []=some L/\∀r∈L,r.1=.bool true:=by
 have h:NK (@Fn.E mid) false 0 18 [] [] (fun v H'=>v=.bool true):=by
  rw [@Fn.awake_go mid (fun _ _ _=>rfl) rfl]
 obtain ⟨n,L,h1,h2⟩:=h
 exact ⟨n,L,h1,h2.2⟩
theorem Nns (w:World):Calls Tryz.prog 18 #[] w fun e w'=>e=.returned (.bool true)/\Below w.heap.size w w':=by
 obtain ⟨n,L,h,hL⟩:=Nih
 refine ((Nan N6c n).calls _ _ _ _ _ _ h (Nd _) _ _ w [] (Inv.nil (P:=Tryz.prog) (E:=@Fn.E mid) w) OM.nil).mono fun e w' hp=>?_
 obtain ⟨r,hr,v',c,rfl,b,_,a,_⟩:=hp
 rw [hL r hr] at b
 rw [b.bool_left]
 exact ⟨rfl,a.os,a.tape,a.output,a.size,fun k hk=>a.block k (by omega)⟩
theorem N2o:∃fn,Tryz.prog.funcs[18]? = some fn/\fn.body.isSome=true/\(fn.name == "runtime.NumGoroutine")=false:=by
 obtain ⟨n,L,h,_⟩:=Nih
 exact (Nan N6c n).fn _ _ _ _ _ _ h
theorem Oa1:EnvOk Tryz.prog (@Fn.E Nud):=by
 have key:∀g xs v,(@Fn.E Nud).orc g xs=some v->g=18/\xs=[]/\v=.bool true:=by
  intro g xs v h
  simp only [Fn.E,Fn.orc] at h
  split at h
  ·rename_i hc;cases h
   exact ⟨hc.1,hc.2.2,rfl⟩
  ·cases h
 refine ⟨Fn.tr_ok,fun g xs v h=>?_,fun g xs v h w=>?_,fun g xs v h σ=>?_,Fn.ok0.mixed,fun g xs H r h=>N10 h,fun g xs H r h lim hl W σ w c a b=>Nic h a b⟩
 ·obtain ⟨rfl,rfl,rfl⟩:=key g xs v h;exact N2o
 ·obtain ⟨rfl,rfl,rfl⟩:=key g xs v h;exact Nns w
 ·obtain ⟨rfl,rfl,rfl⟩:=key g xs v h;exact .atom rfl
theorem own:ownKnob Tryz.prog.godebug=none:=by kernel_rfl
theorem laidOut:laidOutB Tryz.prog=true:=by kernel_rfl
theorem Obh:@Fn.EffOk Nud:=fun _ _ _=>rfl
abbrev Nd2:Ty:=.pair (.int .u8) (.pair (.int .u8) (.pair (.int .u8) (.pair (.int .u8) (.pair (.int .u8) (.pair (.int .u8) .nil)))))
def Nx5 (x:Nd2.den):Fn.RL:=⟨x.1,x.2.1,x.2.2.1,x.2.2.2.1,x.2.2.2.2.1,x.2.2.2.2.2.1⟩
theorem N3n (H:NE) (x:Nd2.den) (c:List Value) (h:Yj Nd2 H x c):c=Fn.encR (Nx5 x):=by
 obtain ⟨g,m,rfl,h1,i,r2,rfl,h2,j,n,rfl,a,k,o,rfl,b,l,p,rfl,d,c6,r6,rfl,e,f⟩:=h
 simp only [Yj] at h1 h2 a b d e f
 rw [h1.1,h2.1,a.1,b.1,d.1,e.1,f]
 rfl
theorem N7l (H:NE) (x:Nd2.den) (c:List Value) (h:Yj Nd2 H x c):Fn.ByR (Nx5 x):=by
 obtain ⟨f,m,rfl,h1,g,r2,rfl,h2,i,n,rfl,a,j,o,rfl,b,k,p,rfl,d,c6,r6,rfl,e,l⟩:=h
 simp only [Yj] at h1 h2 a b d e
 exact ⟨⟨h1.2.1,h1.2.2⟩,⟨h2.2.1,h2.2.2⟩,⟨a.2.1,a.2.2⟩,⟨b.2.1,b.2.2⟩,⟨d.2.1,d.2.2⟩,⟨e.2.1,e.2.2⟩⟩
theorem Nyi {H:NE} {l:List Nd2.den} {v:Value} (h:WV (.slice Nd2) H l v):∃p k,∃a:List Fn.RL,v=.slice p a.length k/\Sl H Fn.encR 6 p a/\(∀x∈a,Fn.ByR x)/\Uj 6 k a.length/\a.length<2 ^ 63:=by
 obtain ⟨p,k,e,h1,b,h2⟩:=Na7 (t:=Nd2) Nx5 Fn.encR N3n h
 refine ⟨p,k,_,e,h1,fun x d=>?_,b,h2⟩
 obtain ⟨y,f,rfl⟩:=List.mem_map.1 d
 obtain ⟨c,hc⟩:=Yj.slice_mem (h.one rfl) y f
 exact N7l H y c hc
abbrev tFo:Ty:=.pair (.int .u8) (.pair (.int .u8) (.pair (.int .u8) (.pair (.int .u8) (.pair (.int .u16) (.pair (.int .u8) .nil)))))
def N7i (x:tFo.den):Fn.Fo:=⟨x.1,x.2.1,x.2.2.1,x.2.2.2.1,x.2.2.2.2.1,x.2.2.2.2.2.1⟩
theorem N8i (H:NE) (x:tFo.den) (c:List Value) (h:Yj tFo H x c):c=Fn.encF (N7i x):=by
 obtain ⟨g,m,rfl,h1,i,r2,rfl,h2,j,n,rfl,a,k,o,rfl,b,l,p,rfl,d,c6,r6,rfl,e,f⟩:=h
 simp only [Yj] at h1 h2 a b d e f
 rw [h1.1,h2.1,a.1,b.1,d.1,e.1,f]
 rfl
theorem Obg (H:NE) (x:tFo.den) (c:List Value) (h:Yj tFo H x c):Fn.FoOk (N7i x):=by
 obtain ⟨f,m,rfl,h1,g,r2,rfl,h2,i,n,rfl,a,j,o,rfl,b,k,p,rfl,d,c6,r6,rfl,e,l⟩:=h
 simp only [Yj] at h1 h2 a b d e
 exact ⟨⟨h1.2.1,h1.2.2⟩,⟨h2.2.1,h2.2.2⟩,⟨a.2.1,a.2.2⟩,⟨b.2.1,b.2.2⟩,⟨d.2.1,d.2.2⟩,⟨e.2.1,e.2.2⟩⟩
theorem Nvl {H:NE} {l:List tFo.den} {v:Value} (h:WV (.slice tFo) H l v):∃p k,∃a:List Fn.Fo,v=.slice p a.length k/\Sl H Fn.encF 6 p a/\(∀x∈a,Fn.FoOk x)/\Uj 6 k a.length/\a.length<2 ^ 63:=by
 obtain ⟨p,k,e,h1,b,h2⟩:=Na7 (t:=tFo) N7i Fn.encF N8i h
 refine ⟨p,k,_,e,h1,fun x d=>?_,b,h2⟩
 obtain ⟨y,f,rfl⟩:=List.mem_map.1 d
 obtain ⟨c,hc⟩:=Yj.slice_mem (h.one rfl) y f
 exact Obg H y c hc
theorem Nv4 (H:NE) (x:(Ty.int .i8).den) (c:List Value) (h:Yj (.int .i8) H x c):c=Fn.encB (id x):=h.1
theorem Nq4 {H:NE} {l:List (Ty.int .i8).den} {v:Value} (h:WV (.slice (.int .i8)) H l v):∃p k,∃a:List Int,v=.slice p a.length k/\Sl H Fn.encB 1 p a/\Fn.ClOk a/\a.length<2 ^ 63:=by
 obtain ⟨p,k,e,h1,f,h2⟩:=Na7 (t:=.int .i8) id Fn.encB Nv4 h
 refine ⟨p,k,_,e,h1,fun x b=>?_,h2⟩
 obtain ⟨y,d,rfl⟩:=List.mem_map.1 b
 obtain ⟨c,hc⟩:=Yj.slice_mem (h.one rfl) y d
 exact ⟨hc.2.1,hc.2.2⟩
theorem Nso {k:IntKind} {H:NE} {n:Int} {v:Value} (h:WV (.int k) H n v):v=.int k n/\k.min<=n/\n<=k.max:=by
 unfold WV at h
 rw [Ng (by simp [isRow])] at h
 obtain ⟨e,h⟩:=h
 cases e
 exact ⟨rfl,h⟩
end Go.Proofs.YtkppjkkkdpcgiaaGreat


