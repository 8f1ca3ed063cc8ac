/-
  Joined texts, 8 of 8. A part of the claim that the last text states.
-/
import Derived.Test.YtancgcogjokfcaaGreatDoorProg
import Derived.Test.YtancgcogjokfcaaGreatDoorRows
import Derived.Shelf.Strconv.ErrVarParseInt
import Derived.Shelf.Strconv.Itoa4
import Derived.Lib.AppendIntMem
import Derived.Stop.LaidErr
import Derived.LaidLaws
import Derived.LaidHandle
import Derived.LaidByTextLater
import Derived.SevenTiedAt
import Derived.JoinedOf
import Derived.Test.YtancgcogjokfcaaGreatDoorPB7
set_option linter.unusedVariables false
set_option linter.unusedSimpArgs false
set_option linter.defProp false
set_option linter.unusedSectionVars false
set_option maxRecDepth 100000
set_option maxHeartbeats 4000000
namespace Go.Proofs.YtancgcogjokfcaaGreatDoor.Fn
open Go.AM
theorem t11:NT Tryz.prog pf 11=some a11:=by kernel_rfl
theorem t12:NT Tryz.prog pf 12=some a12:=by kernel_rfl
theorem t13:NT Tryz.prog pf 13=some a13:=by kernel_rfl
theorem t14:NT Tryz.prog pf 14=some a14:=by kernel_rfl
theorem t15:NT Tryz.prog pf 15=some a15:=by kernel_rfl
theorem t16:NT Tryz.prog pf 16=some a16:=by kernel_rfl
theorem t18:NT Tryz.prog pf 18=some a18:=by kernel_rfl
theorem t22:NT Tryz.prog pf 22=some a22:=by kernel_rfl
theorem t23:NT Tryz.prog pf 23=some a23:=by kernel_rfl
theorem t26:NT Tryz.prog pf 26=some a26:=by kernel_rfl
theorem t44:NT Tryz.prog pf 44=some a44:=by kernel_rfl
theorem t45:NT Tryz.prog pf 45=some a45:=by kernel_rfl
theorem t46:NT Tryz.prog pf 46=some a46:=by kernel_rfl
theorem t47:NT Tryz.prog pf 47=some a47:=by kernel_rfl
theorem t48:NT Tryz.prog pf 48=some a48:=by kernel_rfl
theorem t49:NT Tryz.prog pf 49=some a49:=by kernel_rfl
theorem t50:NT Tryz.prog pf 50=some a50:=by kernel_rfl
theorem t51:NT Tryz.prog pf 51=some a51:=by kernel_rfl
theorem t52:NT Tryz.prog pf 52=some a52:=by kernel_rfl
theorem t53:NT Tryz.prog pf 53=some a53:=by kernel_rfl
theorem t54:NT Tryz.prog pf 54=some a54:=by kernel_rfl
theorem t55:NT Tryz.prog pf 55=some a55:=by kernel_rfl
theorem Nyc:NT Tryz.prog pf 101=some Nob:=by kernel_rfl
theorem Nyb:NT Tryz.prog pf 102=some Noa:=by kernel_rfl
theorem Nya:NT Tryz.prog pf 103=some Nn9:=by kernel_rfl
theorem Nx9:NT Tryz.prog pf 104=some Nn8:=by kernel_rfl
theorem t105:NT Tryz.prog pf 105=some a105:=by kernel_rfl
theorem Nx8:NT Tryz.prog pf 106=some Nn7:=by kernel_rfl
theorem t131:NT Tryz.prog pf 131=some a131:=by kernel_rfl
theorem t143:NT Tryz.prog pf 143=some a143:=by kernel_rfl
theorem Nx1:NT Tryz.prog pf 144=some Nn2:=by kernel_rfl
theorem t145:NT Tryz.prog pf 145=some a145:=by kernel_rfl
theorem t146:NT Tryz.prog pf 146=some a146:=by kernel_rfl
theorem Nx0:NT Tryz.prog pf 147=some Nn1:=by kernel_rfl
theorem t148:NT Tryz.prog pf 148=some a148:=by kernel_rfl
theorem Nxz:NT Tryz.prog pf 149=some Nn0:=by kernel_rfl
theorem Nxy:NT Tryz.prog pf 150=some Nnz:=by kernel_rfl
theorem Nxx:NT Tryz.prog pf 151=some Nny:=by kernel_rfl
theorem t160:NT Tryz.prog pf 160=some a160:=by kernel_rfl
theorem t173:NT Tryz.prog pf 173=some a173:=by kernel_rfl
theorem Nxv:NT Tryz.prog pf 174=some Nnw:=by kernel_rfl
theorem t7:NT Tryz.prog pf 7=some a7:=by kernel_rfl
theorem t17:NT Tryz.prog pf 17=some a17:=by kernel_rfl
theorem t24:NT Tryz.prog pf 24=some a24:=by kernel_rfl
theorem t25:NT Tryz.prog pf 25=some a25:=by kernel_rfl
theorem t28:NT Tryz.prog pf 28=some a28:=by kernel_rfl
theorem t29:NT Tryz.prog pf 29=some a29:=by kernel_rfl
theorem t30:NT Tryz.prog pf 30=some a30:=by kernel_rfl
theorem t32:NT Tryz.prog pf 32=some a32:=by kernel_rfl
theorem t33:NT Tryz.prog pf 33=some a33:=by kernel_rfl
theorem t34:NT Tryz.prog pf 34=some a34:=by kernel_rfl
theorem t36:NT Tryz.prog pf 36=some a36:=by kernel_rfl
theorem t40:NT Tryz.prog pf 40=some a40:=by kernel_rfl
theorem t43:NT Tryz.prog pf 43=some a43:=by kernel_rfl
theorem t66:NT Tryz.prog pf 66=some a66:=by kernel_rfl
theorem t67:NT Tryz.prog pf 67=some a67:=by kernel_rfl
theorem t68:NT Tryz.prog pf 68=some a68:=by kernel_rfl
theorem t69:NT Tryz.prog pf 69=some a69:=by kernel_rfl
theorem t70:NT Tryz.prog pf 70=some a70:=by kernel_rfl
theorem t71:NT Tryz.prog pf 71=some a71:=by kernel_rfl
theorem t72:NT Tryz.prog pf 72=some a72:=by kernel_rfl
theorem t73:NT Tryz.prog pf 73=some a73:=by kernel_rfl
theorem t74:NT Tryz.prog pf 74=some a74:=by kernel_rfl
theorem t75:NT Tryz.prog pf 75=some a75:=by kernel_rfl
theorem t76:NT Tryz.prog pf 76=some a76:=by kernel_rfl
theorem t77:NT Tryz.prog pf 77=some a77:=by kernel_rfl
theorem t78:NT Tryz.prog pf 78=some a78:=by kernel_rfl
theorem t79:NT Tryz.prog pf 79=some a79:=by kernel_rfl
theorem t80:NT Tryz.prog pf 80=some a80:=by kernel_rfl
theorem t81:NT Tryz.prog pf 81=some a81:=by kernel_rfl
theorem t82:NT Tryz.prog pf 82=some a82:=by kernel_rfl
theorem t83:NT Tryz.prog pf 83=some a83:=by kernel_rfl
theorem Nx7:NT Tryz.prog pf 113=some Nn6:=by kernel_rfl
theorem t116:NT Tryz.prog pf 116=some a116:=by kernel_rfl
theorem t117:NT Tryz.prog pf 117=some a117:=by kernel_rfl
theorem Nx6:NT Tryz.prog pf 118=some Njx:=by kernel_rfl
theorem t119:NT Tryz.prog pf 119=some a119:=by kernel_rfl
theorem Nx5:NT Tryz.prog pf 120=some Nn5:=by kernel_rfl
theorem Nx4:NT Tryz.prog pf 121=some Nn4:=by kernel_rfl
theorem Nx3:NT Tryz.prog pf 122=some Njw:=by kernel_rfl
theorem Nx2:NT Tryz.prog pf 123=some Nn3:=by kernel_rfl
theorem t152:NT Tryz.prog pf 152=some a152:=by kernel_rfl
theorem Nxw:NT Tryz.prog pf 153=some Nnx:=by kernel_rfl
def E0:Env:=⟨tr,pf,fun _ _=>none,false,fun _ _ _=>none⟩
theorem tr_ok (g:FuncId) (af:AFunc) (h:tr g=some af):NT Tryz.prog pf g=some af:=by
 unfold tr table at h
 simp only [List.lookup] at h
 split at h
 ·rename_i e;cases h;rw [beq_iff_eq.1 e];exact t11
 split at h
 ·rename_i e;cases h;rw [beq_iff_eq.1 e];exact t12
 split at h
 ·rename_i e;cases h;rw [beq_iff_eq.1 e];exact t13
 split at h
 ·rename_i e;cases h;rw [beq_iff_eq.1 e];exact t14
 split at h
 ·rename_i e;cases h;rw [beq_iff_eq.1 e];exact t15
 split at h
 ·rename_i e;cases h;rw [beq_iff_eq.1 e];exact t16
 split at h
 ·rename_i e;cases h;rw [beq_iff_eq.1 e];exact t18
 split at h
 ·rename_i e;cases h;rw [beq_iff_eq.1 e];exact t22
 split at h
 ·rename_i e;cases h;rw [beq_iff_eq.1 e];exact t23
 split at h
 ·rename_i e;cases h;rw [beq_iff_eq.1 e];exact t26
 split at h
 ·rename_i e;cases h;rw [beq_iff_eq.1 e];exact t44
 split at h
 ·rename_i e;cases h;rw [beq_iff_eq.1 e];exact t45
 split at h
 ·rename_i e;cases h;rw [beq_iff_eq.1 e];exact t46
 split at h
 ·rename_i e;cases h;rw [beq_iff_eq.1 e];exact t47
 split at h
 ·rename_i e;cases h;rw [beq_iff_eq.1 e];exact t48
 split at h
 ·rename_i e;cases h;rw [beq_iff_eq.1 e];exact t49
 split at h
 ·rename_i e;cases h;rw [beq_iff_eq.1 e];exact t50
 split at h
 ·rename_i e;cases h;rw [beq_iff_eq.1 e];exact t51
 split at h
 ·rename_i e;cases h;rw [beq_iff_eq.1 e];exact t52
 split at h
 ·rename_i e;cases h;rw [beq_iff_eq.1 e];exact t53
 split at h
 ·rename_i e;cases h;rw [beq_iff_eq.1 e];exact t54
 split at h
 ·rename_i e;cases h;rw [beq_iff_eq.1 e];exact t55
 split at h
 ·rename_i e;cases h;rw [beq_iff_eq.1 e];exact Nyc
 split at h
 ·rename_i e;cases h;rw [beq_iff_eq.1 e];exact Nyb
 split at h
 ·rename_i e;cases h;rw [beq_iff_eq.1 e];exact Nya
 split at h
 ·rename_i e;cases h;rw [beq_iff_eq.1 e];exact Nx9
 split at h
 ·rename_i e;cases h;rw [beq_iff_eq.1 e];exact t105
 split at h
 ·rename_i e;cases h;rw [beq_iff_eq.1 e];exact Nx8
 split at h
 ·rename_i e;cases h;rw [beq_iff_eq.1 e];exact t131
 split at h
 ·rename_i e;cases h;rw [beq_iff_eq.1 e];exact t143
 split at h
 ·rename_i e;cases h;rw [beq_iff_eq.1 e];exact Nx1
 split at h
 ·rename_i e;cases h;rw [beq_iff_eq.1 e];exact t145
 split at h
 ·rename_i e;cases h;rw [beq_iff_eq.1 e];exact t146
 split at h
 ·rename_i e;cases h;rw [beq_iff_eq.1 e];exact Nx0
 split at h
 ·rename_i e;cases h;rw [beq_iff_eq.1 e];exact t148
 split at h
 ·rename_i e;cases h;rw [beq_iff_eq.1 e];exact Nxz
 split at h
 ·rename_i e;cases h;rw [beq_iff_eq.1 e];exact Nxy
 split at h
 ·rename_i e;cases h;rw [beq_iff_eq.1 e];exact Nxx
 split at h
 ·rename_i e;cases h;rw [beq_iff_eq.1 e];exact t160
 split at h
 ·rename_i e;cases h;rw [beq_iff_eq.1 e];exact t173
 split at h
 ·rename_i e;cases h;rw [beq_iff_eq.1 e];exact Nxv
 split at h
 ·rename_i e;cases h;rw [beq_iff_eq.1 e];exact t7
 split at h
 ·rename_i e;cases h;rw [beq_iff_eq.1 e];exact t17
 split at h
 ·rename_i e;cases h;rw [beq_iff_eq.1 e];exact t24
 split at h
 ·rename_i e;cases h;rw [beq_iff_eq.1 e];exact t25
 split at h
 ·rename_i e;cases h;rw [beq_iff_eq.1 e];exact t28
 split at h
 ·rename_i e;cases h;rw [beq_iff_eq.1 e];exact t29
 split at h
 ·rename_i e;cases h;rw [beq_iff_eq.1 e];exact t30
 split at h
 ·rename_i e;cases h;rw [beq_iff_eq.1 e];exact t32
 split at h
 ·rename_i e;cases h;rw [beq_iff_eq.1 e];exact t33
 split at h
 ·rename_i e;cases h;rw [beq_iff_eq.1 e];exact t34
 split at h
 ·rename_i e;cases h;rw [beq_iff_eq.1 e];exact t36
 split at h
 ·rename_i e;cases h;rw [beq_iff_eq.1 e];exact t40
 split at h
 ·rename_i e;cases h;rw [beq_iff_eq.1 e];exact t43
 split at h
 ·rename_i e;cases h;rw [beq_iff_eq.1 e];exact t66
 split at h
 ·rename_i e;cases h;rw [beq_iff_eq.1 e];exact t67
 split at h
 ·rename_i e;cases h;rw [beq_iff_eq.1 e];exact t68
 split at h
 ·rename_i e;cases h;rw [beq_iff_eq.1 e];exact t69
 split at h
 ·rename_i e;cases h;rw [beq_iff_eq.1 e];exact t70
 split at h
 ·rename_i e;cases h;rw [beq_iff_eq.1 e];exact t71
 split at h
 ·rename_i e;cases h;rw [beq_iff_eq.1 e];exact t72
 split at h
 ·rename_i e;cases h;rw [beq_iff_eq.1 e];exact t73
 split at h
 ·rename_i e;cases h;rw [beq_iff_eq.1 e];exact t74
 split at h
 ·rename_i e;cases h;rw [beq_iff_eq.1 e];exact t75
 split at h
 ·rename_i e;cases h;rw [beq_iff_eq.1 e];exact t76
 split at h
 ·rename_i e;cases h;rw [beq_iff_eq.1 e];exact t77
 split at h
 ·rename_i e;cases h;rw [beq_iff_eq.1 e];exact t78
 split at h
 ·rename_i e;cases h;rw [beq_iff_eq.1 e];exact t79
 split at h
 ·rename_i e;cases h;rw [beq_iff_eq.1 e];exact t80
 split at h
 ·rename_i e;cases h;rw [beq_iff_eq.1 e];exact t81
 split at h
 ·rename_i e;cases h;rw [beq_iff_eq.1 e];exact t82
 split at h
 ·rename_i e;cases h;rw [beq_iff_eq.1 e];exact t83
 split at h
 ·rename_i e;cases h;rw [beq_iff_eq.1 e];exact Nx7
 split at h
 ·rename_i e;cases h;rw [beq_iff_eq.1 e];exact t116
 split at h
 ·rename_i e;cases h;rw [beq_iff_eq.1 e];exact t117
 split at h
 ·rename_i e;cases h;rw [beq_iff_eq.1 e];exact Nx6
 split at h
 ·rename_i e;cases h;rw [beq_iff_eq.1 e];exact t119
 split at h
 ·rename_i e;cases h;rw [beq_iff_eq.1 e];exact Nx5
 split at h
 ·rename_i e;cases h;rw [beq_iff_eq.1 e];exact Nx4
 split at h
 ·rename_i e;cases h;rw [beq_iff_eq.1 e];exact Nx3
 split at h
 ·rename_i e;cases h;rw [beq_iff_eq.1 e];exact Nx2
 split at h
 ·rename_i e;cases h;rw [beq_iff_eq.1 e];exact t152
 split at h
 ·rename_i e;cases h;rw [beq_iff_eq.1 e];exact Nxw
 cases h
theorem ok0:EnvOk Tryz.prog E0:=⟨tr_ok,(fun _ _ _ h=>by cases h),(fun _ _ _ h=>by cases h),(fun _ _ _ h=>by cases h),by kernel_rfl,(fun _ _ _ _ h=>by cases h),(fun _ _ _ _ h=>by cases h)⟩
end Go.Proofs.YtancgcogjokfcaaGreatDoor.Fn


namespace Go.Proofs.YtancgcogjokfcaaGreatDoor
open Go.AM Go.AM.Sym Go.RowKit Go.Shelf
abbrev Nf1:Fn.OA:=⟨false⟩
def Nu9:Ren:=⟨fun x=>(([174,247,245,287,279,280,281,282,321,322,316,171,205,243,246,283,284,285,286,129,317,318,319,320,337,338,173].zip [170,191,192,225,226,227,228,229,252,253,254,142,255,169,190,221,222,223,224,208,248,249,250,251,269,270,171]).lookup x).getD x,fun x=>(([9,3,2,75,85,4,167,5,53,175,46,168,37,0,210,21,127,145,143,171,173,212,51,20,213,232,233,80].zip [9,3,2,280,281,4,354,5,28,355,168,357,70,0,384,21,396,399,397,350,352,378,325,20,379,146,407,412]).lookup x).getD x,fun x=>(([15,16,17,18,19].zip [1,2,0,3,4]).lookup x).getD x⟩
theorem Ntd:LaysC.n174 Tryz.prog Nu9:=by constructor<;>first | kernel_rfl | (constructor<;>first | kernel_rfl | (constructor<;>first | kernel_rfl | (intro w;kernel_rfl)) | (intro w;kernel_rfl)) | (intro w;kernel_rfl)
theorem Nxl:LaysM.n171 Tryz.prog Nu9:=by constructor<;>first | kernel_rfl | (constructor<;>first | kernel_rfl | (constructor<;>first | kernel_rfl | (intro w;kernel_rfl)) | (intro w;kernel_rfl)) | (intro w;kernel_rfl)
theorem Nxm:LaysM.n173 Tryz.prog Nu9:=by constructor<;>first | kernel_rfl | (constructor<;>first | kernel_rfl | (constructor<;>first | kernel_rfl | (intro w;kernel_rfl)) | (intro w;kernel_rfl)) | (intro w;kernel_rfl)
theorem Nhi {P:Program} {n:String} {cs:Array Value} {w w0:World} (h:w0.var? P n=some cs) (hb:∀b,b<w0.heap.size->w.heap[b]? = w0.heap[b]?):w.var? P n=some cs:=by
 unfold World.var? at h⊢
 cases hg:P.globalNamed n with
 | none=>rw [hg] at h;cases h
 | some g=>
   rw [hg] at h
   simp only [Option.bind_some] at h⊢
   have a:g<w0.heap.size:=by
    rcases Ol g w0.heap.size with k | k
    ·exact k
    ·rw [Array.getElem?_eq_none k] at h;cases h
   rw [hb g a]
   exact h
theorem Nu1 {w:World} (b:Nol (Prg.mk Tryz.prog Fn.pf) w):Gl Tryz.prog w:=by
 obtain ⟨w0,⟨h1,⟨t,p,h2⟩,d,c,a⟩,_,hb⟩:=b
 exact ⟨Nhi h1 hb,⟨t,p,Nhi h2 hb⟩,d,c,Nhi a hb⟩
theorem Nmq {g:FuncId} {xs:List Value} {v:Value} (h:Fn.fmtO g xs=some v) (w:World) (b:Nol (Prg.mk Tryz.prog Fn.pf) w):Calls Tryz.prog g xs.toArray w fun e w'=>e=.returned v/\Below w.heap.size w w'/\Drw w.drawn w'.drawn:=by
 have a:=(Nu1 b).1
 unfold Fn.fmtO at h
 split at h
 ·split at h
  ·rename_i n hc
   obtain ⟨rfl,h0,h1⟩:=hc
   cases h
   refine (Any.strconv_Itoa Nxl n h0 h1 w a).mono fun e w' hp=>?_
   obtain ⟨rfl,k,os,rfl⟩:=hp
   exact ⟨by rw [Fn.itoaB_lib h0 h1],Go.Lib.below_grow _ w (Nd _) k os,trivial⟩
  ·cases h
 ·split at h
  ·rename_i n m hc
   obtain ⟨rfl,rfl,h0,h1⟩:=hc
   cases h
   refine (Any.strconv_FormatInt_10 Nxm n h0 h1 w a).mono fun e w' hp=>?_
   obtain ⟨rfl,k,os,rfl⟩:=hp
   exact ⟨by rw [Fn.itoaB_lib h0 h1],Go.Lib.below_grow _ w (Nd _) k os,trivial⟩
  ·cases h
 ·cases h
theorem Nfm {s:ByteArray} (f:s.size<=281474976710656) {w:World} (g:Nol (Prg.mk Tryz.prog Fn.pf) w) (σ:PQ):Calls Tryz.prog 170 #[.string s,Vi 10,Vi 64] w fun e w'=>∃v',e=.returned v'/\VRel σ (Fn.parseV s) v'/\Below w.heap.size w w':=by
 obtain ⟨_,⟨l,j,h1⟩,m,k,h2⟩:=Nu1 g
 have c:∀{n:Int} {a b:Value},VRel σ a b->VRel σ (.tuple #[Vi n,a]) (.tuple #[Vi n,b]):=fun {n a b} d=>.tuple rfl fun i k1 k2=>by
  rcases (show i=0\/i=1 by simp at k1;omega) with rfl | rfl
  ·exact .atom rfl
  ·exact d
 unfold Fn.parseV
 rcases hp:Go.Lib.parseIntB 64 s.data.toList with n | _ | _
 ·refine (Any.strconv_ParseInt_10_at64_ok Ntd s (by omega) n hp w).mono fun e w' h=>?_
  obtain ⟨rfl,h⟩:=h
  refine ⟨_,rfl,c (.atom rfl), ?_⟩
  rcases h with rfl | ⟨t,rfl⟩
  ·exact Below.refl _ _
  ·exact Go.Lib.bytesWorld_below _ _ _
 ·refine (Any.strconv_ParseInt_10_at64_syntax_var Ntd s f hp l j w h1).mono fun e w' h=>?_
  obtain ⟨N,rfl,_,_,hb⟩:=h
  exact ⟨_,rfl,c .err,hb⟩
 ·refine (Any.strconv_ParseInt_10_at64_range_var Ntd s f hp m k w h2).mono fun e w' h=>?_
  obtain ⟨N,rfl,_,_,hb⟩:=h
  exact ⟨_,rfl,c .err,hb⟩
theorem Nxh:EnvOk Tryz.prog (@Fn.E Nf1):=by
 have no:∀g xs v,(@Fn.E Nf1).orc g xs=some v->Fn.fmtO g xs=some v/\(g=142\/g=171):=by
  intro g xs v h
  simp only [Fn.E,Fn.orc] at h
  split at h
  ·rename_i hc;exact ⟨h,hc⟩
  ·rw [Ni fun h=>by cases h.2.1] at h;cases h
 have fl:∀{g xs v},Fn.fmtO g xs=some v->∃s,v=.string s:=by
  intro g xs v h
  unfold Fn.fmtO at h
  split at h
  ·split at h
   ·cases h;exact ⟨_,rfl⟩
   ·cases h
  ·split at h
   ·cases h;exact ⟨_,rfl⟩
   ·cases h
  ·cases h
 refine ⟨Fn.tr_ok,fun g xs v h=>?_,fun g xs v h w q=>Nmq (no g xs v h).1 w q,fun g xs v h σ=>?_,Fn.ok0.mixed,fun g xs H r h=>?_,fun g xs H r h lim hl t W σ w f a l=>?_⟩
 ·rcases (no g xs v h).2 with rfl | rfl
  ·exact ⟨_,Nxl.f171,rfl,rfl⟩
  ·exact ⟨_,Nxm.f173,rfl,rfl⟩
 ·obtain ⟨s,rfl⟩:=fl (no g xs v h).1
  exact .atom rfl
 ·simp only [Fn.E,Fn.effP] at h
  split at h
  ·rename_i e;subst e;exact ⟨_,Ntd.f174,rfl,rfl⟩
  ·cases h
 ·simp only [Fn.E,Fn.effP] at h
  split at h
  ·rename_i e;subst e
   unfold Fn.parseO at h
   split at h
   ·split at h
    ·rename_i s b z hc
     obtain ⟨rfl,rfl,o⟩:=hc
     cases h
     have c:f=[.string s,Vi 10,Vi 64]:=by
      apply O4 l.1.symm
      intro i h1 h2
      refine (l.2 i _ _ (Nf h2) (Nf h1)).eq_of_atom ?_
      rcases (show i=0\/i=1\/i=2 by simp at h2;omega) with rfl | rfl | rfl<;>rfl
     subst c
     refine (Nfm o a.toRoot.is σ).mono fun e w' hp=>?_
     obtain ⟨v',rfl,p,hb⟩:=hp
     have m:Nji H ([],none)=H:=by simp [Nji,No1,news]
     simp only [m]
     refine ⟨v',σ,rfl,p,a.world hb.size (fun k d=>hb.block k d),⟨hb.os,hb.tape,⟨hb.output,trivial⟩,hb.size,fun k d=>hb.block k ?_⟩,PQ.le_refl _,fun j n=>absurd rfl n⟩
     rcases Ol k w.heap.size with h | h
     ·exact h
     ·exact absurd (a.fresh k h) d
    ·cases h
   ·cases h
  ·cases h
theorem own:ownKnob Tryz.prog.godebug=none:=by kernel_rfl
theorem laidOut:laidOutB Tryz.prog=true:=by kernel_rfl
theorem Nyq:Tryz.prog.globalNamed "internal/strconv.uint64pow10"=some 0:=by kernel_rfl
theorem gES:Tryz.prog.globalNamed "strconv.ErrSyntax"=some 1:=by kernel_rfl
theorem gER:Tryz.prog.globalNamed "strconv.ErrRange"=some 2:=by kernel_rfl
theorem Nyr:(Tryz.prog.globals[1]?).map (·.type)=some 280:=by kernel_rfl
theorem Nys:(Tryz.prog.globals[2]?).map (·.type)=some 280:=by kernel_rfl
theorem Nul: "*"++ "errors.errorString"= "*errors.errorString":=by decide
theorem Nw2 (u:TypeId) (h:Tryz.prog.typeName? 3 u=some "*errors.errorString"):u=397:=
 typeName_ptr_named (nm:= "errors.errorString") (by rw [Nul];kernel_rfl) (by kernel_rfl) (by decide) u (by rw [Nul];exact h)
theorem Nu3:Tryz.prog.cellsOf 399=1:=by kernel_rfl
theorem ce9:Tryz.prog.cellsOf 9=1:=by kernel_rfl
abbrev Nam:List (String×DataW Unit):=[("math/bits.deBruijn32tab",Rows.laid_math_bits_deBruijn32tab),("math/bits.deBruijn64tab",Rows.laid_math_bits_deBruijn64tab),("internal/strconv.uint64pow10",Rows.laid_internal_strconv_uint64pow10),("strconv.ErrRange",Rows.laid_strconv_ErrRange),("strconv.ErrSyntax",Rows.laid_strconv_ErrSyntax)]
theorem Nqu {w:World} (h:laidMetH Tryz.prog Nam w):laidMet Tryz.prog Nam w:=h
theorem Ntq (w:World) (h:laidMetH Tryz.prog Nam w):Gl Tryz.prog w:=by
 have h0:=Nqu h
 have hT:Go.Lib.TabIs Tryz.prog w "internal/strconv.uint64pow10" .u64 Go.Lib.pow10Tab:=Go.Lib.tabIs_of_head (rest:=[("strconv.ErrRange",Rows.laid_strconv_ErrRange),("strconv.ErrSyntax",Rows.laid_strconv_ErrSyntax)]) (t:=378) (e:=28) (n:=20) Nyq (by kernel_rfl) (by kernel_rfl) (by kernel_rfl) (by kernel_rfl) (by kernel_rfl) h0.tail.tail
 obtain ⟨a0,s0,hv0,_⟩:=laid_sentinel h0.tail.tail.tail gER Nys Tryz.underlying280 Nw2 Tryz.underlying397 Tryz.underlying399 rfl rfl Tryz.underlying9 Nu3 ce9
 obtain ⟨a1,s1,hv1,_⟩:=laid_sentinel h0.tail.tail.tail.tail gES Nyr Tryz.underlying280 Nw2 Tryz.underlying397 Tryz.underlying399 rfl rfl Tryz.underlying9 Nu3 ce9
 exact ⟨hT,⟨_,_,hv1⟩,_,_,hv0⟩
abbrev Nyd:ByteArray:=⟨#[105,110,118,97,108,105,100,32,115,121,110,116,97,120]⟩
abbrev Nye:ByteArray:=⟨#[118,97,108,117,101,32,111,117,116,32,111,102,32,114,97,110,103,101]⟩
noncomputable def low:Nat:=(World.holding Tryz.prog default ⟨#[],#[],[]⟩).heap.size
def Nvp:DataW Unit->List Value
 | .lit (.int k n)=>[.int k n]
 | .agg l=>l.flatMap fun d=>match d with
   | .lit (.int k n)=>[.int k n]
   | _=>[]
 | _=>[]
def Npd (cs:Array Value):Obj->Obj
 | .cells _ t frozen=>.cells cs t frozen
 | o=>o
noncomputable def Nc0 (os:Os):World:=
 let w0:=World.holding Tryz.prog os ⟨#[.cells #[.string Nyd] 399,.cells #[.string Nye] 399],#[],[]⟩
 { w0 with heap:=((((w0.heap.modify 0 (Npd (Nvp Rows.laid_internal_strconv_uint64pow10).toArray)).modify 1 (Npd #[.iface 397 (Vp low)])).modify 2 (Npd #[.iface 397 (Vp (low+1))])).modify 3 (Npd (Nvp Rows.laid_math_bits_deBruijn32tab).toArray)).modify 4 (Npd (Nvp Rows.laid_math_bits_deBruijn64tab).toArray) }
theorem Nb6 (os:Os) (args:Array Value):laidMetH Tryz.prog Nam ((Nc0 os).forCall (fun _ _=>0) ⟨#[],args,[]⟩).memory:=
 laidMetH_of_parts (laidMet_of_run' 100 (by kernel_rfl) (by kernel_rfl)) (by kernel_rfl)
abbrev Mr:Ty:=.pair (.int .u8) (.pair (.int .u8) (.pair (.int .u8) (.pair (.int .u16) (.pair (.int .u64) .nil))))
def No3 (x:Mr.den):Fn.Stp:=⟨x.1,x.2.1,x.2.2.1,x.2.2.2.1,x.2.2.2.2.1⟩
theorem Nsm (H:NB) (x:Mr.den) (c:List Value) (h:Yu Mr H x c):c=Fn.encU (No3 x):=by
 obtain ⟨f,l,rfl,h1,g,m,rfl,h2,i,n,rfl,a,j,o,rfl,b,k,p,rfl,d,e⟩:=h
 simp only [Yu] at h1 h2 a b d e
 rw [h1.1,h2.1,a.1,b.1,d.1,e]
 rfl
theorem Nu8 (H:NB) (x:Mr.den) (c:List Value) (h:Yu Mr H x c):Fn.StOk (No3 x):=by
 obtain ⟨j,q,rfl,h1,l,r,rfl,h2,m,s,rfl,d,n,t,rfl,e,o,u,rfl,f,p⟩:=h
 simp only [Yu] at h1 h2 d e f
 have k1:(0:Int)<=x.1/\(x.1:Int)<=255:=h1.2
 have k2:(0:Int)<=x.2.1/\(x.2.1:Int)<=255:=h2.2
 have k3:(0:Int)<=x.2.2.1/\(x.2.2.1:Int)<=255:=d.2
 have g:(0:Int)<=x.2.2.2.1/\(x.2.2.2.1:Int)<=65535:=e.2
 have i:(0:Int)<=x.2.2.2.2.1/\(x.2.2.2.2.1:Int)<=18446744073709551615:=f.2
 have lt:∀{a b c:Int},0<=a/\a<=b->b<c->0<=a/\a<c:=fun h k=>⟨h.1,Int.lt_of_le_of_lt h.2 k⟩
 exact ⟨lt k1 (by decide),lt k2 (by decide),lt k3 (by decide),lt g (by decide),lt i (by decide)⟩
theorem No8 {H:NB} {l:List Mr.den} {v:Value} (h:WB (.slice Mr) H l v):∃p k,∃L:List Fn.Stp,v=.slice p L.length k/\Sl H Fn.encU 5 p L/\(∀x∈L,Fn.StOk x)/\L.length<2 ^ 63/\∀a,p=some a->L≠[]->∃c,NF H a.block=.cells true c:=by
 obtain ⟨p,k,e,h1,o,h2⟩:=Nla (t:=Mr) No3 Fn.encU Nsm h
 have h0:=WB.one rfl h
 refine ⟨p,k,_,e,h1,fun x m=>?_,h2,fun a f d=>?_⟩
 ·obtain ⟨y,n,rfl⟩:=List.mem_map.1 m
  obtain ⟨c,hc⟩:=Yu.slice_mem h0 y n
  exact Nu8 H y c hc
 ·obtain ⟨_,r,k',b,_,g⟩:=h0
  rw [e] at b
  have b:=List.singleton_inj.1 b
  injection b with q1 q2 q3
  subst q1
  obtain ⟨_,_,_,i⟩:=g a f
  obtain ⟨es,j,_⟩:=i fun q=>d (by rw [q];rfl)
  exact ⟨_,j⟩
end Go.Proofs.YtancgcogjokfcaaGreatDoor


