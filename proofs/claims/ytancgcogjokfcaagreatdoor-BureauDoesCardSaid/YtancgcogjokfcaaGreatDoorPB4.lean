/-
  Joined texts, 4 of 8. A part of the claim that the last text states.
-/
import Derived.Sort.AssemblyPlain
import Derived.Test.YtancgcogjokfcaaGreatDoorPB3
set_option linter.unusedVariables false
set_option linter.unusedSimpArgs false
set_option linter.defProp false
set_option linter.unusedSectionVars false
set_option maxRecDepth 100000
set_option maxHeartbeats 4000000
namespace Go.Proofs.YtancgcogjokfcaaGreatDoor.Fn
open Go.AM Go.AM.Sym
abbrev p (d n:Nat) (o:AOp):AIns:=⟨some d,some (n,true),o,none,[]⟩
abbrev q (d n:Nat) (o:AOp):AIns:=⟨some d,some (n,false),o,none,[]⟩
abbrev s (o:AOp):AIns:=⟨none,none,o,none,[]⟩
def pure:List FuncId:=[14,16,17,30,40,43,49,51,53,67,71,72,73,75,80,81,82,83,113,116,117,119,120,121,131,144,146,152,160,173,174]
def pf:FuncId->Bool:=fun f=>pure.contains f
def c11:ACode:=(Oz [i 0 (.mov (k (.pointer none)))] (Oz [i 1 (.makeMap none),i 2 (.makeMap none),i 3 (.build [(.pointer none),Vz,(.map none),(.map none),Vz] [(2,(1,(t 1))),(3,(1,(t 2)))]),i 4 (.box (t 3)),mT 0 4] .ret))
def a11:AFunc:=⟨5,[(.tmp 0)],c11⟩
theorem n11:a11.ntmps=5:=id rfl
theorem r11:a11.results=[(.tmp 0)]:=rfl
theorem b11:a11.body=c11:=rfl
def c12:ACode:=(Oz [i 3 (.box (t 1)),Zm 4 0] (Ds 0 [fT 7 1 3,lT 8 7,i 9 (.bin .rem (t 8) (k (.int .u8 6))),i 10 (.conv .i64 (t 9)),i 11 (.bin .add (zT 1) (t 10)),fT 12 2 3,lT 13 12,i 14 (.bin .rem (t 13) (k (.int .u8 16))),i 15 (.conv .i64 (t 14)),i 16 (.bin .add (zT 1) (t 15)),mT 5 11,mT 6 16] (.seq (Oz [fT 17 0 3,lT 18 17,i 19 (.bin .rem (t 18) (k (.int .u8 8)))] (.block 0 (Oz [i 21 (.bin .eql (t 19) (k (.int .u8 0))),mT 20 21] (.cond (t 20) (Oz [mT 22 0,mT 23 5,fT 24 3 3,lT 25 24,i 26 (.bin .rem (t 25) (k (.int .u16 26))),i 27 (.conv .u8 (t 26)),i 28 (.bin .add (k (.int .u8 97)) (t 27)),i 29 (.buildSlice 1 [(.int .u8 0)] [(0,(1,(t 28)))]),i 30 (.b2s (t 29)),i 31 (.bin .add (k (.string ⟨#[77]⟩)) (t 30)),Ct 32 44 [(t 22),(t 23),(t 31)],mT 4 32] .ret) (.seq (Oz [i 34 (.bin .eql (t 19) (k (.int .u8 1))),mT 33 34] (.cond (t 33) .skip (.ops [i 35 (.bin .eql (t 19) (k (.int .u8 2))),mT 33 35]))) (.cond (t 33) (Oz [mT 36 0,mT 37 5,fT 38 3 3,lT 39 38,i 40 (.conv .i64 (t 39)),Ct 41 45 [(t 36),(t 37),(t 40)],mT 4 41] .ret) (.seq (Oz [i 43 (.bin .eql (t 19) (k (.int .u8 3))),mT 42 43] (.cond (t 42) .skip (.ops [i 44 (.bin .eql (t 19) (k (.int .u8 4))),mT 42 44]))) (.cond (t 42) (Oz [mT 45 0,mT 46 6,mT 47 5,fT 48 4 3,lT 49 48,i 50 (.bin .rem (t 49) (k (.int .u64 50))),i 51 (.conv .i64 (t 50)),i 52 (.bin .add (zT 1) (t 51)),fT 53 3 3,lT 54 53,i 55 (.conv .i64 (t 54)),Bc 56 .quo 55 3,Ct 57 46 [(t 45),(t 46),(t 47),(t 52),(t 56)],mT 4 57] .ret) (.seq (Oz [i 59 (.bin .eql (t 19) (k (.int .u8 5))),mT 58 59] (.cond (t 58) .skip (.ops [i 60 (.bin .eql (t 19) (k (.int .u8 6))),mT 58 60]))) (.cond (t 58) (Oz [mT 61 0,Gt 62 5 3,Ct 63 40 [(t 62)],Ct 64 47 [(t 61),(t 63)],mT 4 64] .ret) .skip)))))))))) (Oz [mT 65 0,mT 66 6,fT 67 3 3,lT 68 67,i 69 (.conv .i64 (t 68)),Bc 70 .rem 69 500,Ct 71 48 [(t 65),(t 66),(t 70)],mT 4 71] .ret))))
def a12:AFunc:=⟨72,[(.tmp 4)],c12⟩
theorem n12:a12.ntmps=72:=id rfl
theorem r12:a12.results=[(.tmp 4)]:=rfl
theorem b12:a12.body=c12:=rfl
def c13:ACode:=(Oz [i 4 (.mov (k Vz)),Zm 5 0] (Oz [mT 9 0,mT 10 1,Ct 11 49 [(t 9),(t 10)],mT 8 11,Et 12 0 8,Et 13 1 8,i 6 (.alloc [(.string ⟨#[]⟩),Vz,Vz]),St 3 6 12,mT 7 13] (Oz [fT 14 1 6,lT 15 14,Ct 16 50 [(t 15)],mT 17 7,mT 4 16,mT 5 17] .ret)))
def a13:AFunc:=⟨18,[(.tmp 4),(.tmp 5)],c13⟩
theorem n13:a13.ntmps=18:=id rfl
theorem r13:a13.results=[(.tmp 4),(.tmp 5)]:=rfl
theorem b13:a13.body=c13:=rfl
def c14:ACode:=(Oz [Zm 4 0,Zm 5 0] (Oz [mT 9 0,mT 10 1,Ct 11 49 [(t 9),(t 10)],mT 8 11,Et 12 0 8,Et 13 1 8,i 6 (.alloc [(.string ⟨#[]⟩),Vz,Vz]),St 3 6 12,mT 7 13] (Oz [Gt 14 3 6,Ct 15 51 [(t 14)],mT 16 7,mT 4 15,mT 5 16] .ret)))
def a14:AFunc:=⟨17,[(.tmp 4),(.tmp 5)],c14⟩
theorem n14:a14.ntmps=17:=id rfl
theorem r14:a14.results=[(.tmp 4),(.tmp 5)]:=rfl
theorem b14:a14.body=c14:=rfl
def c15:ACode:=(Oz [i 4 (.mov (k Vz)),Zm 5 0] (Oz [mT 9 0,mT 10 1,Ct 11 49 [(t 9),(t 10)],mT 8 11,Et 12 0 8,Et 13 1 8,i 6 (.alloc [(.string ⟨#[]⟩),Vz,Vz]),St 3 6 12,mT 7 13] (Oz [fT 14 2 6,lT 15 14,Ct 16 52 [(t 15)],mT 17 7,mT 4 16,mT 5 17] .ret)))
def a15:AFunc:=⟨18,[(.tmp 4),(.tmp 5)],c15⟩
theorem n15:a15.ntmps=18:=id rfl
theorem r15:a15.results=[(.tmp 4),(.tmp 5)]:=rfl
theorem b15:a15.body=c15:=rfl
def c16:ACode:=(Oz [Zm 4 0,Zm 5 0] (.seq (Oz [mT 8 0,Ct 9 53 [(t 8)]] (.cond (t 9) (Oz [Zm 4 0,Zm 5 1] .ret) .skip)) (Oz [mT 11 0,i 12 (.nilCheck (t 11)),fT 13 3 12,lT 14 13,mT 15 1,i 16 (.lookup (.int .i64) (.agg #[(Vi 0),(Vi 0),(.bool false)]) true (t 14) (t 15)),mT 10 16,Et 17 0 10,Et 18 1 10,i 6 (.alloc [(Vi 0),(Vi 0),(.bool false)]),St 3 6 17,mT 7 18] (.seq (Oz [mT 19 7,Ut 20 19] (.cond (t 20) (Oz [Zm 4 0,Zm 5 6] .ret) .skip)) (Oz [fT 21 1 6,lT 22 21,mT 4 22,Zm 5 0] .ret)))))
def a16:AFunc:=⟨23,[(.tmp 4),(.tmp 5)],c16⟩
theorem n16:a16.ntmps=23:=id rfl
theorem r16:a16.results=[(.tmp 4),(.tmp 5)]:=rfl
theorem b16:a16.body=c16:=rfl
def c18:ACode:=(Oz [Zm 4 0] (.seq (Oz [mT 11 0,Ct 12 53 [(t 11)]] (.cond (t 12) (Oz [Zm 4 1] .ret) .skip)) (.seq (Oz [mT 13 1,Nt 14 13,Bc 15 .eql 14 0] (.cond (t 15) (Oz [Zm 4 432] .ret) .skip)) (Ds 0 [mT 18 1,i 19 (.idxAddrS 1 (t 18) (zT 0)),lT 20 19,i 17 (.call .maps (.func 54) []),i 21 (.lookup .str .nilFunc true (t 17) (t 20)),mT 16 21,Et 22 0 16,Et 23 1 16,mT 5 22,mT 6 23] (.seq (Oz [mT 24 6,Ut 25 24] (.cond (t 25) (Oz [Zm 4 432] .ret) .skip)) (Oz [mT 27 5,mT 28 0,mT 29 1,i 30 (.sliceS 1 (t 29) (some (zT 1)) none none),i 31 (.call .any (t 27) [(t 28),(t 30)]),mT 26 31,Et 32 0 26,Et 33 1 26,mT 7 32,mT 8 33] (.seq (Oz [mT 34 8,Bc 35 .neq 34 0] (.cond (t 35) (Oz [mT 36 8,mT 4 36] .ret) .skip)) (.seq (Oz [mT 37 0,i 38 (.nilCheck (t 37)),fT 39 0 38,lT 40 39,i 41 (.eqv true .ptr (t 40) (k (.pointer none)))] (.cond (t 41) (Oz [mT 43 1,Ct 44 34 [(t 43)],mT 42 44,Et 45 0 42,Et 46 1 42,mT 9 45,mT 10 46] (.seq (Oz [mT 47 10,Bc 48 .eql 47 0] (.cond (t 48) (.ops [mT 49 0,i 50 (.nilCheck (t 49)),fT 51 0 50,lT 52 51,mT 53 9,Ct 54 36 [(t 52),(t 53)],mT 10 54]) .skip)) (Oz [mT 55 10,Bc 56 .neq 55 0] (.cond (t 56) (Oz [mT 57 10,mT 4 57] .ret) .skip)))) .skip)) (Oz [mT 58 7,i 59 (.call .any (t 58) [])] (Ds 2 [mT 60 0,mT 61 0,i 62 (.nilCheck (t 61)),fT 63 1 62,Kt 64 (.load1 (t 63)) [0,1],mT 65 1,Kt 66 (.call .mk (.func 55) [(t 65)]) [0,1],Wt 67 (.buildSlice 1 [Vz] [(0,(1,(t 66)))]) 0,Wt 68 (.append 1 24 false (t 64) (t 67)) 1,i 69 (.nilCheck (t 60)),fT 70 1 69,St 1 70 68] (Oz [Zm 4 0] .ret)))))))))))
def a18:AFunc:=⟨71,[(.tmp 4)],c18⟩
theorem n18:a18.ntmps=71:=id rfl
theorem r18:a18.results=[(.tmp 4)]:=rfl
theorem b18:a18.body=c18:=rfl
def c22:ACode:=(Oz [Zm 2 0] (.seq (.block 0 (Oz [mT 4 0,Ct 5 53 [(t 4)],mT 3 5] (.cond (t 3) (Oz [Zm 2 1] .ret) (Oz [mT 7 0,i 8 (.nilCheck (t 7)),fT 9 0 8,lT 10 9,i 11 (.eqv false .ptr (t 10) (k (.pointer none))),mT 6 11] (.cond (t 6) (Oz [Zm 2 0] .ret) .skip))))) (Oz [mT 12 0,i 13 (.nilCheck (t 12)),fT 14 0 13,lT 15 14,Ct 16 66 [(t 15)],mT 2 16] .ret)))
def a22:AFunc:=⟨17,[(.tmp 2)],c22⟩
theorem n22:a22.ntmps=17:=id rfl
theorem r22:a22.results=[(.tmp 2)]:=rfl
theorem b22:a22.body=c22:=rfl
def Nu0:ACode:=(Oz [Bt 20 .lss 19 18] (.seq (Ce 20 0) (.seq (.block 1 (Oz [xT 21 1 17 19,lT 22 21,mT 5 22] (.ops [mT 23 3,mT 24 5,Ct 25 55 [(t 24)],i 26 (.buildSlice 1 [Vz] [(0,(1,(t 25)))]),i 27 (.append 1 24 false (t 23) (t 26)),mT 3 27]))) (.ops [Bc 28 .add 19 1,mT 19 28]))))
def c23:ACode:=(Oz [i 2 (.mov (k Vz))] (.seq (Oz [mT 6 0,Ct 7 53 [(t 6)]] (.cond (t 7) (Oz [i 2 (.mov (k Vz))] .ret) .skip)) (Oz [mT 8 0,i 9 (.nilCheck (t 8)),fT 10 1 9,lT 11 10,Nt 12 11,i 13 (.makeSlice 1 24 [Vz] (zT 0) (t 12)),mT 3 13] (.seq (Oz [mT 14 0,i 15 (.nilCheck (t 14)),fT 16 1 15,lT 17 16,Nt 18 17,Zm 19 0] (Bl 0 Nu0)) (Oz [mT 29 3,mT 2 29] .ret)))))
def a23:AFunc:=⟨30,[(.tmp 2)],c23⟩
theorem n23:a23.ntmps=30:=id rfl
theorem r23:a23.results=[(.tmp 2)]:=rfl
theorem b23:a23.body=c23:=rfl
def Nuy:ACode:=(Oz [Bt 24 .lss 23 22] (.seq (Ce 24 0) (.seq (.block 1 (Oz [mT 25 23,xT 26 1 21 23,lT 27 26,mT 7 25,mT 8 27] (Oz [mT 29 8,Ct 30 69 [(t 29)],mT 28 30,Et 31 0 28,Et 32 1 28,mT 9 31,mT 10 32] (.block 2 (Oz [mT 34 10,Bc 35 .neq 34 0,mT 33 35] (.cond (t 33) (Oz [i 2 (.mov (k (.pointer none))),Zm 3 432] .ret) (Oz [mT 37 7,Bc 38 .eql 37 0,mT 36 38] (.cond (t 36) (Oz [mT 39 8,Nt 40 39,Bc 41 .gtr 40 0] (.cond (t 41) (Oz [i 2 (.mov (k (.pointer none))),Zm 3 432] .ret) .skip)) (Oz [mT 43 6,mT 44 9,Ct 45 18 [(t 43),(t 44)],Bc 46 .neq 45 0,mT 42 46] (.cond (t 42) (Oz [i 2 (.mov (k (.pointer none))),Zm 3 432] .ret) .skip)))))))))) (.ops [Bc 47 .add 23 1,mT 23 47]))))
def c26:ACode:=(Oz [i 2 (.mov (k (.pointer none))),Zm 3 0] (Oz [mT 12 0,Ct 13 33 [(t 12)],mT 11 13,Et 14 0 11,Et 15 1 11,mT 4 14,mT 5 15] (.seq (Oz [mT 16 5,Bc 17 .neq 16 0] (.cond (t 17) (Oz [mT 18 5,i 2 (.mov (k (.pointer none))),mT 3 18] .ret) .skip)) (Oz [Ct 19 11 [],mT 6 19] (.seq (Oz [mT 20 4,Ct 21 68 [(t 20)],Nt 22 21,Zm 23 0] (Bl 0 Nuy)) (Oz [mT 48 6,mT 49 4,i 50 (.nilCheck (t 48)),fT 51 0 50,St 1 51 49] (Oz [mT 52 6,mT 2 52,Zm 3 0] .ret)))))))
def a26:AFunc:=⟨53,[(.tmp 2),(.tmp 3)],c26⟩
theorem n26:a26.ntmps=53:=id rfl
theorem r26:a26.results=[(.tmp 2),(.tmp 3)]:=rfl
theorem b26:a26.body=c26:=rfl
def c44:ACode:=(Oz [Zm 6 0] (Oz [mT 7 0,mT 8 1,i 9 (.buildSlice 1 [(Vi 0)] [(0,(1,(t 8)))]),i 10 (.call .any (.func 101) [(k (.string ⟨#[106,111,105,110]⟩)),(t 9)]),mT 11 2,i 12 (.buildSlice 1 [(.string ⟨#[]⟩)] [(0,(1,(t 11)))]),i 13 (.append 1 16 false (t 10) (t 12)),Ct 14 18 [(t 7),(t 13)],mT 6 14] .ret))
def a44:AFunc:=⟨15,[(.tmp 6)],c44⟩
theorem n44:a44.ntmps=15:=id rfl
theorem r44:a44.results=[(.tmp 6)]:=rfl
theorem b44:a44.body=c44:=rfl
def c45:ACode:=(Oz [Zm 6 0] (Oz [mT 7 0,mT 8 1,mT 9 2,i 10 (.buildSlice 2 [(Vi 0),(Vi 0)] [(0,(1,(t 8))),(1,(1,(t 9)))]),i 11 (.call .any (.func 101) [(k (.string ⟨#[112,97,121]⟩)),(t 10)]),Ct 12 18 [(t 7),(t 11)],mT 6 12] .ret))
def a45:AFunc:=⟨13,[(.tmp 6)],c45⟩
theorem n45:a45.ntmps=13:=id rfl
theorem r45:a45.results=[(.tmp 6)]:=rfl
theorem b45:a45.body=c45:=rfl
def c46:ACode:=(Oz [Zm 10 0] (Oz [mT 11 0,mT 12 1,mT 13 2,mT 14 3,mT 15 4,i 16 (.buildSlice 4 [(Vi 0),(Vi 0),(Vi 0),(Vi 0)] [(0,(1,(t 12))),(1,(1,(t 13))),(2,(1,(t 14))),(3,(1,(t 15)))]),i 17 (.call .any (.func 101) [(k (.string ⟨#[112,111,115,116]⟩)),(t 16)]),Ct 18 18 [(t 11),(t 17)],mT 10 18] .ret))
def a46:AFunc:=⟨19,[(.tmp 10)],c46⟩
theorem n46:a46.ntmps=19:=id rfl
theorem r46:a46.results=[(.tmp 10)]:=rfl
theorem b46:a46.body=c46:=rfl
def c47:ACode:=(Oz [i 3 (.box (t 1)),Zm 4 0] (Oz [mT 5 0,fT 6 0 3,lT 7 6,fT 8 1 3,lT 9 8,fT 10 2 3,lT 11 10,fT 12 3 3,lT 13 12,i 14 (.conv .i64 (t 13)),fT 15 4 3,lT 16 15,fT 17 5 3,lT 18 17,i 19 (.buildSlice 6 [(Vi 0),(Vi 0),(Vi 0),(Vi 0),(Vi 0),(Vi 0)] [(0,(1,(t 7))),(1,(1,(t 9))),(2,(1,(t 11))),(3,(1,(t 14))),(4,(1,(t 16))),(5,(1,(t 18)))]),i 20 (.call .any (.func 101) [(k (.string ⟨#[115,99,97,110]⟩)),(t 19)]),Ct 21 18 [(t 5),(t 20)],mT 4 21] .ret))
def a47:AFunc:=⟨22,[(.tmp 4)],c47⟩
theorem n47:a47.ntmps=22:=id rfl
theorem r47:a47.results=[(.tmp 4)]:=rfl
theorem b47:a47.body=c47:=rfl
def c48:ACode:=(Oz [Zm 6 0] (Oz [mT 7 0,mT 8 1,mT 9 2,i 10 (.buildSlice 2 [(Vi 0),(Vi 0)] [(0,(1,(t 8))),(1,(1,(t 9)))]),i 11 (.call .any (.func 101) [(k (.string ⟨#[114,101,102,117,110,100]⟩)),(t 10)]),Ct 12 18 [(t 7),(t 11)],mT 6 12] .ret))
def a48:AFunc:=⟨13,[(.tmp 6)],c48⟩
theorem n48:a48.ntmps=13:=id rfl
theorem r48:a48.results=[(.tmp 6)]:=rfl
theorem b48:a48.body=c48:=rfl
def c49:ACode:=(Oz [i 4 (.alloc [(.string ⟨#[]⟩),Vz,Vz]),Zm 5 0] (.seq (Oz [mT 8 0,Ct 9 53 [(t 8)]] (.cond (t 9) (Oz [i 10 (.build [(.string ⟨#[]⟩),Vz,Vz] []),St 3 4 10,Zm 5 1] .ret) .skip)) (Oz [mT 12 0,i 13 (.nilCheck (t 12)),fT 14 2 13,lT 15 14,mT 16 1,i 17 (.lookup (.int .i64) (.agg #[(.string ⟨#[]⟩),Vz,Vz]) true (t 15) (t 16)),mT 11 17,Et 18 0 11,Et 19 1 11,i 6 (.alloc [(.string ⟨#[]⟩),Vz,Vz]),St 3 6 18,mT 7 19] (.seq (Oz [mT 20 7,Ut 21 20] (.cond (t 21) (Oz [i 22 (.build [(.string ⟨#[]⟩),Vz,Vz] []),St 3 4 22,Zm 5 6] .ret) .skip)) (Oz [Gt 23 3 6,St 3 4 23,Zm 5 0] .ret)))))
def a49:AFunc:=⟨24,[(.cellN 3 4),(.tmp 5)],c49⟩
theorem n49:a49.ntmps=24:=id rfl
theorem r49:a49.results=[(.cellN 3 4),(.tmp 5)]:=rfl
theorem b49:a49.body=c49:=rfl
def c50:ACode:=(Oz [i 2 (.mov (k Vz))] (.seq (Oz [mT 3 0,i 4 (.eqv false .slice (t 3) (k Vz))] (.cond (t 4) (Oz [i 2 (.mov (k Vz))] .ret) .skip)) (Oz [i 5 (.buildSlice 0 [] []),mT 6 0,i 7 (.append 4 32 false (t 5) (t 6)),mT 2 7] .ret)))
def a50:AFunc:=⟨8,[(.tmp 2)],c50⟩
theorem n50:a50.ntmps=8:=id rfl
theorem r50:a50.results=[(.tmp 2)]:=rfl
theorem b50:a50.body=c50:=rfl
def c51:ACode:=(Oz [i 1 (.box (t 0)),Zm 2 0] (.seq (Oz [fT 3 1 1,lT 4 3,Nt 5 4,Bc 6 .eql 5 0] (.cond (t 6) (Oz [Zm 2 0] .ret) .skip)) (Oz [fT 7 1 1,lT 8 7,fT 9 1 1,lT 10 9,Nt 11 10,Bc 12 .sub 11 1,xT 13 4 8 12,fT 14 3 13,lT 15 14,mT 2 15] .ret)))
def a51:AFunc:=⟨16,[(.tmp 2)],c51⟩
theorem n51:a51.ntmps=16:=id rfl
theorem r51:a51.results=[(.tmp 2)]:=rfl
theorem b51:a51.body=c51:=rfl
def c52:ACode:=(Oz [i 2 (.mov (k Vz))] (.seq (Oz [mT 3 0,i 4 (.eqv false .slice (t 3) (k Vz))] (.cond (t 4) (Oz [i 2 (.mov (k Vz))] .ret) .skip)) (Oz [i 5 (.buildSlice 0 [] []),mT 6 0,i 7 (.append 1 8 false (t 5) (t 6)),mT 2 7] .ret)))
def a52:AFunc:=⟨8,[(.tmp 2)],c52⟩
theorem n52:a52.ntmps=8:=id rfl
theorem r52:a52.results=[(.tmp 2)]:=rfl
theorem b52:a52.body=c52:=rfl
def c53:ACode:=(Oz [i 2 (.mov (k (.bool false)))] (Oz [mT 3 0,i 4 (.eqv false .ptr (t 3) (k (.pointer none))),mT 5 4,Qm 6 5 0,q 7 5 (.nilCheck (t 6)),Qf 8 5 2 7,Ql 9 5 8,q 10 5 (.eqv false .map (t 9) (k (.map none))),Ot 11 5 10,mT 2 11] .ret))
def a53:AFunc:=⟨12,[(.tmp 2)],c53⟩
theorem n53:a53.ntmps=12:=id rfl
theorem r53:a53.results=[(.tmp 2)]:=rfl
theorem b53:a53.body=c53:=rfl
def c54:ACode:=(Oz [i 0 (.mov (k (.map none)))] (Oz [i 1 (.makeMap none),s (.mapUpdate .str (t 1) (k (.string ⟨#[106,111,105,110]⟩)) (.func 102)),s (.mapUpdate .str (t 1) (k (.string ⟨#[112,97,121]⟩)) (.func 103)),s (.mapUpdate .str (t 1) (k (.string ⟨#[112,111,115,116]⟩)) (.func 104)),s (.mapUpdate .str (t 1) (k (.string ⟨#[115,99,97,110]⟩)) (.func 105)),s (.mapUpdate .str (t 1) (k (.string ⟨#[114,101,102,117,110,100]⟩)) (.func 106)),mT 2 1,mT 0 2] .ret))
def a54:AFunc:=⟨3,[(.tmp 0)],c54⟩
theorem n54:a54.ntmps=3:=id rfl
theorem r54:a54.results=[(.tmp 0)]:=rfl
theorem b54:a54.body=c54:=rfl
def c55:ACode:=(Oz [i 2 (.mov (k Vz))] (.seq (Oz [mT 3 0,i 4 (.eqv false .slice (t 3) (k Vz))] (.cond (t 4) (Oz [i 2 (.mov (k Vz))] .ret) .skip)) (Oz [i 5 (.buildSlice 0 [] []),mT 6 0,i 7 (.append 1 16 false (t 5) (t 6)),mT 2 7] .ret)))
def a55:AFunc:=⟨8,[(.tmp 2)],c55⟩
theorem n55:a55.ntmps=8:=id rfl
theorem r55:a55.results=[(.tmp 2)]:=rfl
theorem b55:a55.body=c55:=rfl
def Nq4:ACode:=(Oz [Bt 13 .lss 12 11] (.seq (Ce 13 0) (.seq (.block 1 (Oz [xT 14 1 10 12,lT 15 14,mT 7 15] (.ops [mT 16 5,mT 17 7,Ct 18 142 [(t 17)],i 19 (.buildSlice 1 [(.string ⟨#[]⟩)] [(0,(1,(t 18)))]),i 20 (.append 1 16 false (t 16) (t 19)),mT 5 20]))) (.ops [Bc 21 .add 12 1,mT 12 21]))))
def Nwq:ACode:=(Oz [i 4 (.mov (k Vz))] (Oz [mT 8 0,i 9 (.buildSlice 1 [(.string ⟨#[]⟩)] [(0,(1,(t 8)))]),mT 5 9] (.seq (Oz [mT 10 1,Nt 11 10,Zm 12 0] (Bl 0 Nq4)) (Oz [mT 22 5,mT 4 22] .ret))))
def Nob:AFunc:=⟨23,[(.tmp 4)],Nwq⟩
theorem n101:Nob.ntmps=23:=id rfl
theorem Nvc:Nob.results=[(.tmp 4)]:=rfl
theorem N0j:Nob.body=Nwq:=rfl
def Nwp:ACode:=(Oz [i 2 (.box (t 0)),i 4 (.mov (k .nilFunc)),Zm 5 0] (Oz [i 6 (.alloc [(Vi 0)])] (.seq (Oz [mT 10 1,Nt 11 10,Bc 12 .neq 11 2,mT 13 12,Qm 14 13 1,q 15 13 (.sliceS 1 (t 14) none (some (zT 1)) none),q 16 13 (.buildSlice 1 [(.pointer none)] [(0,(1,(t 6)))]),q 17 13 (.call .any (.func 143) [(t 15),(t 16)]),q 18 13 (.un .not (t 17)),Ot 19 13 18] (.cond (t 19) (Oz [i 4 (.mov (k .nilFunc)),Zm 5 432] .ret) .skip)) (Oz [mT 20 1,i 21 (.idxAddrS 1 (t 20) (zT 1)),lT 22 21,i 7 (.alloc [(.string ⟨#[]⟩)]),St 1 7 22] (.seq (Oz [lT 23 6,Ct 24 144 [(t 23)],Ut 25 24,mT 26 25,Ql 27 26 7,q 28 26 (.lenStr (t 27)),q 29 26 (.bin .lss (t 28) (zT 1)),Ot 30 26 29,mT 31 30,Ql 32 31 7,q 33 31 (.lenStr (t 32)),q 34 31 (.bin .gtr (t 33) (zT 40)),Ot 35 31 34] (.cond (t 35) (Oz [i 4 (.mov (k .nilFunc)),Zm 5 2] .ret) .skip)) (.seq (Ds 1 [Kt 37 (.load1 (t 2)) [0],i 38 (.nilCheck (t 37)),fT 39 2 38,Kt 40 (.load1 (t 39)) [0],Kt 41 (.load1 (t 6)) [0],⟨(some 42),none,(.lookup (.int .i64) (.agg #[(.string ⟨#[]⟩),Vz,Vz]) true (t 40) (t 41)),none,[0]⟩,mT 36 42,Et 43 0 36,Et 44 1 36,⟨(some 8),none,(.alloc [(.string ⟨#[]⟩),Vz,Vz]),(some 0),[]⟩,St 3 8 43,mT 9 44] (Oz [mT 45 9] (.cond (t 45) (Oz [i 4 (.mov (k .nilFunc)),Zm 5 430] .ret) .skip))) (.seq (Oz [lT 46 2,i 47 (.nilCheck (t 46)),fT 48 2 47,lT 49 48,i 50 (.lenMap (t 49)),Bc 51 .geq 50 200] (.cond (t 51) (Oz [i 4 (.mov (k .nilFunc)),Zm 5 5] .ret) .skip)) (Oz [i 52 (.makeFunc 145 [] [(t 7),(t 2),(t 6)]),mT 4 52,Zm 5 0] .ret))))))))
def Noa:AFunc:=⟨53,[(.tmp 4),(.tmp 5)],Nwp⟩
theorem n102:Noa.ntmps=53:=id rfl
theorem Ndx:Noa.results=[(.tmp 4),(.tmp 5)]:=rfl
theorem N0i:Noa.body=Nwp:=rfl
def Nwo:ACode:=(Oz [i 2 (.box (t 0)),i 4 (.mov (k .nilFunc)),Zm 5 0] (Oz [i 6 (.alloc [(Vi 0)]),i 7 (.alloc [(Vi 0)])] (.seq (Oz [mT 10 1,i 11 (.buildSlice 2 [(.pointer none),(.pointer none)] [(0,(1,(t 6))),(1,(1,(t 7)))]),Ct 12 143 [(t 10),(t 11)],Ut 13 12] (.cond (t 13) (Oz [i 4 (.mov (k .nilFunc)),Zm 5 432] .ret) .skip)) (.seq (Oz [lT 14 6,Ct 15 144 [(t 14)],Ut 16 15,mT 17 16,Ql 18 17 7,q 19 17 (.call .any (.func 146) [(t 18)]),q 20 17 (.un .not (t 19)),Ot 21 17 20] (.cond (t 21) (Oz [i 4 (.mov (k .nilFunc)),Zm 5 2] .ret) .skip)) (Ds 1 [Kt 23 (.load1 (t 2)) [0],i 24 (.nilCheck (t 23)),fT 25 2 24,Kt 26 (.load1 (t 25)) [0],Kt 27 (.load1 (t 6)) [0],⟨(some 28),none,(.lookup (.int .i64) (.agg #[(.string ⟨#[]⟩),Vz,Vz]) true (t 26) (t 27)),none,[0]⟩,mT 22 28,Et 29 0 22,Et 30 1 22,⟨(some 8),none,(.alloc [(.string ⟨#[]⟩),Vz,Vz]),(some 0),[]⟩,St 3 8 29,mT 9 30] (.seq (Oz [mT 31 9,Ut 32 31] (.cond (t 32) (Oz [i 4 (.mov (k .nilFunc)),Zm 5 6] .ret) .skip)) (.seq (Ds 0 [Gt 33 3 8,i 34 (.call .pure (.func 51) [(t 33)]),lT 35 7,Bt 36 .add 34 35,Bc 37 .gtr 36 1000000000000] (.cond (t 37) (Oz [i 4 (.mov (k .nilFunc)),Zm 5 3] .ret) .skip)) (Oz [i 38 (.makeFunc 147 [] [(t 2),(t 6),(t 7)]),mT 4 38,Zm 5 0] .ret))))))))
def Nn9:AFunc:=⟨39,[(.tmp 4),(.tmp 5)],Nwo⟩
theorem n103:Nn9.ntmps=39:=id rfl
theorem Nh1:Nn9.results=[(.tmp 4),(.tmp 5)]:=rfl
theorem N0h:Nn9.body=Nwo:=rfl
def Nwn:ACode:=(Oz [i 2 (.box (t 0)),i 4 (.mov (k .nilFunc)),Zm 5 0] (Oz [i 6 (.alloc [(Vi 0)]),i 7 (.alloc [(Vi 0)]),i 8 (.alloc [(Vi 0)]),i 9 (.alloc [(Vi 0)])] (.seq (Oz [mT 14 1,i 15 (.buildSlice 4 [(.pointer none),(.pointer none),(.pointer none),(.pointer none)] [(0,(1,(t 6))),(1,(1,(t 7))),(2,(1,(t 8))),(3,(1,(t 9)))]),Ct 16 143 [(t 14),(t 15)],Ut 17 16] (.cond (t 17) (Oz [i 4 (.mov (k .nilFunc)),Zm 5 432] .ret) .skip)) (.seq (Oz [lT 18 6,Ct 19 144 [(t 18)],Ut 20 19,mT 21 20,Ql 22 21 7,q 23 21 (.call .any (.func 144) [(t 22)]),q 24 21 (.un .not (t 23)),Ot 25 21 24,mT 26 25,Ql 27 26 8,q 28 26 (.call .any (.func 144) [(t 27)]),q 29 26 (.un .not (t 28)),Ot 30 26 29,mT 31 30,Ql 32 31 9,q 33 31 (.call .any (.func 146) [(t 32)]),q 34 31 (.un .not (t 33)),Ot 35 31 34] (.cond (t 35) (Oz [i 4 (.mov (k .nilFunc)),Zm 5 2] .ret) .skip)) (.seq (Ds 1 [Kt 37 (.load1 (t 2)) [0],i 38 (.nilCheck (t 37)),fT 39 3 38,Kt 40 (.load1 (t 39)) [0],Kt 41 (.load1 (t 6)) [0],Kt 42 (.lookup (.int .i64) (.agg #[(Vi 0),(Vi 0),(.bool false)]) true (t 40) (t 41)) [0],mT 36 42,Et 43 0 36,Et 44 1 36,Wt 10 (.alloc [(Vi 0),(Vi 0),(.bool false)]) 0,St 3 10 43,mT 11 44] (Oz [mT 45 11] (.cond (t 45) (Oz [i 4 (.mov (k .nilFunc)),Zm 5 430] .ret) .skip))) (Ds 1 [Kt 47 (.load1 (t 2)) [0],i 48 (.nilCheck (t 47)),fT 49 2 48,Kt 50 (.load1 (t 49)) [0],Kt 51 (.load1 (t 7)) [0],⟨(some 52),none,(.lookup (.int .i64) (.agg #[(.string ⟨#[]⟩),Vz,Vz]) true (t 50) (t 51)),none,[0]⟩,mT 46 52,Et 53 0 46,Et 54 1 46,⟨(some 12),none,(.alloc [(.string ⟨#[]⟩),Vz,Vz]),(some 0),[]⟩,St 3 12 53,mT 13 54] (.seq (.block 0 (Oz [mT 56 13,Ut 57 56,mT 55 57] (.cond (t 55) (Oz [i 4 (.mov (k .nilFunc)),Zm 5 6] .ret) (Ds 0 [Gt 59 3 12,i 60 (.call .pure (.func 51) [(t 59)]),lT 61 9,Bt 62 .lss 60 61,mT 58 62] (.cond (t 58) (Oz [i 4 (.mov (k .nilFunc)),Zm 5 431] .ret) (Oz [lT 64 2,i 65 (.nilCheck (t 64)),fT 66 3 65,lT 67 66,i 68 (.lenMap (t 67)),Bc 69 .geq 68 2000,mT 63 69] (.cond (t 63) (Oz [i 4 (.mov (k .nilFunc)),Zm 5 5] .ret) .skip))))))) (Oz [i 70 (.makeFunc 149 [] [(t 7),(t 8),(t 2),(t 6),(t 12),(t 9)]),mT 4 70,Zm 5 0] .ret))))))))
def Nn8:AFunc:=⟨71,[(.tmp 4),(.tmp 5)],Nwn⟩
theorem n104:Nn8.ntmps=71:=id rfl
theorem Naa:Nn8.results=[(.tmp 4),(.tmp 5)]:=rfl
theorem N0g:Nn8.body=Nwn:=rfl
def c105:ACode:=(Oz [i 2 (.box (t 0)),i 4 (.mov (k .nilFunc)),Zm 5 0] (Oz [i 6 (.alloc [(Vi 0),(Vi 0),(Vi 0),(.int .u8 0),(Vi 0),(Vi 0)])] (Oz [i 7 (.alloc [(Vi 0)])] (.seq (Oz [mT 10 1,fT 11 0 6,fT 12 1 6,fT 13 2 6,fT 14 4 6,fT 15 5 6,i 16 (.buildSlice 6 [(.pointer none),(.pointer none),(.pointer none),(.pointer none),(.pointer none),(.pointer none)] [(0,(1,(t 11))),(1,(1,(t 12))),(2,(1,(t 13))),(3,(1,(t 7))),(4,(1,(t 14))),(5,(1,(t 15)))]),Ct 17 143 [(t 10),(t 16)],Ut 18 17] (.cond (t 18) (Oz [i 4 (.mov (k .nilFunc)),Zm 5 432] .ret) .skip)) (.seq (Oz [lT 19 7,Bc 20 .lss 19 1,mT 21 20,Ql 22 21 7,q 23 21 (.bin .gtr (t 22) (zT 4)),Ot 24 21 23] (.cond (t 24) (Oz [i 4 (.mov (k .nilFunc)),Zm 5 2] .ret) .skip)) (Oz [lT 25 7,i 26 (.conv .u8 (t 25)),fT 27 3 6,St 1 27 26] (.seq (Oz [Gt 28 6 6,i 29 (.buildSlice 1 [(Vi 0),(Vi 0),(Vi 0),(.int .u8 0),(Vi 0),(Vi 0)] [(0,(6,(t 28)))]),Ct 30 131 [(t 29)],Ut 31 30] (.cond (t 31) (Oz [i 4 (.mov (k .nilFunc)),Zm 5 2] .ret) .skip)) (.seq (Ds 1 [Kt 33 (.load1 (t 2)) [0],i 34 (.nilCheck (t 33)),fT 35 3 34,Kt 36 (.load1 (t 35)) [0],fT 37 0 6,Kt 38 (.load1 (t 37)) [0],Kt 39 (.lookup (.int .i64) (.agg #[(Vi 0),(Vi 0),(.bool false)]) true (t 36) (t 38)) [0],mT 32 39,Et 40 0 32,Et 41 1 32,Wt 8 (.alloc [(Vi 0),(Vi 0),(.bool false)]) 0,St 3 8 40,mT 9 41] (Oz [mT 42 9,Ut 43 42] (.cond (t 43) (Oz [i 4 (.mov (k .nilFunc)),Zm 5 6] .ret) .skip))) (.seq (Oz [lT 44 2,i 45 (.nilCheck (t 44)),fT 46 4 45,lT 47 46,Nt 48 47,Bc 49 .geq 48 2000] (.cond (t 49) (Oz [i 4 (.mov (k .nilFunc)),Zm 5 5] .ret) .skip)) (Oz [i 50 (.makeFunc 150 [] [(t 2),(t 6)]),mT 4 50,Zm 5 0] .ret))))))))))
def a105:AFunc:=⟨51,[(.tmp 4),(.tmp 5)],c105⟩
theorem n105:a105.ntmps=51:=id rfl
theorem Nfi:a105.results=[(.tmp 4),(.tmp 5)]:=rfl
theorem N0f:a105.body=c105:=rfl
def Nwm:ACode:=(Oz [i 2 (.box (t 0)),i 4 (.mov (k .nilFunc)),Zm 5 0] (Oz [i 6 (.alloc [(Vi 0)]),i 7 (.alloc [(Vi 0)])] (.seq (Oz [mT 10 1,i 11 (.buildSlice 2 [(.pointer none),(.pointer none)] [(0,(1,(t 6))),(1,(1,(t 7)))]),Ct 12 143 [(t 10),(t 11)],Ut 13 12] (.cond (t 13) (Oz [i 4 (.mov (k .nilFunc)),Zm 5 432] .ret) .skip)) (.seq (Oz [lT 14 6,Ct 15 144 [(t 14)],Ut 16 15,mT 17 16,Ql 18 17 7,q 19 17 (.call .any (.func 146) [(t 18)]),q 20 17 (.un .not (t 19)),Ot 21 17 20] (.cond (t 21) (Oz [i 4 (.mov (k .nilFunc)),Zm 5 2] .ret) .skip)) (Ds 1 [Kt 23 (.load1 (t 2)) [0],i 24 (.nilCheck (t 23)),fT 25 3 24,Kt 26 (.load1 (t 25)) [0],Kt 27 (.load1 (t 6)) [0],Kt 28 (.lookup (.int .i64) (.agg #[(Vi 0),(Vi 0),(.bool false)]) true (t 26) (t 27)) [0],mT 22 28,Et 29 0 22,Et 30 1 22,Wt 8 (.alloc [(Vi 0),(Vi 0),(.bool false)]) 0,St 3 8 29,mT 9 30] (.seq (.block 0 (Oz [mT 32 9,Ut 33 32,mT 31 33] (.cond (t 31) (Oz [i 4 (.mov (k .nilFunc)),Zm 5 6] .ret) (Oz [fT 35 2 8,lT 36 35,mT 34 36] (.cond (t 34) (Oz [i 4 (.mov (k .nilFunc)),Zm 5 430] .ret) (Ds 0 [lT 38 2,i 39 (.nilCheck (t 38)),fT 40 2 39,lT 41 40,fT 42 0 8,lT 43 42,i 44 (.lookup (.int .i64) (.agg #[(.string ⟨#[]⟩),Vz,Vz]) false (t 41) (t 43)),i 45 (.call .pure (.func 51) [(t 44)]),lT 46 7,Bt 47 .add 45 46,Bc 48 .gtr 47 1000000000000,mT 37 48] (.cond (t 37) (Oz [i 4 (.mov (k .nilFunc)),Zm 5 3] .ret) .skip))))))) (Oz [i 49 (.makeFunc 151 [] [(t 8),(t 2),(t 6),(t 7)]),mT 4 49,Zm 5 0] .ret)))))))
def Nn7:AFunc:=⟨50,[(.tmp 4),(.tmp 5)],Nwm⟩
theorem n106:Nn7.ntmps=50:=id rfl
theorem Nfh:Nn7.results=[(.tmp 4),(.tmp 5)]:=rfl
theorem N0e:Nn7.body=Nwm:=rfl
def Nq1:ACode:=(Oz [Bt 11 .lss 10 9] (.seq (Ce 11 0) (.seq (.block 1 (Oz [xT 12 6 8 10,Gt 13 6 12,i 4 (.alloc [(Vi 0),(Vi 0),(Vi 0),(.int .u8 0),(Vi 0),(Vi 0)]),St 6 4 13] (Oz [Gt 14 6 4,Ct 15 160 [(t 14)],Ut 16 15] (.cond (t 16) (Oz [i 2 (.mov (k (.bool false)))] .ret) .skip)))) (.ops [Bc 17 .add 10 1,mT 10 17]))))
def c131:ACode:=(Oz [i 2 (.mov (k (.bool false)))] (.seq (Oz [mT 5 0,Nt 6 5,Bc 7 .gtr 6 2000] (.cond (t 7) (Oz [i 2 (.mov (k (.bool false)))] .ret) .skip)) (.seq (Oz [mT 8 0,Nt 9 8,Zm 10 0] (Bl 0 Nq1)) (Oz [i 2 (.mov (k (.bool true)))] .ret))))
def a131:AFunc:=⟨18,[(.tmp 2)],c131⟩
theorem n131:a131.ntmps=18:=id rfl
theorem Nsq:a131.results=[(.tmp 2)]:=rfl
theorem Nz4:a131.body=c131:=rfl
def Nq0:ACode:=(Oz [Bt 17 .lss 16 15] (.seq (Ce 17 0) (.seq (.block 1 (Oz [mT 18 16,xT 19 1 14 16,lT 20 19,mT 5 18,mT 6 20] (Oz [mT 22 6,Ct 23 170 [(t 22),(zT 10),(zT 64)],mT 21 23,Et 24 0 21,Et 25 1 21,mT 7 24,mT 8 25] (.seq (Oz [mT 26 8,i 27 (.eqv true .iface (t 26) (k .nilIface)),mT 28 27,Qm 29 28 7,q 30 28 (.call .any (.func 171) [(t 29),(zT 10)]),Qm 31 28 6,Qb 32 28 .neq 30 31,Ot 33 28 32] (.cond (t 33) (Oz [i 4 (.mov (k (.bool false)))] .ret) .skip)) (.ops [mT 34 1,mT 35 5,xT 36 1 34 35,lT 37 36,mT 38 7,i 39 (.nilCheck (t 37)),St 1 39 38]))))) (.ops [Bc 40 .add 16 1,mT 16 40]))))
def c143:ACode:=(Oz [i 4 (.mov (k (.bool false)))] (.seq (Oz [mT 9 0,Nt 10 9,mT 11 1,Nt 12 11,Bt 13 .neq 10 12] (.cond (t 13) (Oz [i 4 (.mov (k (.bool false)))] .ret) .skip)) (.seq (Oz [mT 14 0,Nt 15 14,Zm 16 0] (Bl 0 Nq0)) (Oz [i 4 (.mov (k (.bool true)))] .ret))))
def a143:AFunc:=⟨41,[(.tmp 4)],c143⟩
theorem n143:a143.ntmps=41:=id rfl
theorem Ndw:a143.results=[(.tmp 4)]:=rfl
theorem Nz3:a143.body=c143:=rfl
def Nwf:ACode:=(Oz [i 2 (.mov (k (.bool false)))] (Oz [mT 3 0,Bc 4 .geq 3 1,mT 5 4,Pm 6 5 0,p 7 5 (.bin .leq (t 6) (zT 999999)),At 8 5 7,mT 2 8] .ret))
def Nn2:AFunc:=⟨9,[(.tmp 2)],Nwf⟩
theorem n144:Nn2.ntmps=9:=id rfl
theorem Nw7:Nn2.results=[(.tmp 2)]:=rfl
theorem Nz2:Nn2.body=Nwf:=rfl
def c145:ACode:=(.drawn 0 [lT 3 1,i 4 (.nilCheck (t 3)),fT 5 2 4,lT 6 5,lT 7 2,lT 8 0,i 9 (.build [(.string ⟨#[]⟩),Vz,Vz] [(0,(1,(t 8)))]),s (.mapUpdate (.int .i64) (t 6) (t 7) (t 9))])
def a145:AFunc:=⟨10,[],c145⟩
theorem n145:a145.ntmps=10:=id rfl
theorem Nyh:a145.results=[]:=rfl
theorem Nz1:a145.body=c145:=rfl
def c146:ACode:=(Oz [i 2 (.mov (k (.bool false)))] (Oz [mT 3 0,Bc 4 .geq 3 1,mT 5 4,Pm 6 5 0,p 7 5 (.bin .leq (t 6) (zT 1000000000)),At 8 5 7,mT 2 8] .ret))
def a146:AFunc:=⟨9,[(.tmp 2)],c146⟩
theorem n146:a146.ntmps=9:=id rfl
theorem Nw6:a146.results=[(.tmp 2)]:=rfl
theorem Nz0:a146.body=c146:=rfl
def Nwe:ACode:=(.ops [lT 3 0,lT 4 1,lT 5 2,lT 6 2,Ct 7 148 [(t 3),(t 4),(k (.int .u8 1)),(zT 0),(t 5),(t 6)]])
def Nn1:AFunc:=⟨8,[],Nwe⟩
theorem n147:Nn1.ntmps=8:=id rfl
theorem Nw5:Nn1.results=[]:=rfl
theorem Nzz:Nn1.body=Nwe:=rfl
def c148:ACode:=(Oz [mT 13 0,i 14 (.nilCheck (t 13)),fT 15 2 14,lT 16 15,mT 17 1,i 18 (.lookup (.int .i64) (.agg #[(.string ⟨#[]⟩),Vz,Vz]) false (t 16) (t 17)),i 12 (.alloc [(.string ⟨#[]⟩),Vz,Vz]),St 3 12 18] (Ds 2 [fT 19 1 12,Kt 20 (.load1 (t 19)) [0,1],mT 21 2,mT 22 3,mT 23 4,Kt 24 (.loadN 3 (t 12)) [0,1],Kt 25 (.call .pure (.func 51) [(t 24)]) [0,1],mT 26 5,Bt 27 .add 25 26,i 28 (.build [(.int .u8 0),(Vi 0),(Vi 0),(Vi 0)] [(0,(1,(t 21))),(1,(1,(t 22))),(2,(1,(t 23))),(3,(1,(t 27)))]),Wt 29 (.buildSlice 1 [(.int .u8 0),(Vi 0),(Vi 0),(Vi 0)] [(0,(4,(t 28)))]) 0,Wt 30 (.append 4 32 false (t 20) (t 29)) 1,fT 31 1 12,St 1 31 30] (.drawn 0 [mT 32 0,i 33 (.nilCheck (t 32)),fT 34 2 33,lT 35 34,mT 36 1,Gt 37 3 12,s (.mapUpdate (.int .i64) (t 35) (t 36) (t 37))])))
def a148:AFunc:=⟨38,[],c148⟩
theorem n148:a148.ntmps=38:=id rfl
theorem Nyg:a148.results=[]:=rfl
theorem Nzy:a148.body=c148:=rfl
def Nwd:ACode:=(Ds 0 [lT 6 2,i 7 (.nilCheck (t 6)),fT 8 3 7,lT 9 8,lT 10 3,lT 11 0,lT 12 1,i 13 (.build [(Vi 0),(Vi 0),(.bool false)] [(0,(1,(t 11))),(1,(1,(t 12)))]),s (.mapUpdate (.int .i64) (t 9) (t 10) (t 13))] (Oz [fT 14 2 4,lT 15 14,lT 16 3,i 17 (.buildSlice 1 [(Vi 0)] [(0,(1,(t 16)))]),i 18 (.append 1 8 false (t 15) (t 17)),fT 19 2 4,St 1 19 18] (Ds 0 [lT 20 2,i 21 (.nilCheck (t 20)),fT 22 2 21,lT 23 22,lT 24 0,Gt 25 3 4,s (.mapUpdate (.int .i64) (t 23) (t 24) (t 25))] (.ops [lT 26 2,lT 27 0,lT 28 3,lT 29 5,lT 30 5,i 31 (.un .neg (t 30)),Ct 32 148 [(t 26),(t 27),(k (.int .u8 2)),(t 28),(t 29),(t 31)]]))))
def Nn0:AFunc:=⟨33,[],Nwd⟩
theorem n149:Nn0.ntmps=33:=id rfl
theorem Npm:Nn0.results=[]:=rfl
theorem Nzx:Nn0.body=Nwd:=rfl
def Nwc:ACode:=(.drawn 2 [Kt 3 (.load1 (t 0)) [0,1],i 4 (.nilCheck (t 3)),fT 5 4 4,Kt 6 (.load1 (t 5)) [0,1],Kt 7 (.loadN 6 (t 1)) [0,1],Wt 8 (.buildSlice 1 [(Vi 0),(Vi 0),(Vi 0),(.int .u8 0),(Vi 0),(Vi 0)] [(0,(6,(t 7)))]) 0,Wt 9 (.appendL 6 48 false (t 6) (t 8)) 1,Kt 2 (.load1 (t 0)) [0,1],i 10 (.nilCheck (t 2)),fT 11 4 10,St 1 11 9])
def Nnz:AFunc:=⟨12,[],Nwc⟩
theorem n150:Nnz.ntmps=12:=id rfl
theorem Nyf:Nnz.results=[]:=rfl
theorem Nzw:Nnz.body=Nwc:=rfl
def Nwb:ACode:=(Oz [fT 4 2 0,s (.store 1 (t 4) (k (.bool true)))] (Ds 0 [lT 5 1,i 6 (.nilCheck (t 5)),fT 7 3 6,lT 8 7,lT 9 2,Gt 10 3 0,s (.mapUpdate (.int .i64) (t 8) (t 9) (t 10))] (.ops [lT 11 1,fT 12 0 0,lT 13 12,lT 14 2,lT 15 3,lT 16 3,Ct 17 148 [(t 11),(t 13),(k (.int .u8 3)),(t 14),(t 15),(t 16)]])))
def Nny:AFunc:=⟨18,[],Nwb⟩
theorem n151:Nny.ntmps=18:=id rfl
theorem Nsp:Nny.results=[]:=rfl
theorem Nzv:Nny.body=Nwb:=rfl
def c160:ACode:=(Oz [i 1 (.box (t 0)),i 2 (.mov (k (.bool false)))] (Oz [fT 3 0 1,lT 4 3,Ct 5 173 [(t 4)],mT 6 5,Pf 7 6 1 1,Pl 8 6 7,p 9 6 (.call .any (.func 173) [(t 8)]),At 10 6 9,mT 11 10,Pf 12 11 2 1,Pl 13 11 12,p 14 11 (.call .any (.func 173) [(t 13)]),At 15 11 14,mT 16 15,Pf 17 16 3 1,Pl 18 16 17,p 19 16 (.bin .geq (t 18) (k (.int .u8 1))),At 20 16 19,mT 21 20,Pf 22 21 3 1,Pl 23 21 22,p 24 21 (.bin .leq (t 23) (k (.int .u8 4))),At 25 21 24,mT 26 25,Pf 27 26 4 1,Pl 28 26 27,p 29 26 (.call .any (.func 174) [(t 28)]),At 30 26 29,mT 31 30,Pf 32 31 5 1,Pl 33 31 32,p 34 31 (.call .any (.func 174) [(t 33)]),At 35 31 34,mT 2 35] .ret))
def a160:AFunc:=⟨36,[(.tmp 2)],c160⟩
theorem n160:a160.ntmps=36:=id rfl
theorem Nfg:a160.results=[(.tmp 2)]:=rfl
theorem Nzs:a160.body=c160:=rfl
def c173:ACode:=(Oz [i 2 (.mov (k (.bool false)))] (Oz [mT 3 0,Bc 4 .geq 3 1,mT 5 4,Pm 6 5 0,p 7 5 (.bin .leq (t 6) (zT 999999)),At 8 5 7,mT 2 8] .ret))
def a173:AFunc:=⟨9,[(.tmp 2)],c173⟩
theorem n173:a173.ntmps=9:=id rfl
theorem Nw4:a173.results=[(.tmp 2)]:=rfl
theorem Nzr:a173.body=c173:=rfl
def Nv9:ACode:=(Oz [i 2 (.mov (k (.bool false)))] (Oz [mT 3 0,Bc 4 .geq 3 0,mT 5 4,Pm 6 5 0,p 7 5 (.bin .leq (t 6) (zT 1051898399)),At 8 5 7,mT 2 8] .ret))
def Nnw:AFunc:=⟨9,[(.tmp 2)],Nv9⟩
theorem n174:Nnw.ntmps=9:=id rfl
theorem Nw3:Nnw.results=[(.tmp 2)]:=rfl
theorem Nzq:Nnw.body=Nv9:=rfl
def Nxn:ACode:=(.seq (Oz [mT 8 5,mT 9 0,Nt 10 9,Bt 11 .lss 8 10,mT 12 11,Pm 13 12 5,p 14 12 (.bin .lss (t 13) (zT 40)),At 15 12 14] (Ce 15 0)) (.seq (.block 1 (Ds 0 [mT 18 3,mT 19 0,mT 20 5,xT 21 5 19 20,Gt 22 5 21,mT 24 4,mT 25 0,mT 26 5,xT 27 5 25 26,i 28 (.loadR true (some 5) (t 27)),i 23 (.call (.recs true) (.func 12) [(t 18),(t 22)]),Ct 29 29 [(t 28)],Ct 30 18 [(t 24),(t 29)],Bt 31 .neq 23 30] (.cond (t 31) (Oz [i 2 (.mov (k (.bool false)))] .ret) .skip))) (.ops [mT 16 5,Bc 17 .add 16 1,mT 5 17])))
def c7:ACode:=(Oz [i 2 (.mov (k (.bool false)))] (Oz [Ct 6 11 [],Ct 7 11 [],mT 3 6,mT 4 7] (.seq (Oz [Zm 5 0] (Bl 0 Nxn)) (Oz [mT 32 3,mT 33 4,Ct 34 28 [(t 32),(t 33)],mT 35 34,p 36 35 (.call .any (.func 17) []),At 37 35 36,mT 2 37] .ret))))
def a7:AFunc:=⟨38,[(.tmp 2)],c7⟩
theorem n7:a7.ntmps=38:=id rfl
theorem r7:a7.results=[(.tmp 2)]:=rfl
theorem b7:a7.body=c7:=rfl
def c17:ACode:=(Oz [i 0 (.mov (k (.bool false)))] (Oz [Ct 8 32 [(zT 200)],mT 7 8,Et 9 0 7,Et 10 1 7,mT 1 9,mT 2 10] (.seq (Oz [mT 11 2,Bc 12 .neq 11 0,mT 13 12,Qm 14 13 1,q 15 13 (.eqv false .ptr (t 14) (k (.pointer none))),Ot 16 13 15] (.cond (t 16) (Oz [i 0 (.mov (k (.bool false)))] .ret) .skip)) (Oz [mT 18 1,Ct 19 26 [(t 18)],mT 17 19,Et 20 0 17,Et 21 1 17,mT 3 20,mT 2 21] (.seq (Oz [mT 22 2,Bc 23 .neq 22 0,mT 24 23,Qm 25 24 3,q 26 24 (.call .any (.func 44) [(t 25),(zT 5),(k (.string ⟨#[65,110,110]⟩))]),q 27 24 (.bin .neq (t 26) (zT 0)),Ot 28 24 27,mT 29 28,Qm 30 29 3,q 31 29 (.call .any (.func 45) [(t 30),(zT 5),(zT 1000)]),q 32 29 (.bin .neq (t 31) (zT 0)),Ot 33 29 32,mT 34 33,Qm 35 34 3,q 36 34 (.call .any (.func 46) [(t 35),(zT 77),(zT 5),(zT 12),(zT 300)]),q 37 34 (.bin .neq (t 36) (zT 0)),Ot 38 34 37,mT 39 38,Qm 40 39 3,q 41 39 (.call .any (.func 46) [(t 40),(zT 78),(zT 5),(zT 12),(zT 701)]),q 42 39 (.bin .neq (t 41) (zT 431)),Ot 43 39 42] (.cond (t 43) (Oz [i 0 (.mov (k (.bool false)))] .ret) .skip)) (Oz [mT 45 3,Ct 46 13 [(t 45),(zT 5)],mT 44 46,Et 47 0 44,Et 48 1 44,mT 4 47,mT 2 48] (.seq (Oz [mT 49 2,Bc 50 .neq 49 0,mT 51 50,Qm 52 51 4,q 53 51 (.lenSlice (t 52)),q 54 51 (.bin .neq (t 53) (zT 2)),Ot 55 51 54,mT 56 55,Qm 57 56 4,q 58 56 (.idxAddrS 4 (t 57) (zT 0)),q 59 56 (.loadN 4 (t 58)),q 60 56 (.build [(.int .u8 0),(Vi 0),(Vi 0),(Vi 0)] [(0,(1,(k (.int .u8 1)))),(2,(1,(zT 1000))),(3,(1,(zT 1000)))]),q 61 56 (.eqv true (.agg [(.int .u8),(.int .i64),(.int .i64),(.int .i64)]) (t 59) (t 60)),Ot 62 56 61,mT 63 62,Qm 64 63 4,q 65 63 (.idxAddrS 4 (t 64) (zT 1)),q 66 63 (.loadN 4 (t 65)),q 67 63 (.build [(.int .u8 0),(Vi 0),(Vi 0),(Vi 0)] [(0,(1,(k (.int .u8 2)))),(1,(1,(zT 77))),(2,(1,(zT 300))),(3,(1,(zT 700)))]),q 68 63 (.eqv true (.agg [(.int .u8),(.int .i64),(.int .i64),(.int .i64)]) (t 66) (t 67)),Ot 69 63 68] (.cond (t 69) (Oz [i 0 (.mov (k (.bool false)))] .ret) .skip)) (.seq (Oz [mT 70 3,Ct 71 48 [(t 70),(zT 77),(zT 50)],Bc 72 .neq 71 0,mT 73 72,Qm 74 73 3,q 75 73 (.call .any (.func 48) [(t 74),(zT 77),(zT 50)]),q 76 73 (.bin .neq (t 75) (zT 430)),Ot 77 73 76,mT 78 77,Qm 79 78 3,q 80 78 (.call .any (.func 23) [(t 79)]),q 81 78 (.buildSlice 3 [(.string ⟨#[]⟩),(.string ⟨#[]⟩),(.string ⟨#[]⟩)] [(0,(1,(k (.string ⟨#[106,111,105,110]⟩)))),(1,(1,(k (.string ⟨#[53]⟩)))),(2,(1,(k (.string ⟨#[65,110,110]⟩))))]),q 82 78 (.buildSlice 3 [(.string ⟨#[]⟩),(.string ⟨#[]⟩),(.string ⟨#[]⟩)] [(0,(1,(k (.string ⟨#[112,97,121]⟩)))),(1,(1,(k (.string ⟨#[53]⟩)))),(2,(1,(k (.string ⟨#[49,48,48,48]⟩))))]),q 83 78 (.buildSlice 5 [(.string ⟨#[]⟩),(.string ⟨#[]⟩),(.string ⟨#[]⟩),(.string ⟨#[]⟩),(.string ⟨#[]⟩)] [(0,(1,(k (.string ⟨#[112,111,115,116]⟩)))),(1,(1,(k (.string ⟨#[55,55]⟩)))),(2,(1,(k (.string ⟨#[53]⟩)))),(3,(1,(k (.string ⟨#[49,50]⟩)))),(4,(1,(k (.string ⟨#[51,48,48]⟩))))]),q 84 78 (.buildSlice 3 [(.string ⟨#[]⟩),(.string ⟨#[]⟩),(.string ⟨#[]⟩)] [(0,(1,(k (.string ⟨#[114,101,102,117,110,100]⟩)))),(1,(1,(k (.string ⟨#[55,55]⟩)))),(2,(1,(k (.string ⟨#[53,48]⟩))))]),q 85 78 (.buildSlice 4 [Vz,Vz,Vz,Vz] [(0,(1,(t 81))),(1,(1,(t 82))),(2,(1,(t 83))),(3,(1,(t 84)))]),q 86 78 (.call .any (.func 30) [(t 80),(t 85)]),q 87 78 (.un .not (t 86)),Ot 88 78 87] (.cond (t 88) (Oz [i 0 (.mov (k (.bool false)))] .ret) .skip)) (.seq (Oz [mT 89 3,i 90 (.buildSlice 3 [(.string ⟨#[]⟩),(.string ⟨#[]⟩),(.string ⟨#[]⟩)] [(0,(1,(k (.string ⟨#[112,97,121]⟩)))),(1,(1,(k (.string ⟨#[48,53]⟩)))),(2,(1,(k (.string ⟨#[49]⟩))))]),Ct 91 18 [(t 89),(t 90)],Bc 92 .neq 91 432,mT 93 92,Qm 94 93 3,q 95 93 (.buildSlice 3 [(.string ⟨#[]⟩),(.string ⟨#[]⟩),(.string ⟨#[]⟩)] [(0,(1,(k (.string ⟨#[112,97,121]⟩)))),(1,(1,(k (.string ⟨#[53]⟩)))),(2,(1,(k (.string ⟨#[48]⟩))))]),q 96 93 (.call .any (.func 18) [(t 94),(t 95)]),q 97 93 (.bin .neq (t 96) (zT 2)),Ot 98 93 97,mT 99 98,Qm 100 99 3,q 101 99 (.buildSlice 3 [(.string ⟨#[]⟩),(.string ⟨#[]⟩),(.string ⟨#[]⟩)] [(0,(1,(k (.string ⟨#[112,97,121]⟩)))),(1,(1,(k (.string ⟨#[54]⟩)))),(2,(1,(k (.string ⟨#[49]⟩))))]),q 102 99 (.call .any (.func 18) [(t 100),(t 101)]),q 103 99 (.bin .neq (t 102) (zT 6)),Ot 104 99 103,mT 105 104,Qm 106 105 3,q 107 105 (.call .any (.func 22) [(t 106)]),q 108 105 (.bin .neq (t 107) (zT 0)),Ot 109 105 108,mT 110 109,Qm 111 110 3,q 112 110 (.call .any (.func 45) [(t 111),(zT 5),(zT 1)]),q 113 110 (.bin .neq (t 112) (zT 0)),Ot 114 110 113] (.cond (t 114) (Oz [i 0 (.mov (k (.bool false)))] .ret) .skip)) (Oz [mT 115 1,mT 116 1,i 117 (.nilCheck (t 116)),fT 118 1 117,lT 119 118,Nt 120 119,Ct 121 25 [(k (.int .u64 18446744073709551615)),(t 120)],Ct 122 24 [(t 115),(t 121)]] (Oz [mT 124 1,Ct 125 26 [(t 124)],mT 123 125,Et 126 0 123,Et 127 1 123,mT 5 126,mT 2 127] (.seq (Oz [mT 128 2,Bc 129 .neq 128 0] (.cond (t 129) (Oz [i 0 (.mov (k (.bool false)))] .ret) .skip)) (Oz [mT 131 5,Ct 132 14 [(t 131),(zT 5)],mT 130 132,Et 133 0 130,Et 134 1 130,mT 6 133,mT 2 134] (Oz [mT 135 6,Bc 136 .eql 135 750,mT 137 136,Pm 138 137 2,p 139 137 (.bin .eql (t 138) (zT 0)),At 140 137 139,mT 0 140] .ret))))))))))))))
def a17:AFunc:=⟨141,[(.tmp 0)],c17⟩
theorem n17:a17.ntmps=141:=id rfl
theorem r17:a17.results=[(.tmp 0)]:=rfl
theorem b17:a17.body=c17:=rfl
def Nqx:ACode:=(Oz [Bt 14 .lss 13 12] (.seq (Ce 14 0) (.seq (.block 1 (Oz [mT 15 13,xT 16 33 11 13,Gt 17 33 16,i 5 (.alloc [(Vi 0),(.int .u8 0),(.int .u8 0),(.int .u8 0),(.int .u8 0),(.int .u8 0),(.int .u8 0),(.int .u8 0),(.int .u8 0),(.int .u8 0),(.int .u8 0),(.int .u8 0),(.int .u8 0),(.int .u8 0),(.int .u8 0),(.int .u8 0),(.int .u8 0),(.int .u8 0),(.int .u8 0),(.int .u8 0),(.int .u8 0),(.int .u8 0),(.int .u8 0),(.int .u8 0),(.int .u8 0),(.int .u8 0),(.int .u8 0),(.int .u8 0),(.int .u8 0),(.int .u8 0),(.int .u8 0),(.int .u8 0),(.int .u8 0)]),mT 4 15,St 33 5 17] (Oz [mT 18 0,fT 19 0 5,lT 20 19,Ct 21 67 [(t 18),(t 20)],mT 22 21,Pm 23 22 4,Pm 24 22 1,p 25 22 (.lenSlice (t 24)),Pb 26 22 .geq 23 25,Pm 27 22 26,Qm 28 27 1,Qm 29 27 4,Qx 30 27 1 28 29,Ql 31 27 30,q 32 27 (.un .not (t 31)),p 33 22 (.pick (t 27) (k (.bool true)) (t 32)),At 34 22 33] (.cond (t 34) (.drawn 0 [mT 35 0,i 36 (.nilCheck (t 35)),fT 37 0 36,lT 38 37,fT 39 0 5,lT 40 39,fT 41 1 5,Gt 42 32 41,xT 43 32 38 40,St 32 43 42]) .skip)))) (.ops [Bc 44 .add 13 1,mT 13 44]))))
def c24:ACode:=(.seq (Oz [mT 6 0,i 7 (.eqv false .ptr (t 6) (k (.pointer none)))] (.cond (t 7) .ret .skip)) (.seq (Oz [mT 8 0,i 9 (.nilCheck (t 8)),fT 10 1 9,lT 11 10,Nt 12 11,Zm 13 0] (Bl 0 Nqx)) (.ops [mT 45 0,i 46 (.nilCheck (t 45)),fT 47 1 46,s (.store 1 (t 47) (k Vz))])))
def a24:AFunc:=⟨48,[],c24⟩
theorem n24:a24.ntmps=48:=id rfl
theorem r24:a24.results=[]:=rfl
theorem b24:a24.body=c24:=rfl
def Nuz:ACode:=(.seq (Oz [mT 7 6,mT 8 1,Bt 9 .lss 7 8] (Ce 9 0)) (.seq (.block 1 (.ops [mT 12 5,mT 13 0,mT 14 6,Bc 15 .rem 14 64,Bt 16 .shr 13 15,i 17 (.bin .and (t 16) (k (.int .u64 1))),i 18 (.bin .eql (t 17) (k (.int .u64 1))),i 19 (.buildSlice 1 [(.bool false)] [(0,(1,(t 18)))]),i 20 (.append 1 1 false (t 12) (t 19)),mT 5 20])) (.ops [mT 10 6,Bc 11 .add 10 1,mT 6 11])))
def c25:ACode:=(Oz [i 4 (.mov (k Vz))] (Oz [i 5 (.mov (k Vz))] (.seq (Oz [Zm 6 0] (Bl 0 Nuz)) (Oz [mT 21 5,mT 4 21] .ret))))
def a25:AFunc:=⟨22,[(.tmp 4)],c25⟩
theorem n25:a25.ntmps=22:=id rfl
theorem r25:a25.results=[(.tmp 4)]:=rfl
theorem b25:a25.body=c25:=rfl
def Nux:ACode:=(.seq (Oz [mT 16 5,Bc 17 .lss 16 18] (Ce 17 0)) (.seq (.block 1 (Oz [mT 21 0,mT 22 5,Ct 23 16 [(t 21),(t 22)],mT 20 23,Et 24 0 20,Et 25 1 20,mT 6 24,mT 7 25] (Oz [mT 27 1,mT 28 5,Ct 29 16 [(t 27),(t 28)],mT 26 29,Et 30 0 26,Et 31 1 26,mT 8 30,mT 9 31] (Oz [mT 32 6,mT 33 8,Bt 34 .neq 32 33,mT 35 34,Qm 36 35 7,Qm 37 35 9,Qb 38 35 .neq 36 37,Ot 39 35 38,mT 40 39,Qm 41 40 5,q 42 40 (.bin .lss (t 41) (zT 8)),Qm 43 40 42,Pm 44 43 0,Pm 45 43 1,Pm 46 43 5,p 47 43 (.call .any (.func 70) [(t 44),(t 45),(t 46)]),p 48 43 (.un .not (t 47)),q 49 40 (.pick (t 43) (t 48) (k (.bool false))),Ot 50 40 49] (.cond (t 50) (Oz [i 4 (.mov (k (.bool false)))] .ret) .skip))))) (.ops [mT 18 5,Bc 19 .add 18 1,mT 5 19])))
def c28:ACode:=(Oz [i 4 (.mov (k (.bool false)))] (.seq (Oz [mT 10 0,Ct 11 23 [(t 10)],mT 12 1,Ct 13 23 [(t 12)],Ct 14 30 [(t 11),(t 13)],Ut 15 14] (.cond (t 15) (Oz [i 4 (.mov (k (.bool false)))] .ret) .skip)) (.seq (Oz [Zm 5 0] (Bl 0 Nux)) (Oz [i 4 (.mov (k (.bool true)))] .ret))))
def a28:AFunc:=⟨51,[(.tmp 4)],c28⟩
theorem n28:a28.ntmps=51:=id rfl
theorem r28:a28.results=[(.tmp 4)]:=rfl
theorem b28:a28.body=c28:=rfl
def c29:ACode:=(Oz [i 1 (.box (t 0)),i 2 (.mov (k Vz))] (Ds 0 [fT 6 1 1,lT 7 6,i 8 (.bin .rem (t 7) (k (.int .u8 6))),i 9 (.conv .i64 (t 8)),i 10 (.bin .add (zT 1) (t 9)),i 11 (.call .pure (.func 71) [(t 10)]),fT 12 2 1,lT 13 12,i 14 (.bin .rem (t 13) (k (.int .u8 16))),i 15 (.conv .i64 (t 14)),i 16 (.bin .add (zT 1) (t 15)),i 17 (.call .pure (.func 71) [(t 16)]),mT 3 11,mT 4 17] (.seq (Oz [fT 18 0 1,lT 19 18,i 20 (.bin .rem (t 19) (k (.int .u8 8)))] (.block 0 (Oz [i 22 (.bin .eql (t 20) (k (.int .u8 0))),mT 21 22] (.cond (t 21) (Oz [mT 23 3,fT 24 3 1,lT 25 24,i 26 (.bin .rem (t 25) (k (.int .u16 26))),i 27 (.conv .u8 (t 26)),i 28 (.bin .add (k (.int .u8 97)) (t 27)),i 29 (.buildSlice 1 [(.int .u8 0)] [(0,(1,(t 28)))]),i 30 (.b2s (t 29)),i 31 (.bin .add (k (.string ⟨#[77]⟩)) (t 30)),i 32 (.buildSlice 3 [(.string ⟨#[]⟩),(.string ⟨#[]⟩),(.string ⟨#[]⟩)] [(0,(1,(k (.string ⟨#[106,111,105,110]⟩)))),(1,(1,(t 23))),(2,(1,(t 31)))]),mT 2 32] .ret) (.seq (Oz [i 34 (.bin .eql (t 20) (k (.int .u8 1))),mT 33 34] (.cond (t 33) .skip (.ops [i 35 (.bin .eql (t 20) (k (.int .u8 2))),mT 33 35]))) (.cond (t 33) (Oz [mT 36 3,fT 37 3 1,lT 38 37,i 39 (.conv .i64 (t 38)),Ct 40 71 [(t 39)],i 41 (.buildSlice 3 [(.string ⟨#[]⟩),(.string ⟨#[]⟩),(.string ⟨#[]⟩)] [(0,(1,(k (.string ⟨#[112,97,121]⟩)))),(1,(1,(t 36))),(2,(1,(t 40)))]),mT 2 41] .ret) (.seq (Oz [i 43 (.bin .eql (t 20) (k (.int .u8 3))),mT 42 43] (.cond (t 42) .skip (.ops [i 44 (.bin .eql (t 20) (k (.int .u8 4))),mT 42 44]))) (.cond (t 42) (Ds 1 [mT 45 4,mT 46 3,fT 47 4 1,Kt 48 (.load1 (t 47)) [0],i 49 (.bin .rem (t 48) (k (.int .u64 50))),i 50 (.conv .i64 (t 49)),i 51 (.bin .add (zT 1) (t 50)),Kt 52 (.call .pure (.func 71) [(t 51)]) [0],fT 53 3 1,Kt 54 (.load1 (t 53)) [0],i 55 (.conv .i64 (t 54)),Bc 56 .quo 55 3,Kt 57 (.call .pure (.func 71) [(t 56)]) [0],⟨(some 58),none,(.buildSlice 5 [(.string ⟨#[]⟩),(.string ⟨#[]⟩),(.string ⟨#[]⟩),(.string ⟨#[]⟩),(.string ⟨#[]⟩)] [(0,(1,(k (.string ⟨#[112,111,115,116]⟩)))),(1,(1,(t 45))),(2,(1,(t 46))),(3,(1,(t 52))),(4,(1,(t 57)))]),(some 0),[]⟩,mT 2 58] .ret) (.seq (Oz [i 60 (.bin .eql (t 20) (k (.int .u8 5))),mT 59 60] (.cond (t 59) .skip (.ops [i 61 (.bin .eql (t 20) (k (.int .u8 6))),mT 59 61]))) (.cond (t 59) (Oz [Gt 62 5 1,Ct 63 40 [(t 62)],i 5 (.alloc [(Vi 0),(Vi 0),(Vi 0),(.int .u8 0),(Vi 0),(Vi 0)]),St 6 5 63] (Ds 1 [fT 64 0 5,Kt 65 (.load1 (t 64)) [0],Kt 66 (.call .pure (.func 71) [(t 65)]) [0],fT 67 1 5,Kt 68 (.load1 (t 67)) [0],Kt 69 (.call .pure (.func 71) [(t 68)]) [0],fT 70 2 5,Kt 71 (.load1 (t 70)) [0],Kt 72 (.call .pure (.func 71) [(t 71)]) [0],fT 73 3 5,Kt 74 (.load1 (t 73)) [0],i 75 (.conv .i64 (t 74)),Kt 76 (.call .pure (.func 71) [(t 75)]) [0],fT 77 4 5,Kt 78 (.load1 (t 77)) [0],Kt 79 (.call .pure (.func 71) [(t 78)]) [0],fT 80 5 5,Kt 81 (.load1 (t 80)) [0],Kt 82 (.call .pure (.func 71) [(t 81)]) [0],⟨(some 83),none,(.buildSlice 7 [(.string ⟨#[]⟩),(.string ⟨#[]⟩),(.string ⟨#[]⟩),(.string ⟨#[]⟩),(.string ⟨#[]⟩),(.string ⟨#[]⟩),(.string ⟨#[]⟩)] [(0,(1,(k (.string ⟨#[115,99,97,110]⟩)))),(1,(1,(t 66))),(2,(1,(t 69))),(3,(1,(t 72))),(4,(1,(t 76))),(5,(1,(t 79))),(6,(1,(t 82)))]),(some 0),[]⟩,mT 2 83] .ret)) .skip)))))))))) (Oz [mT 84 4,fT 85 3 1,lT 86 85,i 87 (.conv .i64 (t 86)),Bc 88 .rem 87 500,Ct 89 71 [(t 88)],i 90 (.buildSlice 3 [(.string ⟨#[]⟩),(.string ⟨#[]⟩),(.string ⟨#[]⟩)] [(0,(1,(k (.string ⟨#[114,101,102,117,110,100]⟩)))),(1,(1,(t 84))),(2,(1,(t 89)))]),mT 2 90] .ret))))
def a29:AFunc:=⟨91,[(.tmp 2)],c29⟩
theorem n29:a29.ntmps=91:=id rfl
theorem r29:a29.results=[(.tmp 2)]:=rfl
theorem b29:a29.body=c29:=rfl
def Nuw:ACode:=(Oz [Bt 14 .lss 13 12] (.seq (Ce 14 0) (.seq (.block 1 (Oz [mT 15 13,mT 5 15] (Ds 0 [mT 16 0,mT 17 5,xT 18 1 16 17,lT 19 18,mT 20 1,mT 21 5,xT 22 1 20 21,lT 23 22,i 24 (.call .pure (.func 72) [(t 19),(t 23)]),Ut 25 24] (.cond (t 25) (Oz [i 4 (.mov (k (.bool false)))] .ret) .skip)))) (.ops [Bc 26 .add 13 1,mT 13 26]))))
def c30:ACode:=(Oz [i 4 (.mov (k (.bool false)))] (.seq (Oz [mT 6 0,Nt 7 6,mT 8 1,Nt 9 8,Bt 10 .neq 7 9] (.cond (t 10) (Oz [i 4 (.mov (k (.bool false)))] .ret) .skip)) (.seq (Oz [mT 11 0,Nt 12 11,Zm 13 0] (Bl 0 Nuw)) (Oz [i 4 (.mov (k (.bool true)))] .ret))))
def a30:AFunc:=⟨27,[(.tmp 4)],c30⟩
theorem n30:a30.ntmps=27:=id rfl
theorem r30:a30.results=[(.tmp 4)]:=rfl
theorem b30:a30.body=c30:=rfl
def c32:ACode:=(Oz [i 2 (.mov (k (.pointer none))),Zm 3 0] (.seq (Oz [mT 4 0,Bc 5 .lss 4 4,mT 6 5,Qm 7 6 0,q 8 6 (.bin .gtr (t 7) (zT 32768)),Ot 9 6 8] (.cond (t 9) (Oz [i 2 (.mov (k (.pointer none))),Zm 3 2] .ret) .skip)) (Oz [mT 10 0,i 11 (.makeSlice 32 32 [(.int .u8 0),(.int .u8 0),(.int .u8 0),(.int .u8 0),(.int .u8 0),(.int .u8 0),(.int .u8 0),(.int .u8 0),(.int .u8 0),(.int .u8 0),(.int .u8 0),(.int .u8 0),(.int .u8 0),(.int .u8 0),(.int .u8 0),(.int .u8 0),(.int .u8 0),(.int .u8 0),(.int .u8 0),(.int .u8 0),(.int .u8 0),(.int .u8 0),(.int .u8 0),(.int .u8 0),(.int .u8 0),(.int .u8 0),(.int .u8 0),(.int .u8 0),(.int .u8 0),(.int .u8 0),(.int .u8 0),(.int .u8 0)] (t 10) (t 10)),i 12 (.build [Vz,Vz] [(0,(1,(t 11)))]),i 13 (.box (t 12)),mT 2 13,Zm 3 0] .ret)))
def a32:AFunc:=⟨14,[(.tmp 2),(.tmp 3)],c32⟩
theorem n32:a32.ntmps=14:=id rfl
theorem r32:a32.results=[(.tmp 2),(.tmp 3)]:=rfl
theorem b32:a32.body=c32:=rfl
def Nqw:ACode:=(Oz [Bc 38 .lss 37 2] (.seq (Ce 38 0) (.seq (.block 1 (Oz [mT 39 37,i 40 (.idxA 2 1 false (t 36) (t 37)),mT 9 39,mT 10 40] (Oz [mT 42 10,Ct 43 76 [(t 42)],mT 41 43,Et 44 0 41,Et 45 1 41,Et 46 2 41,mT 11 44,mT 12 45,mT 13 46] (Oz [mT 47 11,Nt 48 47,Bc 49 .gtr 48 0,mT 50 49,Pm 51 50 8,p 52 50 (.un .not (t 51)),Pm 53 50 52,Qm 54 53 12,Qm 55 53 7,q 56 53 (.nilCheck (t 55)),Qf 57 53 2 56,Ql 58 53 57,Qb 59 53 .gtr 54 58,p 60 50 (.pick (t 53) (k (.bool true)) (t 59)),At 61 50 60] (.cond (t 61) (Oz [i 8 (.mov (k (.bool true)))] (.ops [mT 62 7,mT 63 7,mT 64 7,mT 65 9,mT 66 12,mT 67 13,i 68 (.nilCheck (t 62)),fT 69 1 68,St 1 69 65,i 70 (.nilCheck (t 63)),fT 71 2 70,St 1 71 66,i 72 (.nilCheck (t 64)),fT 73 4 72,St 1 73 67])) .skip))))) (.ops [Bc 74 .add 37 1,mT 37 74]))))
def c33:ACode:=(Oz [i 2 (.mov (k (.pointer none))),Zm 3 0] (.seq (Oz [mT 14 0,i 15 (.eqv false .ptr (t 14) (k (.pointer none))),mT 16 15,Qm 17 16 0,q 18 16 (.call .any (.func 73) [(t 17)]),q 19 16 (.un .not (t 18)),Ot 20 16 19] (.cond (t 20) (Oz [i 2 (.mov (k (.pointer none))),Zm 3 2] .ret) .skip)) (Oz [mT 21 0,Ct 22 74 [(t 21)],i 4 (.alloc [Vz,Vz]),St 2 4 22] (Oz [Gt 24 2 4,Ct 25 75 [(t 24)],mT 23 25,Et 26 0 23,Et 27 1 23,mT 5 26,mT 6 27] (.seq (Oz [mT 28 6,Bc 29 .add 28 1,mT 6 29] (Oz [mT 30 6,Bc 31 .gtr 30 1073741824] (.cond (t 31) (Oz [i 2 (.mov (k (.pointer none))),Zm 3 420] .ret) .skip))) (Oz [mT 32 0,mT 33 6,i 34 (.build [(.pointer none),(Vi 0),(Vi 0),(Vi 0),(Vi 0)] [(0,(1,(t 32))),(3,(1,(t 33)))]),i 35 (.box (t 34)),mT 7 35] (Oz [i 8 (.mov (k (.bool false)))] (.seq (Oz [Gt 36 2 4,Zm 37 0] (Bl 0 Nqw)) (.seq (Oz [mT 75 8,Ut 76 75] (.cond (t 76) (.seq (Oz [mT 77 5,Bc 78 .add 77 1,mT 5 78] (Oz [mT 79 5,Bc 80 .gtr 79 1073741824] (.cond (t 80) (Oz [i 2 (.mov (k (.pointer none))),Zm 3 420] .ret) .skip))) (.ops [mT 81 7,mT 82 5,i 83 (.nilCheck (t 81)),fT 84 2 83,St 1 84 82])) .skip)) (Oz [mT 85 0,mT 86 0,i 87 (.nilCheck (t 86)),fT 88 1 87,lT 89 88,Ct 90 77 [(t 89)],i 91 (.nilCheck (t 85)),fT 92 1 91,St 1 92 90] (.seq (Oz [mT 93 8,Ut 94 93] (.cond (t 94) (Oz [mT 95 7,Ct 96 78 [(t 95),(k Vz)]] (.ops [mT 97 0,Ct 98 79 [(t 97)]])) .skip)) (Oz [mT 99 7,mT 2 99,Zm 3 0] .ret))))))))))))
def a33:AFunc:=⟨100,[(.tmp 2),(.tmp 3)],c33⟩
theorem n33:a33.ntmps=100:=id rfl
theorem r33:a33.results=[(.tmp 2),(.tmp 3)]:=rfl
theorem b33:a33.body=c33:=rfl
def Nuv:ACode:=(Oz [Bt 13 .lss 12 11] (.seq (Ce 13 0) (.seq (.block 1 (Oz [xT 14 1 10 12,lT 15 14,mT 6 15] (.seq (Oz [mT 16 6,i 17 (.lenStr (t 16)),Bc 18 .gtr 17 1000] (.cond (t 18) (Oz [i 2 (.mov (k Vz)),Zm 3 3] .ret) .skip)) (Oz [mT 19 4,mT 20 6,i 21 (.lenStr (t 20)),i 22 (.bin .shr (t 21) (k (.int .u64 8))),i 23 (.conv .u8 (t 22)),mT 24 6,i 25 (.lenStr (t 24)),i 26 (.conv .u8 (t 25)),i 27 (.buildSlice 2 [(.int .u8 0),(.int .u8 0)] [(0,(1,(t 23))),(1,(1,(t 26)))]),i 28 (.append 1 1 false (t 19) (t 27)),mT 4 28] (.ops [mT 29 4,mT 30 6,i 31 (.append 1 1 true (t 29) (t 30)),mT 4 31]))))) (.ops [Bc 32 .add 12 1,mT 12 32]))))
def c34:ACode:=(Oz [i 2 (.mov (k Vz)),Zm 3 0] (.seq (Oz [mT 7 0,Nt 8 7,Bc 9 .gtr 8 100] (.cond (t 9) (Oz [i 2 (.mov (k Vz)),Zm 3 5] .ret) .skip)) (Oz [i 4 (.mov (k Vz))] (.seq (Oz [mT 10 0,Nt 11 10,Zm 12 0] (Bl 0 Nuv)) (.seq (Oz [mT 33 4,Nt 34 33,Bc 35 .gtr 34 4000] (.cond (t 35) (Oz [i 2 (.mov (k Vz)),Zm 3 3] .ret) .skip)) (Oz [mT 36 4,mT 2 36,Zm 3 0] .ret))))))
def a34:AFunc:=⟨37,[(.tmp 2),(.tmp 3)],c34⟩
theorem n34:a34.ntmps=37:=id rfl
theorem r34:a34.results=[(.tmp 2),(.tmp 3)]:=rfl
theorem b34:a34.body=c34:=rfl
def c36:ACode:=(Oz [Zm 4 0] (.seq (.block 0 (Oz [mT 6 0,Ct 7 80 [(t 6)],mT 5 7] (.cond (t 5) (Oz [Zm 4 1] .ret) (Oz [mT 9 1,Nt 10 9,Bc 11 .gtr 10 4000,mT 8 11] (.cond (t 8) (Oz [Zm 4 3] .ret) (Oz [mT 13 1,Ct 14 81 [(t 13)],mT 15 0,Ct 16 82 [(t 15)],Bt 17 .gtr 14 16,mT 12 17] (.cond (t 12) (Oz [Zm 4 4] .ret) .skip))))))) (Oz [mT 18 0,mT 19 1,Ct 20 78 [(t 18),(t 19)]] (Oz [Zm 4 0] .ret))))
def a36:AFunc:=⟨21,[(.tmp 4)],c36⟩
theorem n36:a36.ntmps=21:=id rfl
theorem r36:a36.results=[(.tmp 4)]:=rfl
theorem b36:a36.body=c36:=rfl
def c40:ACode:=(Oz [i 1 (.box (t 0)),i 2 (.alloc [(Vi 0),(Vi 0),(Vi 0),(.int .u8 0),(Vi 0),(Vi 0)])] (Oz [fT 4 4 1,lT 5 4,i 6 (.bin .rem (t 5) (k (.int .u64 4000))),i 7 (.conv .i64 (t 6)),mT 3 7] (Oz [fT 8 2 1,lT 9 8,i 10 (.bin .rem (t 9) (k (.int .u8 16))),i 11 (.conv .i64 (t 10)),i 12 (.bin .add (zT 1) (t 11)),fT 13 1 1,lT 14 13,i 15 (.bin .rem (t 14) (k (.int .u8 3))),i 16 (.conv .i64 (t 15)),i 17 (.bin .add (zT 1) (t 16)),fT 18 1 1,lT 19 18,i 20 (.bin .rem (t 19) (k (.int .u8 2))),i 21 (.conv .i64 (t 20)),i 22 (.bin .add (zT 1) (t 21)),fT 23 0 1,lT 24 23,i 25 (.bin .rem (t 24) (k (.int .u8 4))),i 26 (.bin .add (k (.int .u8 1)) (t 25)),mT 27 3,mT 28 3,fT 29 3 1,lT 30 29,i 31 (.bin .rem (t 30) (k (.int .u16 9))),i 32 (.conv .i64 (t 31)),Bt 33 .add 28 32,i 34 (.build [(Vi 0),(Vi 0),(Vi 0),(.int .u8 0),(Vi 0),(Vi 0)] [(0,(1,(t 12))),(1,(1,(t 17))),(2,(1,(t 22))),(3,(1,(t 26))),(4,(1,(t 27))),(5,(1,(t 33)))]),St 6 2 34] .ret)))
def a40:AFunc:=⟨35,[(.cellN 6 2)],c40⟩
theorem n40:a40.ntmps=35:=id rfl
theorem r40:a40.results=[(.cellN 6 2)]:=rfl
theorem b40:a40.body=c40:=rfl
def Nuu:ACode:=(.seq (Oz [mT 11 5,mT 12 0,Nt 13 12,Bt 14 .lss 11 13] (Ce 14 0)) (.seq (.block 1 (Ds 0 [mT 17 0,mT 18 5,xT 19 1 17 18,lT 20 19,mT 21 1,mT 22 5,xT 23 1 21 22,lT 24 23,Bt 25 .neq 20 24] (.cond (t 25) (Oz [i 4 (.mov (k (.bool false)))] .ret) .skip))) (.ops [mT 15 5,Bc 16 .add 15 1,mT 5 16])))
def c43:ACode:=(Oz [i 4 (.mov (k (.bool false)))] (.seq (Oz [mT 6 0,Nt 7 6,mT 8 1,Nt 9 8,Bt 10 .neq 7 9] (.cond (t 10) (Oz [i 4 (.mov (k (.bool false)))] .ret) .skip)) (.seq (Oz [Zm 5 0] (Bl 0 Nuu)) (Oz [i 4 (.mov (k (.bool true)))] .ret))))
def a43:AFunc:=⟨26,[(.tmp 4)],c43⟩
theorem n43:a43.ntmps=26:=id rfl
theorem r43:a43.results=[(.tmp 4)]:=rfl
theorem b43:a43.body=c43:=rfl
def c66:ACode:=(Oz [Zm 2 0] (.seq (Oz [mT 3 0,Ct 4 80 [(t 3)]] (.cond (t 4) (Oz [Zm 2 1] .ret) .skip)) (Oz [mT 5 0,i 6 (.nilCheck (t 5)),fT 7 0 6,lT 8 7,Ct 9 79 [(t 8)]] (Oz [Zm 2 0] .ret))))
def a66:AFunc:=⟨10,[(.tmp 2)],c66⟩
theorem n66:a66.ntmps=10:=id rfl
theorem r66:a66.results=[(.tmp 2)]:=rfl
theorem b66:a66.body=c66:=rfl
def c67:ACode:=(Oz [i 4 (.mov (k (.bool false)))] (Oz [mT 5 1,Bc 6 .geq 5 0,mT 7 6,Pm 8 7 1,Pm 9 7 0,p 10 7 (.nilCheck (t 9)),Pf 11 7 0 10,Pl 12 7 11,p 13 7 (.lenSlice (t 12)),Pb 14 7 .lss 8 13,At 15 7 14,mT 4 15] .ret))
def a67:AFunc:=⟨16,[(.tmp 4)],c67⟩
theorem n67:a67.ntmps=16:=id rfl
theorem r67:a67.results=[(.tmp 4)]:=rfl
theorem b67:a67.body=c67:=rfl
def c68:ACode:=(Oz [i 2 (.mov (k Vz))] (.seq (Oz [mT 6 0,Ct 7 80 [(t 6)]] (.cond (t 7) (Oz [i 2 (.mov (k Vz))] .ret) .skip)) (Ds 0 [mT 9 0,i 10 (.nilCheck (t 9)),fT 11 0 10,lT 12 11,mT 14 0,i 15 (.nilCheck (t 14)),fT 16 1 15,lT 17 16,i 13 (.call .mk (.func 74) [(t 12)]),i 18 (.idxA 2 1 false (t 13) (t 17)),Ct 19 76 [(t 18)],mT 8 19,Et 20 0 8,Et 21 1 8,Et 22 2 8,mT 3 20,mT 4 21,mT 5 22] (Oz [mT 23 3,mT 2 23] .ret))))
def a68:AFunc:=⟨24,[(.tmp 2)],c68⟩
theorem n68:a68.ntmps=24:=id rfl
theorem r68:a68.results=[(.tmp 2)]:=rfl
theorem b68:a68.body=c68:=rfl
def Nut:ACode:=(.seq (Oz [mT 9 0,Nt 10 9,Bc 11 .gtr 10 0] (Ce 11 0)) (.block 1 (.seq (Oz [mT 12 0,Nt 13 12,Bc 14 .lss 13 2,mT 15 14,Qm 16 15 4,q 17 15 (.lenSlice (t 16)),q 18 15 (.bin .eql (t 17) (zT 100)),Ot 19 15 18] (.cond (t 19) (Oz [i 2 (.mov (k Vz)),Zm 3 421] .ret) .skip)) (Ds 0 [mT 20 0,i 21 (.idxAddrS 1 (t 20) (zT 0)),lT 22 21,i 23 (.conv .i64 (t 22)),i 24 (.bin .shl (t 23) (k (.int .u64 8))),mT 25 0,i 26 (.idxAddrS 1 (t 25) (zT 1)),lT 27 26,i 28 (.conv .i64 (t 27)),Bt 29 .or 24 28,mT 5 29] (.seq (Oz [mT 30 5,Bc 31 .gtr 30 1000,mT 32 31,Qm 33 32 5,Qm 34 32 0,q 35 32 (.lenSlice (t 34)),q 36 32 (.bin .sub (t 35) (zT 2)),Qb 37 32 .gtr 33 36,Ot 38 32 37] (.cond (t 38) (Oz [i 2 (.mov (k Vz)),Zm 3 421] .ret) .skip)) (Oz [mT 39 4,mT 40 0,mT 41 5,i 42 (.bin .add (zT 2) (t 41)),i 43 (.sliceS 1 (t 40) (some (zT 2)) (some (t 42)) none),i 44 (.b2s (t 43)),i 45 (.buildSlice 1 [(.string ⟨#[]⟩)] [(0,(1,(t 44)))]),i 46 (.append 1 16 false (t 39) (t 45)),mT 4 46] (.ops [mT 47 0,mT 48 5,i 49 (.bin .add (zT 2) (t 48)),i 50 (.sliceS 1 (t 47) (some (t 49)) none none),mT 0 50])))))))
def c69:ACode:=(Oz [i 2 (.mov (k Vz)),Zm 3 0] (.seq (Oz [mT 6 0,Nt 7 6,Bc 8 .gtr 7 4000] (.cond (t 8) (Oz [i 2 (.mov (k Vz)),Zm 3 421] .ret) .skip)) (Oz [i 4 (.mov (k Vz))] (.seq (Bl 0 Nut) (Oz [mT 51 4,mT 2 51,Zm 3 0] .ret)))))
def a69:AFunc:=⟨52,[(.tmp 2),(.tmp 3)],c69⟩
theorem n69:a69.ntmps=52:=id rfl
theorem r69:a69.results=[(.tmp 2),(.tmp 3)]:=rfl
theorem b69:a69.body=c69:=rfl
def Nus:ACode:=(Oz [Bt 116 .lss 115 114] (.seq (Ce 116 0) (.seq (.block 1 (Oz [mT 117 115,mT 23 117] (Ds 0 [mT 118 15,mT 119 23,xT 120 4 118 119,Gt 121 4 120,mT 122 17,mT 123 23,xT 124 4 122 123,Gt 125 4 124,i 126 (.eqv true (.agg [(.int .u8),(.int .i64),(.int .i64),(.int .i64)]) (t 121) (t 125))] (.cond (t 126) (Oz [i 6 (.mov (k (.bool false)))] .ret) .skip)))) (.ops [Bc 127 .add 115 1,mT 115 127]))))
def c70:ACode:=(Oz [i 6 (.mov (k (.bool false)))] (Oz [mT 25 0,mT 26 2,Ct 27 113 [(t 25),(t 26)],mT 24 27,Et 28 0 24,Et 29 1 24,mT 7 28,mT 8 29] (Oz [mT 31 1,mT 32 2,Ct 33 113 [(t 31),(t 32)],mT 30 33,Et 34 0 30,Et 35 1 30,mT 9 34,mT 10 35] (Oz [mT 37 0,mT 38 2,Ct 39 14 [(t 37),(t 38)],mT 36 39,Et 40 0 36,Et 41 1 36,mT 11 40,mT 12 41] (Oz [mT 43 1,mT 44 2,Ct 45 14 [(t 43),(t 44)],mT 42 45,Et 46 0 42,Et 47 1 42,mT 13 46,mT 14 47] (Oz [mT 49 0,mT 50 2,Ct 51 13 [(t 49),(t 50)],mT 48 51,Et 52 0 48,Et 53 1 48,mT 15 52,mT 16 53] (Oz [mT 55 1,mT 56 2,Ct 57 13 [(t 55),(t 56)],mT 54 57,Et 58 0 54,Et 59 1 54,mT 17 58,mT 18 59] (Oz [mT 61 0,mT 62 2,Ct 63 15 [(t 61),(t 62)],mT 60 63,Et 64 0 60,Et 65 1 60,mT 19 64,mT 20 65] (Oz [mT 67 1,mT 68 2,Ct 69 15 [(t 67),(t 68)],mT 66 69,Et 70 0 66,Et 71 1 66,mT 21 70,mT 22 71] (.seq (Oz [mT 72 7,mT 73 9,Bt 74 .neq 72 73,mT 75 74,Qm 76 75 11,Qm 77 75 13,Qb 78 75 .neq 76 77,Ot 79 75 78,mT 80 79,Qm 81 80 8,Qm 82 80 10,Qb 83 80 .neq 81 82,Ot 84 80 83,mT 85 84,Qm 86 85 12,Qm 87 85 14,Qb 88 85 .neq 86 87,Ot 89 85 88,mT 90 89,Qm 91 90 16,Qm 92 90 18,Qb 93 90 .neq 91 92,Ot 94 90 93,mT 95 94,Qm 96 95 20,Qm 97 95 22,Qb 98 95 .neq 96 97,Ot 99 95 98,mT 100 99,Qm 101 100 15,q 102 100 (.lenSlice (t 101)),Qm 103 100 17,q 104 100 (.lenSlice (t 103)),Qb 105 100 .neq 102 104,Ot 106 100 105,mT 107 106,Qm 108 107 19,Qm 109 107 21,q 110 107 (.call .any (.func 43) [(t 108),(t 109)]),q 111 107 (.un .not (t 110)),Ot 112 107 111] (.cond (t 112) (Oz [i 6 (.mov (k (.bool false)))] .ret) .skip)) (.seq (Oz [mT 113 15,Nt 114 113,Zm 115 0] (Bl 0 Nus)) (Oz [i 6 (.mov (k (.bool true)))] .ret))))))))))))
def a70:AFunc:=⟨128,[(.tmp 6)],c70⟩
theorem n70:a70.ntmps=128:=id rfl
theorem r70:a70.results=[(.tmp 6)]:=rfl
theorem b70:a70.body=c70:=rfl
def Nur:ACode:=(.seq (Oz [mT 12 0,Bc 13 .gtr 12 0] (Ce 13 0)) (.seq (.block 1 (.ops [mT 16 0,Bc 17 .rem 16 10,i 18 (.conv .u8 (t 17)),i 19 (.bin .add (k (.int .u8 48)) (t 18)),i 20 (.buildSlice 1 [(.int .u8 0)] [(0,(1,(t 19)))]),i 21 (.b2s (t 20)),mT 22 3,Bt 23 .add 21 22,mT 3 23])) (.ops [mT 14 0,Bc 15 .quo 14 10,mT 0 15])))
def c71:ACode:=(Oz [i 2 (.mov (k (.string ⟨#[]⟩)))] (Oz [mT 4 0,Bc 5 .rem 4 10,i 6 (.conv .u8 (t 5)),i 7 (.bin .add (k (.int .u8 48)) (t 6)),i 8 (.buildSlice 1 [(.int .u8 0)] [(0,(1,(t 7)))]),i 9 (.b2s (t 8)),mT 3 9] (.seq (Oz [mT 10 0,Bc 11 .quo 10 10,mT 0 11] (Bl 0 Nur)) (Oz [mT 24 3,mT 2 24] .ret))))
def a71:AFunc:=⟨25,[(.tmp 2)],c71⟩
theorem n71:a71.ntmps=25:=id rfl
theorem r71:a71.results=[(.tmp 2)]:=rfl
theorem b71:a71.body=c71:=rfl
def Nuq:ACode:=(.seq (Oz [mT 11 5,mT 12 0,Nt 13 12,Bt 14 .lss 11 13] (Ce 14 0)) (.seq (.block 1 (Ds 0 [mT 17 0,mT 18 5,xT 19 1 17 18,lT 20 19,mT 21 1,mT 22 5,xT 23 1 21 22,lT 24 23,Bt 25 .neq 20 24] (.cond (t 25) (Oz [i 4 (.mov (k (.bool false)))] .ret) .skip))) (.ops [mT 15 5,Bc 16 .add 15 1,mT 5 16])))
def c72:ACode:=(Oz [i 4 (.mov (k (.bool false)))] (.seq (Oz [mT 6 0,Nt 7 6,mT 8 1,Nt 9 8,Bt 10 .neq 7 9] (.cond (t 10) (Oz [i 4 (.mov (k (.bool false)))] .ret) .skip)) (.seq (Oz [Zm 5 0] (Bl 0 Nuq)) (Oz [i 4 (.mov (k (.bool true)))] .ret))))
def a72:AFunc:=⟨26,[(.tmp 4)],c72⟩
theorem n72:a72.ntmps=26:=id rfl
theorem r72:a72.results=[(.tmp 4)]:=rfl
theorem b72:a72.body=c72:=rfl
def c73:ACode:=(Oz [i 1 (.box (t 0)),i 2 (.mov (k (.bool false)))] (Oz [lT 3 1,i 4 (.nilCheck (t 3)),fT 5 0 4,lT 6 5,Nt 7 6,Bc 8 .geq 7 4,mT 9 8,Pl 10 9 1,p 11 9 (.nilCheck (t 10)),Pf 12 9 0 11,Pl 13 9 12,p 14 9 (.lenSlice (t 13)),p 15 9 (.bin .leq (t 14) (zT 32768)),At 16 9 15,mT 17 16,Pl 18 17 1,p 19 17 (.nilCheck (t 18)),Pf 20 17 1 19,Pl 21 17 20,p 22 17 (.makeFunc 117 [] [(t 1)]),p 23 17 (.call .any (.func 116) [(t 21),(t 22)]),p 24 17 (.un .not (t 23)),At 25 17 24,mT 2 25] .ret))
def a73:AFunc:=⟨26,[(.tmp 2)],c73⟩
theorem n73:a73.ntmps=26:=id rfl
theorem r73:a73.results=[(.tmp 2)]:=rfl
theorem b73:a73.body=c73:=rfl
def Nup:ACode:=(Oz [Bt 18 .lss 17 16] (.seq (Ce 18 0) (.seq (.block 1 (Oz [xT 19 33 15 17,Gt 20 33 19,i 5 (.alloc [(Vi 0),(.int .u8 0),(.int .u8 0),(.int .u8 0),(.int .u8 0),(.int .u8 0),(.int .u8 0),(.int .u8 0),(.int .u8 0),(.int .u8 0),(.int .u8 0),(.int .u8 0),(.int .u8 0),(.int .u8 0),(.int .u8 0),(.int .u8 0),(.int .u8 0),(.int .u8 0),(.int .u8 0),(.int .u8 0),(.int .u8 0),(.int .u8 0),(.int .u8 0),(.int .u8 0),(.int .u8 0),(.int .u8 0),(.int .u8 0),(.int .u8 0),(.int .u8 0),(.int .u8 0),(.int .u8 0),(.int .u8 0),(.int .u8 0)]),St 33 5 20] (Oz [mT 21 0,fT 22 0 5,lT 23 22,Ct 24 67 [(t 21),(t 23)]] (.cond (t 24) (.ops [mT 25 3,fT 26 0 5,lT 27 26,fT 28 1 5,Gt 29 32 28,xT 30 32 25 27,St 32 30 29]) .skip)))) (.ops [Bc 31 .add 17 1,mT 17 31]))))
def c74:ACode:=(Oz [i 2 (.alloc [Vz,Vz])] (Oz [mT 7 0,i 8 (.nilCheck (t 7)),fT 9 0 8,lT 10 9,Ct 11 118 [(t 10)],mT 3 11] (.seq (Oz [mT 12 0,i 13 (.nilCheck (t 12)),fT 14 1 13,lT 15 14,Nt 16 15,Zm 17 0] (Bl 0 Nup)) (Oz [mT 32 0,Ct 33 83 [(t 32)],mT 6 33] (Ds 0 [mT 34 3,mT 35 6,i 36 (.sliceS 32 (t 34) none (some (t 35)) none),mT 37 3,mT 38 6,mT 39 6,i 40 (.bin .mul (zT 2) (t 39)),i 41 (.sliceS 32 (t 37) (some (t 38)) (some (t 40)) none),i 42 (.build [Vz,Vz] [(0,(1,(t 36))),(1,(1,(t 41)))]),St 2 2 42] .ret)))))
def a74:AFunc:=⟨43,[(.cellN 2 2)],c74⟩
theorem n74:a74.ntmps=43:=id rfl
theorem r74:a74.results=[(.cellN 2 2)]:=rfl
theorem b74:a74.body=c74:=rfl
def Nqv:ACode:=(Oz [Bt 15 .lss 14 13] (.seq (Ce 15 2) (.seq (.block 3 (Oz [mT 16 14,mT 6 16] (Oz [mT 17 5,mT 18 6,xT 19 32 17 18,mT 7 19] (Oz [mT 20 7,mT 21 6,Ct 22 119 [(t 20),(t 21)]] (.cond (t 22) (Oz [mT 23 2,mT 24 7,Ct 25 120 [(t 24),(zT 0)],i 26 (.minmax true [(t 23),(t 25)]),mT 2 26] (.ops [mT 27 3,mT 28 7,Ct 29 120 [(t 28),(zT 4)],i 30 (.minmax true [(t 27),(t 29)]),mT 3 30])) .skip))))) (.ops [Bc 31 .add 14 1,mT 14 31]))))
def Nkg:ACode:=(Oz [Bc 10 .lss 9 2] (.seq (Ce 10 0) (.seq (.block 1 (Oz [i 11 (.idxA 2 1 false (t 8) (t 9)),mT 5 11] (Oz [mT 12 5,Nt 13 12,Zm 14 0] (Bl 2 Nqv)))) (.ops [Bc 32 .add 9 1,mT 9 32]))))
def c75:ACode:=(Oz [i 1 (.box (t 0)),Zm 2 0,Zm 3 0] (.seq (Oz [Gt 8 2 1,Zm 9 0] (Bl 0 Nkg)) (Oz [mT 33 2,mT 34 3,mT 2 33,mT 3 34] .ret)))
def a75:AFunc:=⟨35,[(.tmp 2),(.tmp 3)],c75⟩
theorem n75:a75.ntmps=35:=id rfl
theorem r75:a75.results=[(.tmp 2),(.tmp 3)]:=rfl
theorem b75:a75.body=c75:=rfl
def WX:ACode:=(Oz [Bt 14 .lss 13 12] (.seq (Ce 14 0) (.seq (.block 1 (Oz [mT 15 13,mT 8 15] (Oz [mT 16 0,mT 17 8,xT 18 32 16 17,mT 9 18] (Oz [mT 19 9,Ct 20 121 [(t 19)],i 21 (.bin .and (t 20) (k (.int .u8 1))),i 22 (.bin .neq (t 21) (k (.int .u8 0))),mT 10 22] (.seq (Oz [mT 23 8,Bc 24 .eql 23 0] (.cond (t 24) (.ops [mT 25 9,Ct 26 120 [(t 25),(zT 0)],mT 3 26]) .skip)) (.seq (Oz [mT 27 9,mT 28 8,Ct 29 119 [(t 27),(t 28)],Ut 30 29,mT 31 30,Qm 32 31 9,q 33 31 (.call .any (.func 120) [(t 32),(zT 0)]),Qm 34 31 3,Qb 35 31 .neq 33 34,Ot 36 31 35,mT 37 36,Qm 38 37 10,Qm 39 37 6,q 40 37 (.eqv false .bool (t 38) (t 39)),Ot 41 37 40,mT 42 41,Qm 43 42 9,q 44 42 (.call .any (.func 120) [(t 43),(zT 4)]),Qm 45 42 7,Qb 46 42 .lss 44 45,Ot 47 42 46] (.cond (t 47) (.exit 0) .skip)) (.seq (Oz [mT 48 6,mT 49 48,Pm 50 49 9,p 51 49 (.call .any (.func 120) [(t 50),(zT 4)]),Pm 52 49 7,Pb 53 49 .neq 51 52,At 54 49 53] (.cond (t 54) (.exit 0) .skip)) (Oz [mT 55 9,Ct 56 120 [(t 55),(zT 4)],mT 7 56] (Ds 1 [mT 57 5,mT 58 9,i 59 (.nilCheck (t 58)),mT 60 9,i 61 (.nilCheck (t 60)),i 62 (.idxAddrA 32 1 (t 61) (zT 13)),Kt 63 (.load1 (t 62)) [0],i 64 (.conv .i64 (t 63)),i 65 (.bin .add (zT 14) (t 64)),i 66 (.sliceA 32 1 (t 59) (some (zT 14)) (some (t 65)) none),Wt 67 (.append 1 1 false (t 57) (t 66)) 0,mT 5 67] (Oz [mT 68 9,Ct 69 121 [(t 68)],i 70 (.bin .and (t 69) (k (.int .u8 2))),i 71 (.bin .eql (t 70) (k (.int .u8 0))),mT 6 71] (Oz [mT 72 6,Ut 73 72] (.cond (t 73) (Oz [mT 74 2,mT 75 5,i 76 (.buildSlice 1 [Vz] [(0,(1,(t 75)))]),i 77 (.append 1 24 false (t 74) (t 76)),mT 2 77] (.ops [mT 78 8,Bc 79 .add 78 1,i 5 (.mov (k Vz)),mT 4 79])) .skip)))))))))))) (.ops [Bc 80 .add 13 1,mT 13 80]))))
def c76:ACode:=(Oz [i 2 (.mov (k Vz)),Zm 3 0,Zm 4 0] (Oz [i 5 (.mov (k Vz))] (Oz [i 6 (.mov (k (.bool false))),Zm 7 0] (.seq (Oz [mT 11 0,Nt 12 11,Zm 13 0] (Bl 0 WX)) (Oz [mT 81 2,mT 82 3,mT 83 4,mT 2 81,mT 3 82,mT 4 83] .ret)))))
def a76:AFunc:=⟨84,[(.tmp 2),(.tmp 3),(.tmp 4)],c76⟩
theorem n76:a76.ntmps=84:=id rfl
theorem r76:a76.results=[(.tmp 2),(.tmp 3),(.tmp 4)]:=rfl
theorem b76:a76.body=c76:=rfl
def c77:ACode:=(Oz [i 2 (.mov (k Vz))] (Oz [mT 3 0,mT 4 0,Nt 5 4,mT 6 0,Nt 7 6,i 8 (.sliceS 33 (t 3) none (some (t 5)) (some (t 7))),mT 2 8] .ret))
def a77:AFunc:=⟨9,[(.tmp 2)],c77⟩
theorem n77:a77.ntmps=9:=id rfl
theorem r77:a77.results=[(.tmp 2)]:=rfl
theorem b77:a77.body=c77:=rfl
def Yl:ACode:=(.ops [i 4 (.alloc [(.int .u8 0),(.int .u8 0),(.int .u8 0),(.int .u8 0),(.int .u8 0),(.int .u8 0),(.int .u8 0),(.int .u8 0),(.int .u8 0),(.int .u8 0),(.int .u8 0),(.int .u8 0),(.int .u8 0),(.int .u8 0),(.int .u8 0),(.int .u8 0),(.int .u8 0),(.int .u8 0),(.int .u8 0),(.int .u8 0),(.int .u8 0),(.int .u8 0),(.int .u8 0),(.int .u8 0),(.int .u8 0),(.int .u8 0),(.int .u8 0),(.int .u8 0),(.int .u8 0),(.int .u8 0),(.int .u8 0),(.int .u8 0)]),St 32 4 7])
def Yk:ACode:=(.block 1 (Oz [lT 8 2,i 9 (.nilCheck (t 8)),fT 10 2 9,lT 11 10,Ct 12 123 [(t 4),(zT 0),(t 11)]] (Oz [lT 13 2,i 14 (.nilCheck (t 13)),fT 15 3 14,lT 16 15,Ct 17 123 [(t 4),(zT 4),(t 16)]] (Oz [lT 18 2,i 19 (.nilCheck (t 18)),fT 20 4 19,lT 21 20,Ct 22 123 [(t 4),(zT 8),(t 21)]] (Ds 2 [Kt 27 (.load1 (t 2)) [0,1],i 28 (.nilCheck (t 27)),fT 29 0 28,Kt 30 (.load1 (t 29)) [0,1],i 31 (.nilCheck (t 30)),fT 32 1 31,Kt 33 (.load1 (t 32)) [0,1],Kt 34 (.load1 (t 2)) [0,1],i 35 (.nilCheck (t 34)),fT 36 1 35,Kt 37 (.load1 (t 36)) [0,1],Kt 38 (.load1 (t 2)) [0,1],i 39 (.nilCheck (t 38)),fT 40 0 39,Kt 41 (.load1 (t 40)) [0,1],Kt 42 (.call .pure (.func 83) [(t 41)]) [0,1],Bt 43 .mul 37 42,Kt 44 (.load1 (t 2)) [0,1],i 45 (.nilCheck (t 44)),fT 46 4 45,Kt 47 (.load1 (t 46)) [0,1],Bt 48 .add 43 47,Kt 49 (.loadN 32 (t 4)) [0,1],i 50 (.build [(Vi 0),(.int .u8 0),(.int .u8 0),(.int .u8 0),(.int .u8 0),(.int .u8 0),(.int .u8 0),(.int .u8 0),(.int .u8 0),(.int .u8 0),(.int .u8 0),(.int .u8 0),(.int .u8 0),(.int .u8 0),(.int .u8 0),(.int .u8 0),(.int .u8 0),(.int .u8 0),(.int .u8 0),(.int .u8 0),(.int .u8 0),(.int .u8 0),(.int .u8 0),(.int .u8 0),(.int .u8 0),(.int .u8 0),(.int .u8 0),(.int .u8 0),(.int .u8 0),(.int .u8 0),(.int .u8 0),(.int .u8 0),(.int .u8 0)] [(0,(1,(t 48))),(1,(32,(t 49)))]),Wt 51 (.buildSlice 1 [(Vi 0),(.int .u8 0),(.int .u8 0),(.int .u8 0),(.int .u8 0),(.int .u8 0),(.int .u8 0),(.int .u8 0),(.int .u8 0),(.int .u8 0),(.int .u8 0),(.int .u8 0),(.int .u8 0),(.int .u8 0),(.int .u8 0),(.int .u8 0),(.int .u8 0),(.int .u8 0),(.int .u8 0),(.int .u8 0),(.int .u8 0),(.int .u8 0),(.int .u8 0),(.int .u8 0),(.int .u8 0),(.int .u8 0),(.int .u8 0),(.int .u8 0),(.int .u8 0),(.int .u8 0),(.int .u8 0),(.int .u8 0),(.int .u8 0)] [(0,(33,(t 50)))]) 0,Wt 52 (.appendL 33 40 false (t 33) (t 51)) 1,Kt 23 (.load1 (t 2)) [0,1],i 24 (.nilCheck (t 23)),fT 25 0 24,Kt 26 (.load1 (t 25)) [0,1],i 53 (.nilCheck (t 26)),fT 54 1 53,St 1 54 52] (.ops [lT 55 2,i 56 (.nilCheck (t 55)),fT 57 4 56,lT 58 57,Bc 59 .add 58 1,i 60 (.nilCheck (t 55)),fT 61 4 60,St 1 61 59]))))))
def c78:ACode:=(.seq (Oz [i 2 (.box (t 0))] (Oz [mT 5 1,Ct 6 122 [(t 5)]] (.block 0 (.rangeF (t 6) [7] Yl Yk)))) .retM)
def a78:AFunc:=⟨62,[],c78⟩
theorem n78:a78.ntmps=62:=id rfl
theorem r78:a78.results=[]:=rfl
theorem b78:a78.body=c78:=rfl
def c79:ACode:=(.ops [mT 2 0,Ct 3 24 [(t 2),(k Vz)]])
def a79:AFunc:=⟨4,[],c79⟩
theorem n79:a79.ntmps=4:=id rfl
theorem r79:a79.results=[]:=rfl
theorem b79:a79.body=c79:=rfl
def c80:ACode:=(Oz [i 2 (.mov (k (.bool false)))] (Oz [mT 3 0,i 4 (.eqv false .ptr (t 3) (k (.pointer none))),mT 5 4,Qm 6 5 0,q 7 5 (.nilCheck (t 6)),Qf 8 5 0 7,Ql 9 5 8,q 10 5 (.eqv false .ptr (t 9) (k (.pointer none))),Ot 11 5 10,mT 2 11] .ret))
def a80:AFunc:=⟨12,[(.tmp 2)],c80⟩
theorem n80:a80.ntmps=12:=id rfl
theorem r80:a80.results=[(.tmp 2)]:=rfl
theorem b80:a80.body=c80:=rfl
def c81:ACode:=(Oz [Zm 2 0] (Oz [mT 3 0,Nt 4 3,Bc 5 .add 4 18,Bc 6 .sub 5 1,Bc 7 .quo 6 18,i 8 (.minmax true [(zT 1),(t 7)]),mT 2 8] .ret))
def a81:AFunc:=⟨9,[(.tmp 2)],c81⟩
theorem n81:a81.ntmps=9:=id rfl
theorem r81:a81.results=[(.tmp 2)]:=rfl
theorem b81:a81.body=c81:=rfl
def c82:ACode:=(Oz [Zm 2 0] (.seq (Oz [mT 3 0,Ct 4 80 [(t 3)]] (.cond (t 4) (Oz [Zm 2 0] .ret) .skip)) (Ds 0 [mT 5 0,i 6 (.nilCheck (t 5)),fT 7 0 6,lT 8 7,i 9 (.call .pure (.func 83) [(t 8)]),mT 10 0,i 11 (.nilCheck (t 10)),fT 12 4 11,lT 13 12,Bt 14 .sub 9 13,i 15 (.minmax true [(zT 0),(t 14)]),mT 2 15] .ret)))
def a82:AFunc:=⟨16,[(.tmp 2)],c82⟩
theorem n82:a82.ntmps=16:=id rfl
theorem r82:a82.results=[(.tmp 2)]:=rfl
theorem b82:a82.body=c82:=rfl
def c83:ACode:=(Oz [Zm 2 0] (Oz [mT 3 0,i 4 (.nilCheck (t 3)),fT 5 0 4,lT 6 5,Nt 7 6,Bc 8 .quo 7 2,mT 2 8] .ret))
def a83:AFunc:=⟨9,[(.tmp 2)],c83⟩
theorem n83:a83.ntmps=9:=id rfl
theorem r83:a83.results=[(.tmp 2)]:=rfl
theorem b83:a83.body=c83:=rfl
def Nwl:ACode:=(Oz [i 4 (.mov (k (.string ⟨#[]⟩))),Zm 5 0] (Oz [mT 9 0,mT 10 1,Ct 11 49 [(t 9),(t 10)],mT 8 11,Et 12 0 8,Et 13 1 8,i 6 (.alloc [(.string ⟨#[]⟩),Vz,Vz]),St 3 6 12,mT 7 13] (Oz [fT 14 0 6,lT 15 14,mT 16 7,mT 4 15,mT 5 16] .ret)))
def Nn6:AFunc:=⟨17,[(.tmp 4),(.tmp 5)],Nwl⟩
theorem n113:Nn6.ntmps=17:=id rfl
theorem Nw8:Nn6.results=[(.tmp 4),(.tmp 5)]:=rfl
theorem N0d:Nn6.body=Nwl:=rfl
def c116:ACode:=(Oz [i 4 (.mov (k (.bool false)))] (Oz [mT 5 0,mT 6 1,Ct 7 152 [(t 5),(t 6)],Bc 8 .geq 7 0,mT 4 8] .ret))
def a116:AFunc:=⟨9,[(.tmp 4)],c116⟩
theorem n116:a116.ntmps=9:=id rfl
theorem Nym:a116.results=[(.tmp 4)]:=rfl
theorem N0c:a116.body=c116:=rfl
def c117:ACode:=(Oz [i 2 (.box (t 0)),i 3 (.mov (k (.bool false)))] (Oz [lT 4 1,fT 5 0 2,lT 6 5,Ct 7 67 [(t 4),(t 6)],Ut 8 7,mT 3 8] .ret))
def a117:AFunc:=⟨9,[(.tmp 3)],c117⟩
theorem n117:a117.ntmps=9:=id rfl
theorem Nyl:a117.results=[(.tmp 3)]:=rfl
theorem N0b:a117.body=c117:=rfl
def Nwk:ACode:=(Oz [i 2 (.mov (k Vz))] (.seq (Oz [mT 3 0,i 4 (.eqv false .slice (t 3) (k Vz))] (.cond (t 4) (Oz [i 2 (.mov (k Vz))] .ret) .skip)) (Oz [i 5 (.buildSlice 0 [] []),mT 6 0,i 7 (.append 32 32 false (t 5) (t 6)),mT 2 7] .ret)))
def Njx:AFunc:=⟨8,[(.tmp 2)],Nwk⟩
theorem n118:Njx.ntmps=8:=id rfl
theorem Nyk:Njx.results=[(.tmp 2)]:=rfl
theorem N0a:Njx.body=Nwk:=rfl
def c119:ACode:=(Oz [i 4 (.mov (k (.bool false)))] (Ds 0 [mT 9 0,i 10 (.call .pure (.func 120) [(t 9),(zT 0)]),mT 11 0,i 12 (.call .pure (.func 120) [(t 11),(zT 4)]),mT 13 0,i 14 (.nilCheck (t 13)),i 15 (.idxAddrA 32 1 (t 14) (zT 13)),lT 16 15,i 17 (.conv .i64 (t 16)),mT 5 10,mT 6 12,mT 7 17] (.seq (Oz [mT 18 5,Bc 19 .lss 18 1,mT 20 19,Qm 21 20 5,q 22 20 (.bin .gtr (t 21) (zT 1073741824)),Ot 23 20 22,mT 24 23,Qm 25 24 6,q 26 24 (.bin .lss (t 25) (zT 1)),Ot 27 24 26,mT 28 27,Qm 29 28 6,q 30 28 (.bin .gtr (t 29) (zT 1073741824)),Ot 31 28 30,mT 32 31,Qm 33 32 0,q 34 32 (.call .any (.func 120) [(t 33),(zT 8)]),Qm 35 32 1,Qb 36 32 .neq 34 35,Ot 37 32 36] (.cond (t 37) (Oz [i 4 (.mov (k (.bool false)))] .ret) .skip)) (.seq (Oz [mT 38 0,Ct 39 121 [(t 38)],i 40 (.bin .gtr (t 39) (k (.int .u8 3))),mT 41 40,Qm 42 41 7,q 43 41 (.bin .gtr (t 42) (zT 18)),Ot 44 41 43] (.cond (t 44) (Oz [i 4 (.mov (k (.bool false)))] .ret) .skip)) (.seq (Oz [mT 45 0,Ct 46 121 [(t 45)],i 47 (.bin .and (t 46) (k (.int .u8 2))),i 48 (.bin .eql (t 47) (k (.int .u8 0))),mT 49 48,Pm 50 49 7,p 51 49 (.bin .neq (t 50) (zT 18)),At 52 49 51] (.cond (t 52) (Oz [i 4 (.mov (k (.bool false)))] .ret) .skip)) (Oz [i 8 (.alloc [(.int .u8 0),(.int .u8 0),(.int .u8 0),(.int .u8 0),(.int .u8 0),(.int .u8 0),(.int .u8 0),(.int .u8 0),(.int .u8 0),(.int .u8 0),(.int .u8 0),(.int .u8 0),(.int .u8 0),(.int .u8 0),(.int .u8 0),(.int .u8 0),(.int .u8 0),(.int .u8 0)])] (Ds 0 [i 53 (.sliceA 18 1 (t 8) none none none),mT 54 0,i 55 (.nilCheck (t 54)),mT 56 7,i 57 (.bin .add (zT 14) (t 56)),i 58 (.sliceA 32 1 (t 55) (some (t 57)) none none),i 59 (.copy 1 (t 53) (t 58))] (Oz [Gt 60 18 8,i 61 (.build [(.int .u8 0),(.int .u8 0),(.int .u8 0),(.int .u8 0),(.int .u8 0),(.int .u8 0),(.int .u8 0),(.int .u8 0),(.int .u8 0),(.int .u8 0),(.int .u8 0),(.int .u8 0),(.int .u8 0),(.int .u8 0),(.int .u8 0),(.int .u8 0),(.int .u8 0),(.int .u8 0)] []),i 62 (.eqv false (.agg [(.int .u8),(.int .u8),(.int .u8),(.int .u8),(.int .u8),(.int .u8),(.int .u8),(.int .u8),(.int .u8),(.int .u8),(.int .u8),(.int .u8),(.int .u8),(.int .u8),(.int .u8),(.int .u8),(.int .u8),(.int .u8)]) (t 60) (t 61)),mT 4 62] .ret))))))))
def a119:AFunc:=⟨63,[(.tmp 4)],c119⟩
theorem n119:a119.ntmps=63:=id rfl
theorem MZ:a119.results=[(.tmp 4)]:=rfl
theorem Nz9:a119.body=c119:=rfl
def Nq3:ACode:=(Oz [Bt 16 .lss 15 14] (.seq (Ce 16 0) (.seq (.block 1 (Oz [xT 17 1 13 15,lT 18 17,mT 7 18] (.ops [mT 19 5,i 20 (.bin .shl (t 19) (k (.int .u64 8))),mT 21 7,i 22 (.conv .i64 (t 21)),Bt 23 .or 20 22,mT 5 23]))) (.ops [Bc 24 .add 15 1,mT 15 24]))))
def Nwj:ACode:=(Oz [Zm 4 0] (Oz [Zm 5 0] (.seq (Oz [mT 8 0,i 9 (.nilCheck (t 8)),mT 10 1,mT 11 1,Bc 12 .add 11 4,i 13 (.sliceA 32 1 (t 9) (some (t 10)) (some (t 12)) none),Nt 14 13,Zm 15 0] (Bl 0 Nq3)) (Oz [mT 25 5,mT 4 25] .ret))))
def Nn5:AFunc:=⟨26,[(.tmp 4)],Nwj⟩
theorem n120:Nn5.ntmps=26:=id rfl
theorem Nvb:Nn5.results=[(.tmp 4)]:=rfl
theorem Nz8:Nn5.body=Nwj:=rfl
def Nwi:ACode:=(Oz [i 2 (.mov (k (.int .u8 0)))] (Oz [mT 3 0,i 4 (.nilCheck (t 3)),i 5 (.idxAddrA 32 1 (t 4) (zT 12)),lT 6 5,mT 2 6] .ret))
def Nn4:AFunc:=⟨7,[(.tmp 2)],Nwi⟩
theorem n121:Nn4.ntmps=7:=id rfl
theorem Nyj:Nn4.results=[(.tmp 2)]:=rfl
theorem Nz7:Nn4.body=Nwi:=rfl
def Nwh:ACode:=(Oz [i 1 (.box (t 0)),i 2 (.mov (k .nilFunc))] (Oz [i 3 (.makeFunc 153 [] [(t 1)]),mT 2 3] .ret))
def Njw:AFunc:=⟨4,[(.tmp 2)],Nwh⟩
theorem n122:Njw.ntmps=4:=id rfl
theorem Nyi:Njw.results=[(.tmp 2)]:=rfl
theorem Nz6:Njw.body=Nwh:=rfl
def Nq2:ACode:=(Oz [Bc 8 .lss 7 4] (.seq (Ce 8 0) (.seq (.block 1 (Oz [mT 9 7,mT 6 9] (.drawn 0 [mT 10 0,mT 11 1,mT 12 6,Bt 13 .add 11 12,mT 14 2,mT 15 6,i 16 (.bin .mul (zT 8) (t 15)),i 17 (.bin .sub (zT 24) (t 16)),Bt 18 .shr 14 17,i 19 (.conv .u8 (t 18)),i 20 (.nilCheck (t 10)),i 21 (.idxAddrA 32 1 (t 20) (t 13)),St 1 21 19]))) (.ops [Bc 22 .add 7 1,mT 7 22]))))
def Nwg:ACode:=(Oz [Zm 7 0] (Bl 0 Nq2))
def Nn3:AFunc:=⟨23,[],Nwg⟩
theorem n123:Nn3.ntmps=23:=id rfl
theorem Nva:Nn3.results=[]:=rfl
theorem Nz5:Nn3.body=Nwg:=rfl
def Nqz:ACode:=(Oz [Bt 9 .lss 8 7] (.seq (Ce 9 0) (.seq (.block 1 (Oz [mT 10 8,mT 5 10] (Oz [mT 11 1,mT 12 0,mT 13 5,xT 14 33 12 13,Gt 15 33 14,i 16 (.call .any (t 11) [(t 15)])] (.cond (t 16) (Oz [mT 17 5,mT 4 17] .ret) .skip)))) (.ops [Bc 18 .add 8 1,mT 8 18]))))
def c152:ACode:=(Oz [Zm 4 0] (.seq (Oz [mT 6 0,Nt 7 6,Zm 8 0] (Bl 0 Nqz)) (Oz [Zm 4 (-1)] .ret)))
def a152:AFunc:=⟨19,[(.tmp 4)],c152⟩
theorem n152:a152.ntmps=19:=id rfl
theorem Nso:a152.results=[(.tmp 4)]:=rfl
theorem Nzu:a152.body=c152:=rfl
def Nqy:ACode:=(.block 1 (Oz [lT 6 1,Nt 7 6,i 8 (.minmax false [(t 7),(zT 18)]),mT 4 8] (.seq (Oz [mT 9 4,lT 10 1,Nt 11 10,Bt 12 .eql 9 11] (.cond (t 12) (.ops [mT 13 3,i 14 (.bin .or (t 13) (k (.int .u8 2))),mT 3 14]) .skip)) (Oz [i 5 (.alloc [(.int .u8 0),(.int .u8 0),(.int .u8 0),(.int .u8 0),(.int .u8 0),(.int .u8 0),(.int .u8 0),(.int .u8 0),(.int .u8 0),(.int .u8 0),(.int .u8 0),(.int .u8 0),(.int .u8 0),(.int .u8 0),(.int .u8 0),(.int .u8 0),(.int .u8 0),(.int .u8 0),(.int .u8 0),(.int .u8 0),(.int .u8 0),(.int .u8 0),(.int .u8 0),(.int .u8 0),(.int .u8 0),(.int .u8 0),(.int .u8 0),(.int .u8 0),(.int .u8 0),(.int .u8 0),(.int .u8 0),(.int .u8 0)])] (Oz [mT 15 3,mT 16 4,i 17 (.conv .u8 (t 16)),i 18 (.idxAddrA 32 1 (t 5) (zT 12)),St 1 18 15,i 19 (.idxAddrA 32 1 (t 5) (zT 13)),St 1 19 17] (Ds 0 [i 20 (.sliceA 32 1 (t 5) (some (zT 14)) none none),lT 21 1,mT 22 4,i 23 (.sliceS 1 (t 21) none (some (t 22)) none),i 24 (.copy 1 (t 20) (t 23))] (.seq (Oz [mT 25 0,Gt 26 32 5,i 27 (.call .any (t 25) [(t 26)]),Ut 28 27,mT 29 28,Qm 30 29 4,Ql 31 29 1,q 32 29 (.lenSlice (t 31)),Qb 33 29 .eql 30 32,Ot 34 29 33] (.cond (t 34) .ret .skip)) (.ops [lT 35 1,mT 36 4,i 37 (.sliceS 1 (t 35) (some (t 36)) none none),St 1 1 37,i 3 (.mov (k (.int .u8 0)))]))))))))
def Nwa:ACode:=(Oz [i 3 (.mov (k (.int .u8 1)))] (Bl 0 Nqy))
def Nnx:AFunc:=⟨38,[],Nwa⟩
theorem n153:Nnx.ntmps=38:=id rfl
theorem Npl:Nnx.results=[]:=rfl
theorem Nzt:Nnx.body=Nwa:=rfl
def table:List (FuncId×AFunc):=[(11,a11),(12,a12),(13,a13),(14,a14),(15,a15),(16,a16),(18,a18),(22,a22),(23,a23),(26,a26),(44,a44),(45,a45),(46,a46),(47,a47),(48,a48),(49,a49),(50,a50),(51,a51),(52,a52),(53,a53),(54,a54),(55,a55),(101,Nob),(102,Noa),(103,Nn9),(104,Nn8),(105,a105),(106,Nn7),(131,a131),(143,a143),(144,Nn2),(145,a145),(146,a146),(147,Nn1),(148,a148),(149,Nn0),(150,Nnz),(151,Nny),(160,a160),(173,a173),(174,Nnw),(7,a7),(17,a17),(24,a24),(25,a25),(28,a28),(29,a29),(30,a30),(32,a32),(33,a33),(34,a34),(36,a36),(40,a40),(43,a43),(66,a66),(67,a67),(68,a68),(69,a69),(70,a70),(71,a71),(72,a72),(73,a73),(74,a74),(75,a75),(76,a76),(77,a77),(78,a78),(79,a79),(80,a80),(81,a81),(82,a82),(83,a83),(113,Nn6),(116,a116),(117,a117),(118,Njx),(119,a119),(120,Nn5),(121,Nn4),(122,Njw),(123,Nn3),(152,a152),(153,Nnx)]
def tr (g:FuncId):Option AFunc:=table.lookup g
theorem e11:tr 11=some a11:=rfl
theorem e12:tr 12=some a12:=rfl
theorem e13:tr 13=some a13:=rfl
theorem e14:tr 14=some a14:=rfl
theorem e15:tr 15=some a15:=rfl
theorem e16:tr 16=some a16:=rfl
theorem e18:tr 18=some a18:=rfl
theorem e22:tr 22=some a22:=rfl
theorem e23:tr 23=some a23:=rfl
theorem e26:tr 26=some a26:=rfl
theorem e44:tr 44=some a44:=rfl
theorem e45:tr 45=some a45:=rfl
theorem e46:tr 46=some a46:=rfl
theorem e47:tr 47=some a47:=rfl
theorem e48:tr 48=some a48:=rfl
theorem e49:tr 49=some a49:=rfl
theorem e50:tr 50=some a50:=rfl
theorem e51:tr 51=some a51:=rfl
theorem e52:tr 52=some a52:=rfl
theorem e53:tr 53=some a53:=rfl
theorem e54:tr 54=some a54:=rfl
theorem e55:tr 55=some a55:=rfl
theorem Nzp:tr 101=some Nob:=rfl
theorem Nzo:tr 102=some Noa:=rfl
theorem Nzn:tr 103=some Nn9:=rfl
theorem Nzm:tr 104=some Nn8:=rfl
theorem Nzl:tr 105=some a105:=rfl
theorem Nzk:tr 106=some Nn7:=rfl
theorem Nza:tr 131=some a131:=rfl
theorem Ny9:tr 143=some a143:=rfl
theorem Ny8:tr 144=some Nn2:=rfl
theorem Ny7:tr 145=some a145:=rfl
theorem Ny6:tr 146=some a146:=rfl
theorem Ny5:tr 147=some Nn1:=rfl
theorem Ny4:tr 148=some a148:=rfl
theorem Ny3:tr 149=some Nn0:=rfl
theorem Ny2:tr 150=some Nnz:=rfl
theorem Ny1:tr 151=some Nny:=rfl
theorem Nyy:tr 160=some a160:=rfl
theorem Nyx:tr 173=some a173:=rfl
theorem Nyw:tr 174=some Nnw:=rfl
theorem e7:tr 7=some a7:=rfl
theorem e17:tr 17=some a17:=rfl
theorem e24:tr 24=some a24:=rfl
theorem e25:tr 25=some a25:=rfl
theorem e28:tr 28=some a28:=rfl
theorem e29:tr 29=some a29:=rfl
theorem e30:tr 30=some a30:=rfl
theorem e32:tr 32=some a32:=rfl
theorem e33:tr 33=some a33:=rfl
theorem e34:tr 34=some a34:=rfl
theorem e36:tr 36=some a36:=rfl
theorem e40:tr 40=some a40:=rfl
theorem e43:tr 43=some a43:=rfl
theorem e66:tr 66=some a66:=rfl
theorem e67:tr 67=some a67:=rfl
theorem e68:tr 68=some a68:=rfl
theorem e69:tr 69=some a69:=rfl
theorem e70:tr 70=some a70:=rfl
theorem e71:tr 71=some a71:=rfl
theorem e72:tr 72=some a72:=rfl
theorem e73:tr 73=some a73:=rfl
theorem e74:tr 74=some a74:=rfl
theorem e75:tr 75=some a75:=rfl
theorem e76:tr 76=some a76:=rfl
theorem e77:tr 77=some a77:=rfl
theorem e78:tr 78=some a78:=rfl
theorem e79:tr 79=some a79:=rfl
theorem e80:tr 80=some a80:=rfl
theorem e81:tr 81=some a81:=rfl
theorem e82:tr 82=some a82:=rfl
theorem e83:tr 83=some a83:=rfl
theorem Nzj:tr 113=some Nn6:=rfl
theorem Nzi:tr 116=some a116:=rfl
theorem Nzh:tr 117=some a117:=rfl
theorem Nzg:tr 118=some Njx:=rfl
theorem Nzf:tr 119=some a119:=rfl
theorem Nze:tr 120=some Nn5:=rfl
theorem Nzd:tr 121=some Nn4:=rfl
theorem Nzc:tr 122=some Njw:=rfl
theorem Nzb:tr 123=some Nn3:=rfl
theorem Ny0:tr 152=some a152:=rfl
theorem Nyz:tr 153=some Nnx:=rfl
end Go.Proofs.YtancgcogjokfcaaGreatDoor.Fn


namespace Go.AM
section
variable {α:Type}
def gt [Inhabited α] (l:List α) (i:Nat):α:=l.getD i default
theorem UQ [Inhabited α] {l:List α} {i:Nat} (h:i<l.length):gt l i=l[i]:=by simp [gt,Na,Nf h]
theorem RZ [Inhabited α] {x:α} {l:List α}:gt (x::l) 0=x:=rfl
theorem Rz [Inhabited α] {x:α} {l:List α} {i:Nat}:gt (x::l) (i+1)=gt l i:=by simp [gt]
theorem QW [Inhabited α] {l r:List α} {i:Nat} (h:i<l.length):gt (l++r) i=gt l i:=by
 simp [gt,Na,Ny h]
theorem Rl [Inhabited α] {l r:List α} {i:Nat}:gt (l++r) (l.length+i)=gt r i:=by
 unfold gt
 rw [Na,Na,N0 (by omega),Pi]
theorem Xb [Inhabited α] {l:List α} {i:Nat} (h:i<l.length):gt l i∈l:=by rw [UQ h];exact Qd h
def addrOf (p:Option Addr):Addr:=p.getD ⟨0,0,none⟩
def WA (p:Option Addr) (e i:Nat):Addr:=(addrOf p).add (i*e)
def Sl (H:NB) (enc:α->List Value) (e:Nat) (p:Option Addr) (l:List α):Prop:=
 match p with
 | none=>l=[]
 | some a=>a.spot=none/\(l≠[]->∃ro c,NF H a.block=.cells ro c/\a.off+l.length*e<=c.length/\(c.drop a.off).take (l.length*e)=l.flatMap enc)
theorem NJ {H:NB} {i:Nat} {ro:Bool} {c:List Value} (h:NF H i=.cells ro c):i<H.length:=by
 rcases Ol i H.length with h1 | h1
 ·exact h1
 ·unfold NF at h
  rw [Na,Nv h1] at h
  cases h
def cellsOf:Blk->List Value | .cells _ c=>c | _=>[]
def isCells:Blk->Bool | .cells _ _=>true | _=>false
theorem Sl.app {H:NB} {enc:α->List Value} {e:Nat} {p:Option Addr} {l:List α} (h:Sl H enc e p l) (X:NB):Sl (H++X) enc e p l:=by
 cases p with
 | none=>exact h
 | some a=>
   refine ⟨h.1,fun hn=>?_⟩
   obtain ⟨ro,c,h2,b⟩:=h.2 hn
   exact ⟨ro,c,by rw [NZ (NJ h2)];exact h2,b⟩
theorem QJ {enc:α->List Value} {e:Nat} (he:∀x,(enc x).length=e) (l:List α):(l.flatMap enc).length=l.length*e:=by
 induction l with
 | nil=>simp
 | cons x l ih=>simp [ih,he,Pt,Q4]
theorem Nc4 {enc:α->List Value} {e:Nat} (he:∀x,(enc x).length=e):∀(l:List α) (i:Nat),i<l.length->[Inhabited α]->((l.flatMap enc).drop (i*e)).take e=enc (gt l i)
 | [],i,h,_=>by simp at h
 | x::l,0,_,_=>by
   rw [Oh,Ov,Og,Qo (by rw [he];exact Nd _),N9 (by rw [he];exact Nd _)]
   rfl
 | x::l,i+1,h,_=>by
   rw [Oh,List.drop_append,Pv (by rw [he,Pt];omega),N6,he,show (i+1)*e-e=i*e by rw [Pt];omega]
   have:=Nc4 he l i (by simpa using h)
   rw [this,Rz]
variable [Inhabited α] {H:NB} {enc:α->List Value} {e:Nat} {p:Option Addr} {l:List α}
theorem Sl.loadCells (h:Sl H enc e p l) (he:∀x,(enc x).length=e) {i:Nat} (hi:i<l.length):AM.loadCells H (WA p e i) e=some (enc (gt l i)):=by
 cases p with
 | none=>simp only [Sl] at h;subst h;simp at hi
 | some a=>
   obtain ⟨b,o,s⟩:=a
   obtain ⟨ro,c,h2,g,d⟩:=h.2 (by rintro rfl;simp at hi)
   have h1:=h.1
   simp only at h1 h2 d g;subst h1
   have j:i*e+e<=l.length*e:=by
    have:=Om e (Qz hi)
    rw [P9] at this;exact this
   have f:=Nc4 he l i hi
   rw [<-d,List.drop_take,Q5,List.drop_drop] at f
   simp only [WA,addrOf,Oj,addr_add,AM.loadCells,h2]
   rw [Nk (by omega),<-f,Pd (by omega)]
theorem Sl.loadCell (h:Sl H enc e p l) (he:∀x,(enc x).length=e) {i j:Nat} (hi:i<l.length) (g:j<e):AM.loadCell H ((WA p e i).add j)=(enc (gt l i))[j]?:=by
 have h0:=h.loadCells he hi
 cases p with
 | none=>simp only [Sl] at h;subst h;simp at hi
 | some a=>
   obtain ⟨b,o,s⟩:=a
   obtain ⟨ro,c,h2,f,d⟩:=h.2 (by rintro rfl;simp at hi)
   have h1:=h.1
   simp only at h1 h2 d f;subst h1
   simp only [WA,addrOf,Oj,addr_add,AM.loadCells,h2] at h0
   split at h0
   ·simp only [Option.some.injEq] at h0
    rw [<-h0]
    simp only [WA,addrOf,Oj,addr_add,AM.loadCell,h2,Pj,Pk,Nk g,On]
   ·cases h0
theorem Sl.loadCell0 (h:Sl H enc e p l) (he:∀x,(enc x).length=e) {i:Nat} (hi:i<l.length) (a:0<e):AM.loadCell H (WA p e i)=(enc (gt l i))[0]?:=by
 rw [<-h.loadCell he hi a]
 congr 1
omit [Inhabited α] in
theorem Sl.idx (h:Sl H enc e p l) {i c:Nat} {k:IntKind} {H1:NB} (hi:i<l.length):X9 e (.slice p l.length c) (.int k (i:Int)) H1=some (.pointer (some (WA p e i)),H1):=by
 cases p with
 | none=>simp only [Sl] at h;subst h;simp at hi
 | some a=>exact Xa hi
end
theorem Rf {X:NB} {j:Nat} {b:Blk} (h:j<X.length):NF (X.set j b) j=b:=by
 unfold NF;rw [Na,Qy h];rfl
theorem Q9 {X:NB} {i j:Nat} {b:Blk} (h:i≠j):NF (X.set j b) i=NF X i:=by
 unfold NF;rw [Na,Na,P0 (Ne.symm h)]
theorem Nmj {e len c:Nat} {p:Addr} {k:IntKind} {H:NB} (h:0<len):X9 e (.slice (some p) len c) (.int k 0) H=some (.pointer (some (p.add 0)),H):=by
 have:=Xa (e:=e) (n:=0) (len:=len) (c:=c) (p:=p) (k:=k) (H:=H) h
 rw [Ov] at this
 exact this
theorem Nmd {k:IntKind} {n:Int}:Sb (.int k) (.int k n)=true:=by simp [Sb]
theorem Nc1 {b:ByteArray}:Sb .str (.string b)=true:=id rfl
theorem Ngp {v:Value} {i:Nat}:findKey v [] i=some none:=rfl
theorem Ngq {k:IntKind} {a b:Int} {v:Value} {es:List (Value×Value)} {i:Nat}:findKey (.int k a) ((.int k b,v)::es) i=if a=b then some (some (i,v)) else findKey (.int k a) es (i+1):=by
 simp only [findKey,Sq,if_true]
 by_cases h:a=b
 ·simp [h]
 ·have e:(a == b)=false:=by simpa using h
  simp [h,e]
theorem NS {H:NB} {r:Nat}:mapEntries H (.map (some r))=(match NF H r with | .map es=>some es | _=>none):=rfl
theorem Mt {H:NB}:mapEntries H (.map none)=some []:=rfl
def QL (H G:NB):Prop:=∃X,G=H++X
section
variable {H G:NB}
theorem QL.refl:QL H H:=⟨[],by simp⟩
theorem QL.app (h:QL H G) {X:NB}:QL H (G++X):=by
 obtain ⟨Y,rfl⟩:=h
 exact ⟨Y++X,by simp⟩
theorem QL.trans {K:NB} (h:QL H G) (k:QL G K):QL H K:=by
 obtain ⟨Y,rfl⟩:=k
 exact h.app
theorem QL.len (h:QL H G):H.length<=G.length:=by
 obtain ⟨Y,rfl⟩:=h
 simp
theorem QL.sl {α:Type} {enc:α->List Value} {e:Nat} {p:Option Addr} {l:List α} (h:QL H G) (a:Sl H enc e p l):Sl G enc e p l:=by
 obtain ⟨Y,rfl⟩:=h
 exact a.app Y
theorem QL.cells (h:QL H G) {b:Nat} {ro:Bool} {c:List Value} (a:NF H b=.cells ro c):NF G b=.cells ro c:=by
 obtain ⟨Y,rfl⟩:=h
 rw [NZ (NJ a)];exact a
end
section
variable {E:Env} {af:AFunc} {lim:Nat} {K:List AItem} {fr:Nat->Value} {H:NB} {R:Value->NB->Prop} {b:ACode}
theorem QC {S:Type} (m:S->Nat) (I:S->(Nat->Value)->NB->Prop) (s:S) (h0:I s fr H)
  (step:∀s fr H,I s fr H->(∀s' fr' H',I s' fr' H'->m s'<m s->QZ E af lim (.inLoop b::K) fr' H' R)->QZ E af lim (.code b::.inLoop b::K) fr H R) :
  QZ E af lim (.code (.loop b)::K) fr H R:=by
 rw [Nhb,<-TV]
 have key:∀n s fr H,m s<=n->I s fr H->QZ E af lim (.inLoop b::K) fr H R:=by
  intro n
  induction n with
  | zero=>
    intro s fr H c hi
    rw [TV]
    exact step s fr H hi fun s' fr' H' _ hl=>absurd hl (by omega)
  | succ n ih=>
    intro s fr H c hi
    rw [TV]
    exact step s fr H hi fun s' fr' H' a hl=>ih s' fr' H' (by omega) a
 exact key _ s fr H (Nd _) h0
theorem NP.mono {mp:Bool} {g:FuncId} {as:List Value} {Q Q':Value->NB->Prop} (h:NP E mp lim g as H Q) (a:∀v H',Q v H'->Q' v H'):NP E mp lim g as H Q':=by
 obtain ⟨n,L,h1,h2⟩:=h
 exact ⟨n,L,h1,h2.mono a⟩
theorem QZ.mono {k:List AItem} {R':Value->NB->Prop} (h:QZ E af lim k fr H R) (a:∀v H',R v H'->R' v H'):QZ E af lim k fr H R':=by
 obtain ⟨n,L,h1,h2⟩:=h
 exact ⟨n,L,h1,h2.mono a⟩
theorem NI {k:List AItem} (h:QZ E af lim k fr (H++[]) R):QZ E af lim k fr H R:=by rwa [Nb] at h
theorem Xl {k k':List AItem} {id:Nat} (h:R9 id k=R9 id k'):QZ E af lim (.code (.exit id)::k) fr H R=QZ E af lim (.code (.exit id)::k') fr H R:=by
 cases a:R9 id k' with
 | some K'=>rw [Nbu (h.trans a),Nbu a]
 | none=>
   have key:∀{k:List AItem},R9 id k=none->¬QZ E af lim (.code (.exit id)::k) fr H R:=by
    rintro k a ⟨n,L,b,_⟩
    cases n with
    | zero=>simp [OW] at b
    | succ n=>rw [OW.eq_def] at b;simp only [a] at b;cases b
   exact propext ⟨fun q=>absurd q (key (h.trans a)),fun q=>absurd q (key a)⟩
theorem Ncj {id:Nat} {c:ACode}:QZ E af lim (.code (.exit id)::.code c::K) fr H R=QZ E af lim (.code (.exit id)::K) fr H R:=Xl (by simp [R9])
theorem Nch {id:Nat} {c:ACode}:QZ E af lim (.code (.exit id)::.inLoop c::K) fr H R=QZ E af lim (.code (.exit id)::K) fr H R:=Xl (by simp [R9])
theorem Nbq {id a:Nat} (h:a≠id):QZ E af lim (.code (.exit id)::.inBlock a::K) fr H R=QZ E af lim (.code (.exit id)::K) fr H R:=Xl (by simp [R9,h])
theorem Nci {id:Nat}:QZ E af lim (.code (.exit id)::.inBlock id::K) fr H R=QZ E af lim K fr H R:=Nbu (by simp [R9])
def Nun (r:Option NB) (f:NB->Prop) (_:Bx f:=⟨⟩):Prop:=match r with | some H'=>f H' | none=>False
theorem Nht {f:NB->Prop}:Nun (some H) f=f H:=rfl
theorem Nsd:QZ E af lim (.code .retM::K) fr H R=Nun (shut lim (marks K) H) fun H'=>RB ((result fr H' af.results).map (·,H')) R:=by
 rw [SS (r:=match shut lim (marks K) H with | some H'=>(result fr H' af.results).map (·,H') | none=>none) fun n=>by rw [OW.eq_def];simp only;cases shut lim (marks K) H<;>rfl]
 cases shut lim (marks K) H<;>rfl
theorem Nl9:marks []=[]:=rfl
theorem Nit {c:ACode}:marks (.code c::K)=marks K:=rfl
theorem Nis {c:ACode}:marks (.inLoop c::K)=marks K:=rfl
theorem Ngf {id:Nat}:marks (.inBlock id::K)=marks K:=rfl
theorem Nir {i:Nat}:marks (.mark i::K)=marks K++[i]:=rfl
theorem Ne6:shut lim [] H=some H:=rfl
theorem Zj {i:Nat} {l:List Nat} (h:NF H i=.dfr) (hl:lim<=i):shut lim (i::l) H=shut lim l (H.set i .dead):=by simp only [shut,h,Nk hl]
def Njf (i:Nat) (j:Option ACode) (H:NB) (b:Blk):Option (Value×NB):=match b with | .loop x=>some (.bool j.isNone,H.set i (.loop { x with st:=if j.isNone then 0 else 2,pend:=j })) | _=>none
theorem Nt5 {i st N:Nat} {p:Option ACode} {g:Nat->Value} {ps:List Nat} {a b:ACode}:Njf i none H (.loop ⟨st,p,g,N,ps,a,b⟩)=some (.bool true,H.set i (.loop ⟨0,none,g,N,ps,a,b⟩)):=rfl
theorem Nrx {i st N:Nat} {p:Option ACode} {g:Nat->Value} {ps:List Nat} {a b c:ACode}:Njf i (some c) H (.loop ⟨st,p,g,N,ps,a,b⟩)=some (.bool false,H.set i (.loop ⟨2,some c,g,N,ps,a,b⟩)):=rfl
theorem Wi {i:Nat} {j:Option ACode}:endRound i j H=Njf i j H (NF H i):=by unfold endRound Njf;cases NF H i<;>rfl
theorem Nod {i:Nat} (hl:lim<=i):QZ E af lim (.round i::K) fr H R=RB (Njf i none H (NF H i)) R:=by
 rw [<-Wi];exact SS fun n=>by rw [OW.eq_def];simp only [Nk hl]
def Nua (b:Blk) (f:LoopB->Prop) (_:Bx f:=⟨⟩):Prop:=match b with | .loop x=>if x.st=0 then f x else False | _=>False
theorem Nnk {N:Nat} {p:Option ACode} {g:Nat->Value} {ps:List Nat} {a b:ACode} {f:LoopB->Prop}:Nua (.loop ⟨0,p,g,N,ps,a,b⟩) f=f ⟨0,p,g,N,ps,a,b⟩:=by simp [Nua]
theorem Noj {i:Nat} (hl:lim<=i):QZ E af lim (.begin i::K) fr H R=Nua (NF H i) fun x=>QZ E af lim K fr (H.set i (.loop { x with st:=1 })) R:=by
 unfold Nua
 have a:(∀n,OW E (n+1) af lim (.begin i::K) fr H=none)->QZ E af lim (.begin i::K) fr H R=False:=fun h=>by rw [SS (r:=none) fun n=>(h n).trans rfl];rfl
 cases hb:NF H i with
 | loop x=>
   simp only
   split
   ·rename_i b
    exact QZ.succ fun n=>by rw [OW.eq_def];simp only [hb,Nk (And.intro b hl)]
   ·rename_i b
    exact a fun n=>by rw [OW.eq_def];simp only [hb,b,false_and,if_false]
 | _=>exact a fun n=>by rw [OW.eq_def];simp only [hb]
theorem Noe {k:List AItem} (h:∀n,OW E (n+1) af lim k fr H=none):QZ E af lim k fr H R=False:=by rw [SS (r:=none) fun n=>(h n).trans rfl];rfl
theorem Xk {k k':List AItem} (h:roundOf k=roundOf k'):QZ E af lim (.code .retR::k) fr H R=QZ E af lim (.code .retR::k') fr H R:=by
 rw [SS (r:=match roundOf k with | some i=>if lim<=i then endRound i (some .retM) H else none | none=>none) fun n=>by rw [OW.eq_def];simp only;cases roundOf k with | none=>rfl | some i=>simp only;split<;>rfl,
  SS (k:=.code .retR::k') (r:=match roundOf k' with | some i=>if lim<=i then endRound i (some .retM) H else none | none=>none) fun n=>by rw [OW.eq_def];simp only;cases roundOf k' with | none=>rfl | some i=>simp only;split<;>rfl,h]
theorem Ncg {c:ACode}:QZ E af lim (.code .retR::.code c::K) fr H R=QZ E af lim (.code .retR::K) fr H R:=Xk rfl
theorem Ncf {c:ACode}:QZ E af lim (.code .retR::.inLoop c::K) fr H R=QZ E af lim (.code .retR::K) fr H R:=Xk rfl
theorem Nbp {id:Nat}:QZ E af lim (.code .retR::.inBlock id::K) fr H R=QZ E af lim (.code .retR::K) fr H R:=Xk rfl
theorem Nbo {i:Nat} (hl:lim<=i):QZ E af lim (.code .retR::.round i::K) fr H R=RB (Njf i (some .retM) H (NF H i)) R:=by
 rw [<-Wi];exact SS fun n=>by rw [OW.eq_def];simp only [roundOf,Nk hl]
theorem Wu {k k':List AItem} {id:Nat} (h:R9 id k=R9 id k') (h2:roundOf k=roundOf k'):QZ E af lim (.code (.exitR id)::k) fr H R=QZ E af lim (.code (.exitR id)::k') fr H R:=by
 cases hk:R9 id k' with
 | some K'=>
   exact (QZ.succ (k1:=K') (fr1:=fr) (H1:=H) fun n=>by rw [OW.eq_def];simp only [h.trans hk]).trans (QZ.succ fun n=>by rw [OW.eq_def];simp only [hk]).symm
 | none=>
   rw [SS (r:=match roundOf k with | some i=>if lim<=i then endRound i (some (.exit id)) H else none | none=>none) fun n=>by rw [OW.eq_def];simp only [h.trans hk];cases roundOf k with | none=>rfl | some i=>simp only;split<;>rfl,
    SS (k:=.code (.exitR id)::k') (r:=match roundOf k' with | some i=>if lim<=i then endRound i (some (.exit id)) H else none | none=>none) fun n=>by rw [OW.eq_def];simp only [hk];cases roundOf k' with | none=>rfl | some i=>simp only;split<;>rfl,h2]
theorem Nbt {id:Nat} {c:ACode}:QZ E af lim (.code (.exitR id)::.code c::K) fr H R=QZ E af lim (.code (.exitR id)::K) fr H R:=Wu (by simp [R9]) rfl
theorem Nbr {id:Nat} {c:ACode}:QZ E af lim (.code (.exitR id)::.inLoop c::K) fr H R=QZ E af lim (.code (.exitR id)::K) fr H R:=Wu (by simp [R9]) rfl
theorem Mx {id a:Nat} (h:a≠id):QZ E af lim (.code (.exitR id)::.inBlock a::K) fr H R=QZ E af lim (.code (.exitR id)::K) fr H R:=Wu (by simp [R9,h]) rfl
theorem Nbs {id:Nat}:QZ E af lim (.code (.exitR id)::.inBlock id::K) fr H R=QZ E af lim K fr H R:=QZ.succ fun n=>by rw [OW.eq_def];simp [R9]
theorem Mw {id i:Nat} (hl:lim<=i):QZ E af lim (.code (.exitR id)::.round i::[]) fr H R=RB (Njf i (some (.exit id)) H (NF H i)) R:=by
 rw [<-Wi];exact SS fun n=>by rw [OW.eq_def];simp only [R9,roundOf,Nk hl]
def Nac (x:LoopB):List AItem:=match x.pend with | none=>[] | some c=>[.code c]
theorem Nh5 {st N:Nat} {g:Nat->Value} {ps:List Nat} {a b:ACode}:Nac ⟨st,none,g,N,ps,a,b⟩=[]:=rfl
theorem Nh4 {st N:Nat} {g:Nat->Value} {ps:List Nat} {a b c:ACode}:Nac ⟨st,some c,g,N,ps,a,b⟩=[.code c]:=rfl
def Nv8 (c:Option ((FuncId ⊕ Nat)×List Value)) (f:FuncId->List Value->Prop) (_:Bx f:=⟨⟩):Prop:=match c with | some (.inl g,as)=>f g as | _=>False
theorem Nnh {g:FuncId} {as:List Value} {f:FuncId->List Value->Prop}:Nv8 (some (.inl g,as)) f=f g as:=rfl
def Ncb (b:Blk) (f:LoopB->Prop) (_:Bx f:=⟨⟩):Prop:=match b with | .loop x=>if x.st=1 then False else f x | _=>False
theorem Nvz {N:Nat} {p:Option ACode} {g:Nat->Value} {ps:List Nat} {a b:ACode} {f:LoopB->Prop}:Ncb (.loop ⟨0,p,g,N,ps,a,b⟩) f=f ⟨0,p,g,N,ps,a,b⟩:=by simp [Ncb]
theorem Nvy {N:Nat} {p:Option ACode} {g:Nat->Value} {ps:List Nat} {a b:ACode} {f:LoopB->Prop}:Ncb (.loop ⟨2,p,g,N,ps,a,b⟩) f=f ⟨2,p,g,N,ps,a,b⟩:=by simp [Ncb]
theorem Nm3 {x:LoopB} {f:LoopB->Prop} (h:x.st≠1):Ncb (.loop x) f=f x:=by simp [Ncb,h]
theorem Ng9 {f:Operand} {ps:List Nat} {a b:ACode} {g:FuncId} {as:List Value} (hc:NC (ev fr f) [.func (.yield (H.length+1)) #[] #[]] = some (.inl g,as)) :
  QZ E af lim (.code (.rangeF f ps a b)::K) fr H R=NP E false lim g as (H++[.dfr,.loop ⟨0,none,fr,af.ntmps,ps,a,b⟩]) fun _ U=>
   Ncb (NF U (H.length+1)) fun x=>QZ E af lim (Nac x++(K++[.mark H.length])) fr (U.set (H.length+1) .dead) R:=by
 let F:=fun (n:Nat) (r:Value×NB)=>match NF r.2 (H.length+1) with
  | .loop x=>if x.st=1 then none else OW E n af lim ((match x.pend with | none=>[] | some c=>[AItem.code c])++(K++[AItem.mark H.length])) fr (r.2.set (H.length+1) .dead)
  | _=>none
 have O:∀n r s,F n r=some s->∃x,NF r.2 (H.length+1)=.loop x/\x.st≠1/\OW E n af lim (Nac x++(K++[.mark H.length])) fr (r.2.set (H.length+1) .dead)=some s:=fun n r s h=>by
  simp only [F] at h
  split at h
  case h_2=>cases h
  rename_i x hb
  split at h
  ·cases h
  rename_i k
  exact ⟨x,hb,k,h⟩
 have w:∀n r x s,NF r.2 (H.length+1)=.loop x->x.st≠1->OW E n af lim (Nac x++(K++[.mark H.length])) fr (r.2.set (H.length+1) .dead)=some s->F n r=some s:=fun n r x s hb k h=>by
  simp only [F,hb,Ni k]
  exact h
 have D:∀n r s,F n r=some s->s≠[]:=fun n r s h=>by
  obtain ⟨x,_,_,h⟩:=O n r s h
  exact X4 E _ _ _ _ _ _ _ h
 have d:∀{n m r s},n<=m->F n r=some s->F m r=some s:=fun {n m r s} P h=>by
  obtain ⟨x,h1,h2,M⟩:=O n r s h
  exact w m r x s h1 h2 (UX E P M)
 have p:∀n,OW E (n+1) af lim (.code (.rangeF f ps a b)::K) fr H=match QN E (OW E n) false lim (.inl g) as (H++[.dfr,.loop ⟨0,none,fr,af.ntmps,ps,a,b⟩]) with
   | some L=>TG (F n) L
   | none=>none:=fun n=>by rw [OW.eq_def];simp only [hc];rfl
 apply propext
 constructor
 ·rintro ⟨n,L,o,hr⟩
  cases n with
  | zero=>simp [OW] at o
  | succ n=>
  rw [p] at o
  split at o
  case h_2=>cases o
  rename_i L0 i
  refine ⟨n,L0,i,fun u=>?_,fun r hr'=>?_⟩
  ·obtain ⟨y,J⟩:=hr.1 u
   exact X0 o (fun x _ s j=>D n x s j) J
  ·obtain ⟨s,j,G⟩:=U0 o r hr'
   obtain ⟨x,h1,h2,M⟩:=O n r s j
   rw [h1,Nm3 h2]
   refine ⟨n,s,M,fun u=>?_,fun q Q=>hr.2 q (G q Q)⟩
   obtain ⟨y,J⟩:=hr.1 u
   obtain ⟨z,T⟩:=X0 o (fun x _ s j=>D n x s j) J
   subst T
   rw [Ng] at hr'
   subst hr'
   simp only [TG,j,Option.some.injEq,Nb] at o
   exact ⟨y,o.trans J⟩
 ·rintro ⟨n,L0,i,u,h2⟩
  have B:∃N,∀r∈L0,∃s,F N r=some s/\Zd E.dt s R:=by
   clear u i
   induction L0 with
   | nil=>exact ⟨0,fun r hr=>by cases hr⟩
   | cons y L0 ih=>
     obtain ⟨N,A⟩:=ih fun r hr=>h2 r (by simp [hr])
     have v:=h2 y (by simp)
     simp only [Ncb] at v
     split at v
     case h_2=>exact v.elim
     rename_i x hb
     split at v
     ·exact v.elim
     rename_i k
     obtain ⟨m,s,o,hr⟩:=v
     refine ⟨max N m,fun r hr'=>?_⟩
     rcases Nh.1 hr' with rfl | hr'
     ·exact ⟨s,d (O7 N m) (w m r x s hb k o),hr⟩
     ·obtain ⟨s',V,W⟩:=A r hr'
      exact ⟨s',d (Px N m) V,W⟩
  obtain ⟨N,A⟩:=B
  have e:QN E (OW E (max n N)) false lim (.inl g) as (H++[.dfr,.loop ⟨0,none,fr,af.ntmps,ps,a,b⟩])=some L0:=Vu E (Px n N) _ _ _ _ _ _ i
  obtain ⟨L,I⟩:=Wo (f:=F (max n N)) (l:=L0) fun r hr=>by
   obtain ⟨s,j,_⟩:=A r hr
   exact ⟨s,d (O7 n N) j⟩
  refine ⟨max n N+1,L,by rw [p,e];exact I,fun C=>?_,fun q Q=>?_⟩
  ·obtain ⟨y,rfl⟩:=u C
   obtain ⟨s,j,ho⟩:=A y (by simp)
   have t:=d (O7 n N) j
   simp only [TG,t,Option.some.injEq,Nb] at I
   obtain ⟨z,T⟩:=ho.1 C
   exact ⟨z,by rw [<-I,T]⟩
  ·obtain ⟨r,hr,s,j,S⟩:=U1 I q Q
   obtain ⟨s',t,ho⟩:=A r hr
   have:=d (O7 n N) t
   rw [j] at this
   cases this
   exact ho.2 q S
theorem Njz {f:Operand} {ps:List Nat} {a b:ACode} :
  QZ E af lim (.code (.rangeF f ps a b)::K) fr H R=Nv8 (NC (ev fr f) [.func (.yield (H.length+1)) #[] #[]]) fun g as=>NP E false lim g as (H++[.dfr,.loop ⟨0,none,fr,af.ntmps,ps,a,b⟩]) fun _ c=>
   Ncb (NF c (H.length+1)) fun x=>QZ E af lim (Nac x++(K++[.mark H.length])) fr (c.set (H.length+1) .dead) R:=by
 unfold Nv8
 split
 ·rename_i g as hc;exact Ng9 hc
 ·rename_i hc
  refine Noe fun n=>?_
  rw [OW.eq_def]
  simp only
theorem XU.det {mp:Bool} {i:Nat} {as:List Value} {Q:Value->NB->Prop} {n:Nat} {v:Value} {H':NB} (h:Rh E n mp lim (.inr i) as H=some [(v,H')]):XU E mp lim i as H Q=Q v H':=by
 rw [<-Ndh,Vv.all h,Ul]
theorem XU.mono {mp:Bool} {i:Nat} {as:List Value} {Q Q':Value->NB->Prop} (h:XU E mp lim i as H Q) (a:∀v H',Q v H'->Q' v H'):XU E mp lim i as H Q':=by
 obtain ⟨n,L,h1,h2⟩:=h
 exact ⟨n,L,h1,h2.mono a⟩
theorem Non {i:Nat} {as:List Value} {Q:Value->NB->Prop} {x:LoopB} (hb:NF H i=.loop x) (hl:lim<=i) (a:as.length=x.params.length) (hp:(x.params.all (·<x.N))=true) :
  XU E false lim i as H Q=QZ E ⟨x.N,[],.skip⟩ lim [.code x.assign,.begin i,.code x.body,.round i] (TA x.fr x.params as) H Q:=by
 unfold XU QZ Rh QN
 simp only [hb,Nk (And.intro hl (And.intro a hp)),No,if_false]
theorem QF {c c':ACode} (h:c=c'):QZ E af lim (.code c::K) fr H R=QZ E af lim (.code c'::K) fr H R:=by rw [h]
theorem Sv {b o:Nat} {s:Option Nat}:AM.loadCell H ⟨b,o,s⟩=(match NF H b with | .cells _ c=>c[o]? | _=>none):=rfl
theorem NW {b o n:Nat} {s:Option Nat}:AM.loadCells H ⟨b,o,s⟩ n=(match NF H b with | .cells _ c=>if o+n<=c.length then some ((c.drop o).take n) else none | _=>none):=rfl
theorem RQ {b o:Nat} {s:Option Nat} {vs:List Value}:AM.storeAt lim H ⟨b,o,s⟩ vs=(match NF H b with | .cells false c=>if lim<=b/\o+vs.length<=c.length then some (H.set b (.cells false (Rk c o vs))) else none | _=>none):=rfl
theorem NP.eq {mp:Bool} {g:FuncId} {as:List Value} {Q:Value->NB->Prop} {v:Value} {H':NB} (h:NP E mp lim g as H fun v' H1=>v'=v/\H1=H'):NP E mp lim g as H Q=Q v H':=by
 obtain ⟨n,L,h1,h2⟩:=h
 rw [<-ZC,Vv.all h1]
 have c:=Nsb E h1
 obtain ⟨x,d⟩:=Qt _ c
 have e:∀r∈L,r=(v,H'):=fun r hr=>by
  obtain ⟨a,b⟩:=h2.2 r hr
  exact Prod.ext a b
 apply propext
 constructor
 ·intro h
  have:=h.2 x d
  rw [e x d] at this
  exact this
 ·exact fun f=>⟨h2.1,fun r hr=>by rw [e r hr];exact f⟩
end
section
variable {p q:Prop} {t b:Bool}
theorem Neu:TJ undef b p q=q:=by unfold undef TJ;rfl
theorem Nky:TJ (.bool (!t)) b p q=TJ (.bool t) (!b) p q:=by cases t<;>cases b<;>simp [TJ]
theorem Nm6:Na6 (.bool (!t)) p q=Na6 (.bool t) q p:=by cases t<;>rfl
end
theorem Ngl {a b:Nat}:((a:Int)<(b:Int))=(a<b):=by simp
theorem Vy {a b:Nat}:((a:Int)<=(b:Int))=(a<=b):=by simp
theorem Ngk {a:Nat}:((0:Int)<(a:Int))=(0<a):=by simp
theorem QP {n:Int} (h1:-2 ^ 63<=n) (h2:n<2 ^ 63):IntKind.i64.wrap n=n:=by
 by_cases h:0<=n
 ·have h1:n % 2 ^ 64=n:=Q0 h (by omega)
  simp only [IntKind.wrap,IntKind.bits,IntKind.signed,h1]
  rw [Ni (by simp;omega)]
 ·have h1:n % 2 ^ 64=n+2 ^ 64:=by
   rw [<-Int.add_emod_right,Q0 (by omega) (by omega)]
  simp only [IntKind.wrap,IntKind.bits,IntKind.signed,h1]
  rw [Nk (by simp;omega)]
  omega
theorem Nkx {n:Nat} (h:0<n) (h2:n<2 ^ 63):IntKind.i64.wrap ((n:Int)-1)=((n-1:Nat):Int):=by rw [QP (by omega) (by omega)];omega
theorem Ni6 {H:NB} {b:Nat} (h:isCells (NF H b)=true):∃ro,NF H b=.cells ro (cellsOf (NF H b)):=by
 cases hb:NF H b with
 | cells ro c=>exact ⟨ro,by simp [cellsOf]⟩
 | _=>rw [hb] at h;simp [isCells] at h
theorem Sl.lit {α:Type} {H:NB} {enc:α->List Value} {e b:Nat} {l:List α} (he:∀x,(enc x).length=e) (h:isCells (NF H b)=true) (hc:cellsOf (NF H b)=l.flatMap enc):Sl H enc e (some ⟨b,0,none⟩) l:=by
 obtain ⟨ro,h1⟩:=Ni6 h
 refine ⟨rfl,fun _=>⟨ro,_,h1, ?_, ?_⟩⟩
 ·rw [hc,QJ he];simp
 ·rw [hc,Og,N9 (by rw [QJ he];exact Nd _)]
theorem Uc {a:Option Addr} {n c:Nat}:(Value.slice a n c).cells=#[.slice a n c]:=rfl
theorem Nnd {a:Option Addr}:(Value.pointer a).cells=#[.pointer a]:=rfl
theorem Nnc {s:ByteArray}:(Value.string s).cells=#[.string s]:=rfl
theorem Nnm {v:Value}:(#[v]:Array Value).toList=[v]:=rfl
theorem Nco {v:Value}:(#[v]:Array Value).size=1:=rfl
theorem Nne {a:Option Nat}:(Value.map a).cells=#[.map a]:=rfl
theorem cells_func {f:Fn} {a b:Array Value}:(Value.func f a b).cells=#[.func f a b]:=rfl
theorem Ngr {off:Nat} {a:Option Addr} {n m:Nat} {c:List Value} (h:off<c.length):V3 off 1 (.slice a n m) c=some (c.set off (.slice a n m)):=Vb rfl rfl h
theorem Nmv {off:Nat} {a:Option Addr} {c:List Value} (h:off<c.length):V3 off 1 (.pointer a) c=some (c.set off (.pointer a)):=Vb rfl rfl h
theorem Nmu {off:Nat} {a:ByteArray} {c:List Value} (h:off<c.length):V3 off 1 (.string a) c=some (c.set off (.string a)):=Vb rfl rfl h
theorem Nmw {off:Nat} {a:Option Nat} {c:List Value} (h:off<c.length):V3 off 1 (.map a) c=some (c.set off (.map a)):=Vb rfl rfl h
theorem Nxe:List.replicate 4 Blk.dead=[.dead,.dead,.dead,.dead]:=rfl
theorem Nxd:List.replicate 5 Blk.dead=[.dead,.dead,.dead,.dead,.dead]:=rfl
theorem Nxc:List.replicate 6 Blk.dead=[.dead,.dead,.dead,.dead,.dead,.dead]:=rfl
theorem Nxb:List.replicate 7 Blk.dead=[.dead,.dead,.dead,.dead,.dead,.dead,.dead]:=rfl
theorem Nxa:List.replicate 8 Blk.dead=[.dead,.dead,.dead,.dead,.dead,.dead,.dead,.dead]:=rfl
theorem Nw9:List.replicate 9 Blk.dead=[.dead,.dead,.dead,.dead,.dead,.dead,.dead,.dead,.dead]:=rfl
theorem Nvg:List.replicate 10 Blk.dead=[.dead,.dead,.dead,.dead,.dead,.dead,.dead,.dead,.dead,.dead]:=rfl
theorem Nvf:List.replicate 11 Blk.dead=[.dead,.dead,.dead,.dead,.dead,.dead,.dead,.dead,.dead,.dead,.dead]:=rfl
theorem Nve:List.replicate 12 Blk.dead=[.dead,.dead,.dead,.dead,.dead,.dead,.dead,.dead,.dead,.dead,.dead,.dead]:=rfl
theorem Ng1:bytesOf []=some []:=rfl
theorem Za {n:Int} {l:List Value}:bytesOf (.int .u8 n::l)=(bytesOf l).map (UInt8.ofNat n.toNat::·):=by
 simp only [bytesOf];cases bytesOf l<;>rfl
theorem Ngm {a b:Nat}:((a:Int)=(b:Int))=(a=b):=propext Int.ofNat_inj
theorem ZI {v:Value} {c vs:List Value}:∀{o:Nat},Rk (v::c) (o+1) vs=v::Rk c o vs:=by
 induction vs generalizing c with
 | nil=>intro o;rfl
 | cons u vs ih=>intro o;rw [TZ,TZ,P6];exact ih
theorem U8 {l:List Value} {n:Nat} (h:l.length=n):l.take n=l:=by subst h;exact Pn
theorem Ngc {n:Nat}:((n:Int)<0)=False:=by simp
theorem Su {c vs:List Value} (h:vs.length=c.length):Rk c 0 vs=vs:=by
 have key:∀(vs c pre:List Value),vs.length=c.length->Rk (pre++c) pre.length vs=pre++vs:=by
  intro vs
  induction vs with
  | nil=>intro c pre h;have:c=[]:=List.length_eq_zero_iff.1 h.symm;subst this;rfl
  | cons v vs ih=>
    intro c pre h
    match c,h with
    | x::c,h=>
      rw [TZ]
      have e1:(pre++x::c).set pre.length v=(pre++[v])++c:=by simp
      rw [e1]
      have:=ih c (pre++[v]) (by simpa using h)
      rw [Nj] at this
      simp only [Nm,Nn,Nr] at this
      rw [this];simp
 exact key vs c [] h
def Nub (v:Value) (H:NB):Option (Value×NB):=match v with
 | .slice none n _=>if n=0 then some (.string .empty,H) else none
 | .slice (some a) n _=>match loadCells H a n with
   | some cs=>match bytesOf cs with
     | some bs=>some (.string ⟨bs.toArray⟩,H)
     | none=>none
   | none=>none
 | _=>none
theorem Ndb {a:Addr} {n c:Nat} {H:NB}:Nub (.slice (some a) n c) H=(match AM.loadCells H a n with
  | some cs=>match bytesOf cs with
    | some bs=>some (.string ⟨bs.toArray⟩,H)
    | none=>none
  | none=>none):=rfl
theorem Ns1 {E:Env} {lim:Nat} {mask:List Nat} {fr:Nat->Value} {H:NB} {Q:Value->NB->Prop} {a:Operand}:oK E lim none none mask (.b2s a) fr H Q=RB (Nub (ev fr a) H) Q:=OX rfl
theorem Ns6 {E:Env} {lim b:Nat} {dest:Option Nat} {mask:List Nat} {fr:Nat->Value} {H:NB} {Q:Value->NB->Prop} {a:Operand}:oK E lim (some b) dest mask (.b2s a) fr H Q=RB (Nub (ev fr a) (NN b mask H)) fun v H'=>Q v (NL b mask H H'):=OE rfl
def unV:Operand->Value
 | .const v=>v
 | _=>undef
def WJ (e:Nat) (v:Value) (lo hi mx:Option Value):Option Value:=U6 e unV v (lo.map .const) (hi.map .const) (mx.map .const)
theorem Nnr {e:Nat} {ρ:Operand->Value} {v:Value} {lo hi mx:Option Operand}:U6 e ρ v lo hi mx=WJ e v (lo.map ρ) (hi.map ρ) (mx.map ρ):=by
 unfold WJ U6
 cases v with
 | slice a n c=>cases lo<;>cases hi<;>cases mx<;>rfl
 | _=>rfl
def copyV (lim esz:Nat) (d x:Value) (H:NB):Option (Value×NB):=match d,lenOf x with
    | .slice base b _,some sl=>match RL H esz (min sl b) x with
      | some cs=>match base with
        | some a=>if min sl b=0 then some (.int .i64 0,H) else (storeAt lim H a cs).map (.int .i64 (min sl b:Nat),·)
        | none=>if b=0 then some (.int .i64 0,H) else none
      | none=>none
    | _,_=>none
theorem Np0 {E:Env} {lim e:Nat} {mask:List Nat} {fr:Nat->Value} {H:NB} {Q:Value->NB->Prop} {d x:Operand}:oK E lim none none mask (.copy e d x) fr H Q=RB (copyV lim e (ev fr d) (ev fr x) H) Q:=OX rfl
theorem Nqb {E:Env} {lim b e:Nat} {dest:Option Nat} {mask:List Nat} {fr:Nat->Value} {H:NB} {Q:Value->NB->Prop} {d x:Operand}:oK E lim (some b) dest mask (.copy e d x) fr H Q=RB (copyV lim e (ev fr d) (ev fr x) (NN b mask H)) fun v H'=>Q v (NL b mask H H'):=OE rfl
def U3 (n e:Nat) (v:Value) (lo hi mx:Option Value):Option Value:=match v with
 | .pointer (some a)=>match bounds unV n n (lo.map .const) (hi.map .const) (mx.map .const) with
   | some (l,h,m)=>if m<2 ^ 62 then some (.slice (some (if m=l then a else a.add (l*e))) (h-l) (m-l)) else none
   | none=>none
 | _=>none
theorem Ne5 {lim n e:Nat} {dest:Option Nat} {ρ:Operand->Value} {x:Operand} {lo hi mx:Option Operand} {H:NB}:NH lim dest (.sliceA n e x lo hi mx) ρ H=(U3 n e (ρ x) (lo.map ρ) (hi.map ρ) (mx.map ρ)).map (·,H):=by
 have hb:bounds unV n n ((lo.map ρ).map .const) ((hi.map ρ).map .const) ((mx.map ρ).map .const)=bounds ρ n n lo hi mx:=by
  cases lo<;>cases hi<;>cases mx<;>rfl
 simp only [NH,U3,hb]
 cases ρ x with
 | pointer a=>
   cases a with
   | none=>rfl
   | some a=>
     simp only
     cases bounds ρ n n lo hi mx with
     | none=>rfl
     | some p=>
       obtain ⟨l,h,m⟩:=p
       simp only
       split<;>rfl
 | _=>rfl
theorem Nib {E:Env} {lim n e:Nat} {mask:List Nat} {fr:Nat->Value} {H:NB} {Q:Value->NB->Prop} {x:Operand} {lo hi mx:Option Operand}:oK E lim none none mask (.sliceA n e x lo hi mx) fr H Q=RB ((U3 n e (ev fr x) (lo.map (ev fr)) (hi.map (ev fr)) (mx.map (ev fr))).map (·,H)) Q:=by
 rw [OX rfl,Ne5]
theorem Nih {E:Env} {lim b n e:Nat} {dest:Option Nat} {mask:List Nat} {fr:Nat->Value} {H:NB} {Q:Value->NB->Prop} {x:Operand} {lo hi mx:Option Operand}:oK E lim (some b) dest mask (.sliceA n e x lo hi mx) fr H Q=RB ((U3 n e (ev fr x) (lo.map (ev fr)) (hi.map (ev fr)) (mx.map (ev fr))).map (·,NN b mask H)) fun v H'=>Q v (NL b mask H H'):=by
 rw [OE rfl,Ne5]
def Xj (lim:Nat) (dest:Option Nat) (esz bytes:Nat) (str:Bool) (s x:Value) (H:NB):Option (Value×NB):=match s with
    | .slice none n c=>OH lim dest esz bytes str (.slice none n c) x H
    | .slice (some a) n c=>if c=loose esz\/c=n then OH lim dest esz bytes str (.slice (some a) n c) x H else none
    | _=>none
theorem Nfy {E:Env} {lim e b:Nat} {str:Bool} {mask:List Nat} {fr:Nat->Value} {H:NB} {Q:Value->NB->Prop} {s x:Operand}:oK E lim none none mask (.appendL e b str s x) fr H Q=RB (Xj lim none e b str (ev fr s) (ev fr x) H) Q:=OX rfl
theorem Nga {E:Env} {lim e b' b:Nat} {str:Bool} {dest:Option Nat} {mask:List Nat} {fr:Nat->Value} {H:NB} {Q:Value->NB->Prop} {s x:Operand}:oK E lim (some b) dest mask (.appendL e b' str s x) fr H Q=RB (Xj lim (dest.map (b+·)) e b' str (ev fr s) (ev fr x) (NN b mask H)) fun v H'=>Q v (NL b mask H H'):=OE rfl
theorem Nce {lim e b n c:Nat} {str:Bool} {dest:Option Nat} {x:Value} {H:NB}:Xj lim dest e b str (.slice none n c) x H=OH lim dest e b str (.slice none n c) x H:=rfl
theorem XP {lim e b n c:Nat} {str:Bool} {dest:Option Nat} {x:Value} {H:NB} {a:Addr}:Xj lim dest e b str (.slice (some a) n c) x H=if c=loose e\/c=n then OH lim dest e b str (.slice (some a) n c) x H else none:=rfl
section
variable {α:Type}
variable [Inhabited α] {enc:α->List Value} {G X:NB} {B e i:Nat} {d:Array α} {p:Option Addr} {lim:Nat}
omit [Inhabited α] in
theorem Nrm (he:∀x,(enc x).length=e) (y:α):∀(l:List α) (i:Nat),i<l.length->Rk (l.flatMap enc) (i*e) (enc y)=(l.set i y).flatMap enc:=by
 have key:∀(vs a b c:List Value) ,vs.length=b.length->Rk (a++b++c) a.length vs=a++vs++c:=by
  intro vs
  induction vs with
  | nil=>intro a b c h;simp at h;have:b=[]:=List.length_eq_zero_iff.1 h.symm;subst this;rfl
  | cons v vs ih=>
    intro a b c h
    match b,h with
    | x::b,h=>
      rw [TZ]
      have e1:(a++x::b++c).set a.length v=(a++[v])++b++c:=by simp
      rw [e1]
      have:=ih (a++[v]) b c (by simpa using h)
      rw [Nj] at this
      simp only [Nm,Nn,Nr] at this
      rw [this];simp
 intro l i hi
 have e1:l.flatMap enc=(l.take i).flatMap enc++enc l[i]++(l.drop (i+1)).flatMap enc:=by
  have e0:l=l.take i++l[i]::l.drop (i+1):=by rw [<-Pa hi,Pe]
  have:=Qn (List.flatMap enc) e0
  rw [P5,Oh] at this
  rw [this,Nl]
 have e2:(l.set i y).flatMap enc=(l.take i).flatMap enc++enc y++(l.drop (i+1)).flatMap enc:=by
  rw [List.set_eq_take_append_cons_drop,Nk hi];simp
 have e3:i*e=((l.take i).flatMap enc).length:=by rw [QJ he,N7,Pd (by omega)]
 rw [e1,e2,e3]
 exact key _ _ _ _ (by rw [he,he])
end
def SB:=And.intro @ne_eq.{1} (And.intro @if_true.{1} (And.intro @if_false.{1} (And.intro @dite_true.{1} (And.intro @dite_false.{1} (And.intro @Nud (And.intro @Nou (And.intro @Noz (And.intro @Nox (And.intro @Noy (And.intro @Nr2 (And.intro @Nr3 (And.intro @Ntj (And.intro @Nti (And.intro @Ns9 (And.intro @Nay (And.intro @Nb9 (And.intro @Nje (And.intro @Nmx (And.intro @Njd (And.intro @Nmy (And.intro @Nhu (And.intro @TZ (And.intro @Nse (And.intro @Ncj (And.intro @Nch (And.intro @Nbq (And.intro @Nci (And.intro @Nsc (And.intro @Noi (And.intro @Nhc (And.intro @Nsf (And.intro @Nwv (And.intro @Nww (And.intro @false_and (And.intro @and_false (And.intro @Nha (And.intro @Nue (And.intro @decide_true (And.intro @Nts (And.intro @Ntr (And.intro @Nvh (And.intro @Nsx (And.intro @Nvk (And.intro @Nvi (And.intro @Nxg (And.intro @Ns0 (And.intro @Np3 (And.intro @Nvj (And.intro @Np2 (And.intro @Nb3 (And.intro @Npz (And.intro @Npy (And.intro @Npx (And.intro @Nfr (And.intro @Nd2 (And.intro @Nlq (And.intro @Nlp (And.intro @Nfw (And.intro @Nfv (And.intro @Nsz (And.intro @Nlo (And.intro @Nlj (And.intro @Nfq (And.intro @Nlm (And.intro @Nfu (And.intro @Nln (And.intro @Nsy (And.intro @Nls (And.intro @Nig (And.intro @Nlk (And.intro @Nd1 (And.intro @Nid (And.intro @Nll (And.intro @Nfs (And.intro @Nb2 (And.intro @Nd0 (And.intro @Nlr (And.intro @Np1 (And.intro @Nft (And.intro @Nif (And.intro @Npw (And.intro @Nic (And.intro @Nvl (And.intro @Ns2 (And.intro @Nvo (And.intro @Nvm (And.intro @Nxi (And.intro @Ns5 (And.intro @Nqe (And.intro @Nvn (And.intro @Nqd (And.intro @Nb5 (And.intro @Nqa (And.intro @Np9 (And.intro @Np7 (And.intro @Np8 (And.intro @Nlu (And.intro @Nlt (And.intro @Np6 (And.intro @Nlv (And.intro @Nf3 (And.intro @Nd6 (And.intro @Nl3 (And.intro @Nl2 (And.intro @Nf8 (And.intro @Nf7 (And.intro @Ns4 (And.intro @Nl1 (And.intro @Nlw (And.intro @Nf2 (And.intro @Nlz (And.intro @Nf6 (And.intro @Nl0 (And.intro @Ns3 (And.intro @Nl5 (And.intro @Nin (And.intro @Nlx (And.intro @Nd5 (And.intro @Nij (And.intro @Nly (And.intro @Nf4 (And.intro @Nb4 (And.intro @Nd4 (And.intro @Nl4 (And.intro @Nqc (And.intro @Nf5 (And.intro @Nim (And.intro @Np5 (And.intro @Nii (And.intro @Ns8 (And.intro @Nqj (And.intro @Nqh (And.intro @Nqf (And.intro @Nqg (And.intro @Ns7 (And.intro @Nqi (And.intro @Nfx (And.intro @Nf9 (And.intro @Nie (And.intro @Nik (And.intro @Nni (And.intro @Npn (And.intro @Nrk (And.intro @Nmn (And.intro @Ntt (And.intro @Niz (And.intro @Niy (And.intro @Ni3 (And.intro @Ned (And.intro @Ni4 (And.intro @Nlh (And.intro @Nsr (And.intro @Ntc (And.intro @Nqs (And.intro @Nvq (And.intro @ZC (And.intro @Ndh (And.intro @Nsd (And.intro @Nl9 (And.intro @Nit (And.intro @Nis (And.intro @Ngf (And.intro @Nir (And.intro @Ne6 (And.intro @Zj (And.intro @Nht (And.intro @Nod (And.intro @Noj (And.intro @Nnk (And.intro @Nt5 (And.intro @Nrx (And.intro @Ncg (And.intro @Ncf (And.intro @Nbp (And.intro @Nbo (And.intro @Nbt (And.intro @Nbr (And.intro @Mx (And.intro @Nbs (And.intro @Mw (And.intro @Nnh (And.intro @Nvz (And.intro @Nvy (And.intro @Nh5 (And.intro @Nh4 (And.intro @Njz (And.intro @List.map_cons.{0,0} (And.intro @List.map_nil.{0,0} (And.intro @Option.map_none.{0,0} (And.intro @Nqp (And.intro @Nl8 (And.intro @Nez (And.intro @Nsw (And.intro @Npr (And.intro @Nsv (And.intro @Nli (And.intro @Nof (And.intro @On (And.intro @Nhk (And.intro @RP (And.intro @Nvx (And.intro @Nrr (And.intro @Ntx (And.intro @upd_same (And.intro @upd_ne (And.intro @not_false_eq_true (And.intro @Npu (And.intro @Option.map_some.{0,0} (And.intro @List.getD_cons_zero.{0} (And.intro @List.getD_cons_succ.{0} (And.intro @decide_false (And.intro @No (And.intro @not_true_eq_false (And.intro @and_true (And.intro @Qr (And.intro @NK (And.intro @NU (And.intro @NZ (And.intro @VQ (And.intro @Y6 (And.intro @List.set_cons_zero.{0} (And.intro @List.set_cons_succ.{0} (And.intro @List.append_assoc.{0} (And.intro @List.cons_append.{0} (And.intro @List.nil_append.{0} (And.intro @RQ (And.intro @Sv (And.intro @NW (And.intro @Xa (And.intro @List.length_cons.{0} (And.intro @List.length_nil.{0} (And.intro @addr_add (And.intro @List.drop_zero.{0} (And.intro @List.drop_succ_cons.{0} (And.intro @List.take_succ_cons.{0} (And.intro @List.take_zero.{0} (And.intro @Nd (And.intro @Nat.le_add_right (And.intro @Nr (And.intro @Oq (And.intro @Nhx (And.intro @Nhz (And.intro @Nfa (And.intro @Njn (And.intro @Nro (And.intro @Nmt (And.intro @Nrp (And.intro @Nng (And.intro @Nnf (And.intro @Njo (And.intro @Nsa (And.intro @Nr9 (And.intro @Option.some.injEq.{0} (And.intro @Prod.mk.injEq.{0,0} (And.intro @List.length_append.{0} (And.intro @List.getElem?_cons_zero.{0} (And.intro @List.getElem?_cons_succ.{0} (And.intro @Nat.lt_irrefl (And.intro @and_self (And.intro @Ngl (And.intro @Vy (And.intro @Nky (And.intro @Nm6 (And.intro @Ok (And.intro @Bool.not_false (And.intro @Nat.le_add_right_of_le (And.intro @Ngk (And.intro @Neu (And.intro @Nmd (And.intro @Nc1 (And.intro @Ngp (And.intro @Ngq (And.intro @NS (And.intro @Mt (And.intro @N4 (And.intro @Nmj (And.intro @Nuf (And.intro @Uc (And.intro @Nnd (And.intro @Nnc (And.intro @Nne (And.intro @cells_func (And.intro @Nnm (And.intro @Nco (And.intro @Ngr (And.intro @Nmv (And.intro @Nmu (And.intro @Nmw (And.intro @Ngc (And.intro @Su (And.intro @Option.isNone_none.{0} (And.intro @Option.isNone_some.{0} (And.intro @O1 (And.intro @U8 (And.intro @ZI (And.intro @Nxe (And.intro @Nxd (And.intro @Nxc (And.intro @Nxb (And.intro @Nxa (And.intro @Nw9 (And.intro @Nvg (And.intro @Nvf (And.intro @Nve (And.intro @Za (And.intro @Ng1 (And.intro @Ngm (And.intro @Ns1 (And.intro @Ns6 (And.intro @Ndb (And.intro @Nnr (And.intro @Np0 (And.intro @Nqb (And.intro @Nib (And.intro @Nih (And.intro @Nfy (And.intro @Nga (And.intro @Nce (@XP)))))))))))))))))))))))))))))))))))))))))))))))))))))))))))))))))))))))))))))))))))))))))))))))))))))))))))))))))))))))))))))))))))))))))))))))))))))))))))))))))))))))))))))))))))))))))))))))))))))))))))))))))))))))))))))))))))))))))))))))))))))))))))))))))))))))))))))))))))))))))))))))))))))))))))))))))))))))))))))))
theorem Nmo {args:List Value} {t:Nat}:ND args t=args.getD t undef:=id rfl
def FB:=And.intro @upd_same (And.intro @upd_ne (And.intro @ne_eq.{1} (And.intro @not_false_eq_true (And.intro @Nmo (And.intro @List.getD_cons_zero.{0} @List.getD_cons_succ.{0})))))
section
variable {G G' K:NB} {R:Nat} {b:Blk}
structure Mut (G G':NB) (R:Nat):Prop where
 len:G'.length=G.length
 other:∀j,j≠R->NF G' j=NF G j
theorem Mut.ext {H:NB} (h:Mut G G' R) (a:QL H G) (b:H.length<=R):QL H G':=by
 obtain ⟨Y,rfl⟩:=a
 refine ⟨G'.drop H.length, ?_⟩
 apply O4
 ·have:=h.len;simp at this⊢;omega
 intro i h1 h2
 have hl:=h.len
 simp at hl
 by_cases hi:i<H.length
 ·rw [Qu hi]
  have:=h.other i (by omega)
  unfold NF at this
  rw [Na,Na,Nf h1,Nf (by simp;omega)] at this
  simp only [Oj] at this
  rw [this,Qu hi]
 ·rw [Q8 (by omega),List.getElem_drop]
  congr 1
  omega
theorem Mut.cells (h:Mut G G' R) {j:Nat} {ro:Bool} {c:List Value} (b:NF G j=.cells ro c) (a:j≠R):NF G' j=.cells ro c:=by rw [h.other j a];exact b
theorem Mut.alive (h:Mut G G' R) {j:Nat} {B:Blk} (b:NF G j=B) (a:j≠R):NF G' j=B:=by rw [h.other j a];exact b
theorem Mut.sl {α:Type} {enc:α->List Value} {e:Nat} {p:Option Addr} {l:List α} (h:Mut G G' R) (b:Sl G enc e p l) (hp:∀a,p=some a->l≠[]->a.block≠R):Sl G' enc e p l:=by
 cases p with
 | none=>exact b
 | some a=>
   refine ⟨b.1,fun hn=>?_⟩
   obtain ⟨ro,c,h2,d⟩:=b.2 hn
   exact ⟨ro,c,h.cells h2 (hp a rfl hn),d⟩
theorem Zx (h:G'.length=G.length):(G'.length=G.length)/\(∀(X:NB) (j:Nat),NF (G'++X) (G.length+j)=X.getD j .dead)/\(∀X:NB,NF (G'++X) G.length=X.getD 0 .dead)/\
  (∀(X:NB) (j:Nat) b,(G'++X).set (G.length+j) b=G'++X.set j b)/\(∀(X:NB) b,(G'++X).set G.length b=G'++X.set 0 b):=by
 refine ⟨h,fun X j=>by rw [<-h];exact NK,fun X=>by rw [<-h];exact NU,fun X j b=>?_,fun X b=>?_⟩
 ·rw [<-h,P7 _ _ (by omega)];simp
 ·rw [<-h,P7 _ _ (by omega)];simp
theorem RN (a:R<G.length) (b:Blk):∃G',(∀X:NB,(G++X).set R b=G'++X)/\NF G' R=b/\Mut G G' R:=
 ⟨G.set R b,fun X=>O3 _ _ a,Rf a,by simp,fun j c=>Q9 c⟩
end
def Own {α:Type} (lim:Nat) (G:NB) (enc:α->List Value) (e:Nat) (p:Option Addr) (cap:Nat) (l:List α):Prop:=
 (l=[]/\p=none/\cap=0)\/∃R,p=some ⟨R,0,none⟩/\cap=loose e/\NF G R=.cells false (l.flatMap enc)/\lim<=R
section
variable {α:Type} {lim e bytes cap:Nat} {G:NB} {enc:α->List Value} {p:Option Addr} {l m:List α}
theorem Own.nil:Own lim G enc e none 0 []:=.inl ⟨rfl,rfl,rfl⟩
theorem Own.app (h:Own lim G enc e p cap l) (X:NB):Own lim (G++X) enc e p cap l:=by
 rcases h with h | ⟨R,h1,h2,a,b⟩
 ·exact .inl h
 ·exact .inr ⟨R,h1,h2,by rw [NZ (NJ a)];exact a,b⟩
theorem Own.mut {G':NB} {R:Nat} (h:Own lim G enc e p cap l) (f:Mut G G' R) (hp:∀a,p=some a->a.block≠R):Own lim G' enc e p cap l:=by
 rcases h with h | ⟨b,h1,h2,c,d⟩
 ·exact .inl h
 ·exact .inr ⟨b,h1,h2,f.cells c (hp _ h1),d⟩
theorem Own.new {R:Nat} (a:NF G R=.cells false (l.flatMap enc)) (hl:lim<=R):Own lim G enc e (some ⟨R,0,none⟩) (loose e) l:=.inr ⟨R,rfl,rfl,a,hl⟩
theorem Own.sl (h:Own lim G enc e p cap l) (he:∀x,(enc x).length=e):Sl G enc e p l:=by
 rcases h with ⟨h1,h2,_⟩ | ⟨R,h1,h2,a,b⟩
 ·subst h1 h2;rfl
 ·subst h1;exact Sl.lit he (by rw [a];rfl) (by rw [a];rfl)
theorem Own.le (h:Own lim G enc e p cap l) {lim':Nat} (hl:lim'<=lim):Own lim' G enc e p cap l:=by
 rcases h with h | ⟨R,h1,h2,a,b⟩
 ·exact .inl h
 ·exact .inr ⟨R,h1,h2,a,by omega⟩
theorem Own.block (h:Own lim G enc e p cap l) {a:Addr} (b:p=some a):lim<=a.block/\a.block<G.length:=by
 rcases h with ⟨h1,h2,c⟩ | ⟨R,h1,h2,c,d⟩
 ·rw [h2] at b;cases b
 ·rw [h1] at b;cases b;exact ⟨d,NJ c⟩
theorem Sl.cells (c:Sl G enc e p m) (b:m≠[]):∃a,p=some a/\AM.loadCells G a (m.length*e)=some (m.flatMap enc):=by
 cases p with
 | none=>exact absurd c b
 | some a=>
   obtain ⟨k1,k2⟩:=c
   obtain ⟨ro,cs,k3,d,f⟩:=k2 b
   refine ⟨a,rfl, ?_⟩
   obtain ⟨g,h,as'⟩:=a
   simp only [NW]
   simp only at k3 d f
   simp only [k3]
   rw [Nk d,f]
theorem Own.push {lim':Nat} (h:Own lim G enc e p cap l) (t:lim'<=lim) (he:∀x,(enc x).length=e) (s:e≠0) (m:List α) (o:m≠[]) (hb:(l.length+m.length)*bytes<=PS) (hn:l.length+m.length<2 ^ 61) :
  ∃(G':NB) (R:Nat),(p=none->R=G.length)/\(∀a,p=some a->R=a.block)/\Mut G G' R/\(∀j,j≠R->NF G' j=NF G j)/\(∀H0:NB,QL H0 G->H0.length<=lim->QL H0 G')/\
   (∀(X:NB) (n:Option Addr) (k:Nat),Sl (G++X) enc e n m->OH lim' none e bytes false (.slice p l.length cap) (.slice n m.length k) (G++X)=some (.slice (some ⟨G.length+X.length,0,none⟩) (l.length+m.length) (loose e),G'++(X++[.cells false ((l++m).flatMap enc)]))):=by
 have f:¬m.length=0:=by intro q;exact o (List.length_eq_zero_iff.1 q)
 rcases h with ⟨h1,h2,i⟩ | ⟨R,h1,h2,i,u⟩
 ·subst h1 h2 i
  refine ⟨G,G.length,fun _=>rfl,fun a h=>(by cases h),⟨rfl,fun j _=>rfl⟩,fun j _=>rfl,fun H0 h _=>h,fun X n k r=>?_⟩
  obtain ⟨a,rfl,hl⟩:=r.cells o
  simp only [Nn,Nr] at hb hn
  simp only [OH,firstCells,lenOf,hl,f,if_false,No,Nn,Nr]
  rw [Ni (by omega)]
  simp [place]
 ·subst h1 h2
  have c:=NJ i
  refine ⟨G.set R .dead,R,fun h=>(by cases h),fun a h=>(by cases h;rfl),⟨by simp,fun j d=>Q9 d⟩,fun j d=>Q9 d,fun H0 h hl=>Mut.ext (R:=R) ⟨by simp,fun j d=>Q9 d⟩ h (by omega),fun X n k r=>?_⟩
  obtain ⟨a,rfl,hl⟩:=r.cells o
  have b:NF (G++X) R=.cells false (l.flatMap enc):=by rw [NZ c];exact i
  have g:AM.loadCells (G++X) ⟨R,0,none⟩ (l.length*e)=some (l.flatMap enc):=by
   simp only [NW,b,Nr,QJ he,Nd,if_true,Og]
   rw [N9 (by rw [QJ he];exact Nd _)]
  simp only [OH,firstCells,lenOf,hl,g,b,f,if_false,No,if_true]
  rw [Ni (by unfold loose;omega)]
  simp [show lim'<=R by omega,place,O3 _ _ c,Nl]
theorem Own.push1 {lim':Nat} (h:Own lim G enc e p cap l) (d:lim'<=lim) (he:∀x,(enc x).length=e) (c:e≠0) (x:α) (hb:(l.length+1)*bytes<=PS) (hn:l.length+1<2 ^ 61) :
  ∃(G':NB) (R:Nat),(p=none->R=G.length)/\(∀a,p=some a->R=a.block)/\Mut G G' R/\(∀H0:NB,QL H0 G->H0.length<=lim->QL H0 G')/\
   (∀(X:NB) (b k:Nat),NF (G++X) b=.cells false (enc x)->OH lim' none e bytes false (.slice p l.length cap) (.slice (some ⟨b,0,none⟩) 1 k) (G++X)=some (.slice (some ⟨G.length+X.length,0,none⟩) (l.length+1) (loose e),G'++(X++[.cells false ((l++[x]).flatMap enc)]))):=by
 obtain ⟨G',R,h1,h2,g,_,i,j⟩:=h.push d he c [x] (by simp) (by simpa using hb) (by simpa using hn)
 refine ⟨G',R,h1,h2,g,i,fun X b k f=>?_⟩
 exact j X (some ⟨b,0,none⟩) k (Sl.lit he (by rw [f];rfl) (by rw [f];simp [cellsOf]))
def Uj (len cap:Nat) (lo hi mx:Option Value):Option (Nat×Nat×Nat):=bounds (fun o=>match o with | .const v=>v | _=>undef) len cap (lo.map .const) (hi.map .const) (mx.map .const)
theorem Nbd {ρ:Operand->Value} {len cap:Nat} {lo hi mx:Option Operand}:bounds ρ len cap lo hi mx=Uj len cap (lo.map ρ) (hi.map ρ) (mx.map ρ):=by
 unfold Uj
 cases lo<;>cases hi<;>cases mx<;>rfl
theorem Xz {n:Int} {m:Nat} {kk:IntKind} (h0:0<=n) (h:n<=(m:Int)):bound (.int kk n) m=some n.toNat:=by
 simp only [bound];rw [Nk ⟨h0,h⟩]
section
variable {len:Nat} {k1 k2 k3:IntKind} {l h x:Int}
theorem Nwr:Uj len cap none none none=some (0,len,cap):=rfl
theorem Nep (h0:0<=h) (h1:h<=(cap:Int)):Uj len cap none (some (.int k1 h)) none=some (0,h.toNat,cap):=by
 delta Uj bounds;simp only [Ns,O5,Xz h0 h1]
theorem Z6 (l0:0<=l) (l1:l<=(len:Int)):Uj len cap (some (.int k1 l)) none none=some (l.toNat,len,cap):=by
 delta Uj bounds;simp only [Ns,O5,Xz l0 l1]
theorem Neo (l0:0<=l) (l1:l<=h) (h1:h<=(cap:Int)):Uj len cap (some (.int k1 l)) (some (.int k2 h)) none=some (l.toNat,h.toNat,cap):=by
 delta Uj bounds;simp only [Ns,O5,Xz (show 0<=h by omega) h1,Xz (m:=h.toNat) l0 (by omega)]
end
theorem Nqm {n:Nat}:(0:Int)<=(n:Int):=by omega
end
def hdC:ACode->ACode
 | .seq a _=>a
 | c=>c
def Vf:ACode->ACode
 | .seq _ b=>b
 | _=>.skip
end Go.AM


