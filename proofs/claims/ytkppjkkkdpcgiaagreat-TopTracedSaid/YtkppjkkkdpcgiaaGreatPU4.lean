/-
  Joined texts, 4 of 10. A part of the claim that the last text states.
-/
import Derived.Sort.AssemblyPlain
import Derived.Test.YtkppjkkkdpcgiaaGreatPU3
set_option linter.unusedVariables false
set_option linter.unusedSimpArgs false
set_option linter.defProp false
set_option linter.unusedSectionVars false
set_option maxRecDepth 100000
set_option maxHeartbeats 4000000
namespace Go.Proofs.YtkppjkkkdpcgiaaGreat.Fn
open Go.AM Go.AM.Sym
abbrev p (d n:Nat) (o:AOp):AIns:=⟨some d,some (n,true),o,none,[]⟩
abbrev q (d n:Nat) (o:AOp):AIns:=⟨some d,some (n,false),o,none,[]⟩
abbrev s (o:AOp):AIns:=⟨none,none,o,none,[]⟩
def pure:List FuncId:=[3,12,13,14,33,34,35,55,60,61,63,66,67,68,69,92,94,96,100,104,108,110,120,121,124,125,127,128,130,131,135,136,145,154,155,156,170,171,173]
def pf:FuncId->Bool:=fun f=>pure.contains f
def N42:ACode:=(Oz [Bt 16 .lss 15 14] (.seq (Ce 16 0) (.seq (.block 1 (Oz [mT 17 15,xT 18 6 13 15,Gt 19 6 18,i 5 (.alloc [(.int .u8 0),(.int .u8 0),(.int .u8 0),(.int .u8 0),(.int .u8 0),(.int .u8 0)]),mT 4 17,St 6 5 19] (Oz [mT 20 4,Bc 21 .add 20 1,fT 22 0 5,lT 23 22,i 24 (.conv .i64 (t 23)),Bc 25 .rem 24 5,i 26 (.bin .add (zT 1) (t 25)),fT 27 1 5,lT 28 27,i 29 (.conv .i64 (t 28)),Bc 30 .rem 29 5,i 31 (.bin .add (zT 1) (t 30)),fT 32 2 5,lT 33 32,i 34 (.conv .i64 (t 33)),Bc 35 .mul 34 5,fT 36 3 5,lT 37 36,i 38 (.conv .i64 (t 37)),i 39 (.bin .add (zT 1) (t 38)),fT 40 4 5,lT 41 40,i 42 (.conv .i64 (t 41)),Bc 43 .rem 42 60,fT 44 5 5,lT 45 44,i 46 (.bin .rem (t 45) (k (.int .u8 127))),i 47 (.bin .add (t 46) (k (.int .u8 1))),i 48 (.build [(Vi 0),(Vi 0),(Vi 0),(Vi 0),(Vi 0),(Vi 0),(Vi 0),(.int .u8 0)] [(0,(1,(t 21))),(1,(1,(t 26))),(2,(1,(t 31))),(3,(1,(t 35))),(4,(1,(t 39))),(5,(1,(t 43))),(6,(1,(zT 1000))),(7,(1,(t 47)))]),i 6 (.alloc [(Vi 0),(Vi 0),(Vi 0),(Vi 0),(Vi 0),(Vi 0),(Vi 0),(.int .u8 0)]),St 8 6 48] (Oz [fT 49 1 6,lT 50 49,fT 51 2 6,lT 52 51,Bt 53 .neq 50 52] (.cond (t 53) (.ops [fT 54 1 3,lT 55 54,Gt 56 8 6,i 57 (.buildSlice 1 [(Vi 0),(Vi 0),(Vi 0),(Vi 0),(Vi 0),(Vi 0),(Vi 0),(.int .u8 0)] [(0,(8,(t 56)))]),i 58 (.append 8 64 false (t 55) (t 57)),fT 59 1 3,St 1 59 58]) .skip))))) (.ops [Bc 60 .add 15 1,mT 15 60]))))
def c10:ACode:=(Oz [i 2 (.alloc [Vz,Vz])] (Oz [i 7 (.buildSlice 5 [(Vi 0),(Vi 0),(Vi 0),(Vi 0),(Vi 0)] [(0,(1,(zT 3))),(1,(1,(zT 1))),(2,(1,(zT 5))),(3,(1,(zT 2))),(4,(1,(zT 4)))]),i 8 (.build [Vz,Vz] [(0,(1,(t 7)))]),i 3 (.alloc [Vz,Vz]),St 2 3 8] (.seq (Oz [mT 9 0,mT 10 0,Nt 11 10,i 12 (.minmax false [(t 11),(zT 10)]),i 13 (.sliceS 6 (t 9) none (some (t 12)) none),Nt 14 13,Zm 15 0] (Bl 0 N42)) (Oz [Gt 61 2 3,St 2 2 61] .ret))))
def a10:AFunc:=⟨62,[(.cellN 2 2)],c10⟩
theorem n10:a10.ntmps=62:=id rfl
theorem r10:a10.results=[(.cellN 2 2)]:=rfl
theorem b10:a10.body=c10:=rfl
def Nyq:ACode:=(Oz [Bt 40 .lss 39 38] (.seq (Ce 40 0) (.seq (.block 1 (Oz [mT 41 39,xT 42 3 37 39,Gt 43 3 42,i 16 (.alloc [(Vi 0),(Vi 0),(Vi 0)]),mT 15 41,St 3 16 43] (Oz [Gt 45 2 4,fT 46 0 16,lT 47 46,Ct 48 33 [(t 45),(t 47)],mT 44 48,Et 49 0 44,Et 50 1 44,i 17 (.alloc [(Vi 0),(Vi 0),(Vi 0),(Vi 0),(Vi 0),(Vi 0),(Vi 0),(.int .u8 0)]),St 8 17 49,mT 18 50] (Oz [fT 51 2 16,lT 52 51,mT 19 52] (.seq (Oz [mT 53 15,Bc 54 .add 53 1,mT 55 11,Nt 56 55,Bt 57 .lss 54 56] (.cond (t 57) (Ds 1 [Kt 59 (.loadN 2 (t 4)) [0],mT 60 11,mT 61 15,Bc 62 .add 61 1,xT 63 3 60 62,fT 64 0 63,Kt 65 (.load1 (t 64)) [0],Kt 66 (.call .pure (.func 33) [(t 59),(t 65)]) [0],mT 58 66,Et 67 0 58,Et 68 1 58,Wt 20 (.alloc [(Vi 0),(Vi 0),(Vi 0),(Vi 0),(Vi 0),(Vi 0),(Vi 0),(.int .u8 0)]) 0,St 8 20 67,mT 21 68] (Oz [mT 69 18,mT 70 69,Pm 71 70 21,At 72 70 71,mT 18 72] (Ds 0 [mT 73 11,mT 74 15,Bc 75 .add 74 1,xT 76 3 73 75,fT 77 1 76,lT 78 77,fT 79 5 20,lT 80 79,Bt 81 .sub 78 80,mT 22 81] (Oz [mT 82 22,mT 83 19,Bt 84 .gtr 82 83] (.cond (t 84) (.ops [mT 85 19,mT 86 3,mT 87 15,Ct 88 16 [(t 86),(t 87)],Bt 89 .add 85 88,mT 90 22,i 91 (.minmax false [(t 89),(t 90)]),mT 19 91]) .skip))))) .skip)) (.seq (Oz [mT 92 18,Ut 93 92] (.cond (t 93) (Oz [i 8 (.mov (k Vz)),i 9 (.mov (k Vz)),i 10 (.mov (k (.bool false)))] .ret) .skip)) (.drawn 4 [mT 94 13,mT 95 19,Wt 96 (.buildSlice 1 [(Vi 0)] [(0,(1,(t 95)))]) 0,⟨(some 97),none,(.appendL 1 8 false (t 94) (t 96)),(some 1),[2,3]⟩,mT 98 14,fT 99 2 17,Kt 100 (.load1 (t 99)) [0,1,2,3],Wt 101 (.buildSlice 1 [(Vi 0)] [(0,(1,(t 100)))]) 2,Wt 102 (.append 1 8 false (t 98) (t 101)) 3,mT 13 97,mT 14 102]))))))) (.ops [Bc 103 .add 39 1,mT 39 103]))))
def c11:ACode:=(Oz [i 4 (.box (t 0)),i 8 (.mov (k Vz)),i 9 (.mov (k Vz)),i 10 (.mov (k (.bool false)))] (Oz [Gt 24 2 4,mT 25 1,mT 26 2,Ct 27 32 [(t 24),(t 25),(t 26),(zT 14400)],mT 23 27,Et 28 0 23,Et 29 1 23,mT 11 28,mT 12 29] (.seq (Oz [mT 30 12,Bc 31 .neq 30 0] (.cond (t 31) (Oz [mT 32 12,Bc 33 .eql 32 6,i 8 (.mov (k Vz)),i 9 (.mov (k Vz)),mT 10 33] .ret) .skip)) (Oz [i 34 (.buildSlice 1 [(Vi 0)] [(0,(1,(zT 14400)))]),mT 35 1,i 36 (.buildSlice 1 [(Vi 0)] [(0,(1,(t 35)))]),mT 13 34,mT 14 36] (.seq (Oz [mT 37 11,Nt 38 37,Zm 39 0] (Bl 0 Nyq)) (Oz [mT 104 13,mT 105 14,mT 8 104,mT 9 105,i 10 (.mov (k (.bool true)))] .ret))))))
def a11:AFunc:=⟨106,[(.tmp 8),(.tmp 9),(.tmp 10)],c11⟩
theorem n11:a11.ntmps=106:=id rfl
theorem r11:a11.results=[(.tmp 8),(.tmp 9),(.tmp 10)]:=rfl
theorem b11:a11.body=c11:=rfl
def Nym:ACode:=(Oz [Bt 52 .lss 51 50] (.seq (Ce 52 2) (.seq (.block 3 (Oz [xT 53 8 49 51,Gt 54 8 53,i 8 (.alloc [(Vi 0),(Vi 0),(Vi 0),(Vi 0),(Vi 0),(Vi 0),(Vi 0),(.int .u8 0)]),St 8 8 54] (.seq (Oz [Gt 55 8 8,Ct 56 34 [(t 55)],Ut 57 56,mT 58 57,Qm 59 58 6,Qf 60 58 0 8,Ql 61 58 60,q 62 58 (.lookup (.int .i64) (.bool false) false (t 59) (t 61)),Ot 63 58 62,mT 64 63,Qm 65 64 3,Qf 66 64 1 8,Ql 67 64 66,q 68 64 (.lookup (.int .i64) (.bool false) false (t 65) (t 67)),q 69 64 (.un .not (t 68)),Ot 70 64 69,mT 71 70,Qm 72 71 3,Qf 73 71 2 8,Ql 74 71 73,q 75 71 (.lookup (.int .i64) (.bool false) false (t 72) (t 74)),q 76 71 (.un .not (t 75)),Ot 77 71 76] (.cond (t 77) (Oz [Zm 2 321] .ret) .skip)) (.ops [mT 78 6,fT 79 0 8,lT 80 79,s (.mapUpdate (.int .i64) (t 78) (t 80) (k (.bool true)))])))) (.ops [Bc 81 .add 51 1,mT 51 81]))))
def N41:ACode:=(Oz [Bt 27 .lss 26 25] (.seq (Ce 27 0) (.seq (.block 1 (Oz [xT 28 1 24 26,lT 29 28,mT 5 29] (.seq (Oz [mT 30 5,Bc 31 .lss 30 1,mT 32 31,Qm 33 32 5,q 34 32 (.bin .gtr (t 33) (zT 999999)),Ot 35 32 34,mT 36 35,Qm 37 36 3,Qm 38 36 5,q 39 36 (.lookup (.int .i64) (.bool false) false (t 37) (t 38)),Ot 40 36 39] (.cond (t 40) (Oz [Zm 2 320] .ret) .skip)) (.ops [mT 41 3,mT 42 5,s (.mapUpdate (.int .i64) (t 41) (t 42) (k (.bool true)))])))) (.ops [Bc 43 .add 26 1,mT 26 43]))))
def c12:ACode:=(Oz [i 1 (.box (t 0)),Zm 2 0] (.seq (Oz [fT 9 0 1,lT 10 9,Nt 11 10,Bc 12 .gtr 11 50,mT 13 12,Qf 14 13 1 1,Ql 15 13 14,q 16 13 (.lenSlice (t 15)),q 17 13 (.bin .gtr (t 16) (zT 200)),Ot 18 13 17] (.cond (t 18) (Oz [Zm 2 5] .ret) .skip)) (Oz [fT 19 0 1,lT 20 19,Nt 21 20,i 22 (.makeMap (some (t 21))),mT 3 22] (.seq (Oz [fT 23 0 1,lT 24 23,Nt 25 24,Zm 26 0] (Bl 0 N41)) (Oz [fT 44 1 1,lT 45 44,Nt 46 45,i 47 (.makeMap (some (t 46))),mT 6 47] (.seq (Oz [fT 48 1 1,lT 49 48,Nt 50 49,Zm 51 0] (Bl 2 Nym)) (Oz [Zm 2 0] .ret)))))))
def a12:AFunc:=⟨82,[(.tmp 2)],c12⟩
theorem n12:a12.ntmps=82:=id rfl
theorem r12:a12.results=[(.tmp 2)]:=rfl
theorem b12:a12.body=c12:=rfl
def c13:ACode:=(Oz [i 2 (.mov (k (.string ⟨#[]⟩)))] (Oz [Ct 4 35 [],i 3 (.alloc [(.string ⟨#[]⟩),(.string ⟨#[]⟩),(.string ⟨#[]⟩),(.string ⟨#[]⟩),(.string ⟨#[]⟩),(.string ⟨#[]⟩),(.string ⟨#[]⟩),(.string ⟨#[]⟩)]),St 8 3 4] (.seq (Oz [mT 5 0,i 6 (.conv .i64 (t 5)),Bc 7 .geq 6 8] (.cond (t 7) (Oz [i 2 (.mov (k (.string ⟨#[]⟩)))] .ret) .skip)) (Oz [mT 8 0,i 9 (.idxAddrA 8 1 (t 3) (t 8)),lT 10 9,mT 2 10] .ret))))
def a13:AFunc:=⟨11,[(.tmp 2)],c13⟩
theorem n13:a13.ntmps=11:=id rfl
theorem r13:a13.results=[(.tmp 2)]:=rfl
theorem b13:a13.body=c13:=rfl
def c14:ACode:=(Oz [Zm 3 0] (.seq (Oz [mT 4 0,Bc 5 .sub 4 1,fT 6 2 1,lT 7 6,Nt 8 7,Bt 9 .lss 5 8] (.cond (t 9) (Oz [fT 10 2 1,lT 11 10,mT 12 0,Bc 13 .sub 12 1,xT 14 1 11 13,lT 15 14,i 16 (.conv .i64 (t 15)),mT 3 16] .ret) .skip)) (Oz [Zm 3 0] .ret)))
def a14:AFunc:=⟨17,[(.tmp 3)],c14⟩
theorem n14:a14.ntmps=17:=id rfl
theorem r14:a14.results=[(.tmp 3)]:=rfl
theorem b14:a14.body=c14:=rfl
def c16:ACode:=(Oz [Zm 4 0] (.seq (Oz [mT 5 0,Nt 6 5,Bc 7 .eql 6 0] (.cond (t 7) (Oz [Zm 4 0] .ret) .skip)) (Oz [mT 8 0,mT 9 1,mT 10 0,Nt 11 10,Bt 12 .rem 9 11,xT 13 1 8 12,lT 14 13,i 15 (.conv .i64 (t 14)),mT 4 15] .ret)))
def a16:AFunc:=⟨16,[(.tmp 4)],c16⟩
theorem n16:a16.ntmps=16:=id rfl
theorem r16:a16.results=[(.tmp 4)]:=rfl
theorem b16:a16.body=c16:=rfl
def c17:ACode:=(Oz [i 4 (.box (t 0)),i 8 (.alloc [Vz,Vz,Vz,(Vi 0),Vz]),Zm 9 0] (.seq (Oz [Gt 15 2 4,Ct 16 12 [(t 15)],mT 10 16] (Oz [mT 17 10,Bc 18 .neq 17 0] (.cond (t 18) (Oz [i 19 (.build [Vz,Vz,Vz,(Vi 0),Vz] []),mT 20 10,St 5 8 19,mT 9 20] .ret) .skip))) (Oz [mT 22 1,Ct 23 36 [(t 22)],mT 21 23,Et 24 0 21,Et 25 1 21,mT 11 24,mT 12 25] (.seq (Oz [mT 26 12,Bc 27 .neq 26 0,mT 28 27,Qm 29 28 2,q 30 28 (.bin .lss (t 29) (zT 1)),Ot 31 28 30,mT 32 31,Qm 33 32 2,q 34 32 (.bin .gtr (t 33) (zT 999999)),Ot 35 32 34,mT 36 35,Qm 37 36 3,q 38 36 (.bin .lss (t 37) (zT 0)),Ot 39 36 38,mT 40 39,Qm 41 40 3,q 42 40 (.bin .gtr (t 41) (zT 1051898399)),Ot 43 40 42] (.cond (t 43) (Oz [i 44 (.build [Vz,Vz,Vz,(Vi 0),Vz] []),St 5 8 44,Zm 9 2] .ret) .skip)) (Oz [mT 45 11,mT 46 2,Ct 47 28 [(t 45),(t 46)],i 48 (.build [Vz,Vz,Vz,(Vi 0),Vz] [(0,(1,(t 47)))]),i 13 (.alloc [Vz,Vz,Vz,(Vi 0),Vz]),St 5 13 48] (.seq (Oz [fT 49 0 13,lT 50 49,Nt 51 50,Bc 52 .eql 51 0] (.cond (t 52) (Oz [i 53 (.build [Vz,Vz,Vz,(Vi 0),Vz] []),St 5 8 53,Zm 9 6] .ret) .skip)) (.seq (Oz [Gt 55 2 4,fT 56 0 13,lT 57 56,Ct 58 37 [(t 55),(t 57)],mT 54 58,Et 59 0 54,Et 60 1 54,fT 61 1 13,St 3 61 59,mT 12 60] (Oz [mT 62 12,Bc 63 .neq 62 0] (.cond (t 63) (Oz [i 64 (.build [Vz,Vz,Vz,(Vi 0),Vz] []),mT 65 12,St 5 8 64,mT 9 65] .ret) .skip))) (Oz [mT 67 1,Ct 68 27 [(t 67)],mT 66 68,Et 69 0 66,Et 70 1 66,mT 14 69,mT 12 70] (.seq (Oz [mT 71 12,Bc 72 .neq 71 0] (.cond (t 72) (Oz [i 73 (.build [Vz,Vz,Vz,(Vi 0),Vz] []),mT 74 12,St 5 8 73,mT 9 74] .ret) .skip)) (Ds 0 [i 75 (.loadR (some 5) (t 13)),i 76 (.loadR (some 2) (t 4)),mT 77 14,mT 78 2,mT 80 3,i 79 (.call .recs (.func 28) [(t 77),(t 78)]),Ct 81 38 [(t 75),(t 76),(t 79),(t 80)],fT 82 4 13,St 1 82 81] (Oz [Gt 83 5 13,St 5 8 83,Zm 9 0] .ret)))))))))))
def a17:AFunc:=⟨84,[(.cellN 5 8),(.tmp 9)],c17⟩
theorem n17:a17.ntmps=84:=id rfl
theorem r17:a17.results=[(.cellN 5 8),(.tmp 9)]:=rfl
theorem b17:a17.body=c17:=rfl
def c27:ACode:=(Oz [i 2 (.mov (k Vz)),Zm 3 0] (.seq (Oz [mT 6 0,Ct 7 55 [(t 6)],Ut 8 7] (.cond (t 8) (Oz [i 2 (.mov (k Vz)),Zm 3 2] .ret) .skip)) (Oz [mT 10 0,Ct 11 56 [(t 10)],mT 9 11,Et 12 0 9,Et 13 1 9,mT 4 12,mT 5 13] (Oz [mT 14 5,mT 2 14,Zm 3 0] .ret))))
def a27:AFunc:=⟨15,[(.tmp 2),(.tmp 3)],c27⟩
theorem n27:a27.ntmps=15:=id rfl
theorem r27:a27.results=[(.tmp 2),(.tmp 3)]:=rfl
theorem b27:a27.body=c27:=rfl
def N40:ACode:=(Oz [Bt 14 .lss 13 12] (.seq (Ce 14 0) (.seq (.block 1 (Oz [xT 15 7 11 13,Gt 16 7 15,i 7 (.alloc [(Vi 0),(Vi 0),(Vi 0),(.int .u8 0),(Vi 0),(Vi 0),(Vi 0)]),St 7 7 16] (Oz [mT 17 1,Bc 18 .eql 17 0,mT 19 18,Qf 20 19 0 7,Qf 21 19 0 20,Ql 22 19 21,Qm 23 19 1,Qb 24 19 .eql 22 23,Ot 25 19 24] (.cond (t 25) (.ops [mT 26 5,Gt 27 7 7,i 28 (.buildSlice 1 [(Vi 0),(Vi 0),(Vi 0),(.int .u8 0),(Vi 0),(Vi 0),(Vi 0)] [(0,(7,(t 27)))]),i 29 (.append 7 56 false (t 26) (t 28)),mT 5 29]) .skip)))) (.ops [Bc 30 .add 13 1,mT 13 30]))))
def c28:ACode:=(Oz [i 4 (.mov (k Vz))] (Oz [mT 8 0,Nt 9 8,i 10 (.makeSlice 7 56 [(Vi 0),(Vi 0),(Vi 0),(.int .u8 0),(Vi 0),(Vi 0),(Vi 0)] (zT 0) (t 9)),mT 5 10] (.seq (Oz [mT 11 0,Nt 12 11,Zm 13 0] (Bl 0 N40)) (Oz [mT 31 5,mT 4 31] .ret))))
def a28:AFunc:=⟨32,[(.tmp 4)],c28⟩
theorem n28:a28.ntmps=32:=id rfl
theorem r28:a28.results=[(.tmp 4)]:=rfl
theorem b28:a28.body=c28:=rfl
def Nyg:ACode:=(Oz [Bt 80 .lss 79 78] (.seq (Ce 80 2) (.seq (.block 3 (Oz [xT 81 8 77 79,Gt 82 8 81,i 23 (.alloc [(Vi 0),(Vi 0),(Vi 0),(Vi 0),(Vi 0),(Vi 0),(Vi 0),(.int .u8 0)]),St 8 23 82] (.seq (Oz [fT 83 1 23,lT 84 83,mT 85 19,Bt 86 .neq 84 85] (.cond (t 86) (.exit 3) .skip)) (Oz [Gt 88 8 23,mT 89 20,Ct 90 68 [(t 88),(t 89)],mT 87 90,Et 91 0 87,Et 92 1 87,i 24 (.alloc [(Vi 0),(Vi 0)]),St 2 24 91,mT 25 92] (Ds 0 [mT 93 25,mT 94 93,Pf 95 94 1 24,Pl 96 94 95,Pm 97 94 16,Pm 98 94 21,Pm 99 94 10,Pf 100 94 2 23,Pl 101 94 100,p 102 94 (.lookup (.int .i64) (Vi 0) false (t 99) (t 101)),Px 103 94 50 97 98,p 104 94 (.idxAddrA 50 1 (t 103) (t 102)),Pl 105 94 104,Pb 106 94 .leq 96 105,At 107 94 106] (.cond (t 107) (Oz [mT 108 18,fT 109 0 23,lT 110 109,fT 111 0 24,lT 112 111,fT 113 1 24,lT 114 113,i 115 (.build [(Vi 0),(Vi 0),(Vi 0)] [(0,(1,(t 110))),(1,(1,(t 112))),(2,(1,(t 114)))]),i 116 (.buildSlice 1 [(Vi 0),(Vi 0),(Vi 0)] [(0,(3,(t 115)))]),i 117 (.append 3 24 false (t 108) (t 116)),mT 18 117] (Ds 0 [fT 118 2 23,lT 119 118,fT 120 1 24,lT 121 120,mT 19 119,mT 20 121] (.exit 2))) .skip)))))) (.ops [Bc 122 .add 79 1,mT 79 122]))))
def N4z:ACode:=(.seq (Oz [mT 73 21,Bc 74 .geq 73 0] (Ce 74 0)) (.seq (.block 1 (Oz [mT 77 17,Nt 78 77,Zm 79 0] (Bl 2 Nyg))) (.ops [mT 75 21,Bc 76 .sub 75 1,mT 21 76])))
def c32:ACode:=(Oz [i 4 (.box (t 0)),i 8 (.mov (k Vz)),Zm 9 0] (Oz [Gt 27 2 4,mT 28 1,mT 29 2,mT 30 3,Ct 31 58 [(t 27),(t 28),(t 29),(t 30)],mT 26 31,Et 32 0 26,Et 33 1 26,mT 10 32,mT 11 33] (.seq (Oz [mT 34 11,Bc 35 .neq 34 0] (.cond (t 35) (Oz [mT 36 11,i 8 (.mov (k Vz)),mT 9 36] .ret) .skip)) (Oz [mT 37 10,mT 38 2,i 39 (.lookup (.int .i64) (Vi 0) false (t 37) (t 38)),i 12 (.alloc [(Vi 0)]),St 1 12 39] (Oz [Gt 40 2 4,mT 41 10,mT 42 1,mT 43 3,Ct 44 59 [(t 40),(t 41),(t 42),(t 43)],mT 13 44] (Ds 1 [mT 45 13,mT 46 13,Nt 47 46,Bc 48 .sub 47 1,Kt 49 (.load1 (t 12)) [0],xT 50 50 45 48,i 51 (.idxAddrA 50 1 (t 50) (t 49)),Kt 52 (.load1 (t 51)) [0],Wt 14 (.alloc [(Vi 0)]) 0,St 1 14 52] (.seq (Oz [lT 53 14,Bc 54 .lss 53 0] (.cond (t 54) (Oz [i 8 (.mov (k Vz)),Zm 9 6] .ret) .skip)) (Oz [mT 55 13,i 56 (.makeFunc 61 [] [(t 12),(t 14)]),Ct 57 60 [(t 55),(t 56)],mT 15 57] (Ds 0 [Gt 58 2 4,mT 59 10,lT 60 12,lT 61 14,i 62 (.call .pure (.func 63) [(t 60),(t 61)]),mT 63 15,Ct 64 62 [(t 58),(t 59),(t 62),(t 63)],mT 16 64] (Oz [fT 65 1 4,lT 66 65,Ct 67 65 [(t 66)],Ct 68 64 [(t 67),(.func 66)],mT 17 68] (Oz [i 18 (.mov (k Vz))] (Oz [mT 69 1,mT 70 3,mT 19 69,mT 20 70] (.seq (Oz [mT 71 15,Bc 72 .sub 71 1,mT 21 72] (Bl 0 N4z)) (Oz [mT 123 18,mT 8 123,Zm 9 0] .ret))))))))))))))
def a32:AFunc:=⟨124,[(.tmp 8),(.tmp 9)],c32⟩
theorem n32:a32.ntmps=124:=id rfl
theorem r32:a32.results=[(.tmp 8),(.tmp 9)]:=rfl
theorem b32:a32.body=c32:=rfl
def N4y:ACode:=(Oz [Bt 12 .lss 11 10] (.seq (Ce 12 0) (.seq (.block 1 (Oz [xT 13 8 9 11,Gt 14 8 13,i 7 (.alloc [(Vi 0),(Vi 0),(Vi 0),(Vi 0),(Vi 0),(Vi 0),(Vi 0),(.int .u8 0)]),St 8 7 14] (Oz [fT 15 0 7,lT 16 15,mT 17 1,Bt 18 .eql 16 17] (.cond (t 18) (Oz [Gt 19 8 7,St 8 4 19,i 5 (.mov (k (.bool true)))] .ret) .skip)))) (.ops [Bc 20 .add 11 1,mT 11 20]))))
def c33:ACode:=(Oz [i 2 (.box (t 0)),i 4 (.alloc [(Vi 0),(Vi 0),(Vi 0),(Vi 0),(Vi 0),(Vi 0),(Vi 0),(.int .u8 0)]),i 5 (.mov (k (.bool false)))] (.seq (Oz [fT 8 1 2,lT 9 8,Nt 10 9,Zm 11 0] (Bl 0 N4y)) (Oz [i 21 (.build [(Vi 0),(Vi 0),(Vi 0),(Vi 0),(Vi 0),(Vi 0),(Vi 0),(.int .u8 0)] []),St 8 4 21,i 5 (.mov (k (.bool false)))] .ret)))
def a33:AFunc:=⟨22,[(.cellN 8 4),(.tmp 5)],c33⟩
theorem n33:a33.ntmps=22:=id rfl
theorem r33:a33.results=[(.cellN 8 4),(.tmp 5)]:=rfl
theorem b33:a33.body=c33:=rfl
def N4x:ACode:=(Oz [Bc 34 .lss 33 8] (.seq (Ce 34 0) (.seq (.block 1 (Oz [i 35 (.idxA 8 3 true (t 32) (t 33)),i 5 (.alloc [(Vi 0),(Vi 0),(Vi 0)]),St 3 5 35] (Oz [fT 36 0 5,lT 37 36,fT 38 1 5,lT 39 38,Bt 40 .lss 37 39,mT 41 40,Qf 42 41 0 5,Ql 43 41 42,Qf 44 41 2 5,Ql 45 41 44,Qb 46 41 .gtr 43 45,Ot 47 41 46] (.cond (t 47) (Oz [i 2 (.mov (k (.bool false)))] .ret) .skip)))) (.ops [Bc 48 .add 33 1,mT 33 48]))))
def c34:ACode:=(Oz [i 1 (.box (t 0)),i 2 (.mov (k (.bool false)))] (Oz [fT 6 0 1,lT 7 6,i 8 (.build [(Vi 0),(Vi 0),(Vi 0)] [(0,(1,(t 7))),(1,(1,(zT 1))),(2,(1,(zT 999999)))]),fT 9 1 1,lT 10 9,i 11 (.build [(Vi 0),(Vi 0),(Vi 0)] [(0,(1,(t 10))),(1,(1,(zT 1))),(2,(1,(zT 999999)))]),fT 12 2 1,lT 13 12,i 14 (.build [(Vi 0),(Vi 0),(Vi 0)] [(0,(1,(t 13))),(1,(1,(zT 1))),(2,(1,(zT 999999)))]),fT 15 3 1,lT 16 15,i 17 (.build [(Vi 0),(Vi 0),(Vi 0)] [(0,(1,(t 16))),(1,(1,(zT 0))),(2,(1,(zT 1439)))]),fT 18 4 1,lT 19 18,i 20 (.build [(Vi 0),(Vi 0),(Vi 0)] [(0,(1,(t 19))),(1,(1,(zT 1))),(2,(1,(zT 20160)))]),fT 21 5 1,lT 22 21,i 23 (.build [(Vi 0),(Vi 0),(Vi 0)] [(0,(1,(t 22))),(1,(1,(zT 0))),(2,(1,(zT 10080)))]),fT 24 6 1,lT 25 24,i 26 (.build [(Vi 0),(Vi 0),(Vi 0)] [(0,(1,(t 25))),(1,(1,(zT 0))),(2,(1,(zT 1000000000)))]),fT 27 7 1,lT 28 27,i 29 (.conv .i64 (t 28)),i 30 (.build [(Vi 0),(Vi 0),(Vi 0)] [(0,(1,(t 29))),(1,(1,(zT 1))),(2,(1,(zT 127)))]),i 31 (.build [(Vi 0),(Vi 0),(Vi 0),(Vi 0),(Vi 0),(Vi 0),(Vi 0),(Vi 0),(Vi 0),(Vi 0),(Vi 0),(Vi 0),(Vi 0),(Vi 0),(Vi 0),(Vi 0),(Vi 0),(Vi 0),(Vi 0),(Vi 0),(Vi 0),(Vi 0),(Vi 0),(Vi 0)] [(0,(3,(t 8))),(3,(3,(t 11))),(6,(3,(t 14))),(9,(3,(t 17))),(12,(3,(t 20))),(15,(3,(t 23))),(18,(3,(t 26))),(21,(3,(t 30)))]),i 3 (.alloc [(Vi 0),(Vi 0),(Vi 0),(Vi 0),(Vi 0),(Vi 0),(Vi 0),(Vi 0),(Vi 0),(Vi 0),(Vi 0),(Vi 0),(Vi 0),(Vi 0),(Vi 0),(Vi 0),(Vi 0),(Vi 0),(Vi 0),(Vi 0),(Vi 0),(Vi 0),(Vi 0),(Vi 0)]),St 24 3 31] (.seq (Oz [Gt 32 24 3,Zm 33 0] (Bl 0 N4x)) (Oz [fT 49 1 1,lT 50 49,fT 51 2 1,lT 52 51,Bt 53 .neq 50 52,mT 2 53] .ret))))
def a34:AFunc:=⟨54,[(.tmp 2)],c34⟩
theorem n34:a34.ntmps=54:=id rfl
theorem r34:a34.results=[(.tmp 2)]:=rfl
theorem b34:a34.body=c34:=rfl
def c35:ACode:=(Oz [i 0 (.alloc [(.string ⟨#[]⟩),(.string ⟨#[]⟩),(.string ⟨#[]⟩),(.string ⟨#[]⟩),(.string ⟨#[]⟩),(.string ⟨#[]⟩),(.string ⟨#[]⟩),(.string ⟨#[]⟩)])] (Oz [i 1 (.build [(.string ⟨#[]⟩),(.string ⟨#[]⟩),(.string ⟨#[]⟩),(.string ⟨#[]⟩),(.string ⟨#[]⟩),(.string ⟨#[]⟩),(.string ⟨#[]⟩),(.string ⟨#[]⟩)] [(0,(1,(k (.string ⟨#[]⟩)))),(1,(1,(k (.string ⟨#[115,116,114,97,121]⟩)))),(2,(1,(k (.string ⟨#[97,102,116,101,114]⟩)))),(3,(1,(k (.string ⟨#[106,117,109,112]⟩)))),(4,(1,(k (.string ⟨#[101,97,114,108,121]⟩)))),(5,(1,(k (.string ⟨#[109,105,115,115,101,100]⟩)))),(6,(1,(k (.string ⟨#[100,111,117,98,108,101,100]⟩)))),(7,(1,(k (.string ⟨#[108,111,115,116]⟩))))]),St 8 0 1] .ret))
def a35:AFunc:=⟨2,[(.cellN 8 0)],c35⟩
theorem n35:a35.ntmps=2:=id rfl
theorem r35:a35.results=[(.cellN 8 0)]:=rfl
theorem b35:a35.body=c35:=rfl
def c36:ACode:=(Oz [i 2 (.mov (k Vz)),Zm 3 0] (.seq (Oz [mT 6 0,Ct 7 55 [(t 6)],Ut 8 7] (.cond (t 8) (Oz [i 2 (.mov (k Vz)),Zm 3 2] .ret) .skip)) (Oz [mT 10 0,Ct 11 56 [(t 10)],mT 9 11,Et 12 0 9,Et 13 1 9,mT 4 12,mT 5 13] (Oz [mT 14 4,mT 2 14,Zm 3 0] .ret))))
def a36:AFunc:=⟨15,[(.tmp 2),(.tmp 3)],c36⟩
theorem n36:a36.ntmps=15:=id rfl
theorem r36:a36.results=[(.tmp 2),(.tmp 3)]:=rfl
theorem b36:a36.body=c36:=rfl
def c37:ACode:=(Oz [i 2 (.box (t 0)),i 4 (.alloc [Vz,Vz,(Vi 0)]),Zm 5 0] (.seq (Oz [Gt 8 2 2,mT 9 1,Ct 10 69 [(t 8),(t 9)],mT 6 10] (Oz [mT 11 6,Bc 12 .neq 11 0] (.cond (t 12) (Oz [i 13 (.build [Vz,Vz,(Vi 0)] []),mT 14 6,St 3 4 13,mT 5 14] .ret) .skip))) (Oz [Gt 15 2 2,Ct 16 70 [(t 15)],mT 7 16] (Oz [mT 17 7,mT 18 1,mT 19 7,mT 20 1,Ct 21 72 [(t 19),(t 20)],Ct 22 71 [(t 17),(t 18),(t 21)],St 3 4 22,Zm 5 0] .ret))))
def a37:AFunc:=⟨23,[(.cellN 3 4),(.tmp 5)],c37⟩
theorem n37:a37.ntmps=23:=id rfl
theorem r37:a37.results=[(.cellN 3 4),(.tmp 5)]:=rfl
theorem b37:a37.body=c37:=rfl
def Wh:ACode:=(Oz [Bt 25 .lss 24 23] (.seq (Ce 25 0) (.seq (.block 1 (Oz [mT 26 24,xT 27 7 22 24,Gt 28 7 27,i 14 (.alloc [(Vi 0),(Vi 0),(Vi 0),(.int .u8 0),(Vi 0),(Vi 0),(Vi 0)]),mT 13 26,St 7 14 28] (.seq (Oz [mT 29 11,mT 30 13,xT 31 1 29 30,lT 32 31,Ut 33 32] (.cond (t 33) (.ops [mT 34 10,mT 35 13,fT 36 0 14,fT 37 1 36,lT 38 37,i 39 (.build [(.int .u8 0),(Vi 0),(Vi 0),(Vi 0),(Vi 0)] [(0,(1,(k (.int .u8 1)))),(1,(1,(t 35))),(3,(1,(t 38)))]),i 40 (.buildSlice 1 [(.int .u8 0),(Vi 0),(Vi 0),(Vi 0),(Vi 0)] [(0,(5,(t 39)))]),i 41 (.call .any (t 34) [(t 40)])]) .skip)) (.seq (Ds 0 [mT 42 12,mT 43 13,xT 44 3 42 43,fT 45 0 44,lT 46 45,mT 47 12,mT 48 13,xT 49 3 47 48,fT 50 1 49,lT 51 50,Bt 52 .lss 46 51] (.cond (t 52) (.drawn 0 [mT 53 10,Gt 54 5 4,Gt 55 2 5,mT 56 12,mT 57 13,xT 58 3 56 57,Gt 59 3 58,Ct 60 75 [(t 54),(t 55),(t 59)],i 61 (.call .any (t 53) [(t 60)])]) .skip)) (.ops [mT 62 10,Gt 63 5 4,mT 64 2,mT 65 13,Ct 66 76 [(t 63),(t 64),(t 65)],i 67 (.call .any (t 62) [(t 66)])]))))) (.ops [Bc 68 .add 24 1,mT 24 68]))))
def c38:ACode:=(Oz [i 4 (.box (t 0)),i 5 (.box (t 1)),i 8 (.mov (k Vz))] (Oz [i 9 (.alloc [Vz])] (Oz [i 15 (.makeFunc 73 [] [(t 9)]),mT 10 15] (Oz [Gt 17 5 4,Ct 18 74 [(t 17)],mT 16 18,Et 19 0 16,Et 20 1 16,mT 11 19,mT 12 20] (.seq (Oz [fT 21 0 4,lT 22 21,Nt 23 22,Zm 24 0] (Bl 0 Wh)) (Oz [mT 69 10,Gt 70 5 4,mT 71 3,Ct 72 77 [(t 70),(t 71)],i 73 (.call .any (t 69) [(t 72)])] (Oz [lT 74 9,mT 8 74] .ret)))))))
def a38:AFunc:=⟨75,[(.tmp 8)],c38⟩
theorem n38:a38.ntmps=75:=id rfl
theorem r38:a38.results=[(.tmp 8)]:=rfl
theorem b38:a38.body=c38:=rfl
def Nrg:ACode:=(Oz [Bt 11 .lss 10 9] (.seq (Ce 11 0) (.seq (.block 1 (Oz [xT 12 6 8 10,Gt 13 6 12,i 4 (.alloc [(Vi 0),(Vi 0),(Vi 0),(.int .u8 0),(Vi 0),(Vi 0)]),St 6 4 13] (Oz [Gt 14 6 4,Ct 15 92 [(t 14)],Ut 16 15] (.cond (t 16) (Oz [i 2 (.mov (k (.bool false)))] .ret) .skip)))) (.ops [Bc 17 .add 10 1,mT 10 17]))))
def c55:ACode:=(Oz [i 2 (.mov (k (.bool false)))] (.seq (Oz [mT 5 0,Nt 6 5,Bc 7 .gtr 6 2000] (.cond (t 7) (Oz [i 2 (.mov (k (.bool false)))] .ret) .skip)) (.seq (Oz [mT 8 0,Nt 9 8,Zm 10 0] (Bl 0 Nrg)) (Oz [i 2 (.mov (k (.bool true)))] .ret))))
def a55:AFunc:=⟨18,[(.tmp 2)],c55⟩
theorem n55:a55.ntmps=18:=id rfl
theorem r55:a55.results=[(.tmp 2)]:=rfl
theorem b55:a55.body=c55:=rfl
def N4w:ACode:=(Oz [Bt 40 .lss 39 38] (.seq (Ce 40 2) (.seq (.block 3 (Oz [xT 41 7 37 39,Gt 42 7 41,i 10 (.alloc [(Vi 0),(Vi 0),(Vi 0),(.int .u8 0),(Vi 0),(Vi 0),(Vi 0)]),St 7 10 42] (Oz [fT 43 0 10,fT 44 0 43,lT 45 44,fT 46 0 10,fT 47 1 46,lT 48 47,fT 49 0 10,fT 50 3 49,lT 51 50,i 52 (.build [(Vi 0),(Vi 0),(.int .u8 0)] [(0,(1,(t 45))),(1,(1,(t 48))),(2,(1,(t 51)))]),i 11 (.alloc [(Vi 0),(Vi 0),(.int .u8 0)]),St 3 11 52] (.seq (Oz [mT 54 8,Gt 55 3 11,i 56 (.lookup (.ints [.i64,.i64,.u8]) (Vi 0) true (t 54) (t 55)),mT 53 56,Et 57 0 53,Et 58 1 53,mT 12 57,mT 13 58] (Oz [mT 59 13,mT 60 59,Pf 61 60 6 10,Pl 62 60 61,Pm 63 60 12,Pb 64 60 .sub 62 63,p 65 60 (.bin .leq (t 64) (zT 10)),At 66 60 65] (.cond (t 66) (Oz [mT 67 3,Gt 68 7 10,i 69 (.buildSlice 1 [(Vi 0),(Vi 0),(Vi 0),(.int .u8 0),(Vi 0),(Vi 0),(Vi 0)] [(0,(7,(t 68)))]),i 70 (.append 7 56 false (t 67) (t 69)),mT 3 70] (.exit 3)) .skip))) (Oz [mT 71 8,Gt 72 3 11,fT 73 6 10,lT 74 73,s (.mapUpdate (.ints [.i64,.i64,.u8]) (t 71) (t 72) (t 74))] (.ops [mT 75 2,Gt 76 7 10,i 77 (.buildSlice 1 [(Vi 0),(Vi 0),(Vi 0),(.int .u8 0),(Vi 0),(Vi 0),(Vi 0)] [(0,(7,(t 76)))]),i 78 (.append 7 56 false (t 75) (t 77)),mT 2 78])))))) (.ops [Bc 79 .add 39 1,mT 39 79]))))
def N4v:ACode:=(Oz [Bt 22 .lss 21 20] (.seq (Ce 22 0) (.seq (.block 1 (Oz [xT 23 6 19 21,Gt 24 6 23,i 7 (.alloc [(Vi 0),(Vi 0),(Vi 0),(.int .u8 0),(Vi 0),(Vi 0)]),St 6 7 24] (.drawn 2 [mT 25 5,Kt 26 (.loadN 6 (t 7)) [0,1],mT 27 4,Kt 28 (.loadN 6 (t 7)) [0,1],Kt 29 (.call .pure (.func 94) [(t 27),(t 28)]) [0,1],i 30 (.build [(Vi 0),(Vi 0),(Vi 0),(.int .u8 0),(Vi 0),(Vi 0),(Vi 0)] [(0,(6,(t 26))),(6,(1,(t 29)))]),Wt 31 (.buildSlice 1 [(Vi 0),(Vi 0),(Vi 0),(.int .u8 0),(Vi 0),(Vi 0),(Vi 0)] [(0,(7,(t 30)))]) 0,Wt 32 (.append 7 56 false (t 25) (t 31)) 1,mT 5 32]))) (.ops [Bc 33 .add 21 1,mT 21 33]))))
def c56:ACode:=(Oz [i 2 (.mov (k Vz)),i 3 (.mov (k Vz))] (Oz [mT 14 0,Ct 15 93 [(t 14)],mT 4 15] (Oz [mT 16 0,Nt 17 16,i 18 (.makeSlice 7 56 [(Vi 0),(Vi 0),(Vi 0),(.int .u8 0),(Vi 0),(Vi 0),(Vi 0)] (zT 0) (t 17)),mT 5 18] (.seq (Oz [mT 19 0,Nt 20 19,Zm 21 0] (Bl 0 N4v)) (Oz [mT 34 5,Ct 35 95 [(t 34),(.func 96)]] (Oz [i 36 (.makeMap none),mT 8 36] (.seq (Oz [mT 37 5,Nt 38 37,Zm 39 0] (Bl 2 N4w)) (Oz [mT 80 2,mT 81 3,mT 2 80,mT 3 81] .ret))))))))
def a56:AFunc:=⟨82,[(.tmp 2),(.tmp 3)],c56⟩
theorem n56:a56.ntmps=82:=id rfl
theorem r56:a56.results=[(.tmp 2),(.tmp 3)]:=rfl
theorem b56:a56.body=c56:=rfl
def c58:ACode:=(Oz [i 4 (.box (t 0)),i 8 (.mov (k (.map none))),Zm 9 0] (.seq (Oz [Gt 16 2 4,Ct 17 12 [(t 16)],mT 10 17] (Oz [mT 18 10,Bc 19 .neq 18 0] (.cond (t 19) (Oz [mT 20 10,i 8 (.mov (k (.map none))),mT 9 20] .ret) .skip))) (Oz [Gt 21 2 4,Ct 22 97 [(t 21)],mT 11 22] (Oz [mT 24 11,mT 25 1,i 26 (.lookup (.int .i64) (Vi 0) true (t 24) (t 25)),mT 23 26,Et 27 0 23,Et 28 1 23,mT 12 27,mT 13 28] (Oz [mT 30 11,mT 31 2,i 32 (.lookup (.int .i64) (Vi 0) true (t 30) (t 31)),mT 29 32,Et 33 0 29,Et 34 1 29,mT 14 33,mT 15 34] (.seq (Oz [mT 35 13,Ut 36 35,mT 37 36,Qm 38 37 15,q 39 37 (.un .not (t 38)),Ot 40 37 39,mT 41 40,Qm 42 41 3,q 43 41 (.bin .lss (t 42) (zT 0)),Ot 44 41 43,mT 45 44,Qm 46 45 3,q 47 45 (.bin .gtr (t 46) (zT 1051898399)),Ot 48 45 47] (.cond (t 48) (Oz [i 8 (.mov (k (.map none))),Zm 9 2] .ret) .skip)) (Oz [mT 49 11,mT 8 49,Zm 9 0] .ret)))))))
def a58:AFunc:=⟨50,[(.tmp 8),(.tmp 9)],c58⟩
theorem n58:a58.ntmps=50:=id rfl
theorem r58:a58.results=[(.tmp 8),(.tmp 9)]:=rfl
theorem b58:a58.body=c58:=rfl
def c59:ACode:=(Oz [i 4 (.box (t 0)),i 5 (.box (t 1)),i 7 (.box (t 3)),i 8 (.mov (k Vz))] (Oz [i 10 (.makeFunc 98 [] [(t 5),(t 7)]),mT 9 10] (Ds 0 [lT 11 5,mT 12 2,i 13 (.lookup (.int .i64) (Vi 0) false (t 11) (t 12)),lT 14 7,i 15 (.call .pure (.func 63) [(t 13),(t 14)]),fT 16 1 4,lT 17 16,mT 18 9,Ct 19 99 [(t 15),(t 17),(t 18)],mT 8 19] .ret)))
def a59:AFunc:=⟨20,[(.tmp 8)],c59⟩
theorem n59:a59.ntmps=20:=id rfl
theorem r59:a59.results=[(.tmp 8)]:=rfl
theorem b59:a59.body=c59:=rfl
def N4u:ACode:=(Oz [Bt 9 .lss 8 7] (.seq (Ce 9 0) (.seq (.block 1 (Oz [mT 10 8,mT 5 10] (Oz [mT 11 1,mT 12 0,mT 13 5,xT 14 50 12 13,Gt 15 50 14,i 16 (.call .any (t 11) [(t 15)])] (.cond (t 16) (Oz [mT 17 5,mT 4 17] .ret) .skip)))) (.ops [Bc 18 .add 8 1,mT 8 18]))))
def c60:ACode:=(Oz [Zm 4 0] (.seq (Oz [mT 6 0,Nt 7 6,Zm 8 0] (Bl 0 N4u)) (Oz [Zm 4 (-1)] .ret)))
def a60:AFunc:=⟨19,[(.tmp 4)],c60⟩
theorem n60:a60.ntmps=19:=id rfl
theorem r60:a60.results=[(.tmp 4)]:=rfl
theorem b60:a60.body=c60:=rfl
def c61:ACode:=(Oz [i 3 (.box (t 0)),i 4 (.mov (k (.bool false)))] (Ds 0 [lT 5 1,i 6 (.idxAddrA 50 1 (t 3) (t 5)),lT 7 6,lT 8 2,Bt 9 .eql 7 8,mT 4 9] .ret))
def a61:AFunc:=⟨10,[(.tmp 4)],c61⟩
theorem n61:a61.ntmps=10:=id rfl
theorem r61:a61.results=[(.tmp 4)]:=rfl
theorem b61:a61.body=c61:=rfl
def Nyf:ACode:=(Oz [Bt 33 .lss 32 31] (.seq (Ce 33 2) (.seq (.block 3 (Oz [xT 34 8 30 32,Gt 35 8 34,i 13 (.alloc [(Vi 0),(Vi 0),(Vi 0),(Vi 0),(Vi 0),(Vi 0),(Vi 0),(.int .u8 0)]),St 8 13 35] (Oz [mT 36 1,fT 37 2 13,lT 38 37,i 39 (.lookup (.int .i64) (Vi 0) false (t 36) (t 38)),i 40 (.idxAddrA 50 1 (t 10) (t 39)),lT 41 40,mT 14 41] (.seq (Oz [mT 42 14,Bc 43 .lss 42 0] (.cond (t 43) (.exit 3) .skip)) (Oz [Gt 45 8 13,mT 46 14,Ct 47 100 [(t 45),(t 46)],mT 44 47,Et 48 0 44,Et 49 1 44,i 15 (.alloc [(Vi 0),(Vi 0)]),St 2 15 48,mT 16 49] (Oz [mT 50 16] (.cond (t 50) (.drawn 0 [mT 51 1,fT 52 1 13,lT 53 52,i 54 (.lookup (.int .i64) (Vi 0) false (t 51) (t 53)),mT 55 1,fT 56 1 13,lT 57 56,i 58 (.lookup (.int .i64) (Vi 0) false (t 55) (t 57)),i 59 (.idxAddrA 50 1 (t 11) (t 58)),lT 60 59,fT 61 0 15,lT 62 61,fT 63 5 13,lT 64 63,Bt 65 .sub 62 64,i 66 (.minmax true [(t 60),(t 65)]),i 67 (.idxAddrA 50 1 (t 11) (t 54)),St 1 67 66]) .skip))))))) (.ops [Bc 68 .add 32 1,mT 32 68]))))
def N4t:ACode:=(Oz [Bt 21 .lss 20 19] (.seq (Ce 21 0) (.seq (.block 1 (Ds 2 [mT 22 9,mT 23 9,Nt 24 23,Bc 25 .sub 24 1,xT 26 50 22 25,Kt 27 (.loadN 50 (t 26)) [0,1],Kt 28 (.call .pure (.func 63) [(zT 0),(zT (-1))]) [0,1],Wt 10 (.alloc [(Vi 0),(Vi 0),(Vi 0),(Vi 0),(Vi 0),(Vi 0),(Vi 0),(Vi 0),(Vi 0),(Vi 0),(Vi 0),(Vi 0),(Vi 0),(Vi 0),(Vi 0),(Vi 0),(Vi 0),(Vi 0),(Vi 0),(Vi 0),(Vi 0),(Vi 0),(Vi 0),(Vi 0),(Vi 0),(Vi 0),(Vi 0),(Vi 0),(Vi 0),(Vi 0),(Vi 0),(Vi 0),(Vi 0),(Vi 0),(Vi 0),(Vi 0),(Vi 0),(Vi 0),(Vi 0),(Vi 0),(Vi 0),(Vi 0),(Vi 0),(Vi 0),(Vi 0),(Vi 0),(Vi 0),(Vi 0),(Vi 0),(Vi 0)]) 0,Wt 11 (.alloc [(Vi 0),(Vi 0),(Vi 0),(Vi 0),(Vi 0),(Vi 0),(Vi 0),(Vi 0),(Vi 0),(Vi 0),(Vi 0),(Vi 0),(Vi 0),(Vi 0),(Vi 0),(Vi 0),(Vi 0),(Vi 0),(Vi 0),(Vi 0),(Vi 0),(Vi 0),(Vi 0),(Vi 0),(Vi 0),(Vi 0),(Vi 0),(Vi 0),(Vi 0),(Vi 0),(Vi 0),(Vi 0),(Vi 0),(Vi 0),(Vi 0),(Vi 0),(Vi 0),(Vi 0),(Vi 0),(Vi 0),(Vi 0),(Vi 0),(Vi 0),(Vi 0),(Vi 0),(Vi 0),(Vi 0),(Vi 0),(Vi 0),(Vi 0)]) 1,St 50 10 27,St 50 11 28] (.seq (Oz [fT 29 1 4,lT 30 29,Nt 31 30,Zm 32 0] (Bl 2 Nyf)) (.ops [mT 69 9,Gt 70 50 11,i 71 (.buildSlice 1 [(Vi 0),(Vi 0),(Vi 0),(Vi 0),(Vi 0),(Vi 0),(Vi 0),(Vi 0),(Vi 0),(Vi 0),(Vi 0),(Vi 0),(Vi 0),(Vi 0),(Vi 0),(Vi 0),(Vi 0),(Vi 0),(Vi 0),(Vi 0),(Vi 0),(Vi 0),(Vi 0),(Vi 0),(Vi 0),(Vi 0),(Vi 0),(Vi 0),(Vi 0),(Vi 0),(Vi 0),(Vi 0),(Vi 0),(Vi 0),(Vi 0),(Vi 0),(Vi 0),(Vi 0),(Vi 0),(Vi 0),(Vi 0),(Vi 0),(Vi 0),(Vi 0),(Vi 0),(Vi 0),(Vi 0),(Vi 0),(Vi 0),(Vi 0)] [(0,(50,(t 70)))]),i 72 (.append 50 400 false (t 69) (t 71)),mT 9 72])))) (.ops [Bc 73 .add 20 1,mT 20 73]))))
def c62:ACode:=(Oz [i 4 (.box (t 0)),i 6 (.box (t 2)),i 8 (.mov (k Vz))] (Oz [Gt 17 50 6,i 18 (.buildSlice 1 [(Vi 0),(Vi 0),(Vi 0),(Vi 0),(Vi 0),(Vi 0),(Vi 0),(Vi 0),(Vi 0),(Vi 0),(Vi 0),(Vi 0),(Vi 0),(Vi 0),(Vi 0),(Vi 0),(Vi 0),(Vi 0),(Vi 0),(Vi 0),(Vi 0),(Vi 0),(Vi 0),(Vi 0),(Vi 0),(Vi 0),(Vi 0),(Vi 0),(Vi 0),(Vi 0),(Vi 0),(Vi 0),(Vi 0),(Vi 0),(Vi 0),(Vi 0),(Vi 0),(Vi 0),(Vi 0),(Vi 0),(Vi 0),(Vi 0),(Vi 0),(Vi 0),(Vi 0),(Vi 0),(Vi 0),(Vi 0),(Vi 0),(Vi 0)] [(0,(50,(t 17)))]),mT 9 18] (.seq (Oz [mT 19 3,Zm 20 0] (Bl 0 N4t)) (Oz [mT 74 9,mT 8 74] .ret))))
def a62:AFunc:=⟨75,[(.tmp 8)],c62⟩
theorem n62:a62.ntmps=75:=id rfl
theorem r62:a62.results=[(.tmp 8)]:=rfl
theorem b62:a62.body=c62:=rfl
def N4s:ACode:=(Oz [Bc 8 .lss 7 50] (.seq (Ce 8 0) (.seq (.block 1 (Oz [mT 9 7,mT 6 9] (.ops [mT 10 6,i 11 (.idxAddrA 50 1 (t 5) (t 10)),s (.store 1 (t 11) (zT (-1)))]))) (.ops [Bc 12 .add 7 1,mT 7 12]))))
def c63:ACode:=(Oz [i 4 (.alloc [(Vi 0),(Vi 0),(Vi 0),(Vi 0),(Vi 0),(Vi 0),(Vi 0),(Vi 0),(Vi 0),(Vi 0),(Vi 0),(Vi 0),(Vi 0),(Vi 0),(Vi 0),(Vi 0),(Vi 0),(Vi 0),(Vi 0),(Vi 0),(Vi 0),(Vi 0),(Vi 0),(Vi 0),(Vi 0),(Vi 0),(Vi 0),(Vi 0),(Vi 0),(Vi 0),(Vi 0),(Vi 0),(Vi 0),(Vi 0),(Vi 0),(Vi 0),(Vi 0),(Vi 0),(Vi 0),(Vi 0),(Vi 0),(Vi 0),(Vi 0),(Vi 0),(Vi 0),(Vi 0),(Vi 0),(Vi 0),(Vi 0),(Vi 0)])] (Oz [i 5 (.alloc [(Vi 0),(Vi 0),(Vi 0),(Vi 0),(Vi 0),(Vi 0),(Vi 0),(Vi 0),(Vi 0),(Vi 0),(Vi 0),(Vi 0),(Vi 0),(Vi 0),(Vi 0),(Vi 0),(Vi 0),(Vi 0),(Vi 0),(Vi 0),(Vi 0),(Vi 0),(Vi 0),(Vi 0),(Vi 0),(Vi 0),(Vi 0),(Vi 0),(Vi 0),(Vi 0),(Vi 0),(Vi 0),(Vi 0),(Vi 0),(Vi 0),(Vi 0),(Vi 0),(Vi 0),(Vi 0),(Vi 0),(Vi 0),(Vi 0),(Vi 0),(Vi 0),(Vi 0),(Vi 0),(Vi 0),(Vi 0),(Vi 0),(Vi 0)])] (.seq (Oz [Zm 7 0] (Bl 0 N4s)) (Oz [mT 13 0,mT 14 1,i 15 (.idxAddrA 50 1 (t 5) (t 13)),St 1 15 14] (Oz [Gt 16 50 5,St 50 4 16] .ret)))))
def a63:AFunc:=⟨17,[(.cellN 50 4)],c63⟩
theorem n63:a63.ntmps=17:=id rfl
theorem r63:a63.results=[(.cellN 50 4)]:=rfl
theorem b63:a63.body=c63:=rfl
def c64:ACode:=(Oz [i 4 (.mov (k Vz))] (Oz [mT 6 0,Ct 7 101 [(t 6)],mT 5 7] (Oz [mT 8 5,mT 9 1,Ct 10 102 [(t 8),(t 9)]] (Oz [mT 11 5,mT 4 11] .ret))))
def a64:AFunc:=⟨12,[(.tmp 4)],c64⟩
theorem n64:a64.ntmps=12:=id rfl
theorem r64:a64.results=[(.tmp 4)]:=rfl
theorem b64:a64.body=c64:=rfl
def c65:ACode:=(Oz [i 1 (.box (t 0)),i 2 (.mov (k .nilFunc))] (Oz [i 3 (.makeFunc 103 [] [(t 1)]),mT 2 3] .ret))
def a65:AFunc:=⟨4,[(.tmp 2)],c65⟩
theorem n65:a65.ntmps=4:=id rfl
theorem r65:a65.results=[(.tmp 2)]:=rfl
theorem b65:a65.body=c65:=rfl
def c66:ACode:=(Oz [i 2 (.box (t 0)),i 3 (.box (t 1)),Zm 4 0] (Oz [fT 5 0 2,lT 6 5,fT 7 0 3,lT 8 7,Ct 9 67 [(t 6),(t 8)],mT 4 9] .ret))
def a66:AFunc:=⟨10,[(.tmp 4)],c66⟩
theorem n66:a66.ntmps=10:=id rfl
theorem r66:a66.results=[(.tmp 4)]:=rfl
theorem b66:a66.body=c66:=rfl
def c67:ACode:=(Oz [Zm 4 0] (Oz [mT 7 0,Ct 8 104 [(t 7)],mT 5 8] (Oz [mT 9 1,Ct 10 104 [(t 9)],mT 6 10] (.seq (Oz [mT 11 5] (.cond (t 11) (.seq (Oz [mT 12 6] (.cond (t 12) (Oz [Zm 4 0] .ret) .skip)) (Oz [Zm 4 (-1)] .ret)) .skip)) (.seq (Oz [mT 13 6] (.cond (t 13) (Oz [Zm 4 1] .ret) .skip)) (.seq (Oz [mT 14 0,mT 15 1,Bt 16 .lss 14 15] (.cond (t 16) (Oz [Zm 4 (-1)] .ret) .skip)) (.seq (Oz [mT 17 0,mT 18 1,Bt 19 .gtr 17 18] (.cond (t 19) (Oz [Zm 4 1] .ret) .skip)) (Oz [Zm 4 0] .ret))))))))
def a67:AFunc:=⟨20,[(.tmp 4)],c67⟩
theorem n67:a67.ntmps=20:=id rfl
theorem r67:a67.results=[(.tmp 4)]:=rfl
theorem b67:a67.body=c67:=rfl
def Nen:ACode:=(.ops [i 7 (.alloc [(Vi 0),(Vi 0)]),St 2 7 26])
def Nem:ACode:=(.block 1 (Oz [fT 27 0 7,lT 28 27,fT 29 5 2,lT 30 29,Bt 31 .sub 28 30,lT 32 3,Bt 33 .geq 31 32] (.cond (t 33) (Oz [Gt 34 2 7,St 2 4 34,s (.store 1 (t 5) (k (.bool true)))] .retR) .skip)))
def c68:ACode:=(.seq (Oz [i 2 (.box (t 0)),i 3 (.box (t 1)),i 4 (.alloc [(Vi 0),(Vi 0)]),i 5 (.alloc [(.bool false)])] (.seq (Oz [Gt 8 8 2,Ct 9 34 [(t 8)],Ut 10 9,mT 11 10,Ql 12 11 3,q 13 11 (.bin .gtr (t 12) (zT 1051898399)),Ot 14 11 13] (.cond (t 14) (Oz [i 15 (.build [(Vi 0),(Vi 0)] []),St 2 4 15,s (.store 1 (t 5) (k (.bool false)))] .retM) .skip)) (Oz [lT 16 3,i 17 (.minmax true [(t 16),(zT 0)]),St 1 3 17] (Oz [lT 18 3,fT 19 5 2,lT 20 19,Bt 21 .add 18 20,Bc 22 .quo 21 1440,mT 6 22] (.seq (Oz [Gt 23 8 2,mT 24 6,Ct 25 105 [(t 23),(t 24),(zT 1)]] (.block 0 (.rangeF (t 25) [26] Nen Nem))) (Oz [i 35 (.build [(Vi 0),(Vi 0)] []),St 2 4 35,s (.store 1 (t 5) (k (.bool false)))] .retM)))))) .retM)
def a68:AFunc:=⟨36,[(.cellN 2 4),(.cell1 5)],c68⟩
theorem n68:a68.ntmps=36:=id rfl
theorem r68:a68.results=[(.cellN 2 4),(.cell1 5)]:=rfl
theorem b68:a68.body=c68:=rfl
def N4r:ACode:=(Oz [Bt 19 .lss 18 17] (.seq (Ce 19 0) (.seq (.block 1 (Oz [mT 20 18,xT 21 7 16 18,Gt 22 7 21,i 7 (.alloc [(Vi 0),(Vi 0),(Vi 0),(.int .u8 0),(Vi 0),(Vi 0),(Vi 0)]),mT 6 20,St 7 7 22] (.block 2 (.seq (Oz [fT 24 0 7,Gt 25 6 24,i 26 (.buildSlice 1 [(Vi 0),(Vi 0),(Vi 0),(.int .u8 0),(Vi 0),(Vi 0)] [(0,(6,(t 25)))]),Ct 27 55 [(t 26)],Ut 28 27,mT 23 28] (.cond (t 23) .skip (Oz [fT 29 6 7,lT 30 29,Bc 31 .lss 30 0,mT 23 31] (.cond (t 23) .skip (.ops [fT 32 6 7,lT 33 32,Bc 34 .gtr 33 1051898399,mT 23 34]))))) (.cond (t 23) (Oz [Zm 4 2] .ret) (Ds 0 [mT 36 6,Bc 37 .gtr 36 0,mT 38 37,Pf 39 38 0 7,Pf 40 38 0 39,Pl 41 38 40,Pm 42 38 1,p 43 38 (.idxAddrS 7 (t 42) (zT 0)),Pf 44 38 0 43,Pf 45 38 0 44,Pl 46 38 45,Pb 47 38 .neq 41 46,Pm 48 38 47,Qf 49 48 6 7,Ql 50 48 49,Qm 51 48 1,Qm 52 48 6,q 53 48 (.bin .sub (t 52) (zT 1)),Qx 54 48 7 51 53,Qf 55 48 6 54,Ql 56 48 55,Qb 57 48 .lss 50 56,p 58 38 (.pick (t 48) (k (.bool true)) (t 57)),At 59 38 58,mT 35 59] (.cond (t 35) (Oz [Zm 4 2] .ret) .skip))))))) (.ops [Bc 60 .add 18 1,mT 18 60]))))
def c69:ACode:=(Oz [i 2 (.box (t 0)),Zm 4 0] (.seq (Oz [Gt 8 2 2,Ct 9 12 [(t 8)],mT 5 9] (Oz [mT 10 5,Bc 11 .neq 10 0] (.cond (t 11) (Oz [mT 12 5,mT 4 12] .ret) .skip))) (.seq (Oz [mT 13 1,Nt 14 13,Bc 15 .gtr 14 40] (.cond (t 15) (Oz [Zm 4 5] .ret) .skip)) (.seq (Oz [mT 16 1,Nt 17 16,Zm 18 0] (Bl 0 N4r)) (Oz [Zm 4 0] .ret)))))
def a69:AFunc:=⟨61,[(.tmp 4)],c69⟩
theorem n69:a69.ntmps=61:=id rfl
theorem r69:a69.results=[(.tmp 4)]:=rfl
theorem b69:a69.body=c69:=rfl
def c70:ACode:=(Oz [i 1 (.box (t 0)),i 2 (.mov (k (.pointer none)))] (Oz [Gt 3 2 1,i 4 (.makeMap none),i 5 (.build [Vz,Vz,(.map none)] [(0,(2,(t 3))),(2,(1,(t 4)))]),i 6 (.box (t 5)),mT 2 6] .ret))
def a70:AFunc:=⟨7,[(.tmp 2)],c70⟩
theorem n70:a70.ntmps=7:=id rfl
theorem r70:a70.results=[(.tmp 2)]:=rfl
theorem b70:a70.body=c70:=rfl
def N4q:ACode:=(.seq (Oz [mT 19 8,mT 20 2,Nt 21 20,Bt 22 .lss 19 21] (Ce 22 0)) (.seq (.block 1 (Ds 1 [mT 25 2,mT 26 8,Bc 27 .sub 26 1,xT 28 1 25 27,Kt 29 (.load1 (t 28)) [0],mT 30 2,mT 31 8,xT 32 1 30 31,Kt 33 (.load1 (t 32)) [0],i 34 (.build [(Vi 0),(Vi 0),(Vi 0)] [(0,(1,(t 29))),(1,(1,(t 33)))]),Wt 9 (.alloc [(Vi 0),(Vi 0),(Vi 0)]) 0,St 3 9 34] (Ds 0 [mT 35 0,mT 36 1,fT 37 0 9,lT 38 37,xT 39 7 36 38,Gt 40 7 39,mT 41 1,fT 42 1 9,lT 43 42,xT 44 7 41 43,Gt 45 7 44,Ct 46 107 [(t 35),(t 40),(t 45)],fT 47 2 9,St 1 47 46] (Oz [fT 48 2 7,lT 49 48,fT 50 2 9,lT 51 50,Bt 52 .add 49 51,fT 53 2 7,St 1 53 52] (.ops [fT 54 1 7,lT 55 54,Gt 56 3 9,i 57 (.buildSlice 1 [(Vi 0),(Vi 0),(Vi 0)] [(0,(3,(t 56)))]),i 58 (.append 3 24 false (t 55) (t 57)),fT 59 1 7,St 1 59 58]))))) (.ops [mT 23 8,Bc 24 .add 23 1,mT 8 24])))
def c71:ACode:=(Oz [i 6 (.alloc [Vz,Vz,(Vi 0)])] (Oz [mT 10 2,Ct 11 106 [(t 10)],mT 12 1,Nt 13 12,mT 14 2,Nt 15 14,Bt 16 .sub 13 15,i 17 (.bin .mul (zT 30) (t 16)),i 18 (.build [Vz,Vz,(Vi 0)] [(0,(1,(t 11))),(2,(1,(t 17)))]),i 7 (.alloc [Vz,Vz,(Vi 0)]),St 3 7 18] (.seq (Oz [Zm 8 1] (Bl 0 N4q)) (Oz [Gt 60 3 7,St 3 6 60] .ret))))
def a71:AFunc:=⟨61,[(.cellN 3 6)],c71⟩
theorem n71:a71.ntmps=61:=id rfl
theorem r71:a71.results=[(.cellN 3 6)]:=rfl
theorem b71:a71.body=c71:=rfl
def N4p:ACode:=(.seq (Oz [mT 119 16,Bc 120 .geq 119 0] (Ce 120 6)) (.seq (.block 7 (.ops [mT 126 15,mT 127 16,i 128 (.buildSlice 1 [(Vi 0)] [(0,(1,(t 127)))]),i 129 (.append 1 8 false (t 126) (t 128)),mT 15 129])) (.ops [mT 121 5,mT 122 16,xT 123 3 121 122,fT 124 2 123,lT 125 124,mT 16 125])))
def Nye:ACode:=(.seq (Oz [mT 87 13,Bc 88 .geq 87 0] (Ce 88 4)) (.seq (.block 5 (Ds 1 [mT 91 13,i 92 (.bin .mul (zT 30) (t 91)),mT 93 5,mT 94 13,xT 95 3 93 94,fT 96 0 95,Kt 97 (.load1 (t 96)) [0],Bt 98 .add 92 97,mT 99 5,mT 100 13,xT 101 3 99 100,fT 102 1 101,Kt 103 (.load1 (t 102)) [0],mT 104 13,i 105 (.build [(Vi 0),(Vi 0),(Vi 0)] [(0,(1,(t 98))),(1,(1,(t 103))),(2,(1,(t 104)))]),Wt 14 (.alloc [(Vi 0),(Vi 0),(Vi 0)]) 0,St 3 14 105] (Oz [fT 106 2 12,lT 107 106,Bc 108 .lss 107 0,mT 109 108,Qm 110 109 6,q 111 109 (.loadN 3 (t 12)),q 112 109 (.loadN 3 (t 14)),q 113 109 (.call .any (t 110) [(t 111),(t 112)]),q 114 109 (.un .not (t 113)),Ot 115 109 114] (.cond (t 115) (.ops [Gt 116 3 14,St 3 12 116]) .skip)))) (.ops [mT 89 13,Bc 90 .sub 89 1,mT 13 90])))
def Nyd:ACode:=(.seq (Oz [mT 37 9,mT 38 7,Bt 39 .gtr 37 38] (Ce 39 2)) (.seq (.block 3 (Oz [mT 42 9,mT 43 7,Bt 44 .sub 42 43,Bc 45 .sub 44 1,i 46 (.bin .mul (zT 30) (t 45)),mT 10 46] (Ds 1 [mT 47 0,mT 48 1,mT 49 7,xT 50 7 48 49,Kt 51 (.loadN 7 (t 50)) [0],mT 52 1,mT 53 9,xT 54 7 52 53,Kt 55 (.loadN 7 (t 54)) [0],mT 57 10,mT 59 5,mT 60 9,xT 61 3 59 60,fT 62 0 61,Kt 63 (.load1 (t 62)) [0],mT 65 5,mT 66 9,xT 67 3 65 66,fT 68 1 67,Kt 69 (.load1 (t 68)) [0],Bc 70 .add 69 1,mT 71 9,Wt 11 (.alloc [(Vi 0),(Vi 0),(Vi 0)]) 0,Kt 56 (.call .maps (.func 107) [(t 47),(t 51),(t 55)]) [0],Bt 58 .add 56 57,Bt 64 .add 58 63,i 72 (.build [(Vi 0),(Vi 0),(Vi 0)] [(0,(1,(t 64))),(1,(1,(t 70))),(2,(1,(t 71)))]),St 3 11 72] (Oz [mT 73 6,Gt 74 3 8,Gt 75 3 11,i 76 (.call .any (t 73) [(t 74),(t 75)]),Ut 77 76] (.cond (t 77) (.ops [Gt 78 3 11,St 3 8 78]) .skip))))) (.ops [mT 40 9,Bc 41 .sub 40 1,mT 9 41])))
def N4o:ACode:=(.seq (Oz [mT 23 7,Bc 24 .geq 23 0] (Ce 24 0)) (.seq (.block 1 (Oz [mT 27 1,Nt 28 27,Bc 29 .sub 28 1,mT 30 7,Bt 31 .sub 29 30,i 32 (.bin .mul (zT 30) (t 31)),i 33 (.build [(Vi 0),(Vi 0),(Vi 0)] [(0,(1,(t 32))),(1,(1,(zT 1))),(2,(1,(zT (-1))))]),i 8 (.alloc [(Vi 0),(Vi 0),(Vi 0)]),St 3 8 33] (.seq (Oz [mT 34 1,Nt 35 34,Bc 36 .sub 35 1,mT 9 36] (Bl 2 Nyd)) (.ops [mT 79 5,mT 80 7,Gt 81 3 8,xT 82 3 79 80,St 3 82 81])))) (.ops [mT 25 7,Bc 26 .sub 25 1,mT 7 26])))
def c72:ACode:=(Oz [i 4 (.mov (k Vz))] (Oz [mT 17 1,Nt 18 17,i 19 (.makeSlice 3 24 [(Vi 0),(Vi 0),(Vi 0)] (t 18) (t 18)),mT 5 19] (Oz [i 6 (.mov (.func 108))] (.seq (Oz [mT 20 1,Nt 21 20,Bc 22 .sub 21 1,mT 7 22] (Bl 0 N4o)) (Oz [i 83 (.build [(Vi 0),(Vi 0),(Vi 0)] [(2,(1,(zT (-1))))]),i 12 (.alloc [(Vi 0),(Vi 0),(Vi 0)]),St 3 12 83] (.seq (Oz [mT 84 1,Nt 85 84,Bc 86 .sub 85 1,mT 13 86] (Bl 4 Nye)) (Oz [i 15 (.mov (k Vz))] (.seq (Oz [fT 117 2 12,lT 118 117,mT 16 118] (Bl 6 N4p)) (Oz [mT 130 15,mT 4 130] .ret)))))))))
def a72:AFunc:=⟨131,[(.tmp 4)],c72⟩
theorem n72:a72.ntmps=131:=id rfl
theorem r72:a72.results=[(.tmp 4)]:=rfl
theorem b72:a72.body=c72:=rfl
def c73:ACode:=(.ops [lT 3 1,mT 4 0,i 5 (.append 5 40 false (t 3) (t 4)),St 1 1 5])
def a73:AFunc:=⟨6,[],c73⟩
theorem n73:a73.ntmps=6:=id rfl
theorem r73:a73.results=[]:=rfl
theorem b73:a73.body=c73:=rfl
def N4n:ACode:=(Oz [Bt 35 .lss 34 33] (.seq (Ce 35 2) (.seq (.block 3 (Oz [xT 36 3 32 34,Gt 37 3 36,i 9 (.alloc [(Vi 0),(Vi 0),(Vi 0)]),St 3 9 37] (.ops [mT 38 5,fT 39 1 9,lT 40 39,Gt 41 3 9,xT 42 3 38 40,St 3 42 41]))) (.ops [Bc 43 .add 34 1,mT 34 43]))))
def N4m:ACode:=(Oz [Bt 23 .lss 22 21] (.seq (Ce 23 0) (.seq (.block 1 (Oz [xT 24 1 20 22,lT 25 24,mT 7 25] (.ops [mT 26 4,mT 27 7,xT 28 1 26 27,s (.store 1 (t 28) (k (.bool true)))]))) (.ops [Bc 29 .add 22 1,mT 22 29]))))
def c74:ACode:=(Oz [i 1 (.box (t 0)),i 2 (.mov (k Vz)),i 3 (.mov (k Vz))] (Oz [fT 10 0 1,lT 11 10,Nt 12 11,i 13 (.makeSlice 1 1 [(.bool false)] (t 12) (t 12)),mT 4 13] (Oz [fT 14 0 1,lT 15 14,Nt 16 15,i 17 (.makeSlice 3 24 [(Vi 0),(Vi 0),(Vi 0)] (t 16) (t 16)),mT 5 17] (.seq (Oz [fT 18 1 1,fT 19 0 18,lT 20 19,Nt 21 20,Zm 22 0] (Bl 0 N4m)) (.seq (Oz [fT 30 1 1,fT 31 1 30,lT 32 31,Nt 33 32,Zm 34 0] (Bl 2 N4n)) (Oz [mT 44 4,mT 45 5,mT 2 44,mT 3 45] .ret))))))
def a74:AFunc:=⟨46,[(.tmp 2),(.tmp 3)],c74⟩
theorem n74:a74.ntmps=46:=id rfl
theorem r74:a74.results=[(.tmp 2),(.tmp 3)]:=rfl
theorem b74:a74.body=c74:=rfl
def c75:ACode:=(Oz [i 3 (.box (t 0)),i 4 (.box (t 1)),i 5 (.box (t 2)),i 6 (.mov (k Vz))] (Ds 2 [fT 10 0 3,Kt 11 (.load1 (t 10)) [0,1],fT 12 0 5,Kt 13 (.load1 (t 12)) [0,1],xT 14 7 11 13,fT 15 0 14,Kt 16 (.loadN 6 (t 15)) [0,1],fT 17 0 3,Kt 18 (.load1 (t 17)) [0,1],fT 19 1 5,Kt 20 (.load1 (t 19)) [0,1],xT 21 7 18 20,fT 22 0 21,Kt 23 (.loadN 6 (t 22)) [0,1],Wt 7 (.alloc [(Vi 0),(Vi 0),(Vi 0),(.int .u8 0),(Vi 0),(Vi 0)]) 0,Wt 8 (.alloc [(Vi 0),(Vi 0),(Vi 0),(.int .u8 0),(Vi 0),(Vi 0)]) 1,⟨none,none,(.storeD 6 (t 7) (t 16)),(some 0),[]⟩,⟨none,none,(.storeD 6 (t 8) (t 23)),(some 1),[]⟩] (Oz [fT 24 1 5,lT 25 24,fT 26 0 5,lT 27 26,fT 28 1 8,lT 29 28,i 30 (.build [(.int .u8 0),(Vi 0),(Vi 0),(Vi 0),(Vi 0)] [(1,(1,(t 25))),(2,(1,(t 27))),(3,(1,(t 29)))]),i 9 (.alloc [(.int .u8 0),(Vi 0),(Vi 0),(Vi 0),(Vi 0)]),St 5 9 30] (.seq (.block 0 (Oz [fT 32 3 7,lT 33 32,i 34 (.bin .eql (t 33) (k (.int .u8 4))),mT 31 34] (.cond (t 31) (.ops [fT 35 0 9,s (.store 1 (t 35) (k (.int .u8 2)))]) (Oz [fT 37 2 5,lT 38 37,Bc 39 .eql 38 80,mT 36 39] (.cond (t 36) (.ops [fT 40 0 9,s (.store 1 (t 40) (k (.int .u8 3)))]) (Oz [fT 42 2 5,lT 43 42,Bc 44 .gtr 43 0,mT 41 44] (.cond (t 41) (.drawn 0 [fT 45 2 5,i 46 (.loadO none (t 45) (t 9)),fT 47 0 9,s (.storeO 1 (t 47) (k (.int .u8 4)) (t 9)),fT 48 4 9,St 1 48 46]) (Oz [fT 50 1 7,lT 51 50,fT 52 1 8,lT 53 52,Bt 54 .neq 51 53,mT 49 54] (.cond (t 49) (Oz [Gt 55 5 3,Gt 56 2 4,Gt 57 3 5,Ct 58 109 [(t 55),(t 56),(t 57)],mT 6 58] .ret) (Oz [i 6 (.mov (k Vz))] .ret)))))))))) (Oz [Gt 59 5 9,i 60 (.buildSlice 1 [(.int .u8 0),(Vi 0),(Vi 0),(Vi 0),(Vi 0)] [(0,(5,(t 59)))]),mT 6 60] .ret)))))
def a75:AFunc:=⟨61,[(.tmp 6)],c75⟩
theorem n75:a75.ntmps=61:=id rfl
theorem r75:a75.results=[(.tmp 6)]:=rfl
theorem b75:a75.body=c75:=rfl
def N4l:ACode:=(Oz [Bt 40 .lss 39 38] (.seq (Ce 40 2) (.seq (.block 3 (Oz [xT 41 7 37 39,Gt 42 7 41,i 14 (.alloc [(Vi 0),(Vi 0),(Vi 0),(.int .u8 0),(Vi 0),(Vi 0),(Vi 0)]),St 7 14 42] (Oz [mT 43 8,Gt 44 7 14,i 45 (.call .any (t 43) [(t 44)]),mT 46 45,Pf 47 46 6 14,Pl 48 46 47,Pf 49 46 6 7,Pl 50 46 49,Pb 51 46 .geq 48 50,At 52 46 51,mT 53 52,Pf 54 53 6 14,Pl 55 53 54,Pm 56 53 9,Pb 57 53 .lss 55 56,At 58 53 57] (.cond (t 58) (.ops [mT 59 12,mT 60 2,fT 61 0 7,fT 62 1 61,lT 63 62,fT 64 6 14,lT 65 64,fT 66 6 7,lT 67 66,Bt 68 .sub 65 67,i 69 (.build [(.int .u8 0),(Vi 0),(Vi 0),(Vi 0),(Vi 0)] [(0,(1,(k (.int .u8 6)))),(1,(1,(t 60))),(3,(1,(t 63))),(4,(1,(t 68)))]),i 70 (.buildSlice 1 [(.int .u8 0),(Vi 0),(Vi 0),(Vi 0),(Vi 0)] [(0,(5,(t 69)))]),i 71 (.append 5 40 false (t 59) (t 70)),mT 12 71]) .skip)))) (.ops [Bc 72 .add 39 1,mT 39 72]))))
def N4k:ACode:=(Oz [Bt 28 .lss 27 26] (.seq (Ce 28 0) (.seq (.block 1 (Oz [xT 29 7 25 27,Gt 30 7 29,i 11 (.alloc [(Vi 0),(Vi 0),(Vi 0),(.int .u8 0),(Vi 0),(Vi 0),(Vi 0)]),St 7 11 30] (Oz [mT 31 8,Gt 32 7 11,i 33 (.call .any (t 31) [(t 32)])] (.cond (t 33) (Oz [fT 34 6 11,lT 35 34,mT 9 35] (.exit 0)) .skip)))) (.ops [Bc 36 .add 27 1,mT 27 36]))))
def c76:ACode:=(Oz [i 3 (.box (t 0)),i 6 (.mov (k Vz))] (Oz [fT 15 0 3,lT 16 15,mT 17 2,xT 18 7 16 17,Gt 19 7 18,i 7 (.alloc [(Vi 0),(Vi 0),(Vi 0),(.int .u8 0),(Vi 0),(Vi 0),(Vi 0)]),St 7 7 19] (Oz [i 20 (.makeFunc 110 [] [(t 7)]),mT 8 20] (Oz [Zm 9 1051898400] (.seq (Oz [fT 21 0 3,lT 22 21,mT 23 2,Bc 24 .add 23 1,i 25 (.sliceS 7 (t 22) (some (t 24)) none none),Nt 26 25,Zm 27 0] (Bl 0 N4k)) (Oz [i 12 (.mov (k Vz))] (.seq (Oz [mT 37 1,Nt 38 37,Zm 39 0] (Bl 2 N4l)) (Oz [mT 73 12,mT 6 73] .ret))))))))
def a76:AFunc:=⟨74,[(.tmp 6)],c76⟩
theorem n76:a76.ntmps=74:=id rfl
theorem r76:a76.results=[(.tmp 6)]:=rfl
theorem b76:a76.body=c76:=rfl
def c77:ACode:=(Oz [i 2 (.box (t 0)),i 4 (.mov (k Vz))] (.seq (Oz [fT 7 1 2,fT 8 0 7,lT 9 8,Nt 10 9,Bc 11 .eql 10 0] (.cond (t 11) (Oz [i 4 (.mov (k Vz))] .ret) .skip)) (Oz [fT 12 1 2,fT 13 0 12,lT 14 13,fT 15 1 2,fT 16 0 15,lT 17 16,Nt 18 17,Bc 19 .sub 18 1,xT 20 1 14 19,lT 21 20,mT 5 21] (Oz [fT 22 0 2,lT 23 22,mT 24 5,xT 25 7 23 24,Gt 26 7 25,i 6 (.alloc [(Vi 0),(Vi 0),(Vi 0),(.int .u8 0),(Vi 0),(Vi 0),(Vi 0)]),St 7 6 26] (.seq (Oz [fT 27 0 6,fT 28 3 27,lT 29 28,i 30 (.bin .eql (t 29) (k (.int .u8 4))),mT 31 30,Qm 32 31 1,Qf 33 31 6 6,Ql 34 31 33,Qb 35 31 .sub 32 34,q 36 31 (.bin .leq (t 35) (zT 20160)),Ot 37 31 36] (.cond (t 37) (Oz [i 4 (.mov (k Vz))] .ret) .skip)) (Oz [mT 38 5,fT 39 0 6,fT 40 1 39,lT 41 40,mT 42 1,fT 43 6 6,lT 44 43,Bt 45 .sub 42 44,i 46 (.build [(.int .u8 0),(Vi 0),(Vi 0),(Vi 0),(Vi 0)] [(0,(1,(k (.int .u8 7)))),(1,(1,(t 38))),(3,(1,(t 41))),(4,(1,(t 45)))]),i 47 (.buildSlice 1 [(.int .u8 0),(Vi 0),(Vi 0),(Vi 0),(Vi 0)] [(0,(5,(t 46)))]),mT 4 47] .ret))))))
def a77:AFunc:=⟨48,[(.tmp 4)],c77⟩
theorem n77:a77.ntmps=48:=id rfl
theorem r77:a77.results=[(.tmp 4)]:=rfl
theorem b77:a77.body=c77:=rfl
def c92:ACode:=(Oz [i 1 (.box (t 0)),i 2 (.mov (k (.bool false)))] (Oz [fT 3 0 1,lT 4 3,Ct 5 120 [(t 4)],mT 6 5,Pf 7 6 1 1,Pl 8 6 7,p 9 6 (.call .any (.func 120) [(t 8)]),At 10 6 9,mT 11 10,Pf 12 11 2 1,Pl 13 11 12,p 14 11 (.call .any (.func 120) [(t 13)]),At 15 11 14,mT 16 15,Pf 17 16 3 1,Pl 18 16 17,p 19 16 (.bin .geq (t 18) (k (.int .u8 1))),At 20 16 19,mT 21 20,Pf 22 21 3 1,Pl 23 21 22,p 24 21 (.bin .leq (t 23) (k (.int .u8 4))),At 25 21 24,mT 26 25,Pf 27 26 4 1,Pl 28 26 27,p 29 26 (.call .any (.func 121) [(t 28)]),At 30 26 29,mT 31 30,Pf 32 31 5 1,Pl 33 31 32,p 34 31 (.call .any (.func 121) [(t 33)]),At 35 31 34,mT 2 35] .ret))
def a92:AFunc:=⟨36,[(.tmp 2)],c92⟩
theorem n92:a92.ntmps=36:=id rfl
theorem r92:a92.results=[(.tmp 2)]:=rfl
theorem b92:a92.body=c92:=rfl
def N4j:ACode:=(Oz [Bt 15 .lss 14 13] (.seq (Ce 15 0) (.seq (.block 1 (Oz [xT 16 6 12 14,Gt 17 6 16,i 5 (.alloc [(Vi 0),(Vi 0),(Vi 0),(.int .u8 0),(Vi 0),(Vi 0)]),St 6 5 17] (Oz [fT 18 2 5,lT 19 18,fT 20 5 5,lT 21 20,Bc 22 .quo 21 1440,i 23 (.build [(Vi 0),(Vi 0)] [(0,(1,(t 19))),(1,(1,(t 22)))]),i 6 (.alloc [(Vi 0),(Vi 0)]),St 2 6 23] (Oz [fT 24 2 5,lT 25 24,fT 26 4 5,lT 27 26,fT 28 5 5,lT 29 28,fT 30 4 5,lT 31 30,Bt 32 .sub 29 31,i 33 (.build [(Vi 0),(Vi 0),(Vi 0)] [(0,(1,(t 25))),(1,(1,(t 27))),(2,(1,(t 32)))]),i 7 (.alloc [(Vi 0),(Vi 0),(Vi 0)]),St 3 7 33] (Oz [mT 35 3,Gt 36 2 6,i 37 (.lookup (.ints [.i64,.i64]) (.agg #[(Vi 0),(Vi 0),(Vi 0)]) true (t 35) (t 36)),mT 34 37,Et 38 0 34,Et 39 1 34,i 8 (.alloc [(Vi 0),(Vi 0),(Vi 0)]),St 3 8 38,mT 9 39] (Oz [mT 40 9,Ut 41 40,mT 42 41,Qf 43 42 2 7,Ql 44 42 43,Qf 45 42 2 8,Ql 46 42 45,Qb 47 42 .lss 44 46,Ot 48 42 47,mT 49 48,Qf 50 49 2 7,Ql 51 49 50,Qf 52 49 2 8,Ql 53 49 52,Qb 54 49 .eql 51 53,Qm 55 49 54,Pf 56 55 1 7,Pl 57 55 56,Pf 58 55 1 8,Pl 59 55 58,Pb 60 55 .lss 57 59,q 61 49 (.pick (t 55) (t 60) (k (.bool false))),Ot 62 49 61] (.cond (t 62) (.ops [mT 63 3,Gt 64 2 6,Gt 65 3 7,s (.mapUpdate (.ints [.i64,.i64]) (t 63) (t 64) (t 65))]) .skip))))))) (.ops [Bc 66 .add 14 1,mT 14 66]))))
def c93:ACode:=(Oz [i 2 (.mov (k Vz))] (Oz [i 11 (.makeMap none),mT 3 11] (.seq (Oz [mT 12 0,Nt 13 12,Zm 14 0] (Bl 0 N4j)) (Oz [mT 67 3,Ct 68 123 [(t 67)],Ct 69 122 [(t 68),(.func 124)],mT 10 69] (Oz [mT 70 10,Ct 71 126 [(t 70),(.func 127)],mT 2 71] .ret)))))
def a93:AFunc:=⟨72,[(.tmp 2)],c93⟩
theorem n93:a93.ntmps=72:=id rfl
theorem r93:a93.results=[(.tmp 2)]:=rfl
theorem b93:a93.body=c93:=rfl
def c94:ACode:=(Oz [i 3 (.box (t 1)),Zm 4 0] (Ds 0 [fT 5 4 3,lT 6 5,mT 7 0,fT 8 2 3,lT 9 8,fT 10 4 3,lT 11 10,i 12 (.call .pure (.func 128) [(t 7),(t 9),(t 11)]),Bt 13 .add 6 12,i 14 (.minmax true [(t 13),(zT 0)]),fT 15 5 3,lT 16 15,i 17 (.minmax false [(t 14),(t 16)]),mT 4 17] .ret))
def a94:AFunc:=⟨18,[(.tmp 4)],c94⟩
theorem n94:a94.ntmps=18:=id rfl
theorem r94:a94.results=[(.tmp 4)]:=rfl
theorem b94:a94.body=c94:=rfl
def c96:ACode:=(Oz [i 2 (.box (t 0)),i 3 (.box (t 1)),Zm 4 0] (Ds 1 [fT 5 6 2,Kt 6 (.load1 (t 5)) [0],fT 7 6 3,Kt 8 (.load1 (t 7)) [0],Kt 9 (.call .pure (.func 67) [(t 6),(t 8)]) [0],fT 10 0 2,fT 11 3 10,Kt 12 (.load1 (t 11)) [0],fT 13 0 3,fT 14 3 13,Kt 15 (.load1 (t 14)) [0],Kt 16 (.call .pure (.func 131) [(t 12),(t 15)]) [0],fT 17 0 2,fT 18 1 17,Kt 19 (.load1 (t 18)) [0],fT 20 0 3,fT 21 1 20,Kt 22 (.load1 (t 21)) [0],Kt 23 (.call .pure (.func 67) [(t 19),(t 22)]) [0],fT 24 0 2,fT 25 2 24,Kt 26 (.load1 (t 25)) [0],fT 27 0 3,fT 28 2 27,Kt 29 (.load1 (t 28)) [0],Kt 30 (.call .pure (.func 67) [(t 26),(t 29)]) [0],fT 31 0 2,fT 32 0 31,Kt 33 (.load1 (t 32)) [0],fT 34 0 3,fT 35 0 34,Kt 36 (.load1 (t 35)) [0],Kt 37 (.call .pure (.func 67) [(t 33),(t 36)]) [0],fT 38 0 2,fT 39 4 38,Kt 40 (.load1 (t 39)) [0],fT 41 0 3,fT 42 4 41,Kt 43 (.load1 (t 42)) [0],Kt 44 (.call .pure (.func 67) [(t 40),(t 43)]) [0],fT 45 0 2,fT 46 5 45,Kt 47 (.load1 (t 46)) [0],fT 48 0 3,fT 49 5 48,Kt 50 (.load1 (t 49)) [0],Kt 51 (.call .pure (.func 67) [(t 47),(t 50)]) [0],Wt 52 (.buildSlice 7 [(Vi 0),(Vi 0),(Vi 0),(Vi 0),(Vi 0),(Vi 0),(Vi 0)] [(0,(1,(t 9))),(1,(1,(t 16))),(2,(1,(t 23))),(3,(1,(t 30))),(4,(1,(t 37))),(5,(1,(t 44))),(6,(1,(t 51)))]) 0,i 53 (.call .pure (.func 125) [(t 52)]),mT 4 53] .ret))
def a96:AFunc:=⟨54,[(.tmp 4)],c96⟩
theorem n96:a96.ntmps=54:=id rfl
theorem r96:a96.results=[(.tmp 4)]:=rfl
theorem b96:a96.body=c96:=rfl
def N4i:ACode:=(Oz [Bt 14 .lss 13 12] (.seq (Ce 14 0) (.seq (.block 1 (Oz [mT 15 13,xT 16 1 11 13,lT 17 16,mT 4 15,mT 5 17] (.ops [mT 18 3,mT 19 5,mT 20 4,s (.mapUpdate (.int .i64) (t 18) (t 19) (t 20))]))) (.ops [Bc 21 .add 13 1,mT 13 21]))))
def c97:ACode:=(Oz [i 1 (.box (t 0)),i 2 (.mov (k (.map none)))] (Oz [fT 6 0 1,lT 7 6,Nt 8 7,i 9 (.makeMap (some (t 8))),mT 3 9] (.seq (Oz [fT 10 0 1,lT 11 10,Nt 12 11,Zm 13 0] (Bl 0 N4i)) (Oz [mT 22 3,mT 2 22] .ret))))
def a97:AFunc:=⟨23,[(.tmp 2)],c97⟩
theorem n97:a97.ntmps=23:=id rfl
theorem r97:a97.results=[(.tmp 2)]:=rfl
theorem b97:a97.body=c97:=rfl
def c98:ACode:=(Oz [i 5 (.box (t 0)),i 6 (.box (t 1))] (Ds 0 [lT 12 3,fT 13 1 5,lT 14 13,i 15 (.lookup (.int .i64) (Vi 0) false (t 12) (t 14)),i 16 (.idxAddrA 50 1 (t 6) (t 15)),lT 17 16,lT 18 3,fT 19 2 5,lT 20 19,i 21 (.lookup (.int .i64) (Vi 0) false (t 18) (t 20)),mT 8 17,mT 9 21] (.seq (Oz [mT 22 8,Bc 23 .lss 22 0] (.cond (t 23) .ret .skip)) (Oz [Gt 25 8 5,mT 26 8,Ct 27 68 [(t 25),(t 26)],mT 24 27,Et 28 0 24,Et 29 1 24,i 10 (.alloc [(Vi 0),(Vi 0)]),St 2 10 28,mT 11 29] (Ds 0 [mT 30 11,mT 31 30,Pf 32 31 1 10,Pl 33 31 32,Pl 34 31 4,p 35 31 (.bin .add (t 34) (zT 86400)),Pb 36 31 .leq 33 35,At 37 31 36,mT 38 37,Pm 39 38 2,Pm 40 38 9,p 41 38 (.nilCheck (t 39)),p 42 38 (.idxAddrA 50 1 (t 41) (t 40)),Pl 43 38 42,p 44 38 (.bin .lss (t 43) (zT 0)),Pm 45 38 44,Qf 46 45 1 10,Ql 47 45 46,Qm 48 45 2,Qm 49 45 9,q 50 45 (.nilCheck (t 48)),q 51 45 (.idxAddrA 50 1 (t 50) (t 49)),Ql 52 45 51,Qb 53 45 .lss 47 52,p 54 38 (.pick (t 45) (k (.bool true)) (t 53)),At 55 38 54] (.cond (t 55) (.drawn 0 [mT 56 2,mT 57 9,fT 58 1 10,lT 59 58,i 60 (.nilCheck (t 56)),i 61 (.idxAddrA 50 1 (t 60) (t 57)),St 1 61 59]) .skip))))))
def a98:AFunc:=⟨62,[],c98⟩
theorem n98:a98.ntmps=62:=id rfl
theorem r98:a98.results=[]:=rfl
theorem b98:a98.body=c98:=rfl
def Nyc:ACode:=(Oz [Bt 24 .lss 23 22] (.seq (Ce 24 2) (.seq (.block 3 (Oz [xT 25 8 21 23,Gt 26 8 25,i 11 (.alloc [(Vi 0),(Vi 0),(Vi 0),(Vi 0),(Vi 0),(Vi 0),(Vi 0),(.int .u8 0)]),St 8 11 26] (.ops [mT 27 2,Gt 28 8 11,Gt 29 50 8,i 30 (.call .any (t 27) [(t 28),(t 29),(t 9)])]))) (.ops [Bc 31 .add 23 1,mT 23 31]))))
def N4h:ACode:=(.block 1 (Oz [mT 14 7,mT 15 7,Nt 16 15,Bc 17 .sub 16 1,xT 18 50 14 17,Gt 19 50 18,i 8 (.alloc [(Vi 0),(Vi 0),(Vi 0),(Vi 0),(Vi 0),(Vi 0),(Vi 0),(Vi 0),(Vi 0),(Vi 0),(Vi 0),(Vi 0),(Vi 0),(Vi 0),(Vi 0),(Vi 0),(Vi 0),(Vi 0),(Vi 0),(Vi 0),(Vi 0),(Vi 0),(Vi 0),(Vi 0),(Vi 0),(Vi 0),(Vi 0),(Vi 0),(Vi 0),(Vi 0),(Vi 0),(Vi 0),(Vi 0),(Vi 0),(Vi 0),(Vi 0),(Vi 0),(Vi 0),(Vi 0),(Vi 0),(Vi 0),(Vi 0),(Vi 0),(Vi 0),(Vi 0),(Vi 0),(Vi 0),(Vi 0),(Vi 0),(Vi 0)]),St 50 8 19] (Oz [Gt 20 50 8,i 9 (.alloc [(Vi 0),(Vi 0),(Vi 0),(Vi 0),(Vi 0),(Vi 0),(Vi 0),(Vi 0),(Vi 0),(Vi 0),(Vi 0),(Vi 0),(Vi 0),(Vi 0),(Vi 0),(Vi 0),(Vi 0),(Vi 0),(Vi 0),(Vi 0),(Vi 0),(Vi 0),(Vi 0),(Vi 0),(Vi 0),(Vi 0),(Vi 0),(Vi 0),(Vi 0),(Vi 0),(Vi 0),(Vi 0),(Vi 0),(Vi 0),(Vi 0),(Vi 0),(Vi 0),(Vi 0),(Vi 0),(Vi 0),(Vi 0),(Vi 0),(Vi 0),(Vi 0),(Vi 0),(Vi 0),(Vi 0),(Vi 0),(Vi 0),(Vi 0)]),St 50 9 20] (.seq (Oz [mT 21 1,Nt 22 21,Zm 23 0] (Bl 2 Nyc)) (.seq (Oz [Gt 32 50 9,Gt 33 50 8,i 34 (.eqv false (.agg [(.int .i64),(.int .i64),(.int .i64),(.int .i64),(.int .i64),(.int .i64),(.int .i64),(.int .i64),(.int .i64),(.int .i64),(.int .i64),(.int .i64),(.int .i64),(.int .i64),(.int .i64),(.int .i64),(.int .i64),(.int .i64),(.int .i64),(.int .i64),(.int .i64),(.int .i64),(.int .i64),(.int .i64),(.int .i64),(.int .i64),(.int .i64),(.int .i64),(.int .i64),(.int .i64),(.int .i64),(.int .i64),(.int .i64),(.int .i64),(.int .i64),(.int .i64),(.int .i64),(.int .i64),(.int .i64),(.int .i64),(.int .i64),(.int .i64),(.int .i64),(.int .i64),(.int .i64),(.int .i64),(.int .i64),(.int .i64),(.int .i64),(.int .i64)]) (t 32) (t 33))] (.cond (t 34) (Oz [mT 35 7,mT 6 35] .ret) .skip)) (.ops [mT 36 7,Gt 37 50 9,i 38 (.buildSlice 1 [(Vi 0),(Vi 0),(Vi 0),(Vi 0),(Vi 0),(Vi 0),(Vi 0),(Vi 0),(Vi 0),(Vi 0),(Vi 0),(Vi 0),(Vi 0),(Vi 0),(Vi 0),(Vi 0),(Vi 0),(Vi 0),(Vi 0),(Vi 0),(Vi 0),(Vi 0),(Vi 0),(Vi 0),(Vi 0),(Vi 0),(Vi 0),(Vi 0),(Vi 0),(Vi 0),(Vi 0),(Vi 0),(Vi 0),(Vi 0),(Vi 0),(Vi 0),(Vi 0),(Vi 0),(Vi 0),(Vi 0),(Vi 0),(Vi 0),(Vi 0),(Vi 0),(Vi 0),(Vi 0),(Vi 0),(Vi 0),(Vi 0),(Vi 0)] [(0,(50,(t 37)))]),i 39 (.append 50 400 false (t 36) (t 38)),mT 7 39]))))))
def c99:ACode:=(Oz [i 3 (.box (t 0)),i 6 (.mov (k Vz))] (Oz [Gt 12 50 3,i 13 (.buildSlice 1 [(Vi 0),(Vi 0),(Vi 0),(Vi 0),(Vi 0),(Vi 0),(Vi 0),(Vi 0),(Vi 0),(Vi 0),(Vi 0),(Vi 0),(Vi 0),(Vi 0),(Vi 0),(Vi 0),(Vi 0),(Vi 0),(Vi 0),(Vi 0),(Vi 0),(Vi 0),(Vi 0),(Vi 0),(Vi 0),(Vi 0),(Vi 0),(Vi 0),(Vi 0),(Vi 0),(Vi 0),(Vi 0),(Vi 0),(Vi 0),(Vi 0),(Vi 0),(Vi 0),(Vi 0),(Vi 0),(Vi 0),(Vi 0),(Vi 0),(Vi 0),(Vi 0),(Vi 0),(Vi 0),(Vi 0),(Vi 0),(Vi 0),(Vi 0)] [(0,(50,(t 12)))]),mT 7 13] (Bl 0 N4h)))
def a99:AFunc:=⟨40,[(.tmp 6)],c99⟩
theorem n99:a99.ntmps=40:=id rfl
theorem r99:a99.results=[(.tmp 6)]:=rfl
theorem b99:a99.body=c99:=rfl
def MJ:ACode:=(.ops [i 7 (.alloc [(Vi 0),(Vi 0)]),St 2 7 31])
def MI:ACode:=(.block 1 (Oz [fT 32 1 7,lT 33 32,lT 34 3,Bt 35 .leq 33 34] (.cond (t 35) (Oz [Gt 36 2 7,St 2 4 36,s (.store 1 (t 5) (k (.bool true)))] .retR) .skip)))
def N62:ACode:=(.seq (Oz [i 2 (.box (t 0)),i 3 (.box (t 1)),i 4 (.alloc [(Vi 0),(Vi 0)]),i 5 (.alloc [(.bool false)])] (.seq (Oz [Gt 8 8 2,Ct 9 34 [(t 8)],Ut 10 9,mT 11 10,Ql 12 11 3,Qf 13 11 3 2,Ql 14 11 13,Qf 15 11 4 2,Ql 16 11 15,Qb 17 11 .add 14 16,Qb 18 11 .lss 12 17,Ot 19 11 18] (.cond (t 19) (Oz [i 20 (.build [(Vi 0),(Vi 0)] []),St 2 4 20,s (.store 1 (t 5) (k (.bool false)))] .retM) .skip)) (Oz [lT 21 3,i 22 (.minmax false [(t 21),(zT 1051898399)]),St 1 3 22] (Oz [lT 23 3,fT 24 4 2,lT 25 24,Bt 26 .sub 23 25,Bc 27 .quo 26 1440,mT 6 27] (.seq (Oz [Gt 28 8 2,mT 29 6,Ct 30 105 [(t 28),(t 29),(zT (-1))]] (.block 0 (.rangeF (t 30) [31] MJ MI))) (Oz [i 37 (.build [(Vi 0),(Vi 0)] []),St 2 4 37,s (.store 1 (t 5) (k (.bool false)))] .retM)))))) .retM)
def Njj:AFunc:=⟨38,[(.cellN 2 4),(.cell1 5)],N62⟩
theorem n100:Njj.ntmps=38:=id rfl
theorem N5j:Njj.results=[(.cellN 2 4),(.cell1 5)]:=rfl
theorem Oa0:Njj.body=N62:=rfl
def N61:ACode:=(Oz [i 2 (.mov (k Vz))] (Oz [mT 3 0,Ct 4 132 [(k Vz),(t 3)],mT 2 4] .ret))
def N1a:AFunc:=⟨5,[(.tmp 2)],N61⟩
theorem n101:N1a.ntmps=5:=id rfl
theorem N86:N1a.results=[(.tmp 2)]:=rfl
theorem Oaz:N1a.body=N61:=rfl
def Nys:ACode:=(Oz [Bt 8 .lss 7 6] (.seq (Ce 8 0) (.seq (.block 1 (Oz [xT 9 8 5 7,Gt 10 8 9,i 4 (.alloc [(Vi 0),(Vi 0),(Vi 0),(Vi 0),(Vi 0),(Vi 0),(Vi 0),(.int .u8 0)]),St 8 4 10] (Oz [mT 11 0,Gt 12 8 4,i 13 (.call .any (t 11) [(t 12)]),Ut 14 13] (.cond (t 14) .ret .skip)))) (.ops [Bc 15 .add 7 1,mT 7 15]))))
def N60:ACode:=(Oz [lT 5 1,Nt 6 5,Zm 7 0] (Bl 0 Nys))
def N09:AFunc:=⟨16,[],N60⟩
theorem n103:N09.ntmps=16:=id rfl
theorem N85:N09.results=[]:=rfl
theorem Oay:N09.body=N60:=rfl
def N6z:ACode:=(Oz [i 2 (.mov (k (.bool false)))] (Oz [mT 3 0,mT 4 0,Bt 5 .neq 3 4,mT 2 5] .ret))
def N08:AFunc:=⟨6,[(.tmp 2)],N6z⟩
theorem n104:N08.ntmps=6:=id rfl
theorem N84:N08.results=[(.tmp 2)]:=rfl
theorem Oax:N08.body=N6z:=rfl
def c105:ACode:=(Oz [i 3 (.box (t 0)),i 4 (.box (t 1)),i 5 (.box (t 2)),i 6 (.mov (k .nilFunc))] (Oz [i 7 (.makeFunc 134 [] [(t 4),(t 5),(t 3)]),mT 6 7] .ret))
def a105:AFunc:=⟨8,[(.tmp 6)],c105⟩
theorem n105:a105.ntmps=8:=id rfl
theorem N83:a105.results=[(.tmp 6)]:=rfl
theorem Oaw:a105.body=c105:=rfl
def N3v:ACode:=(Oz [i 2 (.mov (k Vz))] (.seq (Oz [mT 3 0,i 4 (.eqv false .slice (t 3) (k Vz))] (.cond (t 4) (Oz [i 2 (.mov (k Vz))] .ret) .skip)) (Oz [i 5 (.buildSlice 0 [] []),mT 6 0,i 7 (.append 1 8 false (t 5) (t 6)),mT 2 7] .ret)))
def N07:AFunc:=⟨8,[(.tmp 2)],N3v⟩
theorem n106:N07.ntmps=8:=id rfl
theorem N5i:N07.results=[(.tmp 2)]:=rfl
theorem N8g:N07.body=N3v:=rfl
def c107:ACode:=(Oz [i 4 (.box (t 1)),i 5 (.box (t 2)),Zm 6 0] (.seq (.block 0 (Oz [fT 10 0 4,fT 11 3 10,lT 12 11,i 13 (.bin .eql (t 12) (k (.int .u8 4))),mT 9 13] (.cond (t 9) (Oz [Zm 6 80] .ret) (Oz [fT 15 0 4,fT 16 1 15,lT 17 16,fT 18 0 5,fT 19 1 18,lT 20 19,Bt 21 .eql 17 20,mT 14 21] (.cond (t 14) (Oz [Zm 6 0] .ret) .skip))))) (Ds 0 [mT 22 0,i 23 (.nilCheck (t 22)),fT 24 0 23,fT 25 0 24,lT 26 25,fT 27 0 5,fT 28 1 27,lT 29 28,i 30 (.call .pure (.func 136) [(t 26),(t 29)]),mT 7 30] (.seq (Oz [mT 31 7,Bc 32 .lss 31 0] (.cond (t 32) (Oz [Zm 6 80] .ret) .skip)) (Oz [mT 33 0,fT 34 0 4,fT 35 1 34,lT 36 35,fT 37 6 4,lT 38 37,Ct 39 137 [(t 33),(t 36),(t 38)],mT 8 39] (.seq (Oz [mT 40 7,mT 41 8,Nt 42 41,Bt 43 .geq 40 42,mT 44 43,Qm 45 44 8,Qm 46 44 7,Qx 47 44 1 45 46,Ql 48 44 47,q 49 44 (.bin .lss (t 48) (zT 0)),Ot 50 44 49] (.cond (t 50) (Oz [Zm 6 80] .ret) .skip)) (Ds 0 [mT 51 8,mT 52 7,xT 53 1 51 52,lT 54 53,fT 55 6 5,lT 56 55,Bt 57 .sub 54 56,i 58 (.minmax true [(t 57),(zT 0)]),i 59 (.minmax false [(t 58),(zT 60)]),mT 6 59] .ret)))))))
def a107:AFunc:=⟨60,[(.tmp 6)],c107⟩
theorem n107:a107.ntmps=60:=id rfl
theorem Nso:a107.results=[(.tmp 6)]:=rfl
theorem Oav:a107.body=c107:=rfl
def N6y:ACode:=(Oz [i 2 (.box (t 0)),i 3 (.box (t 1)),i 4 (.mov (k (.bool false)))] (Oz [fT 5 0 2,lT 6 5,fT 7 0 3,lT 8 7,Bt 9 .lss 6 8,mT 10 9,Qf 11 10 0 2,Ql 12 10 11,Qf 13 10 0 3,Ql 14 10 13,Qb 15 10 .eql 12 14,Qm 16 10 15,Pf 17 16 1 2,Pl 18 16 17,Pf 19 16 1 3,Pl 20 16 19,Pb 21 16 .gtr 18 20,q 22 10 (.pick (t 16) (t 21) (k (.bool false))),Ot 23 10 22,mT 4 23] .ret))
def N06:AFunc:=⟨24,[(.tmp 4)],N6y⟩
theorem n108:N06.ntmps=24:=id rfl
theorem N5h:N06.results=[(.tmp 4)]:=rfl
theorem Oau:N06.body=N6y:=rfl
def Nyr:ACode:=(Oz [Bt 55 .lss 54 53] (.seq (Ce 55 0) (.seq (.block 1 (Oz [xT 56 3 52 54,Gt 57 3 56,i 13 (.alloc [(Vi 0),(Vi 0),(Vi 0)]),St 3 13 57] (Oz [Gt 59 2 4,fT 60 0 13,lT 61 60,Ct 62 33 [(t 59),(t 61)],mT 58 62,Et 63 0 58,Et 64 1 58,i 14 (.alloc [(Vi 0),(Vi 0),(Vi 0),(Vi 0),(Vi 0),(Vi 0),(Vi 0),(.int .u8 0)]),St 8 14 63,mT 15 64] (.ops [mT 65 11,fT 66 1 5,lT 67 66,fT 68 0 5,lT 69 68,fT 70 2 14,lT 71 70,i 72 (.build [(.int .u8 0),(Vi 0),(Vi 0),(Vi 0),(Vi 0)] [(0,(1,(k (.int .u8 5)))),(1,(1,(t 67))),(2,(1,(t 69))),(3,(1,(t 71)))]),i 73 (.buildSlice 1 [(.int .u8 0),(Vi 0),(Vi 0),(Vi 0),(Vi 0)] [(0,(5,(t 72)))]),i 74 (.append 5 40 false (t 65) (t 73)),mT 11 74])))) (.ops [Bc 75 .add 54 1,mT 54 75]))))
def c109:ACode:=(Oz [i 3 (.box (t 0)),i 4 (.box (t 1)),i 5 (.box (t 2)),i 6 (.mov (k Vz))] (Ds 2 [fT 16 0 3,Kt 17 (.load1 (t 16)) [0,1],fT 18 0 5,Kt 19 (.load1 (t 18)) [0,1],xT 20 7 17 19,Kt 21 (.loadN 7 (t 20)) [0,1],fT 22 0 3,Kt 23 (.load1 (t 22)) [0,1],fT 24 1 5,Kt 25 (.load1 (t 24)) [0,1],xT 26 7 23 25,Kt 27 (.loadN 7 (t 26)) [0,1],Wt 7 (.alloc [(Vi 0),(Vi 0),(Vi 0),(.int .u8 0),(Vi 0),(Vi 0),(Vi 0)]) 0,Wt 8 (.alloc [(Vi 0),(Vi 0),(Vi 0),(.int .u8 0),(Vi 0),(Vi 0),(Vi 0)]) 1,⟨none,none,(.storeD 7 (t 7) (t 21)),(some 0),[]⟩,⟨none,none,(.storeD 7 (t 8) (t 27)),(some 1),[]⟩] (Oz [Gt 29 2 4,fT 30 0 7,fT 31 1 30,lT 32 31,fT 33 0 8,fT 34 1 33,lT 35 34,fT 36 6 7,lT 37 36,Ct 38 32 [(t 29),(t 32),(t 35),(t 37)],mT 28 38,Et 39 0 28,Et 40 1 28,mT 9 39,mT 10 40] (.seq (Oz [mT 41 10,Bc 42 .neq 41 0,mT 43 42,Qm 44 43 9,q 45 43 (.lenSlice (t 44)),q 46 43 (.bin .eql (t 45) (zT 0)),Ot 47 43 46] (.cond (t 47) (Oz [i 6 (.mov (k Vz))] .ret) .skip)) (Oz [i 11 (.mov (k Vz))] (.seq (Oz [mT 48 9,mT 49 9,Nt 50 49,Bc 51 .sub 50 1,i 52 (.sliceS 3 (t 48) none (some (t 51)) none),Nt 53 52,Zm 54 0] (Bl 0 Nyr)) (Oz [mT 76 11,mT 6 76] .ret)))))))
def a109:AFunc:=⟨77,[(.tmp 6)],c109⟩
theorem n109:a109.ntmps=77:=id rfl
theorem N19:a109.results=[(.tmp 6)]:=rfl
theorem Oat:a109.body=c109:=rfl
def N6x:ACode:=(Oz [i 2 (.box (t 0)),i 3 (.mov (k (.bool false)))] (Oz [fT 4 0 2,fT 5 1 4,lT 6 5,fT 7 0 1,fT 8 1 7,lT 9 8,Bt 10 .eql 6 9,mT 11 10,Pf 12 11 0 2,Pf 13 11 3 12,Pl 14 11 13,Pf 15 11 0 1,Pf 16 11 3 15,Pl 17 11 16,Pb 18 11 .eql 14 17,At 19 11 18,mT 3 19] .ret))
def N05:AFunc:=⟨20,[(.tmp 3)],N6x⟩
theorem n110:N05.ntmps=20:=id rfl
theorem N5g:N05.results=[(.tmp 3)]:=rfl
theorem Oas:N05.body=N6x:=rfl
def N6w:ACode:=(Oz [i 2 (.mov (k (.bool false)))] (Oz [mT 3 0,Bc 4 .geq 3 1,mT 5 4,Pm 6 5 0,p 7 5 (.bin .leq (t 6) (zT 999999)),At 8 5 7,mT 2 8] .ret))
def N04:AFunc:=⟨9,[(.tmp 2)],N6w⟩
theorem n120:N04.ntmps=9:=id rfl
theorem N7p:N04.results=[(.tmp 2)]:=rfl
theorem Oar:N04.body=N6w:=rfl
def N6v:ACode:=(Oz [i 2 (.mov (k (.bool false)))] (Oz [mT 3 0,Bc 4 .geq 3 0,mT 5 4,Pm 6 5 0,p 7 5 (.bin .leq (t 6) (zT 1051898399)),At 8 5 7,mT 2 8] .ret))
def N03:AFunc:=⟨9,[(.tmp 2)],N6v⟩
theorem n121:N03.ntmps=9:=id rfl
theorem N7o:N03.results=[(.tmp 2)]:=rfl
theorem Oaq:N03.body=N6v:=rfl
def N6u:ACode:=(Oz [i 4 (.mov (k Vz))] (Oz [mT 6 0,Ct 7 141 [(t 6)],mT 5 7] (Oz [mT 8 5,mT 9 1,Ct 10 142 [(t 8),(t 9)]] (Oz [mT 11 5,mT 4 11] .ret))))
def N02:AFunc:=⟨12,[(.tmp 4)],N6u⟩
theorem n122:N02.ntmps=12:=id rfl
theorem N7n:N02.results=[(.tmp 4)]:=rfl
theorem Oap:N02.body=N6u:=rfl
def N6t:ACode:=(Oz [i 1 (.box (t 0)),i 2 (.mov (k .nilFunc))] (Oz [i 3 (.makeFunc 143 [] [(t 1)]),mT 2 3] .ret))
def N01:AFunc:=⟨4,[(.tmp 2)],N6t⟩
theorem n123:N01.ntmps=4:=id rfl
theorem N82:N01.results=[(.tmp 2)]:=rfl
theorem Oao:N01.body=N6t:=rfl
def c124:ACode:=(Oz [i 2 (.box (t 0)),i 3 (.box (t 1)),Zm 4 0] (Ds 1 [fT 5 0 2,Kt 6 (.load1 (t 5)) [0],fT 7 0 3,Kt 8 (.load1 (t 7)) [0],Kt 9 (.call .pure (.func 67) [(t 6),(t 8)]) [0],fT 10 1 2,Kt 11 (.load1 (t 10)) [0],fT 12 1 3,Kt 13 (.load1 (t 12)) [0],Kt 14 (.call .pure (.func 67) [(t 11),(t 13)]) [0],fT 15 2 2,Kt 16 (.load1 (t 15)) [0],fT 17 2 3,Kt 18 (.load1 (t 17)) [0],Kt 19 (.call .pure (.func 67) [(t 16),(t 18)]) [0],Wt 20 (.buildSlice 3 [(Vi 0),(Vi 0),(Vi 0)] [(0,(1,(t 9))),(1,(1,(t 14))),(2,(1,(t 19)))]) 0,i 21 (.call .pure (.func 125) [(t 20)]),mT 4 21] .ret))
def a124:AFunc:=⟨22,[(.tmp 4)],c124⟩
theorem n124:a124.ntmps=22:=id rfl
theorem N81:a124.results=[(.tmp 4)]:=rfl
theorem Oan:a124.body=c124:=rfl
def Nyp:ACode:=(Oz [Bt 9 .lss 8 7] (.seq (Ce 9 0) (.seq (.block 1 (Oz [xT 10 1 6 8,lT 11 10,mT 5 11] (Oz [mT 12 5,mT 13 3,Bt 14 .neq 12 13] (.cond (t 14) (Oz [mT 15 5,mT 2 15] .ret) .skip)))) (.ops [Bc 16 .add 8 1,mT 8 16]))))
def N6s:ACode:=(Oz [Zm 2 0] (Oz [Zm 3 0] (.seq (Oz [mT 6 0,Nt 7 6,Zm 8 0] (Bl 0 Nyp)) (Oz [mT 17 3,mT 2 17] .ret))))
def N00:AFunc:=⟨18,[(.tmp 2)],N6s⟩
theorem n125:N00.ntmps=18:=id rfl
theorem N7m:N00.results=[(.tmp 2)]:=rfl
theorem Oam:N00.body=N6s:=rfl
def Nyo:ACode:=(.seq (Oz [mT 32 7,mT 33 6,Nt 34 33,Bt 35 .lss 32 34] (Ce 35 2)) (.seq (.block 3 (Ds 0 [mT 38 1,mT 39 6,mT 40 7,xT 41 3 39 40,Gt 42 3 41,mT 43 6,mT 44 7,Bc 45 .sub 44 1,xT 46 3 43 45,Gt 47 3 46,i 48 (.call .pure (t 38) [(t 42),(t 47)]),Ut 49 48] (.cond (t 49) (Oz [mT 50 0,mT 51 5,mT 52 6,mT 53 7,xT 54 3 52 53,Gt 55 3 54,xT 56 3 50 51,St 3 56 55] (.ops [mT 57 5,Bc 58 .add 57 1,mT 5 58])) .skip))) (.ops [mT 36 7,Bc 37 .add 36 1,mT 7 37])))
def Nyn:ACode:=(.seq (Oz [mT 12 5,mT 13 0,Nt 14 13,Bt 15 .lss 12 14] (Ce 15 0)) (.seq (.block 1 (Ds 0 [mT 18 1,mT 19 0,mT 20 5,xT 21 3 19 20,Gt 22 3 21,mT 23 0,mT 24 5,Bc 25 .sub 24 1,xT 26 3 23 25,Gt 27 3 26,i 28 (.call .pure (t 18) [(t 22),(t 27)])] (.cond (t 28) (Oz [mT 29 0,mT 30 5,i 31 (.sliceS 3 (t 29) (some (t 30)) none none),mT 6 31] (.seq (Oz [Zm 7 1] (Bl 2 Nyo)) (Oz [mT 59 0,mT 60 5,i 61 (.sliceS 3 (t 59) (some (t 60)) none none),s (.clear [(Vi 0),(Vi 0),(Vi 0)] (t 61))] (Oz [mT 62 0,mT 63 5,i 64 (.sliceS 3 (t 62) none (some (t 63)) none),mT 4 64] .ret)))) .skip))) (.ops [mT 16 5,Bc 17 .add 16 1,mT 5 17])))
def N3u:ACode:=(Oz [i 4 (.mov (k Vz))] (.seq (Oz [mT 8 0,Nt 9 8,Bc 10 .lss 9 2] (.cond (t 10) (Oz [mT 11 0,mT 4 11] .ret) .skip)) (.seq (Oz [Zm 5 1] (Bl 0 Nyn)) (Oz [mT 65 0,mT 4 65] .ret))))
def N0z:AFunc:=⟨66,[(.tmp 4)],N3u⟩
theorem n126:N0z.ntmps=66:=id rfl
theorem N18:N0z.results=[(.tmp 4)]:=rfl
theorem N8f:N0z.body=N3u:=rfl
def c127:ACode:=(Oz [i 2 (.box (t 0)),i 3 (.box (t 1)),i 4 (.mov (k (.bool false)))] (Oz [fT 5 0 2,lT 6 5,fT 7 0 3,lT 8 7,Bt 9 .eql 6 8,mT 10 9,Pf 11 10 1 2,Pl 12 10 11,Pf 13 10 1 3,Pl 14 10 13,Pb 15 10 .eql 12 14,At 16 10 15,mT 4 16] .ret))
def a127:AFunc:=⟨17,[(.tmp 4)],c127⟩
theorem n127:a127.ntmps=17:=id rfl
theorem N7l:a127.results=[(.tmp 4)]:=rfl
theorem Oal:a127.body=c127:=rfl
def UQ:ACode:=(.ops [i 8 (.alloc [(Vi 0),(Vi 0),(Vi 0)]),St 3 8 12])
def UN:ACode:=(.block 1 (.block 2 (Oz [lT 33 5,fT 34 1 8,lT 35 34,Bt 36 .gtr 33 35,mT 32 36] (.cond (t 32) (.ops [Gt 37 3 8,St 3 7 37]) (Oz [Gt 39 3 7,i 40 (.build [(Vi 0),(Vi 0),(Vi 0)] []),i 41 (.eqv false (.agg [(.int .i64),(.int .i64),(.int .i64)]) (t 39) (t 40)),mT 38 41] (.cond (t 38) (Oz [fT 42 2 8,lT 43 42,St 1 6 43] .retR) (Ds 0 [fT 13 2 7,lT 14 13,fT 15 2 8,lT 16 15,fT 17 2 7,lT 18 17,Bt 19 .sub 16 18,lT 20 5,fT 21 1 7,lT 22 21,Bt 23 .sub 20 22,Bt 24 .mul 19 23,fT 25 1 8,lT 26 25,fT 27 1 7,lT 28 27,Bt 29 .sub 26 28,i 30 (.call .pure (.func 145) [(t 24),(t 29)]),Bt 31 .add 14 30,St 1 6 31] .retR)))))))
def N6r:ACode:=(.seq (Oz [i 5 (.box (t 2)),i 6 (.alloc [(Vi 0)])] (Oz [i 7 (.alloc [(Vi 0),(Vi 0),(Vi 0)])] (.seq (Oz [mT 9 0,mT 10 1,Ct 11 144 [(t 9),(t 10)]] (.block 0 (.rangeF (t 11) [12] UQ UN))) (Oz [fT 44 2 7,lT 45 44,St 1 6 45] .retM)))) .retM)
def Nm4:AFunc:=⟨46,[(.cell1 6)],N6r⟩
theorem n128:Nm4.ntmps=46:=id rfl
theorem N7k:Nm4.results=[(.cell1 6)]:=rfl
theorem Oak:Nm4.body=N6r:=rfl
def c131:ACode:=(Oz [Zm 4 0] (Oz [mT 7 0,Ct 8 156 [(t 7)],mT 5 8] (Oz [mT 9 1,Ct 10 156 [(t 9)],mT 6 10] (.seq (Oz [mT 11 5] (.cond (t 11) (.seq (Oz [mT 12 6] (.cond (t 12) (Oz [Zm 4 0] .ret) .skip)) (Oz [Zm 4 (-1)] .ret)) .skip)) (.seq (Oz [mT 13 6] (.cond (t 13) (Oz [Zm 4 1] .ret) .skip)) (.seq (Oz [mT 14 0,mT 15 1,Bt 16 .lss 14 15] (.cond (t 16) (Oz [Zm 4 (-1)] .ret) .skip)) (.seq (Oz [mT 17 0,mT 18 1,Bt 19 .gtr 17 18] (.cond (t 19) (Oz [Zm 4 1] .ret) .skip)) (Oz [Zm 4 0] .ret))))))))
def a131:AFunc:=⟨20,[(.tmp 4)],c131⟩
theorem n131:a131.ntmps=20:=id rfl
theorem N80:a131.results=[(.tmp 4)]:=rfl
theorem Oaj:a131.body=c131:=rfl
def Xu:ACode:=(.ops [i 5 (.alloc [(Vi 0),(Vi 0),(Vi 0),(Vi 0),(Vi 0),(Vi 0),(Vi 0),(.int .u8 0)]),St 8 5 7])
def Xt:ACode:=(.block 1 (.ops [lT 8 2,Gt 9 8 5,i 10 (.buildSlice 1 [(Vi 0),(Vi 0),(Vi 0),(Vi 0),(Vi 0),(Vi 0),(Vi 0),(.int .u8 0)] [(0,(8,(t 9)))]),i 11 (.append 8 64 false (t 8) (t 10)),St 1 2 11]))
def N6q:ACode:=(.seq (Oz [i 2 (.box (t 0)),i 4 (.mov (k Vz))] (.seq (Oz [mT 6 1] (.block 0 (.rangeF (t 6) [7] Xu Xt))) (Oz [lT 12 2,mT 4 12] .retM))) .retM)
def Nji:AFunc:=⟨13,[(.tmp 4)],N6q⟩
theorem n132:Nji.ntmps=13:=id rfl
theorem N8z:Nji.results=[(.tmp 4)]:=rfl
theorem Oai:Nji.body=N6q:=rfl
def Nyl:ACode:=(.seq (Oz [lT 7 1,Bc 8 .geq 7 0,mT 9 8,Pl 10 9 1,p 11 9 (.bin .leq (t 10) (zT 730484)),At 12 9 11] (Ce 12 0)) (.seq (.block 1 (Oz [Gt 17 8 3,lT 18 1,Ct 19 135 [(t 17),(t 18)],mT 16 19,Et 20 0 16,Et 21 1 16,i 5 (.alloc [(Vi 0),(Vi 0)]),St 2 5 20,mT 6 21] (Oz [mT 22 6,mT 23 22,Pm 24 23 0,p 25 23 (.loadN 2 (t 5)),p 26 23 (.call .any (t 24) [(t 25)]),p 27 23 (.un .not (t 26)),At 28 23 27] (.cond (t 28) .ret .skip)))) (.ops [lT 13 1,lT 14 2,Bt 15 .add 13 14,St 1 1 15])))
def N6p:ACode:=(Bl 0 Nyl)
def Nvq:AFunc:=⟨29,[],N6p⟩
theorem n134:Nvq.ntmps=29:=id rfl
theorem N5f:Nvq.results=[]:=rfl
theorem Oah:Nvq.body=N6p:=rfl
def N6o:ACode:=(Oz [i 2 (.box (t 0)),i 4 (.alloc [(Vi 0),(Vi 0)]),i 5 (.mov (k (.bool false)))] (Oz [mT 7 1,i 8 (.bin .mul (zT 1440) (t 7)),fT 9 3 2,lT 10 9,Bt 11 .add 8 10,mT 6 11] (.seq (Oz [fT 12 7 2,lT 13 12,mT 14 1,Bc 15 .rem 14 7,Bt 16 .shr 13 15,i 17 (.bin .and (t 16) (k (.int .u8 1))),i 18 (.bin .eql (t 17) (k (.int .u8 0))),mT 19 18,Qm 20 19 6,Qf 21 19 5 2,Ql 22 19 21,Qb 23 19 .sub 20 22,q 24 19 (.bin .lss (t 23) (zT 0)),Ot 25 19 24,mT 26 25,Qm 27 26 6,Qf 28 26 4 2,Ql 29 26 28,Qb 30 26 .add 27 29,q 31 26 (.bin .gtr (t 30) (zT 1051898399)),Ot 32 26 31] (.cond (t 32) (Oz [i 33 (.build [(Vi 0),(Vi 0)] []),St 2 4 33,i 5 (.mov (k (.bool false)))] .ret) .skip)) (Oz [mT 34 6,mT 35 6,fT 36 4 2,lT 37 36,Bt 38 .add 35 37,i 39 (.build [(Vi 0),(Vi 0)] [(0,(1,(t 34))),(1,(1,(t 38)))]),St 2 4 39,i 5 (.mov (k (.bool true)))] .ret))))
def N0y:AFunc:=⟨40,[(.cellN 2 4),(.tmp 5)],N6o⟩
theorem n135:N0y.ntmps=40:=id rfl
theorem N8y:N0y.results=[(.cellN 2 4),(.tmp 5)]:=rfl
theorem Oag:N0y.body=N6o:=rfl
def Nyk:ACode:=(Oz [Bt 9 .lss 8 7] (.seq (Ce 9 0) (.seq (.block 1 (Oz [mT 10 8,mT 5 10] (Oz [mT 11 1,mT 12 0,mT 13 5,xT 14 1 12 13,lT 15 14,Bt 16 .eql 11 15] (.cond (t 16) (Oz [mT 17 5,mT 4 17] .ret) .skip)))) (.ops [Bc 18 .add 8 1,mT 8 18]))))
def N6n:ACode:=(Oz [Zm 4 0] (.seq (Oz [mT 6 0,Nt 7 6,Zm 8 0] (Bl 0 Nyk)) (Oz [Zm 4 (-1)] .ret)))
def N0x:AFunc:=⟨19,[(.tmp 4)],N6n⟩
theorem n136:N0x.ntmps=19:=id rfl
theorem N7j:N0x.results=[(.tmp 4)]:=rfl
theorem Oaf:N0x.body=N6n:=rfl
def N6m:ACode:=(Oz [i 6 (.mov (k Vz))] (Oz [mT 11 1,mT 12 2,i 13 (.build [(Vi 0),(Vi 0)] [(0,(1,(t 11))),(1,(1,(t 12)))]),i 7 (.alloc [(Vi 0),(Vi 0)]),St 2 7 13] (Ds 0 [mT 15 0,i 16 (.nilCheck (t 15)),fT 17 2 16,lT 18 17,Gt 19 2 7,i 20 (.lookup (.ints [.i64,.i64]) Vz true (t 18) (t 19)),mT 14 20,Et 21 0 14,Et 22 1 14,mT 8 21,mT 9 22] (.seq (Oz [mT 23 9,Ut 24 23] (.cond (t 24) (Oz [Zm 10 0] (.seq (Oz [mT 26 0,i 27 (.nilCheck (t 26)),fT 28 0 27,Gt 29 2 28,mT 30 1,mT 31 2,Ct 32 165 [(t 29),(t 30),(t 31)],mT 25 32,Et 33 0 25,Et 34 1 25,mT 8 33,mT 10 34] (Oz [mT 35 10,Bc 36 .neq 35 0] (.cond (t 36) (.ops [i 8 (.mov (k Vz))]) .skip))) (.drawn 0 [mT 37 0,i 38 (.nilCheck (t 37)),fT 39 2 38,lT 40 39,Gt 41 2 7,mT 42 8,s (.mapUpdate (.ints [.i64,.i64]) (t 40) (t 41) (t 42))]))) .skip)) (Oz [mT 43 8,mT 6 43] .ret)))))
def N0w:AFunc:=⟨44,[(.tmp 6)],N6m⟩
theorem n137:N0w.ntmps=44:=id rfl
theorem N5e:N0w.results=[(.tmp 6)]:=rfl
theorem Oae:N0w.body=N6m:=rfl
def c141:ACode:=(Oz [i 2 (.mov (k Vz))] (Oz [mT 3 0,Ct 4 167 [(k Vz),(t 3)],mT 2 4] .ret))
def a141:AFunc:=⟨5,[(.tmp 2)],c141⟩
theorem n141:a141.ntmps=5:=id rfl
theorem N8x:a141.results=[(.tmp 2)]:=rfl
theorem Oad:a141.body=c141:=rfl
def Nyj:ACode:=(Oz [Wt 7 (.mov (t 6)) 2,Et 8 0 7] (.seq (Ce 8 0) (.block 1 (Oz [Wt 9 (.mov (t 6)) 3,Et 10 1 9,i 4 (.alloc [(Vi 0),(Vi 0),(Vi 0)]),St 3 4 10] (Oz [mT 11 0,Gt 12 3 4,i 13 (.call .any (t 11) [(t 12)]),Ut 14 13] (.cond (t 14) .ret .skip))))))
def c143:ACode:=(Oz [lT 5 1,Wt 6 (.mov (t 5)) 1] (Bl 0 Nyj))
def a143:AFunc:=⟨15,[],c143⟩
theorem n143:a143.ntmps=15:=id rfl
theorem N8w:a143.results=[]:=rfl
theorem Oac:a143.body=c143:=rfl
def N6l:ACode:=(Oz [i 2 (.box (t 0)),i 3 (.box (t 1)),i 4 (.mov (k .nilFunc))] (Oz [i 5 (.makeFunc 169 [] [(t 2),(t 3)]),mT 4 5] .ret))
def N0v:AFunc:=⟨6,[(.tmp 4)],N6l⟩
theorem n144:N0v.ntmps=6:=id rfl
theorem N8v:N0v.results=[(.tmp 4)]:=rfl
theorem Oab:N0v.body=N6l:=rfl
def c145:ACode:=(Oz [Zm 4 0] (Oz [mT 6 0,mT 7 1,Bt 8 .quo 6 7,mT 5 8] (.seq (Oz [mT 9 0,mT 10 1,Bt 11 .rem 9 10,Bc 12 .lss 11 0] (.cond (t 12) (.ops [mT 13 5,Bc 14 .sub 13 1,mT 5 14]) .skip)) (Oz [mT 15 5,mT 4 15] .ret))))
def a145:AFunc:=⟨16,[(.tmp 4)],c145⟩
theorem n145:a145.ntmps=16:=id rfl
theorem N7i:a145.results=[(.tmp 4)]:=rfl
theorem Oaa:a145.body=c145:=rfl
def c156:ACode:=(Oz [i 2 (.mov (k (.bool false)))] (Oz [mT 3 0,mT 4 0,Bt 5 .neq 3 4,mT 2 5] .ret))
def a156:AFunc:=⟨6,[(.tmp 2)],c156⟩
theorem n156:a156.ntmps=6:=id rfl
theorem N8u:a156.results=[(.tmp 2)]:=rfl
theorem N99:a156.body=c156:=rfl
def N6k:ACode:=(Oz [i 3 (.box (t 0)),i 6 (.mov (k Vz)),Zm 7 0] (Oz [Gt 13 2 3,mT 14 1,mT 15 1,mT 16 2,Ct 17 58 [(t 13),(t 14),(t 15),(t 16)],mT 12 17,Et 18 0 12,Et 19 1 12,mT 8 18,mT 9 19] (.seq (Oz [mT 20 9,Bc 21 .neq 20 0] (.cond (t 21) (Oz [mT 22 9,i 6 (.mov (k Vz)),mT 7 22] .ret) .skip)) (Oz [Gt 23 2 3,mT 24 8,mT 25 1,mT 26 2,Ct 27 59 [(t 23),(t 24),(t 25),(t 26)],mT 10 27] (Oz [mT 28 10,mT 29 10,Nt 30 29,Bc 31 .sub 30 1,xT 32 50 28 31,Gt 33 50 32,i 11 (.alloc [(Vi 0),(Vi 0),(Vi 0),(Vi 0),(Vi 0),(Vi 0),(Vi 0),(Vi 0),(Vi 0),(Vi 0),(Vi 0),(Vi 0),(Vi 0),(Vi 0),(Vi 0),(Vi 0),(Vi 0),(Vi 0),(Vi 0),(Vi 0),(Vi 0),(Vi 0),(Vi 0),(Vi 0),(Vi 0),(Vi 0),(Vi 0),(Vi 0),(Vi 0),(Vi 0),(Vi 0),(Vi 0),(Vi 0),(Vi 0),(Vi 0),(Vi 0),(Vi 0),(Vi 0),(Vi 0),(Vi 0),(Vi 0),(Vi 0),(Vi 0),(Vi 0),(Vi 0),(Vi 0),(Vi 0),(Vi 0),(Vi 0),(Vi 0)]),St 50 11 33] (Oz [fT 34 0 3,lT 35 34,Nt 36 35,i 37 (.sliceA 50 1 (t 11) none (some (t 36)) none),Ct 38 106 [(t 37)],mT 6 38,Zm 7 0] .ret))))))
def N0u:AFunc:=⟨39,[(.tmp 6),(.tmp 7)],N6k⟩
theorem n165:N0u.ntmps=39:=id rfl
theorem N7h:N0u.results=[(.tmp 6),(.tmp 7)]:=rfl
theorem N98:N0u.body=N6k:=rfl
def Wl:ACode:=(.ops [i 5 (.alloc [(Vi 0),(Vi 0),(Vi 0)]),St 3 5 7])
def Wj:ACode:=(.block 1 (.ops [lT 8 2,Gt 9 3 5,i 10 (.buildSlice 1 [(Vi 0),(Vi 0),(Vi 0)] [(0,(3,(t 9)))]),i 11 (.append 3 24 false (t 8) (t 10)),St 1 2 11]))
def c167:ACode:=(.seq (Oz [i 2 (.box (t 0)),i 4 (.mov (k Vz))] (.seq (Oz [mT 6 1] (.block 0 (.rangeF (t 6) [7] Wl Wj))) (Oz [lT 12 2,mT 4 12] .retM))) .retM)
def a167:AFunc:=⟨13,[(.tmp 4)],c167⟩
theorem n167:a167.ntmps=13:=id rfl
theorem N8t:a167.results=[(.tmp 4)]:=rfl
theorem N97:a167.body=c167:=rfl
def Nyi:ACode:=(Oz [Bt 16 .lss 15 14] (.seq (Ce 16 0) (.seq (.block 1 (Oz [xT 17 3 13 15,Gt 18 3 17,i 6 (.alloc [(Vi 0),(Vi 0),(Vi 0)]),St 3 6 18] (Oz [fT 19 0 6,lT 20 19,lT 21 2,Bt 22 .neq 20 21,mT 23 22,Qm 24 23 0,q 25 23 (.loadN 3 (t 6)),q 26 23 (.call .any (t 24) [(t 25)]),q 27 23 (.un .not (t 26)),Ot 28 23 27] (.cond (t 28) .ret .skip)))) (.ops [Bc 29 .add 15 1,mT 15 29]))))
def N6j:ACode:=(Oz [lT 7 1,Nt 8 7,i 9 (.makeFunc 171 [] [(t 1),(t 2)]),Ct 10 170 [(t 8),(t 9)],mT 4 10] (Oz [lT 11 1,mT 12 4,i 13 (.sliceS 3 (t 11) (some (t 12)) none none),Nt 14 13,Zm 15 0] (Bl 0 Nyi)))
def N0t:AFunc:=⟨30,[],N6j⟩
theorem n169:N0t.ntmps=30:=id rfl
theorem N5d:N0t.results=[]:=rfl
theorem N96:N0t.body=N6j:=rfl
def Nyh:ACode:=(.seq (Oz [mT 9 5,mT 10 6,Bt 11 .lss 9 10] (Ce 11 0)) (.block 1 (Oz [mT 12 5,mT 13 6,Bt 14 .add 12 13,i 15 (.conv .u64 (t 14)),i 16 (.bin .shr (t 15) (k (.int .u64 1))),i 17 (.conv .i64 (t 16)),mT 7 17] (Oz [mT 18 1,mT 19 7,i 20 (.call .any (t 18) [(t 19)]),Ut 21 20] (.cond (t 21) (.ops [mT 22 7,Bc 23 .add 22 1,mT 5 23]) (.ops [mT 24 7,mT 6 24]))))))
def N6i:ACode:=(Oz [Zm 4 0] (Oz [mT 8 0,Zm 5 0,mT 6 8] (.seq (Bl 0 Nyh) (Oz [mT 25 5,mT 4 25] .ret))))
def N0s:AFunc:=⟨26,[(.tmp 4)],N6i⟩
theorem n170:N0s.ntmps=26:=id rfl
theorem N8s:N0s.results=[(.tmp 4)]:=rfl
theorem N95:N0s.body=N6i:=rfl
def c171:ACode:=(Oz [i 4 (.mov (k (.bool false)))] (Ds 0 [lT 5 1,mT 6 0,xT 7 3 5 6,fT 8 0 7,lT 9 8,lT 10 2,Bt 11 .geq 9 10,mT 4 11] .ret))
def a171:AFunc:=⟨12,[(.tmp 4)],c171⟩
theorem n171:a171.ntmps=12:=id rfl
theorem N8r:a171.results=[(.tmp 4)]:=rfl
theorem N94:a171.body=c171:=rfl
def c15:ACode:=(Oz [i 6 (.box (t 0))] (Oz [mT 9 1,lT 10 3,fT 11 2 6,lT 12 11,i 13 (.call .any (t 10) [(t 12)]),Bt 14 .sub 9 13,mT 15 2,fT 16 4 6,St 1 16 14,fT 17 5 6,St 1 17 15] (Oz [lT 18 4,Gt 19 6 6,i 20 (.buildSlice 1 [(Vi 0),(Vi 0),(Vi 0),(.int .u8 0),(Vi 0),(Vi 0)] [(0,(6,(t 19)))]),i 21 (.append 6 48 false (t 18) (t 20)),St 1 4 21] (.drawn 0 [lT 22 5,fT 23 2 6,lT 24 23,mT 25 2,Bc 26 .quo 25 1440,i 27 (.build [(Vi 0),(Vi 0)] [(0,(1,(t 24))),(1,(1,(t 26)))]),i 28 (.lookup (.ints [.i64,.i64]) (Vi 0) false (t 22) (t 27)),Bc 29 .add 28 1,i 30 (.mapEntry (.ints [.i64,.i64]) (Vi 0) (t 22) (t 27)),Et 31 1 30,s (.entryStore (t 22) (t 31) (t 29))]))))
def a15:AFunc:=⟨32,[],c15⟩
theorem n15:a15.ntmps=32:=id rfl
theorem r15:a15.results=[]:=rfl
theorem b15:a15.body=c15:=rfl
def N52:ACode:=(Oz [Bt 269 .lss 268 267] (.seq (Ce 269 10) (.seq (.block 11 (Oz [xT 270 5 266 268,Gt 271 5 270,i 28 (.alloc [(.int .u8 0),(Vi 0),(Vi 0),(Vi 0),(Vi 0)]),St 5 28 271] (Oz [fT 272 0 28,lT 273 272] (.block 12 (Oz [i 275 (.bin .eql (t 273) (k (.int .u8 6))),mT 274 275] (.cond (t 274) (.ops [mT 276 13,Bc 277 .sub 276 1,mT 13 277]) (Oz [i 279 (.bin .eql (t 273) (k (.int .u8 5))),mT 278 279] (.cond (t 278) .skip (Oz [i 4 (.mov (k (.bool false)))] .ret))))))))) (.ops [Bc 280 .add 268 1,mT 268 280]))))
def N51:ACode:=(Oz [Bt 243 .lss 242 241] (.seq (Ce 243 8) (.seq (.block 9 (Oz [mT 244 242,xT 245 7 240 242,Gt 246 7 245,i 26 (.alloc [(Vi 0),(Vi 0),(Vi 0),(.int .u8 0),(Vi 0),(Vi 0),(Vi 0)]),mT 25 244,St 7 26 246] (Ds 0 [fT 247 6 26,lT 248 247,mT 249 6,mT 250 25,xT 251 1 249 250,lT 252 251,Bt 253 .neq 248 252,mT 254 253,Qf 255 254 0 26,Qf 256 254 1 255,Ql 257 254 256,Qm 258 254 7,Qm 259 254 25,Qx 260 254 1 258 259,Ql 261 254 260,Qb 262 254 .neq 257 261,Ot 263 254 262] (.cond (t 263) (Oz [i 4 (.mov (k (.bool false)))] .ret) .skip)))) (.ops [Bc 264 .add 242 1,mT 242 264]))))
def N50:ACode:=(.seq (Oz [mT 181 21,mT 182 22,Bt 183 .lss 181 182] (Ce 183 6)) (.seq (.block 7 (.drawn 0 [lT 188 10,mT 189 21,i 190 (.loadR none (t 10)),mT 191 22,lT 192 10,mT 193 22,xT 194 6 192 193,Gt 195 6 194,lT 196 10,mT 197 21,xT 198 6 196 197,Gt 199 6 198,xT 200 6 188 189,s (.storeN 6 (t 200) (t 195)),xT 201 6 190 191,St 6 201 199])) (.ops [mT 184 21,Bc 185 .add 184 1,mT 186 22,Bc 187 .sub 186 1,mT 21 185,mT 22 187])))
def N5z:ACode:=(.seq (Oz [mT 152 19,Bc 153 .leq 152 75] (Ce 153 4)) (.seq (.block 5 (Oz [lT 156 11,mT 157 18,mT 158 19,i 159 (.build [(Vi 0),(Vi 0)] [(0,(1,(t 157))),(1,(1,(t 158)))]),i 160 (.lookup (.ints [.i64,.i64]) (Vi 0) false (t 156) (t 159)),Bc 161 .gtr 160 0] (.cond (t 161) (Oz [mT 162 19,Bc 163 .mul 162 1440,Bc 164 .add 163 700,mT 20 164] (.drawn 2 [Kt 165 (.load1 (t 10)) [0,1],mT 166 18,i 167 (.bin .add (zT 40) (t 166)),mT 168 18,mT 169 20,Kt 170 (.load1 (t 9)) [0,1],mT 171 18,Kt 172 (.call .pure (t 170) [(t 171)]) [0,1],Bt 173 .sub 169 172,mT 174 20,i 175 (.build [(Vi 0),(Vi 0),(Vi 0),(.int .u8 0),(Vi 0),(Vi 0)] [(0,(1,(zT 9))),(1,(1,(t 167))),(2,(1,(t 168))),(3,(1,(k (.int .u8 2)))),(4,(1,(t 173))),(5,(1,(t 174)))]),Wt 176 (.buildSlice 1 [(Vi 0),(Vi 0),(Vi 0),(.int .u8 0),(Vi 0),(Vi 0)] [(0,(6,(t 175)))]) 0,Wt 177 (.append 6 48 false (t 165) (t 176)) 1,St 1 10 177])) .skip))) (.ops [mT 154 19,Bc 155 .add 154 1,mT 19 155])))
def N5y:ACode:=(.seq (Oz [mT 148 18,Bc 149 .leq 148 5] (Ce 149 2)) (.seq (.block 3 (Oz [Zm 19 10] (Bl 4 N5z))) (.ops [mT 150 18,Bc 151 .add 150 1,mT 18 151])))
def N5x:ACode:=(Oz [Bt 86 .lss 85 84] (.seq (Ce 86 0) (.seq (.block 1 (Oz [mT 87 85,xT 88 1 83 85,lT 89 88,mT 14 87,mT 15 89] (Ds 1 [mT 90 7,mT 91 14,xT 92 1 90 91,Kt 93 (.load1 (t 92)) [0],mT 94 7,mT 95 14,xT 96 1 94 95,Kt 97 (.load1 (t 96)) [0],i 98 (.build [(Vi 0),(Vi 0),(Vi 0),(.int .u8 0),(Vi 0),(Vi 0)] [(0,(1,(zT 7))),(1,(1,(t 93))),(2,(1,(t 97))),(3,(1,(k (.int .u8 2))))]),Wt 16 (.alloc [(Vi 0),(Vi 0),(Vi 0),(.int .u8 0),(Vi 0),(Vi 0)]) 0,St 6 16 98] (.seq (Oz [mT 99 14,mT 100 6,Nt 101 100,Bc 102 .sub 101 1,Bt 103 .eql 99 102] (.cond (t 103) (.ops [fT 104 3 16,s (.store 1 (t 104) (k (.int .u8 4)))]) .skip)) (Ds 0 [mT 105 12,Gt 106 6 16,mT 107 15,mT 108 15,fT 109 3 3,lT 110 109,mT 111 14,i 112 (.call .mk (.func 16) [(t 110),(t 111)]),Bt 113 .add 108 112,i 114 (.call .any (t 105) [(t 106),(t 107),(t 113)])] (Oz [fT 115 4 3,lT 116 115,mT 117 14,Ct 118 16 [(t 116),(t 117)],mT 17 118] (Oz [mT 119 17,Bc 120 .rem 119 3,Bc 121 .eql 120 0,mT 122 121,Pf 123 122 4 3,Pl 124 122 123,p 125 122 (.lenSlice (t 124)),p 126 122 (.bin .gtr (t 125) (zT 0)),At 127 122 126] (.cond (t 127) (Ds 0 [mT 128 12,Gt 129 6 16,mT 130 15,mT 131 17,Bc 132 .rem 131 6,Bt 133 .add 130 132,mT 134 15,mT 135 17,Bc 136 .rem 135 6,Bt 137 .add 134 136,fT 138 3 3,lT 139 138,mT 140 14,Bc 141 .add 140 1,i 142 (.call .mk (.func 16) [(t 139),(t 141)]),Bt 143 .add 137 142,i 144 (.call .any (t 128) [(t 129),(t 133),(t 143)])] (.ops [mT 145 13,Bc 146 .add 145 1,mT 13 146])) .skip)))))))) (.ops [Bc 147 .add 85 1,mT 85 147]))))
def c3:ACode:=(Oz [i 3 (.box (t 1)),i 4 (.mov (k (.bool false)))] (Oz [mT 29 0,Ct 30 10 [(t 29)],i 5 (.alloc [Vz,Vz]),St 2 5 30] (Oz [Gt 32 2 5,fT 33 0 3,lT 34 33,i 35 (.conv .i64 (t 34)),Bc 36 .rem 35 5,i 37 (.bin .add (zT 1) (t 36)),fT 38 1 3,lT 39 38,i 40 (.conv .i64 (t 39)),Bc 41 .rem 40 5,i 42 (.bin .add (zT 1) (t 41)),fT 43 5 3,lT 44 43,Ct 45 11 [(t 32),(t 37),(t 42),(t 44)],mT 31 45,Et 46 0 31,Et 47 1 31,Et 48 2 31,mT 6 46,mT 7 47,mT 8 48] (.seq (Oz [mT 49 8,Ut 50 49,mT 51 50,q 52 51 (.loadN 2 (t 5)),q 53 51 (.call .any (.func 12) [(t 52)]),q 54 51 (.bin .neq (t 53) (zT 0)),Ot 55 51 54] (.cond (t 55) (Oz [i 4 (.mov (k (.bool false)))] .ret) .skip)) (.seq (Oz [mT 56 6,Nt 57 56,Bc 58 .eql 57 0] (.cond (t 58) (Oz [Ct 59 13 [(k (.int .u8 7))],i 60 (.bin .eql (t 59) (k (.string ⟨#[108,111,115,116]⟩))),mT 4 60] .ret) .skip)) (Ds 4 [mT 61 6,mT 62 6,mT 63 6,Nt 64 63,Bc 65 .sub 64 1,xT 66 1 62 65,Kt 67 (.load1 (t 66)) [0,1,2,3],Bc 68 .add 67 60,Wt 69 (.buildSlice 1 [(Vi 0)] [(0,(1,(t 68)))]) 0,⟨(some 70),none,(.appendL 1 8 false (t 61) (t 69)),(some 1),[2,3]⟩,mT 71 7,mT 72 7,mT 73 7,Nt 74 73,Bc 75 .sub 74 1,xT 76 1 72 75,Kt 77 (.load1 (t 76)) [0,1,2,3],Wt 78 (.buildSlice 1 [(Vi 0)] [(0,(1,(t 77)))]) 2,Wt 79 (.append 1 8 false (t 71) (t 78)) 3,mT 6 70,mT 7 79] (Oz [i 80 (.makeFunc 14 [] [(t 3)]),i 9 (.alloc [.nilFunc]),St 1 9 80] (Oz [i 10 (.alloc [Vz])] (Oz [i 81 (.makeMap none),i 11 (.alloc [(.map none)]),St 1 11 81] (Oz [i 82 (.makeFunc 15 [] [(t 9),(t 10),(t 11)]),mT 12 82] (Oz [Zm 13 0] (.seq (Oz [mT 83 6,Nt 84 83,Zm 85 0] (Bl 0 N5x)) (.seq (Oz [Zm 18 1] (Bl 2 N5y)) (.seq (Ds 0 [lT 178 10,Nt 179 178,Bc 180 .sub 179 1,Zm 21 0,mT 22 180] (Bl 6 N50)) (Ds 1 [Kt 203 (.loadN 2 (t 5)) [0],Kt 204 (.load1 (t 10)) [0],mT 205 6,mT 206 6,Nt 207 206,Bc 208 .sub 207 1,xT 209 1 205 208,Kt 210 (.load1 (t 209)) [0],Kt 211 (.call .any (.func 17) [(t 203),(t 204),(zT 7),(t 210)]) [0],mT 202 211,Et 212 0 202,Et 213 1 202,Wt 23 (.alloc [Vz,Vz,Vz,(Vi 0),Vz]) 0,St 5 23 212,mT 24 213] (.seq (Oz [mT 214 24,Bc 215 .neq 214 0,mT 216 215,Qf 217 216 0 23,Ql 218 216 217,q 219 216 (.lenSlice (t 218)),Qm 220 216 6,q 221 216 (.lenSlice (t 220)),Qb 222 216 .neq 219 221,Ot 223 216 222,mT 224 223,Qf 225 224 1 23,Qf 226 224 2 225,Ql 227 224 226,q 228 224 (.bin .neq (t 227) (zT 0)),Ot 229 224 228,mT 230 229,Qf 231 230 1 23,Qf 232 230 0 231,Ql 233 230 232,q 234 230 (.lenSlice (t 233)),Qm 235 230 6,q 236 230 (.lenSlice (t 235)),Qb 237 230 .neq 234 236,Ot 238 230 237] (.cond (t 238) (Oz [i 4 (.mov (k (.bool false)))] .ret) .skip)) (.seq (Oz [fT 239 0 23,lT 240 239,Nt 241 240,Zm 242 0] (Bl 8 N51)) (.seq (Oz [fT 265 4 23,lT 266 265,Nt 267 266,Zm 268 0] (Bl 10 N52)) (Oz [mT 281 13,Bc 282 .eql 281 0,mT 283 282,p 284 283 (.call .any (.func 13) [(k (.int .u8 7))]),p 285 283 (.bin .eql (t 284) (k (.string ⟨#[108,111,115,116]⟩))),At 286 283 285,mT 4 286] .ret)))))))))))))))))))
def a3:AFunc:=⟨287,[(.tmp 4)],c3⟩
theorem n3:a3.ntmps=287:=id rfl
theorem r3:a3.results=[(.tmp 4)]:=rfl
theorem b3:a3.body=c3:=rfl
def i1_:List FuncId:=[10,11,12,13,14,16,17,27,28,32,33,34]
def v1_:List AFunc:=[a10,a11,a12,a13,a14,a16,a17,a27,a28,a32,a33,a34]
def i2_:List FuncId:=[35,36,37,38,55,56,58,59,60,61,62,63]
def v2_:List AFunc:=[a35,a36,a37,a38,a55,a56,a58,a59,a60,a61,a62,a63]
def i3_:List FuncId:=[64,65,66,67,68,69,70,71,72,73,74,75]
def v3_:List AFunc:=[a64,a65,a66,a67,a68,a69,a70,a71,a72,a73,a74,a75]
def i4_:List FuncId:=[76,77,92,93,94,96,97,98,99,100,101,103]
def v4_:List AFunc:=[a76,a77,a92,a93,a94,a96,a97,a98,a99,Njj,N1a,N09]
def i5_:List FuncId:=[104,105,106,107,108,109,110,120,121,122,123,124]
def v5_:List AFunc:=[N08,a105,N07,a107,N06,a109,N05,N04,N03,N02,N01,a124]
def i6_:List FuncId:=[125,126,127,128,131,132,134,135,136,137,141,143]
def v6_:List AFunc:=[N00,N0z,a127,Nm4,a131,Nji,Nvq,N0y,N0x,N0w,a141,a143]
def i7_:List FuncId:=[144,145,156,165,167,169,170,171,15,3]
def v7_:List AFunc:=[N0v,a145,a156,N0u,a167,N0t,N0s,a171,a15,a3]
def ids:List FuncId:=i1_++i2_++i3_++i4_++i5_++i6_++i7_
def fns:List AFunc:=v1_++v2_++v3_++v4_++v5_++v6_++v7_
def tr (g:FuncId):Option AFunc:=(ids.zip fns).lookup g
theorem e10:tr 10=some a10:=rfl
theorem e11:tr 11=some a11:=rfl
theorem e12:tr 12=some a12:=rfl
theorem e13:tr 13=some a13:=rfl
theorem e14:tr 14=some a14:=rfl
theorem e16:tr 16=some a16:=rfl
theorem e17:tr 17=some a17:=rfl
theorem e27:tr 27=some a27:=rfl
theorem e28:tr 28=some a28:=rfl
theorem e32:tr 32=some a32:=rfl
theorem e33:tr 33=some a33:=rfl
theorem e34:tr 34=some a34:=rfl
theorem e35:tr 35=some a35:=rfl
theorem e36:tr 36=some a36:=rfl
theorem e37:tr 37=some a37:=rfl
theorem e38:tr 38=some a38:=rfl
theorem e55:tr 55=some a55:=rfl
theorem e56:tr 56=some a56:=rfl
theorem e58:tr 58=some a58:=rfl
theorem e59:tr 59=some a59:=rfl
theorem e60:tr 60=some a60:=rfl
theorem e61:tr 61=some a61:=rfl
theorem e62:tr 62=some a62:=rfl
theorem e63:tr 63=some a63:=rfl
theorem e64:tr 64=some a64:=rfl
theorem e65:tr 65=some a65:=rfl
theorem e66:tr 66=some a66:=rfl
theorem e67:tr 67=some a67:=rfl
theorem e68:tr 68=some a68:=rfl
theorem e69:tr 69=some a69:=rfl
theorem e70:tr 70=some a70:=rfl
theorem e71:tr 71=some a71:=rfl
theorem e72:tr 72=some a72:=rfl
theorem e73:tr 73=some a73:=rfl
theorem e74:tr 74=some a74:=rfl
theorem e75:tr 75=some a75:=rfl
theorem e76:tr 76=some a76:=rfl
theorem e77:tr 77=some a77:=rfl
theorem e92:tr 92=some a92:=rfl
theorem e93:tr 93=some a93:=rfl
theorem e94:tr 94=some a94:=rfl
theorem e96:tr 96=some a96:=rfl
theorem e97:tr 97=some a97:=rfl
theorem e98:tr 98=some a98:=rfl
theorem e99:tr 99=some a99:=rfl
theorem N92:tr 100=some Njj:=rfl
theorem N91:tr 101=some N1a:=rfl
theorem N90:tr 103=some N09:=rfl
theorem N9z:tr 104=some N08:=rfl
theorem N9y:tr 105=some a105:=rfl
theorem N8d:tr 106=some N07:=rfl
theorem N9x:tr 107=some a107:=rfl
theorem N9w:tr 108=some N06:=rfl
theorem N9v:tr 109=some a109:=rfl
theorem N9u:tr 110=some N05:=rfl
theorem N9t:tr 120=some N04:=rfl
theorem N9s:tr 121=some N03:=rfl
theorem N9r:tr 122=some N02:=rfl
theorem N9q:tr 123=some N01:=rfl
theorem N8c:tr 124=some a124:=rfl
theorem N9p:tr 125=some N00:=rfl
theorem N8b:tr 126=some N0z:=rfl
theorem N9o:tr 127=some a127:=rfl
theorem N9n:tr 128=some Nm4:=rfl
theorem N9m:tr 131=some a131:=rfl
theorem N9l:tr 132=some Nji:=rfl
theorem N9k:tr 134=some Nvq:=rfl
theorem N9j:tr 135=some N0y:=rfl
theorem N9i:tr 136=some N0x:=rfl
theorem N9h:tr 137=some N0w:=rfl
theorem N9g:tr 141=some a141:=rfl
theorem N9f:tr 143=some a143:=rfl
theorem N9e:tr 144=some N0v:=rfl
theorem N9d:tr 145=some a145:=rfl
theorem N9c:tr 156=some a156:=rfl
theorem N9b:tr 165=some N0u:=rfl
theorem N9a:tr 167=some a167:=rfl
theorem N89:tr 169=some N0t:=rfl
theorem N88:tr 170=some N0s:=rfl
theorem N87:tr 171=some a171:=rfl
theorem e15:tr 15=some a15:=rfl
theorem e3:tr 3=some a3:=rfl
end Go.Proofs.YtkppjkkkdpcgiaaGreat.Fn


namespace Go.AM
section
variable {α:Type}
def gt [Inhabited α] (l:List α) (i:Nat):α:=l.getD i default
theorem PU [Inhabited α] {l:List α} {i:Nat} (h:i<l.length):gt l i=l[i]:=by simp [gt,Na,Nf h]
theorem MG [Inhabited α] {x:α} {l:List α}:gt (x::l) 0=x:=rfl
theorem Ti [Inhabited α] {x:α} {l:List α} {i:Nat}:gt (x::l) (i+1)=gt l i:=by simp [gt]
theorem QJ [Inhabited α] {l:List α} {i:Nat} (h:i<l.length):gt l i∈l:=by rw [PU h];exact P6 h
def addrOf (p:Option Addr):Addr:=p.getD ⟨0,0,none⟩
def YV (p:Option Addr) (e i:Nat):Addr:=(addrOf p).add (i*e)
def Sl (H:NA) (enc:α->List Value) (e:Nat) (p:Option Addr) (l:List α):Prop:=
 match p with
 | none=>l=[]
 | some a=>a.spot=none/\(l≠[]->∃ro c,NC H a.block=.cells ro c/\a.off+l.length*e<=c.length/\(c.drop a.off).take (l.length*e)=l.flatMap enc)
theorem NG {H:NA} {i:Nat} {ro:Bool} {c:List Value} (h:NC H i=.cells ro c):i<H.length:=by
 rcases Ou i H.length with h1 | h1
 ·exact h1
 ·unfold NC at h
  rw [Na,Nu h1] at h
  cases h
def cellsOf:Blk->List Value | .cells _ c=>c | _=>[]
def isCells:Blk->Bool | .cells _ _=>true | _=>false
theorem Zu {ro:Bool} {c:List Value}:cellsOf (.cells ro c)=c:=rfl
theorem Zp {ro:Bool} {c:List Value}:isCells (.cells ro c)=true:=id rfl
theorem Sl.app {H:NA} {enc:α->List Value} {e:Nat} {p:Option Addr} {l:List α} (h:Sl H enc e p l) (X:NA):Sl (H++X) enc e p l:=by
 cases p with
 | none=>exact h
 | some a=>
   refine ⟨h.1,fun hn=>?_⟩
   obtain ⟨ro,c,h2,b⟩:=h.2 hn
   exact ⟨ro,c,by rw [NI (NG h2)];exact h2,b⟩
theorem Sl.sim {H G:NA} {enc:α->List Value} {e:Nat} {p:Option Addr} {l:List α} (h:Sl H enc e p l) (f:∀b ro c,NC H b=.cells ro c->NC G b=.cells ro c):Sl G enc e p l:=by
 cases p with
 | none=>exact h
 | some a=>
   refine ⟨h.1,fun hn=>?_⟩
   obtain ⟨ro,c,h2,d⟩:=h.2 hn
   exact ⟨ro,c,f _ _ _ h2,d⟩
theorem PK {enc:α->List Value} {e:Nat} (he:∀x,(enc x).length=e) (l:List α):(l.flatMap enc).length=l.length*e:=by
 induction l with
 | nil=>simp
 | cons x l ih=>simp [ih,he,Pw,Rj]
theorem YT {enc:α->List Value} {e:Nat} (he:∀x,(enc x).length=e):∀(l:List α) (i:Nat),i<l.length->[Inhabited α]->((l.flatMap enc).drop (i*e)).take e=enc (gt l i)
 | [],i,h,_=>by simp at h
 | x::l,0,_,_=>by
   rw [Om,Qq,Ox,Qh (by rw [he];exact Nd _),Og (by rw [he];exact Nd _)]
   rfl
 | x::l,i+1,h,_=>by
   rw [Om,List.drop_append,Qj (by rw [he,Pw];omega),On,he,show (i+1)*e-e=i*e by rw [Pw];omega]
   have:=YT he l i (by simpa using h)
   rw [this,Ti]
variable [Inhabited α] {H:NA} {enc:α->List Value} {e:Nat} {p:Option Addr} {l:List α}
theorem Sl.loadCells (h:Sl H enc e p l) (he:∀x,(enc x).length=e) {i:Nat} (hi:i<l.length):AM.loadCells H (YV p e i) e=some (enc (gt l i)):=by
 cases p with
 | none=>simp only [Sl] at h;subst h;simp at hi
 | some a=>
   obtain ⟨b,o,s⟩:=a
   obtain ⟨ro,c,h2,g,d⟩:=h.2 (by rintro rfl;simp at hi)
   have h1:=h.1
   simp only at h1 h2 d g;subst h1
   have j:i*e+e<=l.length*e:=by
    have:=O8 e (Qw hi)
    rw [Pq] at this;exact this
   have f:=YT he l i hi
   rw [<-d,List.drop_take,Rb,List.drop_drop] at f
   simp only [YV,addrOf,Pa,addr_add,AM.loadCells,h2]
   rw [Nh (by omega),<-f,P7 (by omega)]
theorem Sl.loadCell (h:Sl H enc e p l) (he:∀x,(enc x).length=e) {i j:Nat} (hi:i<l.length) (g:j<e):AM.loadCell H ((YV p e i).add j)=(enc (gt l i))[j]?:=by
 have h0:=h.loadCells he hi
 cases p with
 | none=>simp only [Sl] at h;subst h;simp at hi
 | some a=>
   obtain ⟨b,o,s⟩:=a
   obtain ⟨ro,c,h2,f,d⟩:=h.2 (by rintro rfl;simp at hi)
   have h1:=h.1
   simp only at h1 h2 d f;subst h1
   simp only [YV,addrOf,Pa,addr_add,AM.loadCells,h2] at h0
   split at h0
   ·simp only [Option.some.injEq] at h0
    rw [<-h0]
    simp only [YV,addrOf,Pa,addr_add,AM.loadCell,h2,Py,Qy,Nh g,Oo]
   ·cases h0
theorem Sl.loadCell0 (h:Sl H enc e p l) (he:∀x,(enc x).length=e) {i:Nat} (hi:i<l.length) (a:0<e):AM.loadCell H (YV p e i)=(enc (gt l i))[0]?:=by
 rw [<-h.loadCell he hi a]
 congr 1
omit [Inhabited α] in
theorem Sl.idx (h:Sl H enc e p l) {i c:Nat} {k:IntKind} {H1:NA} (hi:i<l.length):MC e (.slice p l.length c) (.int k (i:Int)) H1=some (.pointer (some (YV p e i)),H1):=by
 cases p with
 | none=>simp only [Sl] at h;subst h;simp at hi
 | some a=>exact Yu hi
end
theorem Rw {X:NA} {j:Nat} {b:Blk} (h:j<X.length):NC (X.set j b) j=b:=by
 unfold NC;rw [Na,Ra h];rfl
theorem PS {X:NA} {i j:Nat} {b:Blk} (h:i≠j):NC (X.set j b) i=NC X i:=by
 unfold NC;rw [Na,Na,Qs (Ne.symm h)]
theorem Nuk {α:Type} [Inhabited α] {l:List α} {i:Nat} {w:α->Bool} (h:i<l.length):(l.drop i).find? w=if w (gt l i)=true then some (gt l i) else (l.drop (i+1)).find? w:=by
 rw [Ow h,List.find?_cons,PU h]
 split<;>simp_all
theorem Nua {e len c:Nat} {p:Addr} {k:IntKind} {H:NA} (h:0<len):MC e (.slice (some p) len c) (.int k 0) H=some (.pointer (some (p.add 0)),H):=by
 have:=Yu (e:=e) (n:=0) (len:=len) (c:=c) (p:=p) (k:=k) (H:=H) h
 rw [Qq] at this
 exact this
theorem Nt4 {k:IntKind} {n:Int}:SF (.int k) (.int k n)=true:=by simp [SF]
theorem Nt3 {b:ByteArray}:SF .str (.string b)=true:=id rfl
theorem Ni4 {k k':IntKind} {a b c d:Int} {v:Value} {es:List (Value×Value)} {i:Nat}:findKey (.agg #[.int k a,.int k' b]) ((.agg #[.int k c,.int k' d],v)::es) i=if a=c/\b=d then some (some (i,v)) else findKey (.agg #[.int k a,.int k' b]) es (i+1):=by
 simp only [findKey,Ub,Tx,if_true,Nr,Bool.and_true]
 by_cases h:a=c/\b=d
 ·obtain ⟨rfl,rfl⟩:=h
  simp
 ·rw [Ng h]
  have e:((a == c)&&(b == d))=false:=by
   cases he:((a == c)&&(b == d)) with
   | false=>rfl
   | true=>
     simp only [Nx,beq_iff_eq] at he
     exact absurd he h
  simp [e]
theorem Nl9 {v:Value} {i:Nat}:findKey v [] i=some none:=rfl
theorem Yx {k:IntKind} {a b:Int} {v:Value} {es:List (Value×Value)} {i:Nat}:findKey (.int k a) ((.int k b,v)::es) i=if a=b then some (some (i,v)) else findKey (.int k a) es (i+1):=by
 simp only [findKey,Ub,if_true]
 by_cases h:a=b
 ·simp [h]
 ·have e:(a == b)=false:=by simpa using h
  simp [h,e]
theorem TG {H:NA} {r:Nat}:mapEntries H (.map (some r))=(match NC H r with | .map es=>some es | _=>none):=rfl
theorem Ncm {H:NA}:mapEntries H (.map none)=some []:=rfl
theorem Xv {α:Type} {k:IntKind} {a:Int} {f:α->Int} {g:α->Value}:∀{l:List α} {i:Nat},(∀x∈l,f x≠a)->findKey (.int k a) (l.map fun x=>(.int k (f x),g x)) i=some none
 | [],_,_=>rfl
 | x::l,i,h=>by
   rw [N9,Yx,Ng (fun e=>h x (by simp) e.symm)]
   exact Xv fun y b=>h y (by simp [b])
theorem Yw {α:Type} {k:IntKind} {a:Int} {f:α->Int} {g:α->Value} {v:Value}:∀{l:List α} {i:Nat},(∃x∈l,f x=a)->(∀x∈l,f x=a->g x=v)->∃j,findKey (.int k a) (l.map fun x=>(.int k (f x),g x)) i=some (some (j,v))
 | [],_,h,_=>by obtain ⟨x,hx,_⟩:=h;simp at hx
 | x::l,i,h,hv=>by
   rw [N9,Yx]
   by_cases e:a=f x
   ·exact ⟨i,by rw [Nh e,hv x (by simp) e.symm]⟩
   ·rw [Ng e]
    refine Yw ?_ fun y hy=>hv y (by simp [hy])
    obtain ⟨y,hy,b⟩:=h
    rcases Nn.1 hy with rfl | hy
    ·exact absurd b.symm e
    ·exact ⟨y,hy,b⟩
def OM (H G:NA):Prop:=∃X,G=H++X
section
variable {H G:NA}
theorem OM.refl:OM H H:=⟨[],by simp⟩
theorem OM.app (h:OM H G) {X:NA}:OM H (G++X):=by
 obtain ⟨Y,rfl⟩:=h
 exact ⟨Y++X,by simp⟩
theorem OM.trans {K:NA} (h:OM H G) (k:OM G K):OM H K:=by
 obtain ⟨Y,rfl⟩:=k
 exact h.app
theorem OM.len (h:OM H G):H.length<=G.length:=by
 obtain ⟨Y,rfl⟩:=h
 simp
theorem OM.sl {α:Type} {enc:α->List Value} {e:Nat} {p:Option Addr} {l:List α} (h:OM H G) (hs:Sl H enc e p l):Sl G enc e p l:=by
 obtain ⟨Y,rfl⟩:=h
 exact hs.app Y
theorem OM.cells (h:OM H G) {b:Nat} {ro:Bool} {c:List Value} (hs:NC H b=.cells ro c):NC G b=.cells ro c:=by
 obtain ⟨Y,rfl⟩:=h
 rw [NI (NG hs)];exact hs
end
section
variable {E:Env} {af:AFunc} {lim:Nat} {K:List AItem} {fr:Nat->Value} {H:NA} {R:Value->NA->Prop} {b:ACode}
theorem NZ {S:Type} (m:S->Nat) (I:S->(Nat->Value)->NA->Prop) (s:S) (h0:I s fr H)
  (step:∀s fr H,I s fr H->(∀a fr' H',I a fr' H'->m a<m s->QC E af lim (.inLoop b::K) fr' H' R)->QC E af lim (.code b::.inLoop b::K) fr H R) :
  QC E af lim (.code (.loop b)::K) fr H R:=by
 rw [Nna,<-XI]
 have key:∀n s fr H,m s<=n->I s fr H->QC E af lim (.inLoop b::K) fr H R:=by
  intro n
  induction n with
  | zero=>
    intro s fr H hm hi
    rw [XI]
    exact step s fr H hi fun a fr' H' _ hl=>absurd hl (by omega)
  | succ n ih=>
    intro s fr H hm hi
    rw [XI]
    exact step s fr H hi fun a fr' H' hi' hl=>ih a fr' H' (by omega) hi'
 exact key _ s fr H (Nd _) h0
theorem NP.mono {mp:Bool} {g:FuncId} {as:List Value} {Q Q':Value->NA->Prop} (h:NP E mp lim g as H Q) (a:∀v H',Q v H'->Q' v H'):NP E mp lim g as H Q':=by
 obtain ⟨n,L,h1,h2⟩:=h
 exact ⟨n,L,h1,h2.mono a⟩
theorem QC.mono {k:List AItem} {R':Value->NA->Prop} (h:QC E af lim k fr H R) (a:∀v H',R v H'->R' v H'):QC E af lim k fr H R':=by
 obtain ⟨n,L,h1,h2⟩:=h
 exact ⟨n,L,h1,h2.mono a⟩
theorem NL {k:List AItem} (h:QC E af lim k fr (H++[]) R):QC E af lim k fr H R:=by rwa [Nc] at h
theorem YA {k k':List AItem} {id:Nat} (h:Rs id k=Rs id k'):QC E af lim (.code (.exit id)::k) fr H R=QC E af lim (.code (.exit id)::k') fr H R:=by
 cases hk:Rs id k' with
 | some K'=>rw [Nfs (h.trans hk),Nfs hk]
 | none=>
   have key:∀{k:List AItem},Rs id k=none->¬QC E af lim (.code (.exit id)::k) fr H R:=by
    rintro k hk ⟨n,L,hx,_⟩
    cases n with
    | zero=>simp [OW] at hx
    | succ n=>rw [OW.eq_def] at hx;simp only [hk] at hx;cases hx
   exact propext ⟨fun q=>absurd q (key (h.trans hk)),fun q=>absurd q (key hk)⟩
theorem Ngh {id:Nat} {c:ACode}:QC E af lim (.code (.exit id)::.code c::K) fr H R=QC E af lim (.code (.exit id)::K) fr H R:=YA (by simp [Rs])
theorem Ngf {id:Nat} {c:ACode}:QC E af lim (.code (.exit id)::.inLoop c::K) fr H R=QC E af lim (.code (.exit id)::K) fr H R:=YA (by simp [Rs])
theorem Nfo {id a:Nat} (h:a≠id):QC E af lim (.code (.exit id)::.inBlock a::K) fr H R=QC E af lim (.code (.exit id)::K) fr H R:=YA (by simp [Rs,h])
theorem Ngg {id:Nat}:QC E af lim (.code (.exit id)::.inBlock id::K) fr H R=QC E af lim K fr H R:=Nfs (by simp [Rs])
def N4f (r:Option NA) (f:NA->Prop) (_:Bx f:=⟨⟩):Prop:=match r with | some H'=>f H' | none=>False
theorem Nnw {f:NA->Prop}:N4f (some H) f=f H:=rfl
theorem N1f:QC E af lim (.code .retM::K) fr H R=N4f (shut lim (marks K) H) fun H'=>Ru ((result fr H' af.results).map (·,H')) R:=by
 rw [Su (r:=match shut lim (marks K) H with | some H'=>(result fr H' af.results).map (·,H') | none=>none) fun n=>by rw [OW.eq_def];simp only;cases shut lim (marks K) H<;>rfl]
 cases shut lim (marks K) H<;>rfl
theorem Ntt:marks []=[]:=rfl
theorem No4 {c:ACode}:marks (.code c::K)=marks K:=rfl
theorem No3 {c:ACode}:marks (.inLoop c::K)=marks K:=rfl
theorem Nle {id:Nat}:marks (.inBlock id::K)=marks K:=rfl
theorem No2 {i:Nat}:marks (.mark i::K)=marks K++[i]:=rfl
theorem Mi:shut lim [] H=some H:=rfl
theorem YK {i:Nat} {l:List Nat} (h:NC H i=.dfr) (hl:lim<=i):shut lim (i::l) H=shut lim l (H.set i .dead):=by simp only [shut,h,Nh hl]
def Npv (i:Nat) (j:Option ACode) (H:NA) (b:Blk):Option (Value×NA):=match b with | .loop x=>some (.bool j.isNone,H.set i (.loop { x with st:=if j.isNone then 0 else 2,pend:=j })) | _=>none
theorem N3p {i st N:Nat} {p:Option ACode} {g:Nat->Value} {ps:List Nat} {a b:ACode}:Npv i none H (.loop ⟨st,p,g,N,ps,a,b⟩)=some (.bool true,H.set i (.loop ⟨0,none,g,N,ps,a,b⟩)):=rfl
theorem Nzt {i st N:Nat} {p:Option ACode} {g:Nat->Value} {ps:List Nat} {a b c:ACode}:Npv i (some c) H (.loop ⟨st,p,g,N,ps,a,b⟩)=some (.bool false,H.set i (.loop ⟨2,some c,g,N,ps,a,b⟩)):=rfl
theorem Xx {i:Nat} {j:Option ACode}:endRound i j H=Npv i j H (NC H i):=by unfold endRound Npv;cases NC H i<;>rfl
theorem Nvr {i:Nat} (hl:lim<=i):QC E af lim (.round i::K) fr H R=Ru (Npv i none H (NC H i)) R:=by
 rw [<-Xx];exact Su fun n=>by rw [OW.eq_def];simp only [Nh hl]
def N3x (b:Blk) (f:LoopB->Prop) (_:Bx f:=⟨⟩):Prop:=match b with | .loop x=>if x.st=0 then f x else False | _=>False
theorem Nvg {N:Nat} {p:Option ACode} {g:Nat->Value} {ps:List Nat} {a b:ACode} {f:LoopB->Prop}:N3x (.loop ⟨0,p,g,N,ps,a,b⟩) f=f ⟨0,p,g,N,ps,a,b⟩:=by simp [N3x]
theorem Nvx {i:Nat} (hl:lim<=i):QC E af lim (.begin i::K) fr H R=N3x (NC H i) fun x=>QC E af lim K fr (H.set i (.loop { x with st:=1 })) R:=by
 unfold N3x
 have a:(∀n,OW E (n+1) af lim (.begin i::K) fr H=none)->QC E af lim (.begin i::K) fr H R=False:=fun h=>by rw [Su (r:=none) fun n=>(h n).trans rfl];rfl
 cases hb:NC H i with
 | loop x=>
   simp only
   split
   ·rename_i hs
    exact QC.succ fun n=>by rw [OW.eq_def];simp only [hb,Nh (And.intro hs hl)]
   ·rename_i hs
    exact a fun n=>by rw [OW.eq_def];simp only [hb,hs,false_and,if_false]
 | _=>exact a fun n=>by rw [OW.eq_def];simp only [hb]
theorem Nvs {k:List AItem} (h:∀n,OW E (n+1) af lim k fr H=none):QC E af lim k fr H R=False:=by rw [Su (r:=none) fun n=>(h n).trans rfl];rfl
theorem Y9 {k k':List AItem} (h:roundOf k=roundOf k'):QC E af lim (.code .retR::k) fr H R=QC E af lim (.code .retR::k') fr H R:=by
 rw [Su (r:=match roundOf k with | some i=>if lim<=i then endRound i (some .retM) H else none | none=>none) fun n=>by rw [OW.eq_def];simp only;cases roundOf k with | none=>rfl | some i=>simp only;split<;>rfl,
  Su (k:=.code .retR::k') (r:=match roundOf k' with | some i=>if lim<=i then endRound i (some .retM) H else none | none=>none) fun n=>by rw [OW.eq_def];simp only;cases roundOf k' with | none=>rfl | some i=>simp only;split<;>rfl,h]
theorem Nge {c:ACode}:QC E af lim (.code .retR::.code c::K) fr H R=QC E af lim (.code .retR::K) fr H R:=Y9 rfl
theorem Ngd {c:ACode}:QC E af lim (.code .retR::.inLoop c::K) fr H R=QC E af lim (.code .retR::K) fr H R:=Y9 rfl
theorem Nfn {id:Nat}:QC E af lim (.code .retR::.inBlock id::K) fr H R=QC E af lim (.code .retR::K) fr H R:=Y9 rfl
theorem Nfm {i:Nat} (hl:lim<=i):QC E af lim (.code .retR::.round i::K) fr H R=Ru (Npv i (some .retM) H (NC H i)) R:=by
 rw [<-Xx];exact Su fun n=>by rw [OW.eq_def];simp only [roundOf,Nh hl]
theorem XJ {k k':List AItem} {id:Nat} (h:Rs id k=Rs id k') (h2:roundOf k=roundOf k'):QC E af lim (.code (.exitR id)::k) fr H R=QC E af lim (.code (.exitR id)::k') fr H R:=by
 cases hk:Rs id k' with
 | some K'=>
   exact (QC.succ (k1:=K') (fr1:=fr) (H1:=H) fun n=>by rw [OW.eq_def];simp only [h.trans hk]).trans (QC.succ fun n=>by rw [OW.eq_def];simp only [hk]).symm
 | none=>
   rw [Su (r:=match roundOf k with | some i=>if lim<=i then endRound i (some (.exit id)) H else none | none=>none) fun n=>by rw [OW.eq_def];simp only [h.trans hk];cases roundOf k with | none=>rfl | some i=>simp only;split<;>rfl,
    Su (k:=.code (.exitR id)::k') (r:=match roundOf k' with | some i=>if lim<=i then endRound i (some (.exit id)) H else none | none=>none) fun n=>by rw [OW.eq_def];simp only [hk];cases roundOf k' with | none=>rfl | some i=>simp only;split<;>rfl,h2]
theorem Nfr {id:Nat} {c:ACode}:QC E af lim (.code (.exitR id)::.code c::K) fr H R=QC E af lim (.code (.exitR id)::K) fr H R:=XJ (by simp [Rs]) rfl
theorem Nfp {id:Nat} {c:ACode}:QC E af lim (.code (.exitR id)::.inLoop c::K) fr H R=QC E af lim (.code (.exitR id)::K) fr H R:=XJ (by simp [Rs]) rfl
theorem Ncq {id a:Nat} (h:a≠id):QC E af lim (.code (.exitR id)::.inBlock a::K) fr H R=QC E af lim (.code (.exitR id)::K) fr H R:=XJ (by simp [Rs,h]) rfl
theorem Nfq {id:Nat}:QC E af lim (.code (.exitR id)::.inBlock id::K) fr H R=QC E af lim K fr H R:=QC.succ fun n=>by rw [OW.eq_def];simp [Rs]
theorem Ncp {id i:Nat} (hl:lim<=i):QC E af lim (.code (.exitR id)::.round i::[]) fr H R=Ru (Npv i (some (.exit id)) H (NC H i)) R:=by
 rw [<-Xx];exact Su fun n=>by rw [OW.eq_def];simp only [Rs,roundOf,Nh hl]
def Yh (x:LoopB):List AItem:=match x.pend with | none=>[] | some c=>[.code c]
theorem Noa {st N:Nat} {g:Nat->Value} {ps:List Nat} {a b:ACode}:Yh ⟨st,none,g,N,ps,a,b⟩=[]:=rfl
theorem Nn9 {st N:Nat} {g:Nat->Value} {ps:List Nat} {a b c:ACode}:Yh ⟨st,some c,g,N,ps,a,b⟩=[.code c]:=rfl
def N6h (c:Option ((FuncId ⊕ Nat)×List Value)) (f:FuncId->List Value->Prop) (_:Bx f:=⟨⟩):Prop:=match c with | some (.inl g,as)=>f g as | _=>False
theorem Nva {g:FuncId} {as:List Value} {f:FuncId->List Value->Prop}:N6h (some (.inl g,as)) f=f g as:=rfl
def XQ (b:Blk) (f:LoopB->Prop) (_:Bx f:=⟨⟩):Prop:=match b with | .loop x=>if x.st=1 then False else f x | _=>False
theorem Nzs {N:Nat} {p:Option ACode} {g:Nat->Value} {ps:List Nat} {a b:ACode} {f:LoopB->Prop}:XQ (.loop ⟨0,p,g,N,ps,a,b⟩) f=f ⟨0,p,g,N,ps,a,b⟩:=by simp [XQ]
theorem N56 {N:Nat} {p:Option ACode} {g:Nat->Value} {ps:List Nat} {a b:ACode} {f:LoopB->Prop}:XQ (.loop ⟨2,p,g,N,ps,a,b⟩) f=f ⟨2,p,g,N,ps,a,b⟩:=by simp [XQ]
theorem Nut {x:LoopB} {f:LoopB->Prop} (h:x.st≠1):XQ (.loop x) f=f x:=by simp [XQ,h]
theorem Npu {b b':Blk} {f:LoopB->Prop} (h:b=b'):XQ b f=XQ b' f:=by rw [h]
theorem Nm6 {f:Operand} {ps:List Nat} {a b:ACode} {g:FuncId} {as:List Value} (hc:NF (ev fr f) [.func (.yield (H.length+1)) #[] #[]] = some (.inl g,as)) :
  QC E af lim (.code (.rangeF f ps a b)::K) fr H R=NP E false lim g as (H++[.dfr,.loop ⟨0,none,fr,af.ntmps,ps,a,b⟩]) fun _ P=>
   XQ (NC P (H.length+1)) fun x=>QC E af lim (Yh x++(K++[.mark H.length])) fr (P.set (H.length+1) .dead) R:=by
 let F:=fun (n:Nat) (r:Value×NA)=>match NC r.2 (H.length+1) with
  | .loop x=>if x.st=1 then none else OW E n af lim ((match x.pend with | none=>[] | some c=>[AItem.code c])++(K++[AItem.mark H.length])) fr (r.2.set (H.length+1) .dead)
  | _=>none
 have G:∀n r s,F n r=some s->∃x,NC r.2 (H.length+1)=.loop x/\x.st≠1/\OW E n af lim (Yh x++(K++[.mark H.length])) fr (r.2.set (H.length+1) .dead)=some s:=fun n r s h=>by
  simp only [F] at h
  split at h
  case h_2=>cases h
  rename_i x v
  split at h
  ·cases h
  rename_i j
  exact ⟨x,v,j,h⟩
 have p:∀n r x s,NC r.2 (H.length+1)=.loop x->x.st≠1->OW E n af lim (Yh x++(K++[.mark H.length])) fr (r.2.set (H.length+1) .dead)=some s->F n r=some s:=fun n r x s v j h=>by
  simp only [F,v,Ng j]
  exact h
 have A:∀n r s,F n r=some s->s≠[]:=fun n r s h=>by
  obtain ⟨x,_,_,h⟩:=G n r s h
  exact YY E _ _ _ _ _ _ _ h
 have d:∀{n m r s},n<=m->F n r=some s->F m r=some s:=fun {n m r s} I h=>by
  obtain ⟨x,h1,h2,D⟩:=G n r s h
  exact p m r x s h1 h2 (V9 E I D)
 have k:∀n,OW E (n+1) af lim (.code (.rangeF f ps a b)::K) fr H=match QO E (OW E n) false lim (.inl g) as (H++[.dfr,.loop ⟨0,none,fr,af.ntmps,ps,a,b⟩]) with
   | some L=>Tp (F n) L
   | none=>none:=fun n=>by rw [OW.eq_def];simp only [hc];rfl
 apply propext
 constructor
 ·rintro ⟨n,L,hx,hr⟩
  cases n with
  | zero=>simp [OW] at hx
  | succ n=>
  rw [k] at hx
  split at hx
  case h_2=>cases hx
  rename_i L0 i
  refine ⟨n,L0,i,fun hd=>?_,fun r hr'=>?_⟩
  ·obtain ⟨y,C⟩:=hr.1 hd
   exact YX hx (fun x _ s hs=>A n x s hs) C
  ·obtain ⟨s,hs,B⟩:=UG hx r hr'
   obtain ⟨x,h1,h2,D⟩:=G n r s hs
   rw [h1,Nut h2]
   refine ⟨n,s,D,fun hd=>?_,fun q J=>hr.2 q (B q J)⟩
   obtain ⟨y,C⟩:=hr.1 hd
   obtain ⟨z,O⟩:=YX hx (fun x _ s hs=>A n x s hs) C
   subst O
   rw [Nl] at hr'
   subst hr'
   simp only [Tp,hs,Option.some.injEq,Nc] at hx
   exact ⟨y,hx.trans C⟩
 ·rintro ⟨n,L0,i,hd,h2⟩
  have u:∃N,∀r∈L0,∃s,F N r=some s/\Nai E.dt s R:=by
   clear hd i
   induction L0 with
   | nil=>exact ⟨0,fun r hr=>by cases hr⟩
   | cons y L0 ih=>
     obtain ⟨N,t⟩:=ih fun r hr=>h2 r (by simp [hr])
     have hk:=h2 y (by simp)
     simp only [XQ] at hk
     split at hk
     case h_2=>exact hk.elim
     rename_i x v
     split at hk
     ·exact hk.elim
     rename_i j
     obtain ⟨m,s,hx,hr⟩:=hk
     refine ⟨max N m,fun r hr'=>?_⟩
     rcases Nn.1 hr' with rfl | hr'
     ·exact ⟨s,d (Pi N m) (p m r x s v j hx),hr⟩
     ·obtain ⟨Q,S,T⟩:=t r hr'
      exact ⟨Q,d (P8 N m) S,T⟩
  obtain ⟨N,t⟩:=u
  have e:QO E (OW E (max n N)) false lim (.inl g) as (H++[.dfr,.loop ⟨0,none,fr,af.ntmps,ps,a,b⟩])=some L0:=Uy E (P8 n N) _ _ _ _ _ _ i
  obtain ⟨L,hL⟩:=XE (f:=F (max n N)) (l:=L0) fun r hr=>by
   obtain ⟨s,hs,_⟩:=t r hr
   exact ⟨s,d (Pi n N) hs⟩
  refine ⟨max n N+1,L,by rw [k,e];exact hL,fun w=>?_,fun q J=>?_⟩
  ·obtain ⟨y,rfl⟩:=hd w
   obtain ⟨s,hs,ho⟩:=t y (by simp)
   have o:=d (Pi n N) hs
   simp only [Tp,o,Option.some.injEq,Nc] at hL
   obtain ⟨z,O⟩:=ho.1 w
   exact ⟨z,by rw [<-hL,O]⟩
  ·obtain ⟨r,hr,s,hs,M⟩:=UH hL q J
   obtain ⟨Q,o,ho⟩:=t r hr
   have:=d (Pi n N) o
   rw [hs] at this
   cases this
   exact ho.2 q M
theorem Nqt {f:Operand} {ps:List Nat} {a b:ACode} :
  QC E af lim (.code (.rangeF f ps a b)::K) fr H R=N6h (NF (ev fr f) [.func (.yield (H.length+1)) #[] #[]]) fun g as=>NP E false lim g as (H++[.dfr,.loop ⟨0,none,fr,af.ntmps,ps,a,b⟩]) fun _ c=>
   XQ (NC c (H.length+1)) fun x=>QC E af lim (Yh x++(K++[.mark H.length])) fr (c.set (H.length+1) .dead) R:=by
 unfold N6h
 split
 ·rename_i g as hc;exact Nm6 hc
 ·rename_i hc
  refine Nvs fun n=>?_
  rw [OW.eq_def]
  simp only
theorem Ws.det {mp:Bool} {i:Nat} {as:List Value} {Q:Value->NA->Prop} {n:Nat} {v:Value} {H':NA} (h:Rl E n mp lim (.inr i) as H=some [(v,H')]):Ws E mp lim i as H Q=Q v H':=by
 rw [<-Nhv,VV.all h,U0]
theorem Ws.mono {mp:Bool} {i:Nat} {as:List Value} {Q Q':Value->NA->Prop} (h:Ws E mp lim i as H Q) (a:∀v H',Q v H'->Q' v H'):Ws E mp lim i as H Q':=by
 obtain ⟨n,L,h1,h2⟩:=h
 exact ⟨n,L,h1,h2.mono a⟩
theorem Xb {i:Nat} {as:List Value} {Q:Value->NA->Prop} {x:LoopB} (b:NC H i=.loop x) (hl:lim<=i) (a:as.length=x.params.length) (hp:(x.params.all (·<x.N))=true) :
  Ws E false lim i as H Q=QC E ⟨x.N,[],.skip⟩ lim [.code x.assign,.begin i,.code x.body,.round i] (SK x.fr x.params as) H Q:=by
 unfold Ws QC Rl QO
 simp only [b,Nh (And.intro hl (And.intro a hp)),Nz,if_false]
theorem OD {c a:ACode} (h:c=a):QC E af lim (.code c::K) fr H R=QC E af lim (.code a::K) fr H R:=by rw [h]
theorem Niu {b o:Nat} {s:Option Nat}:AM.loadCell H ⟨b,o,s⟩=(match NC H b with | .cells _ c=>c[o]? | _=>none):=rfl
theorem QA {b o n:Nat} {s:Option Nat}:AM.loadCells H ⟨b,o,s⟩ n=(match NC H b with | .cells _ c=>if o+n<=c.length then some ((c.drop o).take n) else none | _=>none):=rfl
theorem UU {b o:Nat} {s:Option Nat} {vs:List Value}:AM.storeAt lim H ⟨b,o,s⟩ vs=(match NC H b with | .cells false c=>if lim<=b/\o+vs.length<=c.length then some (H.set b (.cells false (QW c o vs))) else none | _=>none):=rfl
theorem NP.eq {mp:Bool} {g:FuncId} {as:List Value} {Q:Value->NA->Prop} {v:Value} {H':NA} (h:NP E mp lim g as H fun v' H1=>v'=v/\H1=H'):NP E mp lim g as H Q=Q v H':=by
 obtain ⟨n,L,h1,h2⟩:=h
 rw [<-Nbk,VV.all h1]
 have c:=Nm3 E h1
 obtain ⟨x,hx⟩:=Q8 _ c
 have e:∀r∈L,r=(v,H'):=fun r hr=>by
  obtain ⟨a,b⟩:=h2.2 r hr
  exact Prod.ext a b
 apply propext
 constructor
 ·intro h
  have:=h.2 x hx
  rw [e x hx] at this
  exact this
 ·exact fun d=>⟨h2.1,fun r hr=>by rw [e r hr];exact d⟩
end
section
variable {p q:Prop} {t b:Bool}
theorem Njp:T9 undef b p q=q:=by unfold undef T9;rfl
theorem Nrv:T9 (.bool (!t)) b p q=T9 (.bool t) (!b) p q:=by cases t<;>cases b<;>simp [T9]
theorem Nu1:Ne2 (.bool (!t)) p q=Ne2 (.bool t) q p:=by cases t<;>rfl
end
theorem NW {a b:Nat}:((a:Int)<(b:Int))=(a<b):=by simp
theorem Nlw {a b:Nat}:((a:Int)<=(b:Int))=(a<=b):=by simp
theorem Nlv {a:Nat}:((0:Int)<(a:Int))=(0<a):=by simp
theorem NN {n:Int} (h1:-2 ^ 63<=n) (h2:n<2 ^ 63):IntKind.i64.wrap n=n:=by
 by_cases h:0<=n
 ·have h1:n % 2 ^ 64=n:=Re h (by omega)
  simp only [IntKind.wrap,IntKind.bits,IntKind.signed,h1]
  rw [Ng (by simp;omega)]
 ·have h1:n % 2 ^ 64=n+2 ^ 64:=by
   rw [<-Int.add_emod_right,Re (by omega) (by omega)]
  simp only [IntKind.wrap,IntKind.bits,IntKind.signed,h1]
  rw [Nh (by simp;omega)]
  omega
theorem Ngj {n:Nat} (h:0<n) (h2:n<2 ^ 63):IntKind.i64.wrap ((n:Int)-1)=((n-1:Nat):Int):=by rw [NN (by omega) (by omega)];omega
theorem Nph {H:NA} {b:Nat} (h:isCells (NC H b)=true):∃ro,NC H b=.cells ro (cellsOf (NC H b)):=by
 cases hb:NC H b with
 | cells ro c=>exact ⟨ro,by simp [cellsOf]⟩
 | _=>rw [hb] at h;simp [isCells] at h
theorem Sl.lit {α:Type} {H:NA} {enc:α->List Value} {e b:Nat} {l:List α} (he:∀x,(enc x).length=e) (h:isCells (NC H b)=true) (hc:cellsOf (NC H b)=l.flatMap enc):Sl H enc e (some ⟨b,0,none⟩) l:=by
 obtain ⟨ro,h1⟩:=Nph h
 refine ⟨rfl,fun _=>⟨ro,_,h1, ?_, ?_⟩⟩
 ·rw [hc,PK he];simp
 ·rw [hc,Ox,Og (by rw [PK he];exact Nd _)]
theorem Nmq {a:Option Addr} {n c:Nat}:(Value.slice a n c).cells=#[.slice a n c]:=rfl
theorem Nu6 {a:Option Addr}:(Value.pointer a).cells=#[.pointer a]:=rfl
theorem Nu5 {s:ByteArray}:(Value.string s).cells=#[.string s]:=rfl
theorem Oa2 {v:Value}:(#[v]:Array Value).toList=[v]:=rfl
theorem N7e {v:Value}:(#[v]:Array Value).size=1:=rfl
theorem Nu7 {a:Option Nat}:(Value.map a).cells=#[.map a]:=rfl
theorem cells_func {f:Fn} {a b:Array Value}:(Value.func f a b).cells=#[.func f a b]:=rfl
theorem Nma {off:Nat} {a:Option Addr} {n m:Nat} {c:List Value} (h:off<c.length):VK off 1 (.slice a n m) c=some (c.set off (.slice a n m)):=VC rfl rfl h
theorem Nup {off:Nat} {a:Option Addr} {c:List Value} (h:off<c.length):VK off 1 (.pointer a) c=some (c.set off (.pointer a)):=VC rfl rfl h
theorem Nuo {off:Nat} {a:ByteArray} {c:List Value} (h:off<c.length):VK off 1 (.string a) c=some (c.set off (.string a)):=VC rfl rfl h
theorem Nuq {off:Nat} {a:Option Nat} {c:List Value} (h:off<c.length):VK off 1 (.map a) c=some (c.set off (.map a)):=VC rfl rfl h
theorem N7v:List.replicate 4 Blk.dead=[.dead,.dead,.dead,.dead]:=rfl
theorem N7u:List.replicate 5 Blk.dead=[.dead,.dead,.dead,.dead,.dead]:=rfl
theorem N7t:List.replicate 6 Blk.dead=[.dead,.dead,.dead,.dead,.dead,.dead]:=rfl
theorem N7s:List.replicate 7 Blk.dead=[.dead,.dead,.dead,.dead,.dead,.dead,.dead]:=rfl
theorem N7r:List.replicate 8 Blk.dead=[.dead,.dead,.dead,.dead,.dead,.dead,.dead,.dead]:=rfl
theorem N7q:List.replicate 9 Blk.dead=[.dead,.dead,.dead,.dead,.dead,.dead,.dead,.dead,.dead]:=rfl
theorem N5m:List.replicate 10 Blk.dead=[.dead,.dead,.dead,.dead,.dead,.dead,.dead,.dead,.dead,.dead]:=rfl
theorem N5l:List.replicate 11 Blk.dead=[.dead,.dead,.dead,.dead,.dead,.dead,.dead,.dead,.dead,.dead,.dead]:=rfl
theorem N5k:List.replicate 12 Blk.dead=[.dead,.dead,.dead,.dead,.dead,.dead,.dead,.dead,.dead,.dead,.dead,.dead]:=rfl
theorem Nms:bytesOf []=some []:=rfl
theorem Njc {n:Int} {l:List Value}:bytesOf (.int .u8 n::l)=(bytesOf l).map (UInt8.ofNat n.toNat::·):=by
 simp only [bytesOf];cases bytesOf l<;>rfl
theorem Nlx {a b:Nat}:((a:Int)=(b:Int))=(a=b):=propext Int.ofNat_inj
theorem Nkd {v:Value} {c vs:List Value}:∀{o:Nat},QW (v::c) (o+1) vs=v::QW c o vs:=by
 induction vs generalizing c with
 | nil=>intro o;rfl
 | cons u vs ih=>intro o;rw [Ua,Ua,Q2];exact ih
theorem NM {l:List Value} {n:Nat} (h:l.length=n):l.take n=l:=by subst h;exact Ol
theorem Nk9 {n:Nat}:((n:Int)<0)=False:=by simp
theorem NH {c vs:List Value} (h:vs.length=c.length):QW c 0 vs=vs:=by
 have key:∀(vs c pre:List Value),vs.length=c.length->QW (pre++c) pre.length vs=pre++vs:=by
  intro vs
  induction vs with
  | nil=>intro c pre h;have:c=[]:=List.length_eq_zero_iff.1 h.symm;subst this;rfl
  | cons v vs ih=>
    intro c pre h
    match c,h with
    | x::c,h=>
      rw [Ua]
      have e1:(pre++x::c).set pre.length v=(pre++[v])++c:=by simp
      rw [e1]
      have:=ih c (pre++[v]) (by simpa using h)
      rw [Ni] at this
      simp only [Nk,No,N5] at this
      rw [this];simp
 exact key vs c [] h
def N64 (v:Value) (H:NA):Option (Value×NA):=match v with
 | .slice none n _=>if n=0 then some (.string .empty,H) else none
 | .slice (some a) n _=>match loadCells H a n with
   | some cs=>match bytesOf cs with
     | some bs=>some (.string ⟨bs.toArray⟩,H)
     | none=>none
   | none=>none
 | _=>none
theorem Nvi {a:Addr} {n c:Nat} {H:NA}:N64 (.slice (some a) n c) H=(match AM.loadCells H a n with
  | some cs=>match bytesOf cs with
    | some bs=>some (.string ⟨bs.toArray⟩,H)
    | none=>none
  | none=>none):=rfl
theorem N2l {E:Env} {lim:Nat} {mask:List Nat} {fr:Nat->Value} {H:NA} {Q:Value->NA->Prop} {a:Operand}:oK E lim none none mask (.b2s a) fr H Q=Ru (N64 (ev fr a) H) Q:=OX rfl
theorem N2s {E:Env} {lim b:Nat} {dest:Option Nat} {mask:List Nat} {fr:Nat->Value} {H:NA} {Q:Value->NA->Prop} {a:Operand}:oK E lim (some b) dest mask (.b2s a) fr H Q=Ru (N64 (ev fr a) (NU b mask H)) fun v H'=>Q v (NS b mask H H'):=OO rfl
def unV:Operand->Value
 | .const v=>v
 | _=>undef
def Xg (e:Nat) (v:Value) (lo hi mx:Option Value):Option Value:=TJ e unV v (lo.map .const) (hi.map .const) (mx.map .const)
theorem Nvm {e:Nat} {ρ:Operand->Value} {v:Value} {lo hi mx:Option Operand}:TJ e ρ v lo hi mx=Xg e v (lo.map ρ) (hi.map ρ) (mx.map ρ):=by
 unfold Xg TJ
 cases v with
 | slice a n c=>cases lo<;>cases hi<;>cases mx<;>rfl
 | _=>rfl
def copyV (lim esz:Nat) (d x:Value) (H:NA):Option (Value×NA):=match d,lenOf x with
    | .slice base dl _,some sl=>match Uf H esz (min sl dl) x with
      | some cs=>match base with
        | some a=>if min sl dl=0 then some (.int .i64 0,H) else (storeAt lim H a cs).map (.int .i64 (min sl dl:Nat),·)
        | none=>if dl=0 then some (.int .i64 0,H) else none
      | none=>none
    | _,_=>none
theorem Nxb {E:Env} {lim e:Nat} {mask:List Nat} {fr:Nat->Value} {H:NA} {Q:Value->NA->Prop} {d x:Operand}:oK E lim none none mask (.copy e d x) fr H Q=Ru (copyV lim e (ev fr d) (ev fr x) H) Q:=OX rfl
theorem Nxo {E:Env} {lim b e:Nat} {dest:Option Nat} {mask:List Nat} {fr:Nat->Value} {H:NA} {Q:Value->NA->Prop} {d x:Operand}:oK E lim (some b) dest mask (.copy e d x) fr H Q=Ru (copyV lim e (ev fr d) (ev fr x) (NU b mask H)) fun v H'=>Q v (NS b mask H H'):=OO rfl
def Xh (n e:Nat) (v:Value) (lo hi mx:Option Value):Option Value:=match v with
 | .pointer (some a)=>match bounds unV n n (lo.map .const) (hi.map .const) (mx.map .const) with
   | some (l,h,m)=>if m<2 ^ 62 then some (.slice (some (if m=l then a else a.add (l*e))) (h-l) (m-l)) else none
   | none=>none
 | _=>none
theorem Nka {lim n e:Nat} {dest:Option Nat} {ρ:Operand->Value} {x:Operand} {lo hi mx:Option Operand} {H:NA}:NJ lim dest (.sliceA n e x lo hi mx) ρ H=(Xh n e (ρ x) (lo.map ρ) (hi.map ρ) (mx.map ρ)).map (·,H):=by
 have b:bounds unV n n ((lo.map ρ).map .const) ((hi.map ρ).map .const) ((mx.map ρ).map .const)=bounds ρ n n lo hi mx:=by
  cases lo<;>cases hi<;>cases mx<;>rfl
 simp only [NJ,Xh,b]
 cases ρ x with
 | pointer a=>
   cases a with
   | none=>rfl
   | some a=>
     simp only
     cases bounds ρ n n lo hi mx with
     | none=>rfl
     | some p=>
       obtain ⟨l,h,m⟩:=p
       simp only
       split<;>rfl
 | _=>rfl
theorem Noe {E:Env} {lim n e:Nat} {mask:List Nat} {fr:Nat->Value} {H:NA} {Q:Value->NA->Prop} {x:Operand} {lo hi mx:Option Operand}:oK E lim none none mask (.sliceA n e x lo hi mx) fr H Q=Ru ((Xh n e (ev fr x) (lo.map (ev fr)) (hi.map (ev fr)) (mx.map (ev fr))).map (·,H)) Q:=by
 rw [OX rfl,Nka]
theorem Non {E:Env} {lim b n e:Nat} {dest:Option Nat} {mask:List Nat} {fr:Nat->Value} {H:NA} {Q:Value->NA->Prop} {x:Operand} {lo hi mx:Option Operand}:oK E lim (some b) dest mask (.sliceA n e x lo hi mx) fr H Q=Ru ((Xh n e (ev fr x) (lo.map (ev fr)) (hi.map (ev fr)) (mx.map (ev fr))).map (·,NU b mask H)) fun v H'=>Q v (NS b mask H H'):=by
 rw [OO rfl,Nka]
def Nag (lim:Nat) (dest:Option Nat) (esz bytes:Nat) (str:Bool) (s x:Value) (H:NA):Option (Value×NA):=match s with
    | .slice none n c=>OU lim dest esz bytes str (.slice none n c) x H
    | .slice (some a) n c=>if c=loose esz\/c=n then OU lim dest esz bytes str (.slice (some a) n c) x H else none
    | _=>none
theorem Nkw {E:Env} {lim e b:Nat} {str:Bool} {mask:List Nat} {fr:Nat->Value} {H:NA} {Q:Value->NA->Prop} {s x:Operand}:oK E lim none none mask (.appendL e b str s x) fr H Q=Ru (Nag lim none e b str (ev fr s) (ev fr x) H) Q:=OX rfl
theorem Nk7 {E:Env} {lim e b' b:Nat} {str:Bool} {dest:Option Nat} {mask:List Nat} {fr:Nat->Value} {H:NA} {Q:Value->NA->Prop} {s x:Operand}:oK E lim (some b) dest mask (.appendL e b' str s x) fr H Q=Ru (Nag lim (dest.map (b+·)) e b' str (ev fr s) (ev fr x) (NU b mask H)) fun v H'=>Q v (NS b mask H H'):=OO rfl
theorem Ngc {lim e b n c:Nat} {str:Bool} {dest:Option Nat} {x:Value} {H:NA}:Nag lim dest e b str (.slice none n c) x H=OU lim dest e b str (.slice none n c) x H:=rfl
theorem Ngb {lim e b n c:Nat} {str:Bool} {dest:Option Nat} {x:Value} {H:NA} {a:Addr}:Nag lim dest e b str (.slice (some a) n c) x H=if c=loose e\/c=n then OU lim dest e b str (.slice (some a) n c) x H else none:=rfl
section
variable {α:Type}
def DH (enc:α->List Value) (G:NA) (B:Nat) (d:Array α):NA:=G.set B (.cells false (d.toList.flatMap enc))
variable [Inhabited α] {enc:α->List Value} {G X:NA} {B e i:Nat} {d:Array α} {p:Option Addr} {lim:Nat}
omit [Inhabited α] in
theorem N1o:(DH enc G B d).length=G.length:=by simp [DH]
omit [Inhabited α] in
theorem Njm (hB:B<G.length):NC (DH enc G B d++X) B=.cells false (d.toList.flatMap enc):=by
 rw [NI (by rw [N1o];exact hB)]
 exact Rw hB
omit [Inhabited α] in
theorem N47 (hp:p=some ⟨B,0,none⟩) (hB:B<G.length) (he:∀x,(enc x).length=e):Sl (DH enc G B d++X) enc e p d.toList:=by
 subst hp
 refine Sl.lit he ?_ ?_
 ·rw [Njm hB];rfl
 ·rw [Njm hB];rfl
omit [Inhabited α] in
theorem Nl5 (he:∀x,(enc x).length=e) (y:α):∀(l:List α) (i:Nat),i<l.length->QW (l.flatMap enc) (i*e) (enc y)=(l.set i y).flatMap enc:=by
 have key:∀(vs a b c:List Value) ,vs.length=b.length->QW (a++b++c) a.length vs=a++vs++c:=by
  intro vs
  induction vs with
  | nil=>intro a b c h;simp at h;have:b=[]:=List.length_eq_zero_iff.1 h.symm;subst this;rfl
  | cons v vs ih=>
    intro a b c h
    match b,h with
    | x::b,h=>
      rw [Ua]
      have e1:(a++x::b++c).set a.length v=(a++[v])++b++c:=by simp
      rw [e1]
      have:=ih (a++[v]) b c (by simpa using h)
      rw [Ni] at this
      simp only [Nk,No,N5] at this
      rw [this];simp
 intro l i hi
 have e1:l.flatMap enc=(l.take i).flatMap enc++enc l[i]++(l.drop (i+1)).flatMap enc:=by
  have e0:l=l.take i++l[i]::l.drop (i+1):=by rw [<-Ow hi,Qk]
  have:=P3 (List.flatMap enc) e0
  rw [Qi,Om] at this
  rw [this,Nq]
 have e2:(l.set i y).flatMap enc=(l.take i).flatMap enc++enc y++(l.drop (i+1)).flatMap enc:=by
  rw [List.set_eq_take_append_cons_drop,Nh hi];simp
 have e3:i*e=((l.take i).flatMap enc).length:=by rw [PK he,O6,P7 (by omega)]
 rw [e1,e2,e3]
 exact key _ _ _ _ (by rw [he,he])
omit [Inhabited α] in
theorem N8m (hp:p=some ⟨B,0,none⟩) (hB:B<G.length) (hl:lim<=B) (he:∀x,(enc x).length=e) (hi:i<d.size) {y:α}:AM.storeAt lim (DH enc G B d++X) (YV p e i) (enc y)=some (DH enc G B (d.setIfInBounds i y)++X):=by
 subst hp
 have h1:i*e+e<=d.size*e:=by
  have:=O8 e (Qw hi)
  rw [Pq] at this;exact this
 simp only [YV,addrOf,Pa,addr_add,UU,Njm hB,N5]
 rw [Nh ⟨hl,by rw [he,PK he];simpa using h1⟩,Nl5 he y _ _ (by simpa using hi)]
 congr 1
 rw [Qe _ _ (by rw [N1o];exact hB)]
 simp only [DH,List.set_set]
 congr 3
 simp
end
def SB:=And.intro @ne_eq.{1} (And.intro @if_true.{1} (And.intro @if_false.{1} (And.intro @dite_true.{1} (And.intro @dite_false.{1} (And.intro @N33 (And.intro @Nv6 (And.intro @Nv9 (And.intro @Nv7 (And.intro @Nv8 (And.intro @N0c (And.intro @N0d (And.intro @N27 (And.intro @N26 (And.intro @N2v (And.intro @Neq (And.intro @Nf6 (And.intro @Npo (And.intro @Nur (And.intro @Npn (And.intro @Nus (And.intro @Nnx (And.intro @Ua (And.intro @N1g (And.intro @Ngh (And.intro @Ngf (And.intro @Nfo (And.intro @Ngg (And.intro @N1e (And.intro @Nvw (And.intro @Nnb (And.intro @N1h (And.intro @N68 (And.intro @N69 (And.intro @false_and (And.intro @and_false (And.intro @Nm9 (And.intro @N34 (And.intro @decide_true (And.intro @N3g (And.intro @N3f (And.intro @N5n (And.intro @N2h (And.intro @N5q (And.intro @N5o (And.intro @N7x (And.intro @N2k (And.intro @Nxe (And.intro @N5p (And.intro @Nxd (And.intro @Nf2 (And.intro @Nxa (And.intro @Nw9 (And.intro @Nw8 (And.intro @Nkp (And.intro @Nig (And.intro @Ns5 (And.intro @Ns4 (And.intro @Nku (And.intro @Nkt (And.intro @N2j (And.intro @Ns3 (And.intro @Nsy (And.intro @Nko (And.intro @Ns1 (And.intro @Nks (And.intro @Ns2 (And.intro @N2i (And.intro @Ns7 (And.intro @Noj (And.intro @Nsz (And.intro @Nif (And.intro @Nog (And.intro @Ns0 (And.intro @Nkq (And.intro @Nf1 (And.intro @Nie (And.intro @Ns6 (And.intro @Nxc (And.intro @Nkr (And.intro @Noi (And.intro @Nw7 (And.intro @Nof (And.intro @N5r (And.intro @N2o (And.intro @N5u (And.intro @N5s (And.intro @N70 (And.intro @N2r (And.intro @Nxr (And.intro @N5t (And.intro @Nxq (And.intro @Nf4 (And.intro @Nxn (And.intro @Nxm (And.intro @Nxk (And.intro @Nxl (And.intro @Ntb (And.intro @Nta (And.intro @Nxj (And.intro @Ntc (And.intro @Nk0 (And.intro @Nim (And.intro @Ntk (And.intro @Ntj (And.intro @Nk5 (And.intro @Nk4 (And.intro @N2q (And.intro @Nti (And.intro @Ntd (And.intro @Nkz (And.intro @Ntg (And.intro @Nk3 (And.intro @Nth (And.intro @N2p (And.intro @Ntm (And.intro @Nos (And.intro @Nte (And.intro @Nik (And.intro @Nop (And.intro @Ntf (And.intro @Nk1 (And.intro @Nf3 (And.intro @Nij (And.intro @Ntl (And.intro @Nxp (And.intro @Nk2 (And.intro @Nor (And.intro @Nxi (And.intro @Noo (And.intro @N2u (And.intro @Nxw (And.intro @Nxu (And.intro @Nxs (And.intro @Nxt (And.intro @N2t (And.intro @Nxv (And.intro @Nkv (And.intro @Nk6 (And.intro @Noh (And.intro @Noq (And.intro @Nvb (And.intro @Nkl (And.intro @Nze (And.intro @Nuh (And.intro @N3h (And.intro @No7 (And.intro @No6 (And.intro @Npe (And.intro @Niz (And.intro @Nec (And.intro @Nsr (And.intro @N2a (And.intro @N20 (And.intro @Nx8 (And.intro @N5w (And.intro @Nbk (And.intro @Nhv (And.intro @N1f (And.intro @Ntt (And.intro @No4 (And.intro @No3 (And.intro @Nle (And.intro @No2 (And.intro @Mi (And.intro @YK (And.intro @Nnw (And.intro @Nvr (And.intro @Nvx (And.intro @Nvg (And.intro @N3p (And.intro @Nzt (And.intro @Nge (And.intro @Ngd (And.intro @Nfn (And.intro @Nfm (And.intro @Nfr (And.intro @Nfp (And.intro @Ncq (And.intro @Nfq (And.intro @Ncp (And.intro @Nva (And.intro @Nzs (And.intro @N56 (And.intro @Noa (And.intro @Nn9 (And.intro @Nqt (And.intro @List.map_cons.{0,0} (And.intro @List.map_nil.{0,0} (And.intro @Option.map_none.{0,0} (And.intro @Nx5 (And.intro @Nts (And.intro @Njw (And.intro @N2e (And.intro @Nw1 (And.intro @N2d (And.intro @Nsv (And.intro @Nvt (And.intro @Oo (And.intro @Nnj (And.intro @RD (And.intro @N54 (And.intro @Nzm (And.intro @N3i (And.intro @upd_same (And.intro @upd_ne (And.intro @not_false_eq_true (And.intro @Nw5 (And.intro @Option.map_some.{0,0} (And.intro @List.getD_cons_zero.{0} (And.intro @List.getD_cons_succ.{0} (And.intro @decide_false (And.intro @Nz (And.intro @not_true_eq_false (And.intro @and_true (And.intro @Rd (And.intro @NR (And.intro @NQ (And.intro @NI (And.intro @Nh1 (And.intro @Nwu (And.intro @List.set_cons_zero.{0} (And.intro @List.set_cons_succ.{0} (And.intro @List.append_assoc.{0} (And.intro @List.cons_append.{0} (And.intro @List.nil_append.{0} (And.intro @UU (And.intro @Niu (And.intro @QA (And.intro @Yu (And.intro @List.length_cons.{0} (And.intro @List.length_nil.{0} (And.intro @addr_add (And.intro @List.drop_zero.{0} (And.intro @List.drop_succ_cons.{0} (And.intro @List.take_succ_cons.{0} (And.intro @List.take_zero.{0} (And.intro @Nd (And.intro @Nat.le_add_right (And.intro @N5 (And.intro @Pd (And.intro @Nn0 (And.intro @Nn1 (And.intro @Nki (And.intro @Np6 (And.intro @Nzj (And.intro @Nun (And.intro @Nzk (And.intro @Nu9 (And.intro @Nu8 (And.intro @Nqb (And.intro @N0q (And.intro @N0p (And.intro @Option.some.injEq.{0} (And.intro @Prod.mk.injEq.{0,0} (And.intro @List.length_append.{0} (And.intro @List.getElem?_cons_zero.{0} (And.intro @List.getElem?_cons_succ.{0} (And.intro @Nat.lt_irrefl (And.intro @and_self (And.intro @NW (And.intro @Nlw (And.intro @Nrv (And.intro @Nu1 (And.intro @Q4 (And.intro @Bool.not_false (And.intro @Nat.le_add_right_of_le (And.intro @Nlv (And.intro @Njp (And.intro @Nt4 (And.intro @Nt3 (And.intro @Nl9 (And.intro @Yx (And.intro @TG (And.intro @Ncm (And.intro @Int.cast_ofNat_Int (And.intro @Nua (And.intro @N35 (And.intro @Nmq (And.intro @Nu6 (And.intro @Nu5 (And.intro @Nu7 (And.intro @cells_func (And.intro @Oa2 (And.intro @N7e (And.intro @Nma (And.intro @Nup (And.intro @Nuo (And.intro @Nuq (And.intro @Nk9 (And.intro @NH (And.intro @Option.isNone_none.{0} (And.intro @Option.isNone_some.{0} (And.intro @N7 (And.intro @NM (And.intro @Nkd (And.intro @N7v (And.intro @N7u (And.intro @N7t (And.intro @N7s (And.intro @N7r (And.intro @N7q (And.intro @N5m (And.intro @N5l (And.intro @N5k (And.intro @Njc (And.intro @Nms (And.intro @Nlx (And.intro @N2l (And.intro @N2s (And.intro @Nvi (And.intro @Nvm (And.intro @Nxb (And.intro @Nxo (And.intro @Noe (And.intro @Non (And.intro @Nkw (And.intro @Nk7 (And.intro @Ngc (@Ngb)))))))))))))))))))))))))))))))))))))))))))))))))))))))))))))))))))))))))))))))))))))))))))))))))))))))))))))))))))))))))))))))))))))))))))))))))))))))))))))))))))))))))))))))))))))))))))))))))))))))))))))))))))))))))))))))))))))))))))))))))))))))))))))))))))))))))))))))))))))))))))))))))))))))))))))))))))))))))))))))
theorem Nui {args:List Value} {t:Nat}:NE args t=args.getD t undef:=id rfl
def FB:=And.intro @upd_same (And.intro @upd_ne (And.intro @ne_eq.{1} (And.intro @not_false_eq_true (And.intro @Nui (And.intro @List.getD_cons_zero.{0} @List.getD_cons_succ.{0})))))
section
variable {G G' K:NA} {R:Nat} {b:Blk}
structure Mut (G G':NA) (R:Nat):Prop where
 len:G'.length=G.length
 other:∀j,j≠R->NC G' j=NC G j
theorem Mut.ext {H:NA} (h:Mut G G' R) (a:OM H G) (b:H.length<=R):OM H G':=by
 obtain ⟨Y,rfl⟩:=a
 refine ⟨G'.drop H.length, ?_⟩
 apply Pe
 ·have:=h.len;simp at this⊢;omega
 intro i h1 h2
 have hl:=h.len
 simp at hl
 by_cases hi:i<H.length
 ·rw [Qv hi]
  have:=h.other i (by omega)
  unfold NC at this
  rw [Na,Na,Nf h1,Nf (by simp;omega)] at this
  simp only [Pa] at this
  rw [this,Qv hi]
 ·rw [Q7 (by omega),Q9]
  congr 1
  omega
theorem Mut.cells (h:Mut G G' R) {j:Nat} {ro:Bool} {c:List Value} (b:NC G j=.cells ro c) (a:j≠R):NC G' j=.cells ro c:=by rw [h.other j a];exact b
theorem Mut.alive (h:Mut G G' R) {j:Nat} {B:Blk} (b:NC G j=B) (a:j≠R):NC G' j=B:=by rw [h.other j a];exact b
theorem Mut.sl {α:Type} {enc:α->List Value} {e:Nat} {p:Option Addr} {l:List α} (h:Mut G G' R) (hs:Sl G enc e p l) (hp:∀a,p=some a->l≠[]->a.block≠R):Sl G' enc e p l:=by
 cases p with
 | none=>exact hs
 | some a=>
   refine ⟨hs.1,fun hn=>?_⟩
   obtain ⟨ro,c,h2,b⟩:=hs.2 hn
   exact ⟨ro,c,h.cells h2 (hp a rfl hn),b⟩
theorem Ng6 (h:G'.length=G.length):(G'.length=G.length)/\(∀(X:NA) (j:Nat),NC (G'++X) (G.length+j)=X.getD j .dead)/\(∀X:NA,NC (G'++X) G.length=X.getD 0 .dead)/\
  (∀(X:NA) (j:Nat) b,(G'++X).set (G.length+j) b=G'++X.set j b)/\(∀(X:NA) b,(G'++X).set G.length b=G'++X.set 0 b):=by
 refine ⟨h,fun X j=>by rw [<-h];exact NR,fun X=>by rw [<-h];exact NQ,fun X j b=>?_,fun X b=>?_⟩
 ·rw [<-h,Qn _ _ (by omega)];simp
 ·rw [<-h,Qn _ _ (by omega)];simp
theorem OP (a:R<G.length) (b:Blk):∃G',(∀X:NA,(G++X).set R b=G'++X)/\NC G' R=b/\Mut G G' R:=
 ⟨G.set R b,fun X=>Qe _ _ a,Rw a,by simp,fun j c=>PS c⟩
end
def Own {α:Type} (lim:Nat) (G:NA) (enc:α->List Value) (e:Nat) (p:Option Addr) (cap:Nat) (l:List α):Prop:=
 (l=[]/\p=none/\cap=0)\/∃R,p=some ⟨R,0,none⟩/\cap=loose e/\NC G R=.cells false (l.flatMap enc)/\lim<=R
section
variable {α:Type} {lim e bytes cap:Nat} {G:NA} {enc:α->List Value} {p:Option Addr} {l m:List α}
theorem Own.nil:Own lim G enc e none 0 []:=.inl ⟨rfl,rfl,rfl⟩
theorem Own.app (h:Own lim G enc e p cap l) (X:NA):Own lim (G++X) enc e p cap l:=by
 rcases h with h | ⟨R,h1,h2,a,b⟩
 ·exact .inl h
 ·exact .inr ⟨R,h1,h2,by rw [NI (NG a)];exact a,b⟩
theorem Own.mut {G':NA} {R:Nat} (h:Own lim G enc e p cap l) (hm:Mut G G' R) (hp:∀a,p=some a->a.block≠R):Own lim G' enc e p cap l:=by
 rcases h with h | ⟨b,h1,h2,c,d⟩
 ·exact .inl h
 ·exact .inr ⟨b,h1,h2,hm.cells c (hp _ h1),d⟩
theorem Own.new {R:Nat} (a:NC G R=.cells false (l.flatMap enc)) (hl:lim<=R):Own lim G enc e (some ⟨R,0,none⟩) (loose e) l:=.inr ⟨R,rfl,rfl,a,hl⟩
theorem Own.sl (h:Own lim G enc e p cap l) (he:∀x,(enc x).length=e):Sl G enc e p l:=by
 rcases h with ⟨h1,h2,_⟩ | ⟨R,h1,h2,a,b⟩
 ·subst h1 h2;rfl
 ·subst h1;exact Sl.lit he (by rw [a];rfl) (by rw [a];rfl)
theorem Own.le (h:Own lim G enc e p cap l) {lim':Nat} (hl:lim'<=lim):Own lim' G enc e p cap l:=by
 rcases h with h | ⟨R,h1,h2,a,b⟩
 ·exact .inl h
 ·exact .inr ⟨R,h1,h2,a,by omega⟩
theorem Own.block (h:Own lim G enc e p cap l) {a:Addr} (ha:p=some a):lim<=a.block/\a.block<G.length:=by
 rcases h with ⟨h1,h2,b⟩ | ⟨R,h1,h2,b,c⟩
 ·rw [h2] at ha;cases ha
 ·rw [h1] at ha;cases ha;exact ⟨c,NG b⟩
theorem Sl.cells (hs:Sl G enc e p m) (hm:m≠[]):∃a,p=some a/\AM.loadCells G a (m.length*e)=some (m.flatMap enc):=by
 cases p with
 | none=>exact absurd hs hm
 | some a=>
   obtain ⟨k1,k2⟩:=hs
   obtain ⟨ro,cs,k3,b,c⟩:=k2 hm
   refine ⟨a,rfl, ?_⟩
   obtain ⟨d,f,as'⟩:=a
   simp only [QA]
   simp only at k3 b c
   simp only [k3]
   rw [Nh b,c]
theorem Own.push {lim':Nat} (h:Own lim G enc e p cap l) (s:lim'<=lim) (he:∀x,(enc x).length=e) (r:e≠0) (m:List α) (hm:m≠[]) (o:(l.length+m.length)*bytes<=PM) (hn:l.length+m.length<2 ^ 61) :
  ∃(G':NA) (R:Nat),(p=none->R=G.length)/\(∀a,p=some a->R=a.block)/\Mut G G' R/\(∀j,j≠R->NC G' j=NC G j)/\(∀H0:NA,OM H0 G->H0.length<=lim->OM H0 G')/\
   (∀(X:NA) (n:Option Addr) (k:Nat),Sl (G++X) enc e n m->OU lim' none e bytes false (.slice p l.length cap) (.slice n m.length k) (G++X)=some (.slice (some ⟨G.length+X.length,0,none⟩) (l.length+m.length) (loose e),G'++(X++[.cells false ((l++m).flatMap enc)]))):=by
 have f:¬m.length=0:=by intro q;exact hm (List.length_eq_zero_iff.1 q)
 rcases h with ⟨h1,h2,i⟩ | ⟨R,h1,h2,i,t⟩
 ·subst h1 h2 i
  refine ⟨G,G.length,fun _=>rfl,fun a h=>(by cases h),⟨rfl,fun j _=>rfl⟩,fun j _=>rfl,fun H0 h _=>h,fun X n k hx=>?_⟩
  obtain ⟨a,rfl,hl⟩:=hx.cells hm
  simp only [No,N5] at o hn
  simp only [OU,firstCells,lenOf,hl,f,if_false,Nz,No,N5]
  rw [Ng (by omega)]
  simp [place]
 ·subst h1 h2
  have c:=NG i
  refine ⟨G.set R .dead,R,fun h=>(by cases h),fun a h=>(by cases h;rfl),⟨by simp,fun j d=>PS d⟩,fun j d=>PS d,fun H0 h hl=>Mut.ext (R:=R) ⟨by simp,fun j d=>PS d⟩ h (by omega),fun X n k hx=>?_⟩
  obtain ⟨a,rfl,hl⟩:=hx.cells hm
  have b:NC (G++X) R=.cells false (l.flatMap enc):=by rw [NI c];exact i
  have g:AM.loadCells (G++X) ⟨R,0,none⟩ (l.length*e)=some (l.flatMap enc):=by
   simp only [QA,b,N5,PK he,Nd,if_true,Ox]
   rw [Og (by rw [PK he];exact Nd _)]
  simp only [OU,firstCells,lenOf,hl,g,b,f,if_false,Nz,if_true]
  rw [Ng (by unfold loose;omega)]
  simp [show lim'<=R by omega,place,Qe _ _ c,Nq]
theorem Own.push1 {lim':Nat} (h:Own lim G enc e p cap l) (d:lim'<=lim) (he:∀x,(enc x).length=e) (c:e≠0) (x:α) (i:(l.length+1)*bytes<=PM) (hn:l.length+1<2 ^ 61) :
  ∃(G':NA) (R:Nat),(p=none->R=G.length)/\(∀a,p=some a->R=a.block)/\Mut G G' R/\(∀H0:NA,OM H0 G->H0.length<=lim->OM H0 G')/\
   (∀(X:NA) (b k:Nat),NC (G++X) b=.cells false (enc x)->OU lim' none e bytes false (.slice p l.length cap) (.slice (some ⟨b,0,none⟩) 1 k) (G++X)=some (.slice (some ⟨G.length+X.length,0,none⟩) (l.length+1) (loose e),G'++(X++[.cells false ((l++[x]).flatMap enc)]))):=by
 obtain ⟨G',R,h1,h2,f,_,g,h5⟩:=h.push d he c [x] (by simp) (by simpa using i) (by simpa using hn)
 refine ⟨G',R,h1,h2,f,g,fun X b k hx=>?_⟩
 exact h5 X (some ⟨b,0,none⟩) k (Sl.lit he (by rw [hx];rfl) (by rw [hx];simp [cellsOf]))
def Wo (len cap:Nat) (lo hi mx:Option Value):Option (Nat×Nat×Nat):=bounds (fun o=>match o with | .const v=>v | _=>undef) len cap (lo.map .const) (hi.map .const) (mx.map .const)
theorem Nab {ρ:Operand->Value} {len cap:Nat} {lo hi mx:Option Operand}:bounds ρ len cap lo hi mx=Wo len cap (lo.map ρ) (hi.map ρ) (mx.map ρ):=by
 unfold Wo
 cases lo<;>cases hi<;>cases mx<;>rfl
theorem Nhp {n:Int} {m:Nat} {kk:IntKind} (h0:0<=n) (h:n<=(m:Int)):bound (.int kk n) m=some n.toNat:=by
 simp only [bound];rw [Nh ⟨h0,h⟩]
section
variable {len:Nat} {k1 k2 k3:IntKind} {l h x:Int}
theorem Njd (h0:0<=h) (h1:h<=(cap:Int)):Wo len cap none (some (.int k1 h)) none=some (0,h.toNat,cap):=by
 delta Wo bounds;simp only [Nr,Oh,Nhp h0 h1]
theorem Nqc (a:0<=l) (b:l<=(len:Int)):Wo len cap (some (.int k1 l)) none none=some (l.toNat,len,cap):=by
 delta Wo bounds;simp only [Nr,Oh,Nhp a b]
end
end
def hdC:ACode->ACode
 | .seq a _=>a
 | c=>c
def YF:ACode->ACode
 | .seq _ b=>b
 | _=>.skip
end Go.AM


namespace Go.Scan
structure Ev where
 (item place scanner kind at' seen time:Int)
 deriving DecidableEq,Inhabited
structure Mk where
 (scanner at' off:Int)
 deriving DecidableEq,Inhabited
def Vx:Int:=1051898399
def RG (e:Ev):Prop:=(1<=e.item/\e.item<=999999)/\(1<=e.place/\e.place<=999999)/\(1<=e.scanner/\e.scanner<=999999)/\(1<=e.kind/\e.kind<=4)/\(0<=e.at'/\e.at'<=Vx)/\(0<=e.seen/\e.seen<=Vx)
instance (e:Ev):Decidable (RG e):=by unfold RG;infer_instance
def QQ (S:List Ev):Prop:=S.length<=2000/\∀s∈S,RG s
instance (S:List Ev):Decidable (QQ S):=by unfold QQ;infer_instance
def RS:List Int->List Int->Int
 | a::x,b::y=>if a<b then -1 else if b<a then 1 else RS x y
 | _,_=>0
theorem Ng4:∀x,RS x x=0
 | []=>rfl
 | a::x=>by unfold RS;rw [Ng (by omega),Ng (by omega)];exact Ng4 x
theorem Nlo:∀x y,RS x y=-1\/RS x y=0\/RS x y=1
 | [],_=>by unfold RS;simp
 | _::_,[]=>by unfold RS;simp
 | a::x,b::y=>by
   unfold RS
   split
   ·simp
   split
   ·simp
   exact Nlo x y
theorem UX:∀x y,RS y x=- RS x y
 | [],y=>by cases y<;>rfl
 | a::x,[]=>rfl
 | a::x,b::y=>by
   have h:=UX x y
   unfold RS
   by_cases h1:a<b
   ·rw [Ng (by omega),Nh h1,Nh h1];rfl
   ·by_cases h2:b<a
    ·rw [Nh h2,Ng h1,Nh h2]
    ·rw [Ng h2,Ng h1,Ng h1,Ng h2];exact h
theorem Niv:∀x y,x.length=y.length->RS x y=0->x=y
 | [],[],_,_=>rfl
 | [],b::y,h,_=>by simp at h
 | a::x,[],h,_=>by simp at h
 | a::x,b::y,hl,h=>by
   unfold RS at h
   by_cases h1:a<b
   ·rw [Nh h1] at h;omega
   rw [Ng h1] at h
   by_cases h2:b<a
   ·rw [Nh h2] at h;omega
   rw [Ng h2] at h
   rw [Niv x y (by simpa using hl) h,show a=b by omega]
theorem Xp:∀x y z,x.length=y.length->y.length=z.length->RS x y<=0->RS y z<=0->RS x z<=0
 | [],_,_,_,_,_,_=>by unfold RS;simp
 | a::x,[],_,h,_,_,_=>by simp at h
 | a::x,b::y,[],_,h,_,_=>by simp at h
 | a::x,b::y,c::z,h1,h2,h3,h4=>by
   unfold RS at h3 h4⊢
   by_cases d:a<c
   ·rw [Nh d];omega
   rw [Ng d]
   by_cases g:a<b
   ·rw [Ng (show ¬b<c by omega),Nh (show c<b by omega)] at h4;omega
   rw [Ng g] at h3
   by_cases e:b<a
   ·rw [Nh e] at h3;omega
   rw [Ng e] at h3
   rw [Ng (show ¬b<c by omega)] at h4
   by_cases f:c<b
   ·rw [Nh f] at h4;omega
   rw [Ng f] at h4
   rw [Ng (show ¬c<a by omega)]
   exact Xp x y z (by simpa using h1) (by simpa using h2) h3 h4
section
variable {α:Type}
def Npg (k:α->List Int) (x:α):List α->List α
 | []=>[x]
 | y::l=>if RS (k y) (k x)<0 then y::Npg k x l else x::y::l
def U3 (k:α->List Int):List α->List α
 | []=>[]
 | x::l=>Npg k x (U3 k l)
theorem Nba (k:α->List Int) (x:α):∀l,(Npg k x l).Perm (x::l)
 | []=>.refl _
 | y::l=>by
   unfold Npg
   split
   ·exact ((Nba k x l).cons y).trans (.swap x y l)
   ·exact .refl _
theorem S9 (k:α->List Int):∀l,(U3 k l).Perm l
 | []=>.refl _
 | x::l=>(Nba k x _).trans ((S9 k l).cons x)
def Tk (k:α->List Int) (l:List α):Prop:=l.Pairwise fun a b=>RS (k a) (k b)<=0
theorem Nb5 {k:α->List Int} {n:Nat} (hn:∀x,(k x).length=n) (x:α):∀l,Tk k l->Tk k (Npg k x l)
 | [],_=>by unfold Npg;exact List.pairwise_singleton _ _
 | y::l,h=>by
   obtain ⟨h1,h2⟩:=List.pairwise_cons.mp h
   unfold Npg
   split
   ·rename_i hc
    refine List.pairwise_cons.mpr ⟨fun b hb=>?_,Nb5 hn x l h2⟩
    rcases Nn.mp ((Nba k x l).mem_iff.mp hb) with rfl | hb
    ·omega
    ·exact h1 b hb
   ·rename_i hc
    have a:RS (k x) (k y)<=0:=by rw [UX (k y) (k x)];omega
    refine List.pairwise_cons.mpr ⟨fun b hb=>?_,h⟩
    rcases Nn.mp hb with rfl | hb
    ·exact a
    ·exact Xp _ (k y) _ (by rw [hn,hn]) (by rw [hn,hn]) a (h1 b hb)
theorem Un {k:α->List Int} {n:Nat} (hn:∀x,(k x).length=n):∀l,Tk k (U3 k l)
 | []=>List.Pairwise.nil
 | x::l=>Nb5 hn x _ (Un hn l)
theorem Nid {k:α->List Int} {n:Nat} (hn:∀x,(k x).length=n) (hi:∀x y,k x=k y->x=y) {l l':List α} (h:Tk k l) (h':Tk k l') (hp:l.Perm l'):l=l':=
 List.Perm.eq_of_pairwise (le:=fun a b=>RS (k a) (k b)<=0) (fun a b _ _ h1 h2=>hi a b (Niv _ _ (by rw [hn,hn]) (by rw [UX (k a) (k b)] at h2;omega))) h h' hp
theorem Z7 {k:α->List Int} {n:Nat} (hn:∀x,(k x).length=n) (hi:∀x y,k x=k y->x=y) {l a:List α} (h:Tk k a) (hp:a.Perm l):a=U3 k l:=
 Nid hn hi h (Un hn l) (hp.trans (S9 k l).symm)
theorem Nj9 {k:α->List Int} {n:Nat} (hn:∀x,(k x).length=n) (hi:∀x y,k x=k y->x=y) {l a:List α} (hp:a.Perm l):U3 k a=U3 k l:=
 Z7 hn hi (Un hn a) ((S9 k a).trans hp)
end
def RU (s:Ev):Int×Int:=(s.scanner,s.seen / 1440)
def Zl (s:Ev):Mk:=⟨s.scanner,s.at',s.seen-s.at'⟩
def RV (m old:Mk):Prop:=m.off<old.off\/m.off=old.off/\m.at'<old.at'
instance (m old:Mk):Decidable (RV m old):=by unfold RV;infer_instance
def WP (k:Int×Int) (m:Mk):List ((Int×Int)×Mk)->List ((Int×Int)×Mk)
 | []=>[(k,m)]
 | (k',old)::l=>if k'=k then (k',m)::l else (k',old)::WP k m l
def Wx (k:Int×Int):List ((Int×Int)×Mk)->Option Mk
 | []=>none
 | (k',old)::l=>if k'=k then some old else Wx k l
def Sk (l:List ((Int×Int)×Mk)) (s:Ev):List ((Int×Int)×Mk):=
 match Wx (RU s) l with
 | none=>WP (RU s) (Zl s) l
 | some old=>if RV (Zl s) old then WP (RU s) (Zl s) l else l
def UC (S:List Ev):List ((Int×Int)×Mk):=S.foldl Sk []
def R7 (m:Mk):List Int:=[m.scanner,m.at',m.off]
theorem YS (m:Mk):(R7 m).length=3:=id rfl
theorem Ng9 (m n:Mk) (h:R7 m=R7 n):m=n:=by
 obtain ⟨a,b,c⟩:=m;obtain ⟨d,e,f⟩:=n
 simp only [R7,List.cons.injEq] at h
 obtain ⟨rfl,rfl,rfl,_⟩:=h
 rfl
def R4 (m p:Mk):Prop:=m.scanner=p.scanner/\m.at'=p.at'
instance (m p:Mk):Decidable (R4 m p):=by unfold R4;infer_instance
def U5 (p:Mk):List Mk->List Mk
 | []=>[]
 | m::l=>if R4 m p then U5 m l else m::U5 m l
def RO:List Mk->List Mk
 | []=>[]
 | m::l=>m::U5 m l
def QG (S:List Ev):List Mk:=RO (U3 R7 ((UC S).map (·.2)))
def MM (m:Mk):Prop:=1<=m.scanner/\m.scanner<=999999/\0<=m.at'/\m.at'<=Vx/\-Vx<=m.off/\m.off<=Vx
instance (m:Mk):Decidable (MM m):=by unfold MM;infer_instance
def ZW (a b:Mk):Prop:=a.scanner<b.scanner\/a.scanner=b.scanner/\a.at'<b.at'
instance (a b:Mk):Decidable (ZW a b):=by unfold ZW;infer_instance
def Za (l:List Mk):Prop:=(∀m∈l,MM m)/\l.Pairwise ZW
def Tn:Mk:=⟨0,0,0⟩
def Wd (t:Int):Mk->List Mk->Int
 | last,[]=>last.off
 | last,m::l=>if t > m.at' then Wd t m l else if last=Tn then m.off else last.off+(m.off-last.off)*(t-last.at') / (m.at'-last.at')
def ofN (M:List Mk) (sc:Int):List Mk:=M.filter fun m=>m.scanner == sc
def Ze (M:List Mk) (sc t:Int):Int:=Wd t Tn (ofN M sc)
def TW (M:List Mk) (s:Ev):Int:=min (max (s.at'+Ze M s.scanner s.at') 0) s.seen
def Sy (e:Ev):List Int:=[e.time,e.kind,e.place,e.scanner,e.item,e.at',e.seen]
theorem Na4 (e:Ev):(Sy e).length=7:=id rfl
theorem Nt2 (x y:Ev) (h:Sy x=Sy y):x=y:=by
 obtain ⟨a,b,c,d,e,f,g⟩:=x;obtain ⟨a',b',i,j,k,l,m⟩:=y
 simp only [Sy,List.cons.injEq] at h
 obtain ⟨rfl,rfl,rfl,rfl,rfl,rfl,rfl,_⟩:=h
 rfl
def RQ (M:List Mk) (S:List Ev):List Ev:=U3 Sy (S.map fun s=>{ s with time:=TW M s })
def QR (e:Ev):Int×Int×Int:=(e.item,e.place,e.kind)
def Vm (e:Ev) (kept:List Ev):Option Ev:=kept.find? fun x=>QR x == QR e
def XW (e:Ev) (kept:List Ev):Bool:=match Vm e kept with
 | none=>false
 | some x=>decide (e.time-x.time<=10)
def Sj:List Ev->List Ev->List Ev->List Ev×List Ev
 | kept,twice,[]=>(kept.reverse,twice.reverse)
 | kept,twice,e::l=>if XW e kept then Sj kept (e::twice) l else Sj (e::kept) twice l
def NY (S:List Ev):List Ev×List Ev:=Sj [] [] (RQ (QG S) S)
def Sv (l:List Ev) (item:Int):List Ev:=l.filter fun e=>item == 0||e.item == item
abbrev Es:=List ((Int×Int)×Mk)
theorem MH {k:Int×Int} {m:Mk}:∀{l:Es},Wx k l=some m->(k,m)∈l
 | [],h=>by cases h
 | (k',m')::l,h=>by
   unfold Wx at h
   by_cases hk:k'=k
   ·rw [Nh hk] at h;cases h;rw [hk];exact Nm
   ·rw [Ng hk] at h;exact Nj _ (MH h)
def ZV (l:Es):Prop:=(l.map (·.1)).Nodup
theorem Ni3 {k:Int×Int} {m:Mk}:∀{l:Es},ZV l->(k,m)∈l->Wx k l=some m
 | [],_,h=>by cases h
 | (k',m')::l,hn,h=>by
   have a:=List.nodup_cons.mp hn
   unfold Wx
   rcases Nn.mp h with h | h
   ·cases h;rw [Nh rfl]
   ·rw [Ng fun hk=>a.1 (by rw [hk];exact List.mem_map.mpr ⟨_,h,rfl⟩)]
    exact Ni3 a.2 h
theorem Ngv {k:Int×Int} {m:Mk}:∀{l:Es} {x},x∈(WP k m l).map (·.1)↔x=k\/x∈l.map (·.1)
 | [],x=>by simp [WP]
 | (k',m')::l,x=>by
   unfold WP
   by_cases hk:k'=k
   ·rw [Nh hk];subst hk;simp
   ·rw [Ng hk,N9,Nn,Ngv,N9,Nn]
    exact or_left_comm
theorem Ndu {k:Int×Int} {m:Mk}:∀{l:Es},ZV l->ZV (WP k m l)
 | [],_=>by simp [WP,ZV]
 | (k',m')::l,h=>by
   have h2:=List.nodup_cons.mp h
   unfold WP
   by_cases hk:k'=k
   ·rw [Nh hk];exact h
   ·rw [Ng hk]
    refine List.nodup_cons.mpr ⟨fun hc=>?_,Ndu h2.2⟩
    rcases Ngv.mp hc with hc | hc
    ·exact hk hc
    ·exact h2.1 hc
theorem Nek {k k':Int×Int} {m:Mk}:∀{l:Es},Wx k' (WP k m l)=if k'=k then some m else Wx k' l
 | []=>by
   unfold WP Wx
   by_cases h:k'=k
   ·rw [Nh h.symm,Nh h]
   ·rw [Ng fun q=>h q.symm,Ng h];rfl
 | (k2,m2)::l=>by
   unfold WP
   by_cases h2:k2=k
   ·rw [Nh h2]
    subst h2
    by_cases h:k'=k2
    ·rw [Nh h];unfold Wx;rw [Nh h.symm]
    ·rw [Ng h];unfold Wx;rw [Ng fun q=>h q.symm,Ng fun q=>h q.symm]
   ·rw [Ng h2]
    by_cases h:k2=k'
    ·have:¬k'=k:=fun q=>h2 (h.trans q)
     rw [Ng this];unfold Wx;rw [Nh h,Nh h]
    ·unfold Wx;rw [Ng h,Ng h];exact Nek
structure LeastOf (S:List Ev) (l:Es):Prop where
 nd:ZV l
 from':∀k m,Wx k l=some m->∃s∈S,RU s=k/\Zl s=m
 all:∀s∈S,∃m,Wx (RU s) l=some m/\¬RV (Zl s) m
theorem Nje {a b c:Mk} (h:¬RV a b) (h2:RV c b):¬RV a c:=by
 unfold RV at *;omega
theorem Nmu {a:Mk}:¬RV a a:=by unfold RV;omega
theorem LeastOf.add {S:List Ev} {l:Es} (h:LeastOf S l) (s:Ev):LeastOf (S++[s]) (Sk l s):=by
 have put:(∀m,Wx (RU s) l=some m->RV (Zl s) m)->LeastOf (S++[s]) (WP (RU s) (Zl s) l):=by
  intro a
  refine ⟨Ndu h.nd,fun k m hk=>?_,fun x hx=>?_⟩
  ·rw [Nek] at hk
   by_cases q:k=RU s
   ·rw [Nh q] at hk;cases hk;exact ⟨s,by simp,q.symm,rfl⟩
   ·rw [Ng q] at hk
    obtain ⟨y,b,h1,h2⟩:=h.from' k m hk
    exact ⟨y,Ov _ b,h1,h2⟩
  ·rw [Nek]
   rcases N0.mp hx with hx | hx
   ·obtain ⟨m,h1,h2⟩:=h.all x hx
    by_cases q:RU x=RU s
    ·rw [Nh q]
     rw [q] at h1
     exact ⟨_,rfl,Nje h2 (a m h1)⟩
    ·rw [Ng q];exact ⟨m,h1,h2⟩
   ·rw [Nl] at hx;subst hx
    rw [Nh rfl];exact ⟨_,rfl,Nmu⟩
 unfold Sk
 cases hg:Wx (RU s) l with
 | none=>exact put (by rw [hg];intro m h;cases h)
 | some old=>
   dsimp only
   by_cases a:RV (Zl s) old
   ·rw [Nh a];exact put (by rw [hg];intro m h;cases h;exact a)
   ·rw [Ng a]
    refine ⟨h.nd,fun k m hk=>?_,fun x hx=>?_⟩
    ·obtain ⟨y,b,h1,h2⟩:=h.from' k m hk
     exact ⟨y,Ov _ b,h1,h2⟩
    ·rcases N0.mp hx with hx | hx
     ·exact h.all x hx
     ·rw [Nl] at hx;subst hx
      exact ⟨old,hg,a⟩
theorem Nlq:∀(T S:List Ev) (l:Es),LeastOf S l->LeastOf (S++T) (T.foldl Sk l)
 | [],S,l,h=>by rw [Nc];exact h
 | s::T,S,l,h=>by
   have:=Nlq T (S++[s]) _ (h.add s)
   rw [Nq] at this
   exact this
theorem WS (S:List Ev):LeastOf S (UC S):=by
 have:=Nlq S [] [] ⟨by simp [ZV],fun k m h=>(by cases h),fun s h=>(O1 h).elim⟩
 exact this
theorem N71 {a b:Mk} (hs:a.scanner=b.scanner) (h1:¬RV a b) (h2:¬RV b a):a=b:=by
 obtain ⟨d,c,a3⟩:=a;obtain ⟨b1,b2,b3⟩:=b
 unfold RV at h1 h2
 simp only at hs h1 h2
 have e1:c=b2:=by omega
 have e2:a3=b3:=by omega
 rw [hs,e1,e2]
theorem LeastOf.get {S:List Ev} {l:Es} (h:LeastOf S l) {k:Int×Int} {m:Mk}:Wx k l=some m↔(∃s∈S,RU s=k/\Zl s=m)/\∀x∈S,RU x=k->¬RV (Zl x) m:=by
 constructor
 ·intro hk
  refine ⟨h.from' k m hk,fun x hx d=>?_⟩
  obtain ⟨f,h1,h2⟩:=h.all x hx
  rw [d,hk] at h1;cases h1;exact h2
 ·rintro ⟨⟨s,hs,rfl,rfl⟩,c⟩
  obtain ⟨f,h1,h2⟩:=h.all s hs
  obtain ⟨y,e,hk,rfl⟩:=h.from' _ _ h1
  rw [h1,N71 (a:=Zl s) (b:=Zl y) (P3 (·.1) hk.symm) h2 (c y e hk)]
theorem LeastOf.perm {S S':List Ev} {l l':Es} (h:LeastOf S l) (h':LeastOf S' l') (hm:∀s,s∈S↔s∈S'):l.Perm l':=by
 have nd:∀{l:Es},ZV l->l.Nodup:=fun h=>(List.pairwise_map.mp h).imp fun {a b} q e=>q (P3 _ e)
 refine (List.perm_ext_iff_of_nodup (nd h.nd) (nd h'.nd)).mpr fun ⟨k,m⟩=>?_
 have e:∀{S:List Ev} {l:Es},LeastOf S l->((k,m)∈l↔Wx k l=some m):=fun h=>⟨Ni3 h.nd,MH⟩
 rw [e h,e h',h.get,h'.get]
 simp only [hm]
theorem Nbg (p:Mk):∀l,(U5 p l).Sublist l
 | []=>.refl _
 | m::l=>by
   unfold U5
   split
   ·exact (Nbg m l).trans (List.sublist_cons_self _ _)
   ·exact (Nbg m l).cons_cons m
theorem Nx9 {a b:Mk} (h:RS (R7 a) (R7 b)<=0):ZW a b\/R4 b a/\a.off<=b.off:=by
 unfold R7 RS at h
 by_cases h1:a.scanner<b.scanner
 ·exact .inl (.inl h1)
 rw [Ng h1] at h
 by_cases h2:b.scanner<a.scanner
 ·rw [Nh h2] at h;omega
 rw [Ng h2] at h
 have e1:a.scanner=b.scanner:=by omega
 unfold RS at h
 by_cases c:a.at'<b.at'
 ·exact .inl (.inr ⟨e1,c⟩)
 rw [Ng c] at h
 by_cases d:b.at'<a.at'
 ·rw [Nh d] at h;omega
 rw [Ng d] at h
 unfold RS at h
 by_cases h5:a.off<b.off
 ·exact .inr ⟨⟨e1.symm,by omega⟩,by omega⟩
 rw [Ng h5] at h
 by_cases e:b.off<a.off
 ·rw [Nh e] at h;omega
 exact .inr ⟨⟨e1.symm,by omega⟩,by omega⟩
theorem Ng1 {a b c:Mk} (h:ZW a b) (h2:ZW b c):ZW a c:=by unfold ZW at *;omega
theorem Nlh {a b c:Mk} (h:ZW a b) (h2:R4 c b):ZW a c:=by unfold ZW R4 at *;omega
theorem Nmj:∀(l:List Mk) (p:Mk),Tk R7 (p::l)->(U5 p l).Pairwise ZW/\(∀x∈U5 p l,ZW p x)/\∀x∈l,R4 x p/\p.off<=x.off\/∃y∈U5 p l,R4 x y/\y.off<=x.off
 | [],p,_=>by simp [U5]
 | m::l,p,h=>by
   obtain ⟨h1,h2⟩:=List.pairwise_cons.mp h
   obtain ⟨d,c,e⟩:=Nmj l m h2
   have b:=Nx9 (h1 m Nm)
   unfold U5
   by_cases hs:R4 m p
   ·rw [Nh hs]
    have f:p.off<=m.off:=by
     rcases b with q | q
     ·unfold ZW at q;unfold R4 at hs;omega
     ·exact q.2
    refine ⟨d,fun x hx=>?_,fun x hx=>?_⟩
    ·have:=c x hx;unfold ZW at *;unfold R4 at hs;omega
    ·rcases Nn.mp hx with rfl | hx
     ·exact .inl ⟨hs,f⟩
     ·rcases e x hx with q | q
      ·refine .inl ⟨?_,by omega⟩
       have:=q.1;unfold R4 at *;omega
      ·exact .inr q
   ·rw [Ng hs]
    have a:ZW p m:=by
     rcases b with q | q
     ·exact q
     ·exact absurd q.1 hs
    refine ⟨List.pairwise_cons.mpr ⟨c,d⟩,fun x hx=>?_,fun x hx=>?_⟩
    ·rcases Nn.mp hx with rfl | hx
     ·exact a
     ·exact Ng1 a (c x hx)
    ·rcases Nn.mp hx with rfl | hx
     ·exact .inr ⟨x,Nm,⟨rfl,rfl⟩,Oj _⟩
     ·rcases e x hx with q | ⟨y,g,q⟩
      ·exact .inr ⟨m,Nm,q⟩
      ·exact .inr ⟨y,Nj _ g,q⟩
theorem Wn {l:List Mk} (h:Tk R7 l):(RO l).Pairwise ZW/\(RO l).Sublist l/\∀x∈l,∃y∈RO l,R4 x y/\y.off<=x.off:=by
 cases l with
 | nil=>exact ⟨List.Pairwise.nil,.refl _,fun x h=>by cases h⟩
 | cons m l=>
   obtain ⟨b,c,d⟩:=Nmj l m h
   refine ⟨List.pairwise_cons.mpr ⟨c,b⟩,(Nbg m l).cons_cons m,fun x hx=>?_⟩
   rcases Nn.mp hx with rfl | hx
   ·exact ⟨x,Nm,⟨rfl,rfl⟩,Oj _⟩
   ·rcases d x hx with q | ⟨y,a,q⟩
    ·exact ⟨m,Nm,q⟩
    ·exact ⟨y,Nj _ a,q⟩
def Ma (S:List Ev):List Mk:=(UC S).map (·.2)
theorem Njr {S:List Ev} {m:Mk}:m∈Ma S↔∃s∈S,Zl s=m/\∀x∈S,RU x=RU s->¬RV (Zl x) m:=by
 unfold Ma
 rw [List.mem_map]
 constructor
 ·rintro ⟨⟨k,b⟩,h,rfl⟩
  obtain ⟨⟨s,hs,rfl,rfl⟩,a⟩:=(WS S).get.mp (Ni3 (WS S).nd h)
  exact ⟨s,hs,rfl,a⟩
 ·rintro ⟨s,hs,rfl,a⟩
  exact ⟨(RU s,Zl s),MH ((WS S).get.mpr ⟨⟨s,hs,rfl,rfl⟩,a⟩),rfl⟩
theorem Nwb {S:List Ev} {s:Ev} (h:s∈S):∃m∈Ma S,m.scanner=s.scanner/\¬RV (Zl s) m:=by
 obtain ⟨m,h1,h2⟩:=(WS S).all s h
 obtain ⟨y,a,hk,rfl⟩:=(WS S).from' _ _ h1
 exact ⟨Zl y,List.mem_map.mpr ⟨_,MH h1,rfl⟩,P3 (·.1) hk,h2⟩
theorem Nwa (S:List Ev):(Ma S).length<=S.length:=by
 have put:∀(k:Int×Int) (m:Mk) (l:Es),(WP k m l).length<=l.length+1:=by
  intro k m l
  induction l with
  | nil=>simp [WP]
  | cons a l ih=>
    unfold WP
    split
    ·simp
    ·simp only [Nk];omega
 have key:∀(T:List Ev) (l:Es),(T.foldl Sk l).length<=l.length+T.length:=by
  intro T
  induction T with
  | nil=>intro l;simp
  | cons s T ih=>
    intro l
    have h1:=ih (Sk l s)
    have h2:(Sk l s).length<=l.length+1:=by
     unfold Sk
     split
     ·exact put _ _ _
     split
     ·exact put _ _ _
     ·omega
    simp only [Oi,Nk];omega
 have:=key S []
 unfold Ma UC
 rw [Nw];simpa using this
theorem UO (S:List Ev):Tk R7 (U3 R7 (Ma S)):=Un YS _
theorem Nug (S:List Ev):(QG S).Pairwise ZW:=(Wn (UO S)).1
theorem Nb7 {S:List Ev} {m:Mk} (h:m∈QG S):m∈Ma S:=(S9 R7 _).mem_iff.mp ((Wn (UO S)).2.1.mem h)
theorem Nl2 {S:List Ev} {m:Mk} (h:m∈Ma S):∃y∈QG S,R4 m y/\y.off<=m.off:=(Wn (UO S)).2.2 m ((S9 R7 _).mem_iff.mpr h)
theorem Nl3 {S:List Ev} (hS:∀s∈S,RG s) {m:Mk} (h:m∈QG S):MM m:=by
 obtain ⟨s,hs,rfl,_⟩:=Njr.mp (Nb7 h)
 have:=hS s hs
 unfold RG at this;unfold MM Zl;simp only;omega
theorem gather_ok {S:List Ev} (hS:∀s∈S,RG s):Za (QG S):=⟨fun m h=>Nl3 hS h,Nug S⟩
theorem Npj (S:List Ev):(QG S).length<=S.length:=by
 have h1:=(Wn (UO S)).2.1.length_le
 rw [(S9 R7 _).length_eq] at h1
 have:=Nwa S
 unfold QG Ma at *
 omega
theorem Nd8 {e x:Ev} {kept:List Ev} (h:Vm e kept=some x):x∈kept/\QR x=QR e:=by
 unfold Vm at h
 exact ⟨Q6 h,by simpa using Rh h⟩
theorem No9 {e:Ev} {kept:List Ev} (h:Vm e kept=none):∀x∈kept,QR x≠QR e:=by
 unfold Vm at h
 rw [List.find?_eq_none] at h
 intro x hx;simpa using h x hx
def ApartL (kept:List Ev):Prop:=kept.Pairwise fun x y=>QR x=QR y->x.time-y.time > 10
theorem Ng7 {e x:Ev}:∀{kept:List Ev},ApartL kept->Vm e kept=some x->∀y∈kept,QR y=QR e->y.time<=x.time
 | [],_,h=>by cases h
 | k::l,ha,h=>by
   obtain ⟨h1,h2⟩:=List.pairwise_cons.mp ha
   unfold Vm at h
   intro y hy hs
   by_cases hk:QR k=QR e
   ·rw [List.find?_cons_of_pos (by simpa using hk)] at h
    cases h
    rcases Nn.mp hy with rfl | hy
    ·exact Oj _
    ·have:=h1 y hy (hk.trans hs.symm);omega
   ·rw [List.find?_cons_of_neg (by simpa using hk)] at h
    rcases Nn.mp hy with rfl | hy
    ·exact absurd hs hk
    ·exact Ng7 h2 h y hy hs
theorem XV {e:Ev} {kept:List Ev}:XW e kept=true↔∃x,Vm e kept=some x/\e.time-x.time<=10:=by
 unfold XW
 cases h:Vm e kept with
 | none=>simp
 | some x=>simp
theorem VZ:∀(l kept twice:List Ev),((Sj kept twice l).1++(Sj kept twice l).2).Perm (kept++twice++l)
 | [],kept,twice=>by
   unfold Sj
   rw [Nc]
   exact (List.reverse_perm _).append (List.reverse_perm _)
 | e::l,kept,twice=>by
   unfold Sj
   split
   ·refine (VZ l _ _).trans ?_
    rw [Nq,Nq,O5]
    exact (List.perm_middle).symm.append_left kept
   ·refine (VZ l _ _).trans ?_
    rw [O5,O5]
    exact List.perm_middle.symm
theorem Z8:∀(l kept twice:List Ev),∃K T,Sj kept twice l=(kept.reverse++K,twice.reverse++T)/\K.Sublist l/\T.Sublist l
 | [],kept,twice=>⟨[],[],by unfold Sj;simp,.refl _,.refl _⟩
 | e::l,kept,twice=>by
   unfold Sj
   split
   ·obtain ⟨K,T,h1,h2,a⟩:=Z8 l kept (e::twice)
    exact ⟨K,e::T,by rw [h1];simp,h2.trans (List.sublist_cons_self _ _),a.cons_cons e⟩
   ·obtain ⟨K,T,h1,h2,a⟩:=Z8 l (e::kept) twice
    exact ⟨e::K,T,by rw [h1];simp,h2.cons_cons e,a.trans (List.sublist_cons_self _ _)⟩
def Y8 (l:List Ev):Prop:=l.Pairwise fun x y=>x.time<=y.time
theorem Yi {l:List Ev} (h:Tk Sy l):Y8 l:=h.imp fun {a b} q=>by
 unfold Sy RS at q
 by_cases h1:a.time<b.time
 ·omega
 rw [Ng h1] at q
 by_cases h2:b.time<a.time
 ·rw [Nh h2] at q;omega
 ·omega
theorem Naq:∀(l kept twice:List Ev),ApartL kept->(∀e∈l,∀x∈kept,x.time<=e.time)->Y8 l->(∀x∈twice,∃y∈kept,QR x=QR y/\x.time>=y.time/\x.time-y.time<=10)->
  (ApartL (Sj kept twice l).1.reverse)/\∀x∈(Sj kept twice l).2,∃y∈(Sj kept twice l).1,QR x=QR y/\x.time>=y.time/\x.time-y.time<=10
 | [],kept,twice,h1,_,_,h4=>by
   unfold Sj
   refine ⟨by simpa using h1,fun x hx=>?_⟩
   obtain ⟨y,hy,q⟩:=h4 x (by simpa using hx)
   exact ⟨y,by simpa using hy,q⟩
 | e::l,kept,twice,h1,h2,h3,h4=>by
   obtain ⟨f,r2⟩:=List.pairwise_cons.mp h3
   unfold Sj
   split
   ·rename_i ht
    obtain ⟨x,hx,hd⟩:=XV.mp ht
    obtain ⟨b,d⟩:=Nd8 hx
    refine Naq l kept (e::twice) h1 (fun a ha=>h2 a (Nj _ ha)) r2 fun y hy=>?_
    rcases Nn.mp hy with rfl | hy
    ·exact ⟨x,b,d.symm,h2 y Nm x b,hd⟩
    ·exact h4 y hy
   ·rename_i ht
    refine Naq l (e::kept) twice (List.pairwise_cons.mpr ⟨fun y hy hs=>?_,h1⟩) (fun a ha x hx=>?_) r2 fun y hy=>?_
    ·cases hk:Vm e kept with
     | none=>exact absurd hs.symm (No9 hk y hy)
     | some x=>
       have hn:¬e.time-x.time<=10:=fun hc=>ht (XV.mpr ⟨x,hk,hc⟩)
       have:=Ng7 h1 hk y hy hs.symm
       omega
    ·rcases Nn.mp hx with rfl | hx
     ·exact f a ha
     ·exact h2 a (Nj _ ha) x hx
    ·obtain ⟨z,c,q⟩:=h4 y hy
     exact ⟨z,Nj _ c,q⟩
theorem Zr (M:List Mk) (S:List Ev):Tk Sy (RQ M S):=Un Na4 _
theorem Xw {M:List Mk} {S:List Ev} {x:Ev}:x∈RQ M S↔∃s∈S,{ s with time:=TW M s }=x:=by
 unfold RQ
 rw [(S9 Sy _).mem_iff,List.mem_map]
theorem Nbt {t c:Int}:∀(l:List Mk) (last:Mk),(∀m∈l,m.off=c)->(last.off=c\/last=Tn/\l≠[])->Wd t last l=c
 | [],last,_,h=>by
   unfold Wd
   rcases h with h | h
   ·exact h
   ·exact absurd rfl h.2
 | m::l,last,hl,h=>by
   have hm:=hl m Nm
   unfold Wd
   split
   ·exact Nbt l m (fun x hx=>hl x (Nj _ hx)) (.inl hm)
   split
   ·exact hm
   ·rename_i h1 h2
    rcases h with h | h
    ·rw [h,hm,Int.sub_self,Int.zero_mul,Int.zero_ediv,Int.add_zero]
    ·exact absurd h.1 h2
theorem Nol {M:List Mk} {sc t c:Int} (h:∀m∈M,m.scanner=sc->m.off=c) (hs:∃m∈M,m.scanner=sc):Ze M sc t=c:=by
 unfold Ze ofN
 obtain ⟨m,hm,b⟩:=hs
 have a:m∈M.filter fun m=>m.scanner == sc:=Oy.mpr ⟨hm,by simpa using b⟩
 refine Nbt _ _ (fun x hx=>?_) (.inr ⟨rfl,fun hn=>by rw [hn] at a;cases a⟩)
 obtain ⟨h1,h2⟩:=Oy.mp hx
 exact h x h1 (by simpa using h2)
theorem Nz8 {D w k:Int} (hw:0<w) (h1:0<=k) (h2:k<=w):min 0 D<=D*k / w/\D*k / w<=max 0 D:=by
 rcases (by omega:D<0\/0<=D) with h | h
 ·rw [Int.min_eq_right (by omega),Int.max_eq_left (by omega)]
  constructor
  ·exact Int.le_ediv_of_mul_le hw (Int.mul_le_mul_of_nonpos_left (by omega) h2)
  ·refine Int.ediv_le_of_le_mul hw ?_
   rw [Int.zero_mul]
   exact Int.mul_nonpos_of_nonpos_of_nonneg (by omega) h1
 ·rw [Int.min_eq_left (by omega),Int.max_eq_right (by omega)]
  exact ⟨Int.ediv_nonneg (Int.mul_nonneg h h1) (by omega),Int.ediv_le_of_le_mul hw (Int.mul_le_mul_of_nonneg_left h2 h)⟩
def N4e (l:List Mk):Prop:=l.Pairwise fun a b=>a.at'<b.at'
theorem Nxg {M:List Mk} {sc:Int} (h:M.Pairwise ZW):N4e (ofN M sc):=by
 unfold N4e ofN
 have h2:=h.filter (fun m=>m.scanner == sc)
 refine List.Pairwise.imp_of_mem ?_ h2
 intro a b ha c q
 have e1:a.scanner=sc:=by simpa using (Oy.mp ha).2
 have e2:b.scanner=sc:=by simpa using (Oy.mp c).2
 unfold ZW at q;omega
theorem Nbu {t B:Int}:∀(l:List Mk) (last:Mk),N4e l->(∀m∈l,-B<=m.off/\m.off<=B)->-B<=last.off->last.off<=B->(∀m∈l,last=Tn\/last.at'<m.at')->(last=Tn\/last.at'<t)->-B<=Wd t last l/\Wd t last l<=B
 | [],last,_,_,h1,h2,_,_=>⟨h1,h2⟩
 | m::l,last,hl,hb,h1,h2,h3,h4=>by
   obtain ⟨b,c⟩:=List.pairwise_cons.mp hl
   have hm:=hb m Nm
   unfold Wd
   split
   ·rename_i ht
    exact Nbu l m c (fun x hx=>hb x (Nj _ hx)) hm.1 hm.2 (fun x hx=>.inr (b x hx)) (.inr ht)
   split
   ·exact hm
   ·rename_i d a
    have e1:=h4.resolve_left a
    have:=Nz8 (D:=m.off-last.off) (w:=m.at'-last.at') (k:=t-last.at') (by omega) (by omega) (by omega)
    omega
structure AtOnce (S:List Ev) (c:Int->Int) (t:Ev->Int):Prop where
 at_:∀s∈S,s.at'=t s-c s.scanner
 late:∀s∈S,t s<=s.seen
 once:∀s∈S,∃x∈S,RU x=RU s/\x.seen=t x
theorem Nw6 {S:List Ev} {c:Int->Int} {t:Ev->Int} (h:AtOnce S c t) {m:Mk} (hm:m∈QG S):m.off=c m.scanner:=by
 obtain ⟨s,hs,rfl,d⟩:=Njr.mp (Nb7 hm)
 obtain ⟨x,hx,hk,a⟩:=h.once s hs
 have h1:=d x hx hk
 have h2:=h.at_ s hs
 have b:=h.at_ x hx
 have e:=h.late s hs
 have h5:x.scanner=s.scanner:=P3 (·.1) hk
 unfold RV Zl at h1
 simp only [Zl] at h1⊢
 rw [h5] at b
 omega
theorem Ngy {S:List Ev} {c:Int->Int} {t:Ev->Int} (h:AtOnce S c t) {s:Ev} (hs:s∈S) (h0:0<=t s):TW (QG S) s=t s:=by
 have e:Ze (QG S) s.scanner s.at'=c s.scanner:=by
  refine Nol (fun m hm a=>by rw [Nw6 h hm,a]) ?_
  obtain ⟨m,hm,h1,_⟩:=Nwb hs
  obtain ⟨y,b,h2,_⟩:=Nl2 hm
  exact ⟨y,b,h2.1.symm.trans h1⟩
 have h1:=h.at_ s hs
 have h2:=h.late s hs
 unfold TW
 rw [e];omega
def Neh (m:Mk):List Mk->List Mk
 | []=>[m]
 | y::l=>if ZW y m then y::Neh m l else if R4 y m then (if m.off<y.off then { y with off:=m.off } else y)::l else m::y::l
theorem Nri {m:Mk}:∀{l:List Mk},l.Pairwise ZW->(Neh m l).Pairwise ZW/\∀x∈Neh m l,R4 x m\/∃y∈l,R4 x y
 | [],_=>by
   unfold Neh
   exact ⟨List.pairwise_singleton _ _,fun x hx=>by rw [Nl] at hx;subst hx;exact .inl ⟨rfl,rfl⟩⟩
 | y::l,h=>by
   obtain ⟨h1,h2⟩:=List.pairwise_cons.mp h
   obtain ⟨g,e⟩:=Nri (m:=m) h2
   unfold Neh
   split
   ·rename_i c
    refine ⟨List.pairwise_cons.mpr ⟨fun x hx=>?_,g⟩,fun x hx=>?_⟩
    ·rcases e x hx with q | ⟨z,a,q⟩
     ·exact Nlh c q
     ·exact Nlh (h1 z a) q
    ·rcases Nn.mp hx with rfl | hx
     ·exact .inr ⟨x,Nm,rfl,rfl⟩
     ·rcases e x hx with q | ⟨z,a,q⟩
      ·exact .inl q
      ·exact .inr ⟨z,Nj _ a,q⟩
   ·split
    ·rename_i hn hs
     have f:∀z,ZW y z->ZW (if m.off<y.off then { y with off:=m.off } else y) z:=by
      intro z a;split
      ·exact a
      ·exact a
     have d:R4 (if m.off<y.off then { y with off:=m.off } else y) y:=by split<;>exact ⟨rfl,rfl⟩
     refine ⟨List.pairwise_cons.mpr ⟨fun x hx=>f x (h1 x hx),h2⟩,fun x hx=>?_⟩
     rcases Nn.mp hx with rfl | hx
     ·exact .inr ⟨y,Nm,d⟩
     ·exact .inr ⟨x,Nj _ hx,rfl,rfl⟩
    ·rename_i hn hs
     have b:ZW m y:=by unfold ZW R4 at *;omega
     refine ⟨List.pairwise_cons.mpr ⟨fun x hx=>?_,h⟩,fun x hx=>?_⟩
     ·rcases Nn.mp hx with rfl | hx
      ·exact b
      ·exact Ng1 b (h1 x hx)
     ·rcases Nn.mp hx with rfl | hx
      ·exact .inl ⟨rfl,rfl⟩
      ·exact .inr ⟨x,hx,rfl,rfl⟩
structure RefOf (V:List Mk) (out:List Mk):Prop where
 lt:out.Pairwise ZW
 from':∀m∈out,m∈V
 all:∀m∈V,∃y∈out,R4 m y/\y.off<=m.off
theorem Nrh {m:Mk}:∀{l:List Mk},(∀x∈Neh m l,x=m\/x∈l)/\∀x,x=m\/x∈l->∃y∈Neh m l,R4 x y/\y.off<=x.off
 | []=>by
   unfold Neh
   refine ⟨fun x hx=>.inl (by simpa using hx),fun x hx=>?_⟩
   rcases hx with rfl | hx
   ·exact ⟨x,by simp,⟨rfl,rfl⟩,Oj _⟩
   ·cases hx
 | y::l=>by
   obtain ⟨f,g⟩:=Nrh (m:=m) (l:=l)
   unfold Neh
   split
   ·refine ⟨fun x hx=>?_,fun x hx=>?_⟩
    ·rcases Nn.mp hx with rfl | hx
     ·exact .inr Nm
     ·rcases f x hx with q | q
      ·exact .inl q
      ·exact .inr (Nj _ q)
    ·have out:x=m\/x∈l->∃z∈y::Neh m l,R4 x z/\z.off<=x.off:=fun q=>by
      obtain ⟨z,e,w⟩:=g x q
      exact ⟨z,Nj _ e,w⟩
     rcases hx with rfl | hx
     ·exact out (.inl rfl)
     ·rcases Nn.mp hx with rfl | hx
      ·exact ⟨x,Nm,⟨rfl,rfl⟩,Oj _⟩
      ·exact out (.inr hx)
   ·split
    ·rename_i hn hs
     refine ⟨fun x hx=>?_,fun x hx=>?_⟩
     ·rcases Nn.mp hx with h | hx
      ·split at h
       ·left
        subst h
        obtain ⟨a,b,c⟩:=m
        unfold R4 at hs
        simp only at hs⊢
        rw [hs.1,hs.2]
       ·right;rw [h];exact Nm
      ·exact .inr (Nj _ hx)
     ·have hd:R4 m (if m.off<y.off then { y with off:=m.off } else y)/\(if m.off<y.off then { y with off:=m.off } else y).off<=m.off/\R4 y (if m.off<y.off then { y with off:=m.off } else y)/\(if m.off<y.off then { y with off:=m.off } else y).off<=y.off:=by
       unfold R4 at hs⊢
       split
       ·rename_i d;exact ⟨⟨hs.1.symm,hs.2.symm⟩,Oj _,⟨rfl,rfl⟩,Int.le_of_lt d⟩
       ·exact ⟨⟨hs.1.symm,hs.2.symm⟩,by omega,⟨rfl,rfl⟩,Oj _⟩
      rcases hx with rfl | hx
      ·exact ⟨_,Nm,hd.1,hd.2.1⟩
      ·rcases Nn.mp hx with rfl | hx
       ·exact ⟨_,Nm,hd.2.2.1,hd.2.2.2⟩
       ·exact ⟨x,Nj _ hx,⟨rfl,rfl⟩,Oj _⟩
    ·refine ⟨fun x hx=>?_,fun x hx=>?_⟩
     ·rcases Nn.mp hx with rfl | hx
      ·exact .inl rfl
      ·exact .inr hx
     ·rcases hx with rfl | hx
      ·exact ⟨x,Nm,⟨rfl,rfl⟩,Oj _⟩
      ·exact ⟨x,Nj _ hx,⟨rfl,rfl⟩,Oj _⟩
theorem RefOf.add {V out:List Mk} (h:RefOf V out) (m:Mk):RefOf (V++[m]) (Neh m out):=by
 obtain ⟨d,a⟩:=Nrh (m:=m) (l:=out)
 refine ⟨(Nri h.lt).1,fun x hx=>?_,fun x hx=>?_⟩
 ·rcases d x hx with rfl | q
  ·simp
  ·exact Ov _ (h.from' x q)
 ·rcases N0.mp hx with hx | hx
  ·obtain ⟨y,b,e,f⟩:=h.all x hx
   obtain ⟨z,c,g,i⟩:=a y (.inr b)
   exact ⟨z,c,by unfold R4 at *;omega,by omega⟩
  ·rw [Nl] at hx;subst hx
   exact a x (.inl rfl)
end Go.Scan


namespace Go.Net
structure Leg where
 (id frm dst dep mins cut grams days:Int)
 deriving DecidableEq,Inhabited
def NT:Int:=1051898399
def Fine (l:Leg):Prop:=1<=l.id/\l.id<=999999/\1<=l.frm/\l.frm<=999999/\1<=l.dst/\l.dst<=999999/\0<=l.dep/\l.dep<=1439/\1<=l.mins/\l.mins<=20160/\0<=l.cut/\l.cut<=10080/\0<=l.grams/\l.grams<=1000000000/\1<=l.days/\l.days<=127/\l.frm≠l.dst
instance (l:Leg):Decidable (Fine l):=by unfold Fine;infer_instance
def runs (days:Int) (d:Nat):Bool:=days.toNat / 2 ^ (d % 7) % 2 == 1
def goes (l:Leg) (d:Nat):Bool:=runs l.days d&&decide (0<=1440*(d:Int)+l.dep-l.cut)&&decide (1440*(d:Int)+l.dep+l.mins<=NT)
def V8:Nat:=730485
theorem YW:V8=730485:=rfl
attribute [irreducible] V8
def Dep (l:Leg) (a:Int):Prop:=∃d:Nat,d<V8/\goes l d=true/\a=1440*(d:Int)+l.dep
def YN (l:Leg) (r:Int):Option Nat:=(List.range V8).find? fun (d:Nat)=>goes l d&&decide (r<=1440*(d:Int)+l.dep-l.cut)
def RJ (l:Leg) (r:Int):Option Int:=(YN l r).map fun (d:Nat)=>1440*(d:Int)+l.dep
def Ncu (l:Leg) (b:Int):Option Nat:=((List.range V8).find? fun (d:Nat)=>goes l (V8-1-d)&&decide (1440*((V8-1-d:Nat):Int)+l.dep+l.mins<=b)).map fun (d:Nat)=>V8-1-d
def Sw (l:Leg) (b:Int):Option Int:=(Ncu l b).map fun (d:Nat)=>1440*(d:Int)+l.dep
theorem find_range {n:Nat} {p:Nat->Bool} {i:Nat}:(List.range n).find? p=some i↔p i=true/\i<n/\∀j,j<i->p j=false:=by
 rw [List.find?_range_eq_some];simp
theorem Vj {n:Nat} {p:Nat->Bool}:(List.range n).find? p=none↔∀j,j<n->p j=false:=by
 rw [List.find?_range_eq_none];simp
theorem Sg {l:Leg} {r a:Int} (h:RJ l r=some a):Dep l a/\r<=a-l.cut/\∀b,Dep l b->r<=b-l.cut->a<=b:=by
 unfold RJ YN at h
 obtain ⟨d,hd,rfl⟩:=Nb.1 h
 obtain ⟨h1,h2,f⟩:=find_range.1 hd
 simp only [Nx,Ob] at h1
 refine ⟨⟨d,h2,h1.1,rfl⟩,h1.2,fun b ⟨e,he,i,g⟩ hr=>?_⟩
 subst g
 by_cases c:e<d
 ·have:=f e c
  simp only [i,Bool.true_and,decide_eq_false_iff_not] at this
  omega
 ·omega
theorem Nd3 {l:Leg} {r:Int} (h:RJ l r=none):∀b,Dep l b->b-l.cut<r:=by
 unfold RJ YN at h
 rw [Option.map_eq_none_iff,Vj] at h
 intro b ⟨e,he,a,c⟩
 have:=h e he
 simp only [a,Bool.true_and,decide_eq_false_iff_not] at this
 omega
theorem Tc {l:Leg} {b a:Int} (h:Sw l b=some a):Dep l a/\a+l.mins<=b/\∀c,Dep l c->c+l.mins<=b->c<=a:=by
 unfold Sw Ncu at h
 obtain ⟨d,hd,rfl⟩:=Nb.1 h
 obtain ⟨g,f,rfl⟩:=Nb.1 hd
 obtain ⟨h1,h2,i⟩:=find_range.1 f
 simp only [Nx,Ob] at h1
 refine ⟨⟨V8-1-g,by omega,h1.1,rfl⟩,h1.2,fun c ⟨e,he,j,hc⟩ hr=>?_⟩
 subst hc
 by_cases k:V8-1-g<e
 ·have:=i (V8-1-e) (by omega)
  rw [show V8-1-(V8-1-e)=e by omega] at this
  simp only [j,Bool.true_and,decide_eq_false_iff_not] at this
  omega
 ·omega
theorem Nd9 {l:Leg} {b:Int} (h:Sw l b=none):∀c,Dep l c->b<c+l.mins:=by
 unfold Sw Ncu at h
 rw [Option.map_eq_none_iff,Option.map_eq_none_iff,Vj] at h
 intro c ⟨e,he,a,hc⟩
 have:=h (V8-1-e) (by omega)
 rw [show V8-1-(V8-1-e)=e by omega] at this
 simp only [a,Bool.true_and,decide_eq_false_iff_not] at this
 omega
inductive Way (L:List Leg):Nat->Int->Int->Int->Int->Prop where
 | nil (p t:Int):Way L 0 p t p t
 | snoc {k:Nat} {p t m s a:Int} {l:Leg}:Way L k p t m s->l∈L->l.frm=m->Dep l a->s<=a-l.cut->Way L (k+1) p t l.dst (a+l.mins)
theorem Way.later {L:List Leg} {k:Nat} {p t q u:Int} (h:Way L k p t q u) (hL:∀l∈L,Fine l):t<=u:=by
 induction h with
 | nil=>omega
 | snoc h hl a hd hs ih=>have:=hL _ hl;unfold Fine at this;omega
theorem Way.early {L:List Leg} {k:Nat} {p t b q u:Int} (h:Way L k p t q u) (ht:b<=t):(k=0/\p=q/\u=t)\/Way L k p b q u:=by
 induction h with
 | nil=>exact .inl ⟨rfl,rfl,rfl⟩
 | snoc h hl a hd hs ih=>
   rcases ih ht with ⟨rfl,rfl,rfl⟩ | ih
   ·exact .inr (.snoc (.nil _ _) hl a hd (by omega))
   ·exact .inr (.snoc ih hl a hd hs)
theorem Way.mono {L M:List Leg} {k:Nat} {p t q u:Int} (h:Way L k p t q u) (hs:∀l∈L,l∈M):Way M k p t q u:=by
 induction h with
 | nil=>exact .nil _ _
 | snoc h hl a hd hr ih=>exact .snoc ih (hs _ hl) a hd hr
theorem Way.trans {L:List Leg} {k j:Nat} {p t m s q u:Int} (h:Way L k p t m s) (h2:Way L j m s q u):Way L (k+j) p t q u:=by
 induction h2 with
 | nil=>exact h
 | snoc h2 hl a hd hr ih=>exact .snoc (ih h) hl a hd hr
theorem Way.cons {L:List Leg} {k:Nat} {p t a q u:Int} {l:Leg} (hl:l∈L) (b:l.frm=p) (hd:Dep l a) (hr:t<=a-l.cut) (h:Way L k l.dst (a+l.mins) q u):Way L (k+1) p t q u:=by
 have:=(Way.snoc (.nil p t) hl b hd hr).trans h
 rwa [N5,Rj] at this
theorem Way.head {L:List Leg} {k:Nat} {p t q u:Int} (h:Way L (k+1) p t q u):∃l∈L,∃a,l.frm=p/\Dep l a/\t<=a-l.cut/\Way L k l.dst (a+l.mins) q u:=by
 generalize hk:k+1=n at h
 induction h generalizing k with
 | nil=>omega
 | @snoc j p t m s a l h hl hf hd hr ih=>
   cases j with
   | zero=>
     cases h
     obtain rfl:k=0:=by omega
     exact ⟨l,hl,a,hf,hd,hr,.nil _ _⟩
   | succ i=>
     obtain ⟨e,b,a',h1,h2,c,d⟩:=ih rfl
     obtain rfl:k=i+1:=by omega
     exact ⟨e,b,a',h1,h2,c,.snoc d hl hf hd hr⟩
def Sb (S:Int->Prop) (v:Int):Prop:=(v=-1/\∀u,¬S u)\/(S v/\∀u,S u->v<=u)
theorem Sb.uniq {S:Int->Prop} {v w:Int} (h:Sb S v) (h':Sb S w):v=w:=by
 rcases h with ⟨h1,h2⟩ | ⟨h1,h2⟩<;>rcases h' with ⟨a,b⟩ | ⟨a,b⟩
 ·omega
 ·exact absurd a (h2 _)
 ·exact absurd h1 (b _)
 ·have:=h2 _ a;have:=b _ h1;omega
theorem Sb.congr {S T:Int->Prop} {v:Int} (h:Sb S v) (e:∀u,S u↔T u):Sb T v:=by
 rcases h with ⟨h1,h2⟩ | ⟨h1,h2⟩
 ·exact .inl ⟨h1,fun u a=>h2 u ((e u).2 a)⟩
 ·exact .inr ⟨(e v).1 h1,fun u a=>h2 u ((e u).2 a)⟩
theorem Sb.mem {S:Int->Prop} {v:Int} (h:Sb S v) (hv:0<=v):S v:=by
 rcases h with ⟨h1,h2⟩ | ⟨h1,h2⟩
 ·omega
 ·exact h1
theorem Sb.none {S:Int->Prop} {v:Int} (h:Sb S v) (h0:∀u,S u->0<=u) (hv:v<0):∀u,¬S u:=by
 rcases h with ⟨h1,h2⟩ | ⟨h1,h2⟩
 ·exact h2
 ·have:=h0 _ h1;omega
theorem Sb.le {S:Int->Prop} {v u:Int} (h:Sb S v) (a:S u):v<=u:=by
 rcases h with ⟨h1,h2⟩ | ⟨h1,h2⟩
 ·exact absurd a (h2 _)
 ·exact h2 _ a
theorem Sb.one {S:Int->Prop} {v x:Int} (h:Sb S v) (h0:∀u,S u->0<=u) (hx:0<=x):Sb (fun u=>S u\/u=x) (if v<0\/x<v then x else v):=by
 by_cases hc:v<0\/x<v
 ·rw [Nh hc]
  refine .inr ⟨.inr rfl,fun u hu=>?_⟩
  rcases hu with hu | hu
  ·rcases hc with hc | hc
   ·exact absurd hu (h.none h0 hc u)
   ·have:=h.le hu;omega
  ·omega
 ·rw [Ng hc]
  have:=h.mem (by omega)
  refine .inr ⟨.inl this,fun u hu=>?_⟩
  rcases hu with hu | hu
  ·exact h.le hu
  ·omega
def Xc (pos:Int->Nat) (lim:Int) (bef aft:List Int) (l:Leg):List Int:=
 if bef.getD (pos l.frm) (-1)<0 then aft else
 match RJ l (bef.getD (pos l.frm) (-1)) with
 | some a=>if a+l.mins<=lim/\(aft.getD (pos l.dst) (-1)<0\/a+l.mins<aft.getD (pos l.dst) (-1)) then aft.set (pos l.dst) (a+l.mins) else aft
 | none=>aft
def Ndf (pos:Int->Nat) (lim:Int) (L:List Leg) (bef:List Int):List Int:=L.foldl (Xc pos lim bef) bef
theorem Nc5 {pos:Int->Nat} {lim:Int} {bef aft:List Int} {l:Leg}:(Xc pos lim bef aft l).length=aft.length:=by
 unfold Xc
 split
 ·rfl
 ·split
  ·split
   ·simp
   ·rfl
  ·rfl
theorem Nhg {pos:Int->Nat} {lim:Int} {bef:List Int}:∀{L:List Leg} {aft:List Int},(L.foldl (Xc pos lim bef) aft).length=aft.length
 | [],_=>rfl
 | l::L,aft=>by rw [Oi,Nhg,Nc5]
theorem Nse {pos:Int->Nat} {lim:Int} {L:List Leg} {bef:List Int}:(Ndf pos lim L bef).length=bef.length:=Nhg
def Njn (pos:Int->Nat) (lim:Int) (bef:List Int) (l:Leg) (q:Nat) (u:Int):Prop:=
 pos l.dst=q/\0<=bef.getD (pos l.frm) (-1)/\∃a,RJ l (bef.getD (pos l.frm) (-1))=some a/\u=a+l.mins/\u<=lim
theorem Dep.nonneg {l:Leg} {a:Int} (h:Dep l a) (hl:Fine l):0<=a:=by
 obtain ⟨d,_,_,rfl⟩:=h
 unfold Fine at hl;omega
theorem Njn.nonneg {pos:Int->Nat} {lim:Int} {bef:List Int} {l:Leg} {q:Nat} {u:Int} (h:Njn pos lim bef l q u) (hl:Fine l):0<=u:=by
 obtain ⟨_,_,a,h1,h2,_⟩:=h
 have:=(Sg h1).1.nonneg hl
 unfold Fine at hl;omega
theorem WT {L:List Int} {i j:Nat} {x d:Int} (hi:i<L.length):(L.set i x).getD j d=if i=j then x else L.getD j d:=by
 rw [Na,N1]
 by_cases h:i=j
 ·simp [h,show j<L.length by omega]
 ·simp [h,Na]
theorem Nwe {pos:Int->Nat} {lim:Int} {bef aft:List Int} {l:Leg} {q:Nat} {S:Int->Prop} (hl:Fine l) (hp:pos l.dst<aft.length) (h0:∀u,S u->0<=u) (h:Sb S (aft.getD q (-1))) :
  Sb (fun u=>S u\/Njn pos lim bef l q u) ((Xc pos lim bef aft l).getD q (-1)):=by
 unfold Xc
 by_cases hs:bef.getD (pos l.frm) (-1)<0
 ·rw [Nh hs]
  exact h.congr fun u=>⟨.inl,fun c=>c.elim id fun d=>absurd d.2.1 (by omega)⟩
 rw [Ng hs]
 cases hn:RJ l (bef.getD (pos l.frm) (-1)) with
 | none=>
   simp only
   exact h.congr fun u=>⟨.inl,fun c=>c.elim id fun ⟨_,_,a,ha,_⟩=>by rw [hn] at ha;cases ha⟩
 | some a=>
   simp only
   have i:0<=a+l.mins:=by have:=(Sg hn).1.nonneg hl;unfold Fine at hl;omega
   by_cases f:a+l.mins<=lim
   ·by_cases g:pos l.dst=q
    ·have e:((if a+l.mins<=lim/\(aft.getD (pos l.dst) (-1)<0\/a+l.mins<aft.getD (pos l.dst) (-1)) then aft.set (pos l.dst) (a+l.mins) else aft).getD q (-1))=if aft.getD q (-1)<0\/a+l.mins<aft.getD q (-1) then a+l.mins else aft.getD q (-1):=by
      subst g
      by_cases hc:aft.getD (pos l.dst) (-1)<0\/a+l.mins<aft.getD (pos l.dst) (-1)
      ·rw [Nh ⟨f,hc⟩,Nh hc,WT hp,Nh rfl]
      ·rw [Ng (fun h=>hc h.2),Ng hc]
     rw [e]
     refine (h.one h0 i).congr fun u=>⟨fun c=>c.elim .inl fun c=>.inr ⟨g,by omega,a,hn,c,by omega⟩,fun c=>c.elim .inl fun ⟨_,_,b,d,c,_⟩=>?_⟩
     rw [hn] at d;cases d;exact .inr c
    ·have e:((if a+l.mins<=lim/\(aft.getD (pos l.dst) (-1)<0\/a+l.mins<aft.getD (pos l.dst) (-1)) then aft.set (pos l.dst) (a+l.mins) else aft).getD q (-1))=aft.getD q (-1):=by
      split
      ·rw [WT hp,Ng g]
      ·rfl
     rw [e]
     exact h.congr fun u=>⟨.inl,fun c=>c.elim id fun d=>absurd d.1 g⟩
   ·rw [Ng (fun h=>f h.1)]
    refine h.congr fun u=>⟨.inl,fun c=>c.elim id fun ⟨_,_,b,d,c,hl⟩=>?_⟩
    rw [hn] at d;cases d;omega
theorem Nhf {pos:Int->Nat} {lim:Int} {bef:List Int} {q:Nat}:∀{L:List Leg} {aft:List Int} {S:Int->Prop},(∀l∈L,Fine l/\pos l.dst<aft.length)->(∀u,S u->0<=u)->Sb S (aft.getD q (-1))->
  Sb (fun u=>S u\/∃l∈L,Njn pos lim bef l q u) ((L.foldl (Xc pos lim bef) aft).getD q (-1))
 | [],aft,S,hL,h0,h=>h.congr fun u=>⟨.inl,fun hu=>hu.elim id fun ⟨l,hl,_⟩=>by cases hl⟩
 | l::L,aft,S,hL,h0,h=>by
   obtain ⟨h1,h2⟩:=hL l (Nm ..)
   rw [Oi]
   refine (Nhf (L:=L) (fun x hx=>?_) (fun u hu=>?_) (Nwe (lim:=lim) (bef:=bef) h1 h2 h0 h)).congr fun u=>?_
   ·rw [Nc5];exact hL x (Nj _ hx)
   ·rcases hu with hu | hu
    ·exact h0 u hu
    ·exact hu.nonneg h1
   ·constructor
    ·rintro ((h | h) | ⟨x,hx,h⟩)
     ·exact .inl h
     ·exact .inr ⟨l,Nm ..,h⟩
     ·exact .inr ⟨x,Nj _ hx,h⟩
    ·rintro (h | ⟨x,hx,h⟩)
     ·exact .inl (.inl h)
     ·rcases Nn.1 hx with rfl | hx
      ·exact .inl (.inr h)
      ·exact .inr ⟨x,hx,h⟩
theorem Sb.dom {S T:Int->Prop} {v:Int} (h:Sb S v) (h1:∀u,S u->T u) (h2:∀u,T u->∃w,w<=u/\S w):Sb T v:=by
 rcases h with ⟨a,b⟩ | ⟨a,b⟩
 ·exact .inl ⟨a,fun u c=>by obtain ⟨w,_,hw⟩:=h2 u c;exact b w hw⟩
 ·exact .inr ⟨h1 _ a,fun u c=>by obtain ⟨w,hle,hw⟩:=h2 u c;have:=b w hw;omega⟩
structure NetOk (N:Nat) (P:List Int) (L:List Leg) (pos:Int->Nat):Prop where
 fine:∀l∈L,Fine l
 frm:∀l∈L,l.frm∈P
 dst:∀l∈L,l.dst∈P
 inj:∀a∈P,∀b∈P,pos a=pos b->a=b
 lt:∀a∈P,pos a<N
def Zd (N i:Nat) (t:Int):List Int:=(List.replicate N (-1)).set i t
theorem Nd0 {N i:Nat} {t:Int}:(Zd N i t).length=N:=by simp [Zd]
theorem Nd1 {N i j:Nat} {t:Int} (hi:i<N):(Zd N i t).getD j (-1)=if i=j then t else -1:=by
 unfold Zd
 rw [WT (by simpa using hi)]
 split
 ·rfl
 ·rw [Na,P0];split<;>rfl
def R5 (N:Nat) (pos:Int->Nat) (lim:Int) (L:List Leg) (p ready:Int):Nat->List Int
 | 0=>Zd N (pos p) ready
 | k+1=>Ndf pos lim L (R5 N pos lim L p ready k)
theorem Ux {N:Nat} {pos:Int->Nat} {lim:Int} {L:List Leg} {p ready:Int}:∀{k:Nat},(R5 N pos lim L p ready k).length=N
 | 0=>Nd0
 | k+1=>by rw [R5,Nse,Ux]
theorem WY {N:Nat} {P:List Int} {L:List Leg} {pos:Int->Nat} {lim p ready:Int} (hn:NetOk N P L pos) (hp:p∈P) (hr:0<=ready) (c:ready<=lim):∀(k:Nat) (q:Int),q∈P->
  Sb (fun u=>(∃j,j<=k/\Way L j p ready q u)/\u<=lim) ((R5 N pos lim L p ready k).getD (pos q) (-1))
 | 0,q,hq=>by
   rw [R5,Nd1 (hn.lt p hp)]
   by_cases h:pos p=pos q
   ·rw [Nh h]
    have:=hn.inj p hp q hq h
    subst this
    refine .inr ⟨⟨⟨0,Nd _,.nil _ _⟩,c⟩,fun u ⟨⟨j,i,hw⟩,_⟩=>hw.later hn.fine⟩
   ·rw [Ng h]
    refine .inl ⟨rfl,fun u ⟨⟨j,i,hw⟩,_⟩=>?_⟩
    obtain rfl:j=0:=by omega
    cases hw
    exact h rfl
 | k+1,q,hq=>by
   have ih:=WY hn hp hr c k
   have h0:∀q u,((∃j,j<=k/\Way L j p ready q u)/\u<=lim)->0<=u:=fun q u ⟨⟨j,_,hw⟩,_⟩=>by have:=hw.later hn.fine;omega
   rw [R5,Ndf]
   refine (Nhf (L:=L) (fun l hl=>⟨hn.fine l hl,by rw [Ux];exact hn.lt _ (hn.dst l hl)⟩) (h0 q) (ih q hq)).dom (fun u o=>?_) (fun u o=>?_)
   ·rcases o with ⟨⟨j,i,hw⟩,hl⟩ | ⟨l,hl,hd,hs,a,ha,rfl,d⟩
    ·exact ⟨⟨j,by omega,hw⟩,hl⟩
    ·obtain ⟨⟨j,i,hw⟩,g⟩:=(ih l.frm (hn.frm l hl)).mem hs
     obtain ⟨v,w,x⟩:=Sg ha
     have:=hn.inj _ (hn.dst l hl) q hq hd
     subst this
     exact ⟨⟨j+1,by omega,.snoc hw hl rfl v w⟩,d⟩
   ·obtain ⟨⟨j,i,hw⟩,r⟩:=o
    by_cases e:j<=k
    ·exact ⟨u,Oj _,.inl ⟨⟨j,e,hw⟩,r⟩⟩
    ·cases hw with
     | nil=>exact absurd (Nv _) e
     | @snoc j' p t m s a l hw hl hf hd hs=>
       subst hf
       have n:=hn.fine l hl
       have g:s<=lim:=by unfold Fine at n;omega
       have hS:(∃j,j<=k/\Way L j p ready l.frm s)/\s<=lim:=⟨⟨j',by omega,hw⟩,g⟩
       have hle:=(ih l.frm (hn.frm l hl)).le hS
       have f:0<=(R5 N pos lim L p ready k).getD (pos l.frm) (-1):=by
        apply Of;intro hc
        exact (ih l.frm (hn.frm l hl)).none (h0 _) (by omega) s hS
       cases hnx:RJ l ((R5 N pos lim L p ready k).getD (pos l.frm) (-1)) with
       | none=>have:=Nd3 hnx a hd;omega
       | some b=>
         obtain ⟨v,w,x⟩:=Sg hnx
         have:=x a hd (by omega)
         exact ⟨b+l.mins,by omega,.inr ⟨l,hl,rfl,f,b,hnx,rfl,by omega⟩⟩
theorem Nfg {N:Nat} {pos:Int->Nat} {lim:Int} {L:List Leg} {p ready:Int} {k:Nat} (h:R5 N pos lim L p ready (k+1)=R5 N pos lim L p ready k):∀j,R5 N pos lim L p ready (k+j)=R5 N pos lim L p ready k
 | 0=>rfl
 | j+1=>by rw [<-Oo,R5,Nfg h j];exact h
theorem Nfh {N:Nat} {P:List Int} {L:List Leg} {pos:Int->Nat} {lim p ready:Int} (hn:NetOk N P L pos) (hp:p∈P) (hr:0<=ready) (a:ready<=lim) {k:Nat} (h:R5 N pos lim L p ready (k+1)=R5 N pos lim L p ready k) (q:Int) (c:q∈P) :
  Sb (fun u=>(∃j,Way L j p ready q u)/\u<=lim) ((R5 N pos lim L p ready k).getD (pos q) (-1)):=by
 refine (WY hn hp hr a k q c).dom (fun u ⟨⟨j,_,hw⟩,hl⟩=>⟨⟨j,hw⟩,hl⟩) (fun u ⟨⟨j,hw⟩,hl⟩=>?_)
 have hm:=WY hn hp hr a (k+j) q c
 rw [Nfg h] at hm
 have hle:=hm.le ⟨⟨j,by omega,hw⟩,hl⟩
 have hk:=WY hn hp hr a k q c
 have h0:∀u,((∃d,d<=k+j/\Way L d p ready q u)/\u<=lim)->0<=u:=fun u ⟨⟨j,_,hw⟩,_⟩=>by have:=hw.later hn.fine;omega
 have b:0<=(R5 N pos lim L p ready k).getD (pos q) (-1):=by
  apply Of;intro hc
  exact hm.none h0 (by omega) u ⟨⟨j,by omega,hw⟩,hl⟩
 exact ⟨_,hle,hk.mem b⟩
def Npp (ready lim t:Int):Nat:=if t<0 then (lim-ready).toNat+1 else (t-ready).toNat
def muA (ready lim:Int) (T:List Int):Nat:=(T.map (Npp ready lim)).sum
def WA (ready lim:Int) (T:List Int):Prop:=∀t∈T,t=-1\/ready<=t/\t<=lim
theorem Nx1 {ready lim:Int}:∀{T:List Int},WA ready lim T->muA ready lim T<=T.length*((lim-ready).toNat+1)
 | [],_=>by simp [muA]
 | t::T,h=>by
   have ih:=Nx1 (T:=T) fun x hx=>h x (Nj _ hx)
   have h1:=h t (Nm ..)
   unfold muA at ih⊢
   simp only [N9,List.sum_cons,Nk,Pq]
   have:Npp ready lim t<=(lim-ready).toNat+1:=by unfold Npp;split<;>omega
   omega
theorem Nx0 {f:Int->Nat}:∀{T:List Int} {i:Nat} {x:Int} (hi:i<T.length),((T.set i x).map f).sum+f (T.getD i (-1))=(T.map f).sum+f x
 | t::T,0,x,_=>by simp;omega
 | t::T,i+1,x,hi=>by
   have:=Nx0 (f:=f) (T:=T) (i:=i) (x:=x) (by simpa using hi)
   simp only [Q2,N9,List.sum_cons,List.getD_cons_succ]
   omega
theorem N1q {pos:Int->Nat} {ready lim:Int} {bef aft:List Int} {l:Leg} (d:WA ready lim bef) (ha:WA ready lim aft) (hl:Fine l) (hd:pos l.dst<aft.length) (hr:0<=ready) :
  WA ready lim (Xc pos lim bef aft l)/\(Xc pos lim bef aft l=aft\/muA ready lim (Xc pos lim bef aft l)<muA ready lim aft):=by
 unfold Xc
 by_cases hs:bef.getD (pos l.frm) (-1)<0
 ·rw [Nh hs];exact ⟨ha,.inl rfl⟩
 rw [Ng hs]
 cases hn:RJ l (bef.getD (pos l.frm) (-1)) with
 | none=>exact ⟨ha,.inl rfl⟩
 | some a=>
   simp only
   split
   case isFalse=>exact ⟨ha,.inl rfl⟩
   rename_i hc
   obtain ⟨j,k,m⟩:=Sg hn
   have g:ready<=bef.getD (pos l.frm) (-1):=by
    by_cases h:pos l.frm<bef.length
    ·have e:bef.getD (pos l.frm) (-1)=bef[pos l.frm]:=by rw [Na,Nf h];rfl
     have:=d _ (P6 h)
     rw [e] at hs⊢;omega
    ·rw [Na,Nu (by omega)] at hs;exact absurd (by decide) hs
   have b:=hl
   unfold Fine at b
   have i:ready<=a+l.mins/\a+l.mins<=lim:=⟨by omega,hc.1⟩
   have c:aft.getD (pos l.dst) (-1)=-1\/ready<=aft.getD (pos l.dst) (-1)/\aft.getD (pos l.dst) (-1)<=lim:=by
    have e:aft.getD (pos l.dst) (-1)=aft[pos l.dst]:=by rw [Na,Nf hd];rfl
    rw [e];exact ha _ (P6 hd)
   refine ⟨fun t ht=>?_,.inr ?_⟩
   ·rcases Q5 ht with h | h
    ·exact ha t h
    ·exact .inr (by omega)
   ·have:=Nx0 (f:=Npp ready lim) (x:=a+l.mins) hd
    unfold muA
    have e1:Npp ready lim (a+l.mins)<Npp ready lim (aft.getD (pos l.dst) (-1)):=by
     unfold Npp
     rw [Ng (by omega)]
     split<;>omega
    omega
theorem Nl4 {pos:Int->Nat} {ready lim:Int} {bef:List Int} (a:WA ready lim bef) (hr:0<=ready):∀{L:List Leg} {aft:List Int},(∀l∈L,Fine l/\pos l.dst<aft.length)->WA ready lim aft->
  WA ready lim (L.foldl (Xc pos lim bef) aft)/\(L.foldl (Xc pos lim bef) aft=aft\/muA ready lim (L.foldl (Xc pos lim bef) aft)<muA ready lim aft)
 | [],aft,hL,ha=>⟨ha,.inl rfl⟩
 | l::L,aft,hL,ha=>by
   obtain ⟨h1,h2⟩:=hL l (Nm ..)
   obtain ⟨b,g2⟩:=N1q (l:=l) a ha h1 h2 hr
   obtain ⟨k1,k2⟩:=Nl4 a hr (L:=L) (aft:=Xc pos lim bef aft l) (fun x hx=>by rw [Nc5];exact hL x (Nj _ hx)) b
   rw [Oi]
   refine ⟨k1, ?_⟩
   rcases k2 with k2 | k2
   ·rw [k2];exact g2
   ·rcases g2 with g2 | g2
    ·rw [g2] at k2⊢;exact .inr k2
    ·exact .inr (by omega)
theorem Nj8 {pos:Int->Nat} {ready lim:Int} {bef:List Int} {L:List Leg} (a:WA ready lim bef) (hr:0<=ready) (hL:∀l∈L,Fine l/\pos l.dst<bef.length) :
  WA ready lim (Ndf pos lim L bef)/\(Ndf pos lim L bef=bef\/muA ready lim (Ndf pos lim L bef)<muA ready lim bef):=Nl4 a hr hL a
def Tq (L:List Leg) (p ready q v:Int):Prop:=Sb (fun u=>(∃j,Way L j p ready q u)/\u<=ready+86400) v
theorem Tq.start {L:List Leg} {p ready v:Int} (h:Tq L p ready p v) (hL:∀l∈L,Fine l):v=ready:=
 Sb.uniq h (.inr ⟨⟨⟨0,.nil _ _⟩,by omega⟩,fun u ⟨⟨j,hw⟩,_⟩=>hw.later hL⟩)
theorem Tq.ge {L:List Leg} {p ready q v:Int} (h:Tq L p ready q v) (hL:∀l∈L,Fine l) (hv:0<=v):ready<=v/\v<=ready+86400:=by
 obtain ⟨⟨j,hw⟩,hl⟩:=h.mem hv
 exact ⟨hw.later hL,hl⟩
theorem Tq.later {L:List Leg} {p a b q x y:Int} (hx:Tq L p a q x) (f:Tq L p b q y) (d:a<=b) (e:0<=y):x<=y:=by
 obtain ⟨⟨j,hw⟩,hl⟩:=f.mem e
 by_cases c:y<=a+86400
 ·rcases hw.early d with ⟨rfl,rfl,rfl⟩ | hw'
  ·have:=hx.le (u:=a) ⟨⟨0,.nil _ _⟩,by omega⟩;omega
  ·exact hx.le ⟨⟨j,hw'⟩,c⟩
 ·rcases hx with ⟨h1,_⟩ | ⟨⟨_,h1⟩,_⟩<;>omega
theorem Tq.same {L M:List Leg} {p t q x y:Int} (hx:Tq L p t q x) (a:Tq M p t q y) (hs:∀l,l∈M↔l∈L):x=y:=
 hx.uniq (a.congr fun u=>⟨fun ⟨⟨j,hw⟩,hl⟩=>⟨⟨j,hw.mono fun l h=>(hs l).1 h⟩,hl⟩,fun ⟨⟨j,hw⟩,hl⟩=>⟨⟨j,hw.mono fun l h=>(hs l).2 h⟩,hl⟩⟩)
def SS (S:Int->Prop) (v:Int):Prop:=(v=-1/\∀u,¬S u)\/(S v/\∀u,S u->u<=v)
theorem SS.uniq {S:Int->Prop} {v w:Int} (h:SS S v) (h':SS S w):v=w:=by
 rcases h with ⟨h1,h2⟩ | ⟨h1,h2⟩<;>rcases h' with ⟨a,b⟩ | ⟨a,b⟩
 ·omega
 ·exact absurd a (h2 _)
 ·exact absurd h1 (b _)
 ·have:=h2 _ a;have:=b _ h1;omega
theorem SS.congr {S T:Int->Prop} {v:Int} (h:SS S v) (e:∀u,S u↔T u):SS T v:=by
 rcases h with ⟨h1,h2⟩ | ⟨h1,h2⟩
 ·exact .inl ⟨h1,fun u a=>h2 u ((e u).2 a)⟩
 ·exact .inr ⟨(e v).1 h1,fun u a=>h2 u ((e u).2 a)⟩
theorem SS.mem {S:Int->Prop} {v:Int} (h:SS S v) (hv:0<=v):S v:=by
 rcases h with ⟨h1,h2⟩ | ⟨h1,h2⟩
 ·omega
 ·exact h1
theorem SS.none {S:Int->Prop} {v:Int} (h:SS S v) (h0:∀u,S u->0<=u) (hv:v<0):∀u,¬S u:=by
 rcases h with ⟨h1,h2⟩ | ⟨h1,h2⟩
 ·exact h2
 ·have:=h0 _ h1;omega
theorem SS.ge {S:Int->Prop} {v u:Int} (h:SS S v) (a:S u):u<=v:=by
 rcases h with ⟨h1,h2⟩ | ⟨h1,h2⟩
 ·exact absurd a (h2 _)
 ·exact h2 _ a
theorem SS.one {S:Int->Prop} {v x:Int} (h:SS S v) (h0:∀u,S u->0<=u) (hx:0<=x):SS (fun u=>S u\/u=x) (if v<x then x else v):=by
 by_cases hc:v<x
 ·rw [Nh hc]
  refine .inr ⟨.inr rfl,fun u hu=>?_⟩
  rcases hu with hu | hu
  ·have:=h.ge hu;omega
  ·omega
 ·rw [Ng hc]
  have:=h.mem (by omega)
  refine .inr ⟨.inl this,fun u hu=>?_⟩
  rcases hu with hu | hu
  ·exact h.ge hu
  ·omega
theorem SS.dom {S T:Int->Prop} {v:Int} (h:SS S v) (h1:∀u,S u->T u) (h2:∀u,T u->∃w,u<=w/\S w):SS T v:=by
 rcases h with ⟨a,b⟩ | ⟨a,b⟩
 ·exact .inl ⟨a,fun u c=>by obtain ⟨w,_,hw⟩:=h2 u c;exact b w hw⟩
 ·exact .inr ⟨h1 _ a,fun u c=>by obtain ⟨w,hle,hw⟩:=h2 u c;have:=b w hw;omega⟩
def Njt (pos:Int->Nat) (low:Int) (bef aft:List Int) (l:Leg):List Int:=
 if bef.getD (pos l.dst) (-1)<0 then aft else
 match Sw l (bef.getD (pos l.dst) (-1)) with
 | some a=>if low<=a-l.cut/\aft.getD (pos l.frm) (-1)<a-l.cut then aft.set (pos l.frm) (a-l.cut) else aft
 | none=>aft
theorem Nwd {pos:Int->Nat} {low:Int} {bef aft:List Int} {l:Leg}:(Njt pos low bef aft l).length=aft.length:=by
 unfold Njt
 split
 ·rfl
 ·split
  ·split
   ·simp
   ·rfl
  ·rfl
def Nrs (pos:Int->Nat) (low:Int) (bef:List Int) (l:Leg) (q:Nat) (u:Int):Prop:=
 pos l.frm=q/\0<=bef.getD (pos l.dst) (-1)/\∃a,Sw l (bef.getD (pos l.dst) (-1))=some a/\u=a-l.cut/\low<=u
theorem Dep.ready {l:Leg} {a:Int} (h:Dep l a):0<=a-l.cut:=by
 obtain ⟨d,_,b,rfl⟩:=h
 unfold goes at b
 simp only [Nx,Ob] at b
 omega
theorem Nrs.nonneg {pos:Int->Nat} {low:Int} {bef:List Int} {l:Leg} {q:Nat} {u:Int} (h:Nrs pos low bef l q u):0<=u:=by
 obtain ⟨_,_,a,h1,h2,_⟩:=h
 have:=(Tc h1).1.ready
 omega
theorem Nwc {pos:Int->Nat} {low:Int} {bef aft:List Int} {l:Leg} {q:Nat} {S:Int->Prop} (hp:pos l.frm<aft.length) (h0:∀u,S u->0<=u) (h:SS S (aft.getD q (-1))) :
  SS (fun u=>S u\/Nrs pos low bef l q u) ((Njt pos low bef aft l).getD q (-1)):=by
 unfold Njt
 by_cases hs:bef.getD (pos l.dst) (-1)<0
 ·rw [Nh hs]
  exact h.congr fun u=>⟨.inl,fun c=>c.elim id fun d=>absurd d.2.1 (by omega)⟩
 rw [Ng hs]
 cases hn:Sw l (bef.getD (pos l.dst) (-1)) with
 | none=>
   simp only
   exact h.congr fun u=>⟨.inl,fun c=>c.elim id fun ⟨_,_,a,ha,_⟩=>by rw [hn] at ha;cases ha⟩
 | some a=>
   simp only
   have i:0<=a-l.cut:=(Tc hn).1.ready
   by_cases f:low<=a-l.cut
   ·by_cases g:pos l.frm=q
    ·have e:((if low<=a-l.cut/\aft.getD (pos l.frm) (-1)<a-l.cut then aft.set (pos l.frm) (a-l.cut) else aft).getD q (-1))=if aft.getD q (-1)<a-l.cut then a-l.cut else aft.getD q (-1):=by
      subst g
      by_cases hc:aft.getD (pos l.frm) (-1)<a-l.cut
      ·rw [Nh ⟨f,hc⟩,Nh hc,WT hp,Nh rfl]
      ·rw [Ng (fun h=>hc h.2),Ng hc]
     rw [e]
     refine (h.one h0 i).congr fun u=>⟨fun c=>c.elim .inl fun c=>.inr ⟨g,by omega,a,hn,c,by omega⟩,fun c=>c.elim .inl fun ⟨_,_,b,d,c,_⟩=>?_⟩
     rw [hn] at d;cases d;exact .inr c
    ·have e:((if low<=a-l.cut/\aft.getD (pos l.frm) (-1)<a-l.cut then aft.set (pos l.frm) (a-l.cut) else aft).getD q (-1))=aft.getD q (-1):=by
      split
      ·rw [WT hp,Ng g]
      ·rfl
     rw [e]
     exact h.congr fun u=>⟨.inl,fun c=>c.elim id fun d=>absurd d.1 g⟩
   ·rw [Ng (fun h=>f h.1)]
    refine h.congr fun u=>⟨.inl,fun c=>c.elim id fun ⟨_,_,b,d,c,hl⟩=>?_⟩
    rw [hn] at d;cases d;omega
theorem Nhe {pos:Int->Nat} {low:Int} {bef:List Int} {q:Nat}:∀{L:List Leg} {aft:List Int} {S:Int->Prop},(∀l∈L,pos l.frm<aft.length)->(∀u,S u->0<=u)->SS S (aft.getD q (-1))->
  SS (fun u=>S u\/∃l∈L,Nrs pos low bef l q u) ((L.foldl (Njt pos low bef) aft).getD q (-1))
 | [],aft,S,hL,h0,h=>h.congr fun u=>⟨.inl,fun hu=>hu.elim id fun ⟨l,hl,_⟩=>by cases hl⟩
 | l::L,aft,S,hL,h0,h=>by
   rw [Oi]
   refine (Nhe (L:=L) (fun x hx=>?_) (fun u hu=>?_) (Nwc (low:=low) (bef:=bef) (hL l (Nm ..)) h0 h)).congr fun u=>?_
   ·rw [Nwd];exact hL x (Nj _ hx)
   ·rcases hu with hu | hu
    ·exact h0 u hu
    ·exact hu.nonneg
   ·constructor
    ·rintro ((h | h) | ⟨x,hx,h⟩)
     ·exact .inl h
     ·exact .inr ⟨l,Nm ..,h⟩
     ·exact .inr ⟨x,Nj _ hx,h⟩
    ·rintro (h | ⟨x,hx,h⟩)
     ·exact .inl (.inl h)
     ·rcases Nn.1 hx with rfl | hx
      ·exact .inl (.inr h)
      ·exact .inr ⟨x,hx,h⟩
def Z4 (L:List Leg) (q dl p v:Int):Prop:=SS (fun u=>0<=u/\dl-86400<=u/\∃j v,v<=dl/\Way L j p u q v) v
theorem Z4.start {L:List Leg} {q dl v:Int} (h:Z4 L q dl q v) (hL:∀l∈L,Fine l) (h0:0<=dl):v=dl:=
 h.uniq (.inr ⟨⟨h0,by omega,0,dl,Oj _,.nil _ _⟩,fun u ⟨_,_,j,v,hv,hw⟩=>by have:=hw.later hL;omega⟩)
theorem Z4.range {L:List Leg} {q dl p v:Int} (h:Z4 L q dl p v) (hL:∀l∈L,Fine l) (hv:0<=v):dl-86400<=v/\v<=dl:=by
 obtain ⟨_,h1,j,u,a,hw⟩:=h.mem hv
 have:=hw.later hL
 exact ⟨h1,by omega⟩
theorem Z4.later {L:List Leg} {p q a b x y:Int} (hx:Z4 L q a p x) (e:Z4 L q b p y) (hL:∀l∈L,Fine l) (f:a<=b) (c:0<=x) (d:0<=y):x<=y:=by
 obtain ⟨h1,h2,j,v,hv,hw⟩:=hx.mem c
 by_cases h:b-86400<=x
 ·exact e.ge ⟨h1,h,j,v,by omega,hw⟩
 ·have:=(e.range hL d).1;omega
theorem Z4.same {L M:List Leg} {p q dl x y:Int} (hx:Z4 L q dl p x) (c:Z4 M q dl p y) (hs:∀l,l∈M↔l∈L):x=y:=
 hx.uniq (c.congr fun u=>⟨fun ⟨a,b,j,v,hv,hw⟩=>⟨a,b,j,v,hv,hw.mono fun l h=>(hs l).1 h⟩,fun ⟨a,b,j,v,hv,hw⟩=>⟨a,b,j,v,hv,hw.mono fun l h=>(hs l).2 h⟩⟩)
def XT (pos:Int->Nat) (bef aft:List Int) (l:Leg):List Int:=
 if bef.getD (pos l.dst) (-1)<0 then aft else
 match Sw l (bef.getD (pos l.dst) (-1)) with
 | some a=>aft.set (pos l.frm) (if aft.getD (pos l.frm) (-1)<a-l.cut then a-l.cut else aft.getD (pos l.frm) (-1))
 | none=>aft
def stepX (N:Nat) (pos:Int->Nat) (L:List Leg) (bef:List Int):List Int:=L.foldl (XT pos bef) (List.replicate N (-1))
theorem Nrz {pos:Int->Nat} {bef aft:List Int} {l:Leg}:XT pos bef aft l=Njt pos 0 bef aft l:=by
 unfold XT Njt
 split
 ·rfl
 cases ha:Sw l (bef.getD (pos l.dst) (-1)) with
 | none=>rfl
 | some a=>
   have:=(Tc ha).1.ready
   by_cases h:aft.getD (pos l.frm) (-1)<a-l.cut
   ·simp only [h,this,and_self,if_true]
   ·simp only [h,and_false,if_false]
    apply List.ext_getElem?
    intro i
    rw [N1]
    split
    ·rename_i e;subst e
     split
     ·rename_i hl;rw [Na,Nf hl];rfl
     ·rename_i hl;rw [Nu (by omega)]
    ·rfl
def MP (N:Nat) (pos:Int->Nat) (L:List Leg) (q dl:Int):Nat->List Int
 | 0=>Zd N (pos q) dl
 | k+1=>stepX N pos L (MP N pos L q dl k)
theorem N43 {pos:Int->Nat} {bef:List Int}:∀{L:List Leg} {aft:List Int},L.foldl (XT pos bef) aft=L.foldl (Njt pos 0 bef) aft
 | [],_=>rfl
 | l::L,aft=>by rw [Oi,Oi,Nrz,N43]
theorem Ner {N:Nat} {P:List Int} {L:List Leg} {pos:Int->Nat} {q dl:Int} (hn:NetOk N P L pos) (i:q∈P) (hr:0<=dl):∀(k:Nat) (p:Int),p∈P->
  SS (fun u=>0<=u/\∃v,v<=dl/\Way L k p u q v) ((MP N pos L q dl k).getD (pos p) (-1))
 | 0,p,hp=>by
   rw [MP,Nd1 (hn.lt q i)]
   by_cases h:pos q=pos p
   ·rw [Nh h]
    have:=hn.inj q i p hp h
    subst this
    exact .inr ⟨⟨hr,dl,Oj _,.nil _ _⟩,fun u ⟨_,v,hv,hw⟩=>by have:=hw.later hn.fine;omega⟩
   ·rw [Ng h]
    refine .inl ⟨rfl,fun u ⟨_,v,hv,hw⟩=>?_⟩
    cases hw
    exact h rfl
 | k+1,p,hp=>by
   have ih:=Ner hn i hr k
   rw [MP,stepX,N43]
   have e:(List.replicate N (-1:Int)).getD (pos p) (-1)=-1:=by
    rw [Na,P0];split<;>rfl
   refine (Nhe (L:=L) (S:=fun _=>False) (fun l hl=>by rw [O7];exact hn.lt _ (hn.frm l hl)) (fun _ h=>h.elim) (.inl ⟨e,fun _ h=>h⟩)).dom (fun u f=>?_) (fun u f=>?_)
   ·rcases f with f | ⟨l,hl,hd,hs,a,ha,rfl,g⟩
    ·exact f.elim
    ·obtain ⟨_,v,hv,hw⟩:=(ih l.dst (hn.dst l hl)).mem hs
     obtain ⟨m,n,y⟩:=Tc ha
     have:=hn.inj _ (hn.frm l hl) p hp hd
     subst this
     have o:∃v',v'<=dl/\Way L k l.dst (a+l.mins) q v':=by
      rcases hw.early n with ⟨rfl,e1,e2⟩ | hw'
      ·rw [e1];exact ⟨a+l.mins,by omega,.nil _ _⟩
      ·exact ⟨v,hv,hw'⟩
     obtain ⟨v',j,hw'⟩:=o
     exact ⟨m.ready,v',j,.cons hl rfl m (Oj _) hw'⟩
   ·obtain ⟨x,v,hv,hw⟩:=f
    obtain ⟨l,hl,a,r,hd,ha,hw'⟩:=hw.head
    subst r
    have c:=hn.fine l hl
    have t:=hd.ready
    have s:=(ih l.dst (hn.dst l hl)).ge (u:=a+l.mins) ⟨by unfold Fine at c;omega,v,hv,hw'⟩
    have d:0<=(MP N pos L q dl k).getD (pos l.dst) (-1):=by unfold Fine at c;omega
    cases hnx:Sw l ((MP N pos L q dl k).getD (pos l.dst) (-1)) with
    | none=>have:=Nd9 hnx a hd;omega
    | some b=>
      obtain ⟨z,A,w⟩:=Tc hnx
      have:=w a hd (by omega)
      exact ⟨b-l.cut,by omega,.inr ⟨l,hl,rfl,d,b,hnx,rfl,by omega⟩⟩
def Ro (L:List Leg):Int->Int->List (Leg×Int)->Int->Int->Prop
 | p,t,[],q,u=>p=q/\t=u
 | p,t,(l,a)::w,q,u=>l∈L/\l.frm=p/\Dep l a/\t<=a-l.cut/\Ro L l.dst (a+l.mins) w q u
theorem Ro.way {L:List Leg}:∀{w:List (Leg×Int)} {p t q u:Int},Ro L p t w q u->Way L w.length p t q u
 | [],p,t,q,u,h=>by obtain ⟨rfl,rfl⟩:=h;exact .nil _ _
 | (l,a)::w,p,t,q,u,h=>by
   obtain ⟨h1,h2,b,c,h5⟩:=h
   exact .cons h1 h2 b c h5.way
theorem Way.isWay {L:List Leg}:∀{k:Nat} {p t q u:Int},Way L k p t q u->∃w,w.length=k/\Ro L p t w q u
 | 0,p,t,q,u,h=>by cases h;exact ⟨[],rfl,rfl,rfl⟩
 | k+1,p,t,q,u,h=>by
   obtain ⟨l,hl,a,b,hd,ha,hw⟩:=h.head
   obtain ⟨w,e,hw⟩:=hw.isWay
   exact ⟨(l,a)::w,by simp [e],hl,b,hd,ha,hw⟩
def SN (pos:Int->Nat) (late:List Int) (plant there:Int) (l:Leg):Option (Leg×Int):=
 if l.frm=plant then match RJ l there with
  | some a=>if a+l.mins<=late.getD (pos l.dst) (-1) then some (l,a) else none
  | none=>none
 else none
def XL (pos:Int->Nat) (S:List Leg) (late:List Int) (plant there:Int):Option (Leg×Int):=S.findSome? (SN pos late plant there)
def goW (pos:Int->Nat) (S:List Leg) (late:Nat->List Int):Nat->Int->Int->List (Leg×Int)
 | 0,_,_=>[]
 | k+1,p,t=>match XL pos S (late k) p t with
   | some (l,a)=>(l,a)::goW pos S late k l.dst (a+l.mins)
   | none=>goW pos S late k p t
def Nln:List Int->List Int->Prop
 | x::a,y::b=>x<y\/x=y/\Nln a b
 | _,_=>False
def Zf (w:List (Leg×Int)):List Int:=w.map fun x=>x.1.id
theorem Yg {pos:Int->Nat} {late:List Int} {p t:Int} {l:Leg} {r:Leg×Int} (h:SN pos late p t l=some r):l.frm=p/\r.1=l/\RJ l t=some r.2/\r.2+l.mins<=late.getD (pos l.dst) (-1):=by
 unfold SN at h
 split at h
 case isFalse=>cases h
 rename_i b
 split at h
 case h_2=>cases h
 rename_i a ha
 split at h
 case isFalse=>cases h
 rename_i hl
 cases h
 exact ⟨b,rfl,ha,hl⟩
theorem Nl0 {N:Nat} {P:List Int} {L S:List Leg} {pos:Int->Nat} {q dl:Int} {late:Nat->List Int} (hn:NetOk N P L pos) (Q:q∈P) (hr:0<=dl)
  (hS:∀l,l∈S↔l∈L) (hs:S.Pairwise fun a b=>a.id<b.id) (c:∀k,late k=MP N pos L q dl k):∀(k:Nat) (p t:Int),p∈P->0<=t->(∃v,v<=dl/\Way L k p t q v)->
  (goW pos S late k p t).length=k/\(∃v,v<=dl/\Ro L p t (goW pos S late k p t) q v)/\
   ∀w' j v',t<=j->Ro L p j w' q v'->v'<=dl->w'.length=k->¬Nln (Zf w') (Zf (goW pos S late k p t))
 | 0,p,t,hp,ht,⟨v,hv,hw⟩=>by
   cases hw
   exact ⟨rfl,⟨_,hv,rfl,rfl⟩,fun w' j v' _ _ _ hl=>by cases w' with | nil=>exact fun h=>h | cons=>simp at hl⟩
 | k+1,p,t,hp,ht,⟨v,hv,hw⟩=>by
   have can:∀l∈L,∀a j v:Int,l.frm=p->Dep l a->t<=j->j<=a-l.cut->Way L k l.dst (a+l.mins) q v->v<=dl->∃b,SN pos (late k) p t l=some (l,b)/\b<=a:=by
    intro l hl a j v hf hd E ha hw hv
    have f:=hn.fine l hl
    have ad:=hd.ready
    have ac:=(Ner hn Q hr k l.dst (hn.dst l hl)).ge (u:=a+l.mins) ⟨by unfold Fine at f;omega,v,hv,hw⟩
    cases hx:RJ l t with
    | none=>have:=Nd3 hx a hd;omega
    | some b=>
      obtain ⟨W,q2,X⟩:=Sg hx
      have:=X a hd (by omega)
      refine ⟨b, ?_,this⟩
      simp only [SN,hf,if_true,hx,c]
      rw [Nh (by omega)]
   obtain ⟨V,B,a0,J,I,H,T⟩:=hw.head
   obtain ⟨b0,A,_⟩:=can V B a0 t v J I (Oj _) H T hv
   have O:XL pos S (late k) p t≠none:=by
    intro e
    unfold XL at e
    rw [List.findSome?_eq_none_iff] at e
    rw [e V ((hS V).2 B)] at A;cases A
   cases hp1:XL pos S (late k) p t with
   | none=>exact absurd hp1 O
   | some r=>
     obtain ⟨l,a⟩:=r
     have D:=hp1
     unfold XL at D
     obtain ⟨S1,x,S2,w,hx,o⟩:=List.findSome?_eq_some_iff.1 D
     obtain ⟨g1,Y,Z,G⟩:=Yg hx
     simp only at Y Z G
     subst Y
     have g:l∈L:=(hS l).1 (by rw [w];simp)
     have f:=hn.fine l g
     obtain ⟨W,q2,X⟩:=Sg Z
     rw [c] at G
     have ae:=W.ready
     obtain ⟨_,v1,R,U⟩:=(Ner hn Q hr k l.dst (hn.dst l g)).mem (by unfold Fine at f;omega)
     have s:∃v,v<=dl/\Way L k l.dst (a+l.mins) q v:=by
      rcases U.early G with ⟨rfl,e1,e2⟩ | hw'
      ·rw [e1];exact ⟨a+l.mins,by omega,.nil _ _⟩
      ·exact ⟨v1,R,hw'⟩
     obtain ⟨i1,⟨v2,hv2,i2⟩,i3⟩:=Nl0 hn Q hr hS hs c k l.dst (a+l.mins) (hn.dst l g) (by unfold Fine at f;omega) s
     have K:goW pos S late (k+1) p t=(l,a)::goW pos S late k l.dst (a+l.mins):=by simp only [goW,hp1]
     rw [K]
     refine ⟨by simp [i1],⟨v2,hv2,g,g1,W,q2,i2⟩,fun w' j v' E hw' F m=>?_⟩
     cases w' with
     | nil=>simp at m
     | cons y w'=>
       obtain ⟨i,a'⟩:=y
       obtain ⟨h1,h2,h3,h4,h5⟩:=hw'
       have d:w'.length=k:=by simpa using m
       obtain ⟨b',z,aa⟩:=can i h1 a' j v' h2 h3 E h4 (d▸h5.way) F
       intro n
       simp only [Zf,N9,Nln] at n
       have hin:i∈S:=(hS i).2 h1
       rw [w] at hin hs
       rcases n with C | ⟨ab,C⟩
       ·
        rcases N0.1 hin with hin | hin
        ·rw [o i hin] at z;cases z
        ·rcases Nn.1 hin with rfl | hin
         ·omega
         ·have:=(List.pairwise_cons.1 (Rc.1 hs).2.1).1 i hin;omega
       ·have M:i=l:=by
         rcases N0.1 hin with hin | hin
         ·have:=(Rc.1 hs).2.2 i hin l (by simp);omega
         ·rcases Nn.1 hin with h | hin
          ·exact h
          ·have:=(List.pairwise_cons.1 (Rc.1 hs).2.1).1 i hin;omega
        subst M
        have:=X a' h3 (by omega)
        exact i3 w' (a'+i.mins) v' (by omega) h5 F d C
theorem Ro.later {L:List Leg} {w:List (Leg×Int)} {p t q u:Int} (h:Ro L p t w q u) (hL:∀l∈L,Fine l):t<=u:=h.way.later hL
theorem Ro.from {L:List Leg} (hL:∀l∈L,Fine l):∀{w:List (Leg×Int)} {p t q u m:Int},Ro L p t w q u->m∈w.map (fun x=>x.1.dst)->∃k s,k<w.length/\t<=s/\Way L k m s q u
 | [],_,_,_,_,_,_,h=>by simp at h
 | (l,a)::w,p,t,q,u,m,h,hm=>by
   obtain ⟨h1,h2,f,g,h5⟩:=h
   have b:=hL l h1
   unfold Fine at b
   rw [N9,Nn] at hm
   rcases hm with rfl | hm
   ·exact ⟨w.length,a+l.mins,by simp,by omega,h5.way⟩
   ·obtain ⟨k,s,d,e,c⟩:=Ro.from hL h5 hm
    exact ⟨k,s,by simp;omega,by omega,c⟩
theorem Ro.nodup {L:List Leg} (hL:∀l∈L,Fine l):∀{w:List (Leg×Int)} {p t q v:Int},Ro L p t w q v->(∀j v',Way L j p t q v'->v'<=v->w.length<=j)->(p::w.map (fun x=>x.1.dst)).Nodup
 | [],_,_,_,_,_,_=>by simp
 | (l,a)::w,p,t,q,v,h,hmin=>by
   rw [List.nodup_cons]
   constructor
   ·intro hm
    obtain ⟨k,s,g,b,c⟩:=Ro.from hL h hm
    rcases c.early b with ⟨rfl,rfl,e⟩ | hw
    ·have:=hmin 0 t (.nil _ _) (by omega);simp at this
    ·have:=hmin k v hw (Oj _);omega
   ·obtain ⟨h1,h2,d,f,h5⟩:=h
    rw [N9]
    exact h5.nodup hL fun j v' hw hv=>by
     have:=hmin (j+1) v' (.cons h1 h2 d f hw) hv
     simpa using this
theorem Ro.uniq {L:List Leg}:∀{w:List (Leg×Int)} {p t q u b c:Int},Ro L p t w q u->Ro L p t w b c->q=b/\u=c
 | [],_,_,_,_,_,_,h,h'=>⟨h.1.symm.trans h'.1,h.2.symm.trans h'.2⟩
 | (l,a)::w,_,_,_,_,_,_,h,h'=>h.2.2.2.2.uniq h'.2.2.2.2
end Go.Net


namespace Go.Scan
def N8e (a b:Ev):Prop:=RS (Sy a) (Sy b)<0
instance (a b:Ev):Decidable (N8e a b):=by unfold N8e;infer_instance
end Go.Scan


