/-
  Joined texts, 4 of 11. A part of the claim that the last text states.
-/
import Derived.Sort.AssemblyPlain
import Derived.Test.YtkppjkkkdpcgiaaGreatPT3
set_option linter.unusedVariables false
set_option linter.unusedSimpArgs false
set_option linter.defProp false
set_option linter.unusedSectionVars false
set_option maxRecDepth 100000
set_option maxHeartbeats 4000000
namespace Go
open AM.Sym
abbrev zd:List Value:=[Vi 0,Vi 0,Vi 0,Vi 0,Vi 0,Vi 0,Vi 0,Vi 0,Vi 0,Vi 0,Vi 0,Vi 0,Vi 0,Vi 0,Vi 0,Vi 0,Vi 0,Vi 0,Vi 0,Vi 0,Vi 0,Vi 0,Vi 0,Vi 0,Vi 0,Vi 0,Vi 0,Vi 0,Vi 0,Vi 0,Vi 0,Vi 0,Vi 0,Vi 0,Vi 0,Vi 0,Vi 0,Vi 0,Vi 0,Vi 0,Vi 0,Vi 0,Vi 0,Vi 0,Vi 0,Vi 0,Vi 0,Vi 0,Vi 0,Vi 0]
abbrev ze:List Value:=[Vi 0,Vi 0,Vi 0,Vi 0,Vi 0,Vi 0,Vi 0,.int .u8 0]
abbrev zf:List Value:=[Vi 0,Vi 0,Vi 0,.int .u8 0,Vi 0,Vi 0,Vi 0]
abbrev zg:List Value:=[Vi 0,Vi 0,Vi 0]
abbrev zh:List Value:=[.int .u8 0,Vi 0,Vi 0,Vi 0,Vi 0]
abbrev zi:List Value:=[Vi 0,Vi 0,Vi 0,.int .u8 0,Vi 0,Vi 0]
abbrev zj:List Value:=[Vi 0,Vi 0,Vi 0,Vi 0,Vi 0]
abbrev zk:List Value:=[.string ⟨#[]⟩,.string ⟨#[]⟩,.string ⟨#[]⟩,.string ⟨#[]⟩,.string ⟨#[]⟩,.string ⟨#[]⟩,.string ⟨#[]⟩,.string ⟨#[]⟩]
abbrev zl:List Value:=[Vz,Vz,Vz,Vi 0,Vz]
abbrev zm:List Value:=[Vi 0,Vi 0]
abbrev zn:List Value:=[Vi 0,Vi 0,Vi 0,Vi 0,Vi 0,Vi 0,Vi 0,Vi 0,Vi 0,Vi 0,Vi 0,Vi 0,Vi 0,Vi 0,Vi 0,Vi 0,Vi 0,Vi 0,Vi 0,Vi 0,Vi 0,Vi 0,Vi 0,Vi 0]
abbrev zo:List Value:=[Vi 0,Vi 0,Vi 0,.int .u8 0,Vi 0,Vi 0,Vi 0,Vi 0,Vi 0,.int .u8 0,Vi 0,Vi 0,Vi 0,Vi 0,Vi 0,.int .u8 0,Vi 0,Vi 0]
abbrev zp:List Value:=[.int .u8 0,Vi 0,Vi 0,Vi 0,Vi 0,.int .u8 0,Vi 0,Vi 0,Vi 0,Vi 0]
abbrev zq:List Value:=[Vi 0,Vi 0,Vi 0,Vi 0,Vi 0,Vi 0,Vi 0]
abbrev zr:List Value:=[Vz,Vz,Vi 0]
abbrev zt:List Value:=[Vi 0]
abbrev zu:List Value:=[Vi 0,Vi 0,.int .u8 0]
abbrev zw:List Value:=[.bool false]
end Go
namespace Go.Proofs.YtkppjkkkdpcgiaaGreat.Fn
open Go.AM Go.AM.Sym
abbrev p (d n:Nat) (o:AOp):AIns:=⟨some d,some (n,true),o,none,[]⟩
abbrev q (d n:Nat) (o:AOp):AIns:=⟨some d,some (n,false),o,none,[]⟩
abbrev s (o:AOp):AIns:=⟨none,none,o,none,[]⟩
def pure:List FuncId:=[4,12,13,18,21,22,25,30,31,33,34,35,42,43,44,45,46,47,52,53,55,60,61,63,66,67,68,69,78,79,80,81,82,83,84,85,87,88,89,92,94,96,100,104,108,110,111,112,113,115,116,118,119,120,121,124,125,127,128,130,131,135,136,138,139,140,145,154,155,156,166,170,171,173]
def pf:FuncId->Bool:=fun f=>pure.contains f
def c4:ACode:=(Oz [i 5 (.box (t 0)),i 10 (.mov (k (.bool false)))] (.seq (Oz [fT 18 0 5,lT 19 18,Nt 20 19,Bc 21 .gtr 20 60,mT 22 21,Qf 23 22 1 5,Ql 24 22 23,q 25 22 (.lenSlice (t 24)),q 26 22 (.bin .gtr (t 25) (zT 20)),Ot 27 22 26,mT 28 27,Qm 29 28 1,q 30 28 (.lenSlice (t 29)),q 31 28 (.bin .gtr (t 30) (zT 24)),Qm 32 28 31,Pm 33 32 1,p 34 32 (.lenSlice (t 33)),p 35 32 (.bin .lss (t 34) (zT 41)),q 36 28 (.pick (t 32) (t 35) (k (.bool false))),Ot 37 28 36,mT 38 37,Qm 39 38 1,q 40 38 (.lenSlice (t 39)),q 41 38 (.bin .gtr (t 40) (zT 50)),Ot 42 38 41] (.cond (t 42) (Oz [Ct 43 18 [],mT 10 43] .ret) .skip)) (Oz [Gt 44 2 5,Ct 45 19 [(t 44)],mT 46 1,Ct 47 20 [(t 46)],i 11 (.alloc [Vz,Vz]),St 2 11 45,mT 12 47] (Oz [Gt 49 2 11,mT 50 12,mT 51 2,mT 52 3,Ct 53 17 [(t 49),(t 50),(t 51),(t 52)],mT 48 53,Et 54 0 48,Et 55 1 48,i 13 (.alloc zl),St 5 13 54,mT 14 55] (.seq (Oz [Gt 56 2 11,Gt 57 2 5,Ct 58 21 [(t 56),(t 57)],Ut 59 58,mT 60 59,Qm 61 60 12,Qm 62 60 1,q 63 60 (.call .any (.func 22) [(t 61),(t 62)]),q 64 60 (.un .not (t 63)),Ot 65 60 64] (.cond (t 65) (Oz [i 10 (.mov (k (.bool false)))] .ret) .skip)) (Oz [mT 66 12,Ct 67 23 [(t 66)]] (Oz [Gt 69 2 5,mT 70 1,mT 71 2,mT 72 3,Ct 73 24 [(t 69),(t 70),(t 71),(t 72)],mT 68 73,Et 74 0 68,Et 75 1 68,i 15 (.alloc zl),St 5 15 74,mT 16 75] (.seq (Oz [mT 76 14,mT 77 16,Bt 78 .neq 76 77,mT 79 78,q 80 79 (.loadN 5 (t 13)),q 81 79 (.loadN 5 (t 15)),q 82 79 (.call .any (.func 25) [(t 80),(t 81)]),q 83 79 (.un .not (t 82)),Ot 84 79 83] (.cond (t 84) (Oz [i 10 (.mov (k (.bool false)))] .ret) .skip)) (Oz [i 17 (.mov (k (.string ⟨#[]⟩)))] (.seq (Oz [mT 85 4,i 86 (.bin .geq (t 85) (k (.int .u8 1))),mT 87 86,Pm 88 87 4,p 89 87 (.bin .leq (t 88) (k (.int .u8 7))),At 90 87 89] (.cond (t 90) (.ops [i 91 (.buildSlice 7 [.string ⟨#[]⟩,.string ⟨#[]⟩,.string ⟨#[]⟩,.string ⟨#[]⟩,.string ⟨#[]⟩,.string ⟨#[]⟩,.string ⟨#[]⟩] [(0,(1,(k (.string ⟨#[115,116,114,97,121]⟩)))),(1,(1,(k (.string ⟨#[97,102,116,101,114]⟩)))),(2,(1,(k (.string ⟨#[106,117,109,112]⟩)))),(3,(1,(k (.string ⟨#[101,97,114,108,121]⟩)))),(4,(1,(k (.string ⟨#[109,105,115,115,101,100]⟩)))),(5,(1,(k (.string ⟨#[100,111,117,98,108,101,100]⟩)))),(6,(1,(k (.string ⟨#[108,111,115,116]⟩))))]),mT 92 4,i 93 (.bin .sub (t 92) (k (.int .u8 1))),xT 94 1 91 93,lT 95 94,mT 17 95]) .skip)) (Oz [mT 96 4,Ct 97 13 [(t 96)],mT 98 17,Bt 99 .eql 97 98,mT 100 99,p 101 100 (.call .any (.func 18) []),At 102 100 101,mT 10 102] .ret)))))))))))
def a4:AFunc:=⟨103,[(.tmp 10)],c4⟩
theorem n4:a4.ntmps=103:=id rfl
theorem r4:a4.results=[(.tmp 10)]:=rfl
theorem b4:a4.body=c4:=rfl
def N1c:ACode:=(Oz [Bt 52 .lss 51 50] (.seq (Ce 52 2) (.seq (.block 3 (Oz [xT 53 8 49 51,Gt 54 8 53,i 8 (.alloc ze),St 8 8 54] (.seq (Oz [Gt 55 8 8,Ct 56 34 [(t 55)],Ut 57 56,mT 58 57,Qm 59 58 6,Qf 60 58 0 8,Ql 61 58 60,q 62 58 (.lookup (.int .i64) (.bool false) false (t 59) (t 61)),Ot 63 58 62,mT 64 63,Qm 65 64 3,Qf 66 64 1 8,Ql 67 64 66,q 68 64 (.lookup (.int .i64) (.bool false) false (t 65) (t 67)),q 69 64 (.un .not (t 68)),Ot 70 64 69,mT 71 70,Qm 72 71 3,Qf 73 71 2 8,Ql 74 71 73,q 75 71 (.lookup (.int .i64) (.bool false) false (t 72) (t 74)),q 76 71 (.un .not (t 75)),Ot 77 71 76] (.cond (t 77) (Oz [Zm 2 321] .ret) .skip)) (.ops [mT 78 6,fT 79 0 8,lT 80 79,s (.mapUpdate (.int .i64) (t 78) (t 80) (k (.bool true)))])))) (.ops [Bc 81 .add 51 1,mT 51 81]))))
def N88:ACode:=(Oz [Bt 27 .lss 26 25] (.seq (Ce 27 0) (.seq (.block 1 (Oz [xT 28 1 24 26,lT 29 28,mT 5 29] (.seq (Oz [mT 30 5,Bc 31 .lss 30 1,mT 32 31,Qm 33 32 5,q 34 32 (.bin .gtr (t 33) (zT 999999)),Ot 35 32 34,mT 36 35,Qm 37 36 3,Qm 38 36 5,q 39 36 (.lookup (.int .i64) (.bool false) false (t 37) (t 38)),Ot 40 36 39] (.cond (t 40) (Oz [Zm 2 320] .ret) .skip)) (.ops [mT 41 3,mT 42 5,s (.mapUpdate (.int .i64) (t 41) (t 42) (k (.bool true)))])))) (.ops [Bc 43 .add 26 1,mT 26 43]))))
def c12:ACode:=(Oz [i 1 (.box (t 0)),Zm 2 0] (.seq (Oz [fT 9 0 1,lT 10 9,Nt 11 10,Bc 12 .gtr 11 50,mT 13 12,Qf 14 13 1 1,Ql 15 13 14,q 16 13 (.lenSlice (t 15)),q 17 13 (.bin .gtr (t 16) (zT 200)),Ot 18 13 17] (.cond (t 18) (Oz [Zm 2 5] .ret) .skip)) (Oz [fT 19 0 1,lT 20 19,Nt 21 20,i 22 (.makeMap (some (t 21))),mT 3 22] (.seq (Oz [fT 23 0 1,lT 24 23,Nt 25 24,Zm 26 0] (Bl 0 N88)) (Oz [fT 44 1 1,lT 45 44,Nt 46 45,i 47 (.makeMap (some (t 46))),mT 6 47] (.seq (Oz [fT 48 1 1,lT 49 48,Nt 50 49,Zm 51 0] (Bl 2 N1c)) (Oz [Zm 2 0] .ret)))))))
def a12:AFunc:=⟨82,[(.tmp 2)],c12⟩
theorem n12:a12.ntmps=82:=id rfl
theorem r12:a12.results=[(.tmp 2)]:=rfl
theorem b12:a12.body=c12:=rfl
def c13:ACode:=(Oz [i 2 (.mov (k (.string ⟨#[]⟩)))] (Oz [Ct 4 35 [],i 3 (.alloc zk),St 8 3 4] (.seq (Oz [mT 5 0,i 6 (.conv .i64 (t 5)),Bc 7 .geq 6 8] (.cond (t 7) (Oz [i 2 (.mov (k (.string ⟨#[]⟩)))] .ret) .skip)) (Oz [mT 8 0,i 9 (.idxAddrA 8 1 (t 3) (t 8)),lT 10 9,mT 2 10] .ret))))
def a13:AFunc:=⟨11,[(.tmp 2)],c13⟩
theorem n13:a13.ntmps=11:=id rfl
theorem r13:a13.results=[(.tmp 2)]:=rfl
theorem b13:a13.body=c13:=rfl
def c17:ACode:=(Oz [i 4 (.box (t 0)),i 8 (.alloc zl),Zm 9 0] (.seq (Oz [Gt 15 2 4,Ct 16 12 [(t 15)],mT 10 16] (Oz [mT 17 10,Bc 18 .neq 17 0] (.cond (t 18) (Oz [i 19 (.build zl []),mT 20 10,St 5 8 19,mT 9 20] .ret) .skip))) (Oz [mT 22 1,Ct 23 36 [(t 22)],mT 21 23,Et 24 0 21,Et 25 1 21,mT 11 24,mT 12 25] (.seq (Oz [mT 26 12,Bc 27 .neq 26 0,mT 28 27,Qm 29 28 2,q 30 28 (.bin .lss (t 29) (zT 1)),Ot 31 28 30,mT 32 31,Qm 33 32 2,q 34 32 (.bin .gtr (t 33) (zT 999999)),Ot 35 32 34,mT 36 35,Qm 37 36 3,q 38 36 (.bin .lss (t 37) (zT 0)),Ot 39 36 38,mT 40 39,Qm 41 40 3,q 42 40 (.bin .gtr (t 41) (zT 1051898399)),Ot 43 40 42] (.cond (t 43) (Oz [i 44 (.build zl []),St 5 8 44,Zm 9 2] .ret) .skip)) (Oz [mT 45 11,mT 46 2,Ct 47 28 [(t 45),(t 46)],i 48 (.build zl [(0,(1,(t 47)))]),i 13 (.alloc zl),St 5 13 48] (.seq (Oz [fT 49 0 13,lT 50 49,Nt 51 50,Bc 52 .eql 51 0] (.cond (t 52) (Oz [i 53 (.build zl []),St 5 8 53,Zm 9 6] .ret) .skip)) (.seq (Oz [Gt 55 2 4,fT 56 0 13,lT 57 56,Ct 58 37 [(t 55),(t 57)],mT 54 58,Et 59 0 54,Et 60 1 54,fT 61 1 13,St 3 61 59,mT 12 60] (Oz [mT 62 12,Bc 63 .neq 62 0] (.cond (t 63) (Oz [i 64 (.build zl []),mT 65 12,St 5 8 64,mT 9 65] .ret) .skip))) (Oz [mT 67 1,Ct 68 27 [(t 67)],mT 66 68,Et 69 0 66,Et 70 1 66,mT 14 69,mT 12 70] (.seq (Oz [mT 71 12,Bc 72 .neq 71 0] (.cond (t 72) (Oz [i 73 (.build zl []),mT 74 12,St 5 8 73,mT 9 74] .ret) .skip)) (Ds 0 [i 75 (.loadR (some 5) (t 13)),i 76 (.loadR (some 2) (t 4)),mT 77 14,mT 78 2,mT 80 3,i 79 (.call .recs (.func 28) [(t 77),(t 78)]),Ct 81 38 [(t 75),(t 76),(t 79),(t 80)],fT 82 4 13,St 1 82 81] (Oz [Gt 83 5 13,St 5 8 83,Zm 9 0] .ret)))))))))))
def a17:AFunc:=⟨84,[(.cellN 5 8),(.tmp 9)],c17⟩
theorem n17:a17.ntmps=84/\a17.results=[(.cellN 5 8),(.tmp 9)]:=⟨id rfl,rfl⟩
theorem b17:a17.body=c17:=rfl
def c18:ACode:=(Oz [i 0 (.mov (k (.bool false)))] (Oz [Ct 14 31 [(zT 1),(zT 500),(k (.int .u8 2))],Ct 15 31 [(zT 3),(zT 800),(k (.int .u8 2))],Ct 16 31 [(zT 1),(zT 501),(k (.int .u8 2))],i 17 (.buildSlice 3 zo [(0,(6,(t 14))),(6,(6,(t 15))),(12,(6,(t 16)))]),mT 1 17] (Oz [i 18 (.build zh [(0,(1,(k (.int .u8 5)))),(1,(1,(zT 1))),(3,(1,(zT 2)))]),i 2 (.alloc zh),St 5 2 18] (Oz [i 19 (.build zh [(0,(1,(k (.int .u8 6)))),(3,(1,(zT 1))),(4,(1,(zT 1)))]),i 3 (.alloc zh),St 5 3 19] (Ds 1 [Kt 21 (.call .any (.func 39) []) [0],mT 22 1,i 23 (.sliceS 6 (t 22) none (some (zT 2)) none),Kt 24 (.call .any (.func 17) [(t 21),(t 23),(zT 7),(zT 900)]) [0],mT 20 24,Et 25 0 20,Et 26 1 20,Wt 4 (.alloc zl) 0,St 5 4 25,mT 5 26] (Oz [Ct 28 39 [],mT 29 1,Ct 30 17 [(t 28),(t 29),(zT 7),(zT 900)],mT 27 30,Et 31 0 27,Et 32 1 27,i 6 (.alloc zl),St 5 6 31,mT 7 32] (Ds 1 [Kt 34 (.call .any (.func 39) []) [0],mT 35 1,i 36 (.sliceS 6 (t 35) none (some (zT 2)) none),Kt 37 (.call .any (.func 17) [(t 34),(t 36),(zT 7),(zT 28800)]) [0],mT 33 37,Et 38 0 33,Et 39 1 33,Wt 8 (.alloc zl) 0,St 5 8 38,mT 9 39] (Oz [Ct 41 39 [],Ct 42 31 [(zT 1),(zT 500),(k (.int .u8 2))],Ct 43 31 [(zT 1),(zT 505),(k (.int .u8 4))],Ct 44 31 [(zT 1),(zT 600),(k (.int .u8 2))],i 45 (.buildSlice 3 zo [(0,(6,(t 42))),(6,(6,(t 43))),(12,(6,(t 44)))]),Ct 46 17 [(t 41),(t 45),(zT 7),(zT 900)],mT 40 46,Et 47 0 40,Et 48 1 40,i 10 (.alloc zl),St 5 10 47,mT 11 48] (Oz [Ct 50 39 [],mT 51 1,Ct 52 17 [(t 50),(t 51),(zT 8),(zT 900)],mT 49 52,Et 53 0 49,Et 54 1 49,i 12 (.alloc zl),St 5 12 53,mT 13 54] (Oz [mT 55 5,mT 56 7,Bt 57 .add 55 56,mT 58 9,Bt 59 .add 57 58,mT 60 11,Bt 61 .add 59 60,Bc 62 .eql 61 0,mT 63 62,Pm 64 63 13,p 65 63 (.bin .eql (t 64) (zT 6)),At 66 63 65,mT 67 66,Pf 68 67 4 4,Pl 69 67 68,p 70 67 (.loadN 5 (t 2)),p 71 67 (.buildSlice 1 zh [(0,(5,(t 70)))]),p 72 67 (.call .any (.func 30) [(t 69),(t 71)]),At 73 67 72,mT 74 73,Pf 75 74 4 6,Pl 76 74 75,p 77 74 (.loadN 5 (t 3)),p 78 74 (.loadN 5 (t 2)),p 79 74 (.buildSlice 2 zp [(0,(5,(t 77))),(5,(5,(t 78)))]),p 80 74 (.call .any (.func 30) [(t 76),(t 79)]),At 81 74 80,mT 82 81,Pf 83 82 4 8,Pl 84 82 83,p 85 82 (.loadN 5 (t 2)),p 86 82 (.build zh [(0,(1,(k (.int .u8 7)))),(1,(1,(zT 1))),(3,(1,(zT 3))),(4,(1,(zT 28000)))]),p 87 82 (.buildSlice 2 zp [(0,(5,(t 85))),(5,(5,(t 86)))]),p 88 82 (.call .any (.func 30) [(t 84),(t 87)]),At 89 82 88,mT 90 89,Pf 91 90 4 10,Pl 92 90 91,p 93 90 (.build zh [(0,(1,(k (.int .u8 1)))),(1,(1,(zT 2))),(3,(1,(zT 1)))]),p 94 90 (.buildSlice 1 zh [(0,(5,(t 93)))]),p 95 90 (.call .any (.func 30) [(t 92),(t 94)]),At 96 90 95,mT 97 96,p 98 97 (.call .any (.func 13) [(k (.int .u8 1))]),p 99 97 (.bin .eql (t 98) (k (.string ⟨#[115,116,114,97,121]⟩))),At 100 97 99,mT 101 100,p 102 101 (.call .any (.func 13) [(k (.int .u8 0))]),p 103 101 (.bin .eql (t 102) (k (.string ⟨#[]⟩))),At 104 101 103,mT 105 104,p 106 105 (.call .any (.func 13) [(k (.int .u8 8))]),p 107 105 (.bin .eql (t 106) (k (.string ⟨#[]⟩))),At 108 105 107,mT 0 108] .ret))))))))))
def a18:AFunc:=⟨109,[(.tmp 0)],c18⟩
theorem n18:a18.ntmps=109:=id rfl
theorem r18:a18.results=[(.tmp 0)]:=rfl
theorem b18:a18.body=c18:=rfl
def c19:ACode:=(Oz [i 1 (.box (t 0)),i 2 (.alloc [Vz,Vz])] (Oz [fT 3 0 1,lT 4 3,Ct 5 40 [(t 4)],fT 6 0 1,St 1 6 5] (Oz [fT 7 1 1,lT 8 7,Ct 9 41 [(t 8)],fT 10 1 1,St 1 10 9] (Oz [Gt 11 2 1,St 2 2 11] .ret))))
def a19:AFunc:=⟨12,[(.cellN 2 2)],c19⟩
theorem n19:a19.ntmps=12:=id rfl
theorem r19:a19.results=[(.cellN 2 2)]:=rfl
theorem b19:a19.body=c19:=rfl
def N87:ACode:=(.seq (Oz [mT 12 4,Bc 13 .lss 12 12] (Ce 13 0)) (.seq (.block 1 (.ops [mT 16 3,mT 17 4,Ct 18 42 [(zT 1),(t 17)],i 19 (.buildSlice 1 zi [(0,(6,(t 18)))]),i 20 (.append 6 48 false (t 16) (t 19)),mT 3 20])) (.ops [mT 14 4,Bc 15 .add 14 1,mT 4 15])))
def c20:ACode:=(Oz [i 2 (.mov (k Vz))] (Oz [mT 5 0,Nt 6 5,Bc 7 .add 6 12,i 8 (.makeSlice 6 48 zi (zT 0) (t 7)),mT 3 8] (Oz [mT 9 3,mT 10 0,i 11 (.append 6 48 false (t 9) (t 10)),mT 3 11] (.seq (Oz [Zm 4 0] (Bl 0 N87)) (Oz [mT 21 3,mT 22 0,Nt 23 22,i 24 (.sliceS 6 (t 21) none (some (t 23)) none),mT 2 24] .ret)))))
def a20:AFunc:=⟨25,[(.tmp 2)],c20⟩
theorem n20:a20.ntmps=25:=id rfl
theorem r20:a20.results=[(.tmp 2)]:=rfl
theorem b20:a20.body=c20:=rfl
def c21:ACode:=(Oz [i 2 (.box (t 0)),i 3 (.box (t 1)),i 4 (.mov (k (.bool false)))] (Oz [Gt 5 2 2,Gt 6 2 3,Ct 7 43 [(t 5),(t 6)],mT 8 7,Pf 9 8 0 2,Pl 10 8 9,Pf 11 8 0 3,Pl 12 8 11,p 13 8 (.call .any (.func 44) [(t 10),(t 12)]),At 14 8 13,mT 15 14,Pf 16 15 1 2,Pl 17 15 16,Pf 18 15 1 3,Pl 19 15 18,p 20 15 (.call .any (.func 45) [(t 17),(t 19)]),At 21 15 20,mT 4 21] .ret))
def a21:AFunc:=⟨22,[(.tmp 4)],c21⟩
theorem n21:a21.ntmps=22/\a21.results=[(.tmp 4)]:=⟨id rfl,rfl⟩
theorem b21:a21.body=c21:=rfl
def N86:ACode:=(.seq (Oz [mT 17 6,mT 18 5,Nt 19 18,Bt 20 .lss 17 19] (Ce 20 0)) (.seq (.block 1 (Ds 0 [mT 23 6,mT 24 1,Nt 25 24,Bt 26 .lss 23 25,mT 27 26,Pm 28 27 5,Pm 29 27 6,Px 30 27 6 28 29,p 31 27 (.loadN 6 (t 30)),Pm 32 27 1,Pm 33 27 6,Px 34 27 6 32 33,p 35 27 (.loadN 6 (t 34)),p 36 27 (.eqv false (.agg [(.int .i64),(.int .i64),(.int .i64),(.int .u8),(.int .i64),(.int .i64)]) (t 31) (t 35)),p 37 27 (.un .not (t 36)),At 38 27 37,mT 39 38,Qm 40 39 6,Qm 41 39 1,q 42 39 (.lenSlice (t 41)),Qb 43 39 .geq 40 42,Qm 44 39 43,Pm 45 44 5,Pm 46 44 6,Px 47 44 6 45 46,p 48 44 (.loadN 6 (t 47)),Pm 49 44 6,Pm 50 44 1,p 51 44 (.lenSlice (t 50)),Pb 52 44 .sub 49 51,p 53 44 (.call .pure (.func 42) [(zT 1),(t 52)]),p 54 44 (.eqv false (.agg [(.int .i64),(.int .i64),(.int .i64),(.int .u8),(.int .i64),(.int .i64)]) (t 48) (t 53)),p 55 44 (.un .not (t 54)),q 56 39 (.pick (t 44) (t 55) (k (.bool false))),Ot 57 39 56] (.cond (t 57) (Oz [i 4 (.mov (k (.bool false)))] .ret) .skip))) (.ops [mT 21 6,Bc 22 .add 21 1,mT 6 22])))
def c22:ACode:=(Oz [i 4 (.mov (k (.bool false)))] (.seq (Oz [mT 7 0,Nt 8 7,mT 9 1,Nt 10 9,Bt 11 .neq 8 10] (.cond (t 11) (Oz [i 4 (.mov (k (.bool false)))] .ret) .skip)) (Oz [mT 12 0,mT 13 1,Nt 14 13,Bc 15 .add 14 12,i 16 (.sliceS 6 (t 12) none (some (t 15)) none),mT 5 16] (.seq (Oz [Zm 6 0] (Bl 0 N86)) (Oz [i 4 (.mov (k (.bool true)))] .ret)))))
def a22:AFunc:=⟨58,[(.tmp 4)],c22⟩
theorem n22:a22.ntmps=58/\a22.results=[(.tmp 4)]:=⟨id rfl,rfl⟩
theorem b22:a22.body=c22:=rfl
def N85:ACode:=(.seq (Oz [mT 12 3,mT 13 2,Nt 14 13,Bt 15 .lss 12 14] (Ce 15 0)) (.seq (.block 1 (.ops [mT 18 2,mT 19 3,mT 20 3,Ct 21 42 [(zT 2),(t 20)],xT 22 6 18 19,St 6 22 21])) (.ops [mT 16 3,Bc 17 .add 16 1,mT 3 17])))
def c23:ACode:=(Oz [mT 4 0,mT 5 0,i 6 (.capSlice (t 5)),mT 7 0,Nt 8 7,Bc 9 .add 8 12,i 10 (.minmax false [(t 6),(t 9)]),i 11 (.sliceS 6 (t 4) none (some (t 10)) none),mT 2 11] (Oz [Zm 3 0] (Bl 0 N85)))
def a23:AFunc:=⟨23,[],c23⟩
theorem n23:a23.ntmps=23/\a23.results=[]:=⟨id rfl,rfl⟩
theorem b23:a23.body=c23:=rfl
def Ntc:ACode:=(.seq (Oz [mT 216 23,mT 217 12,Nt 218 217,Bt 219 .lss 216 218] (Ce 219 8)) (.seq (.block 9 (Ds 0 [fT 222 0 13,lT 223 222,mT 224 12,mT 225 23,xT 226 7 224 225,Gt 227 7 226,mT 228 14,i 229 (.call .pure (.func 52) [(t 223),(t 227),(t 228)])] (.cond (t 229) (.drawn 2 [fT 230 4 13,Kt 231 (.load1 (t 230)) [0,1],mT 232 14,mT 233 15,mT 234 12,mT 235 23,xT 236 7 234 235,fT 237 6 236,Kt 238 (.load1 (t 237)) [0,1],fT 239 0 13,Kt 240 (.load1 (t 239)) [0,1],mT 241 14,xT 242 7 240 241,fT 243 6 242,Kt 244 (.load1 (t 243)) [0,1],Bt 245 .sub 238 244,i 246 (.build zj [(0,(1,(zT 6))),(1,(1,(t 232))),(2,(1,(zT 0))),(3,(1,(t 233))),(4,(1,(t 245)))]),Wt 247 (.buildSlice 1 zj [(0,(5,(t 246)))]) 0,Wt 248 (.append 5 40 false (t 231) (t 247)) 1,fT 249 4 13,St 1 249 248]) .skip))) (.ops [mT 220 23,Bc 221 .add 220 1,mT 23 221])))
def N04:ACode:=(.seq (Oz [mT 197 22,mT 198 21,Nt 199 198,Bt 200 .lss 197 199] (Ce 200 6)) (.seq (.block 7 (.drawn 2 [fT 203 4 13,Kt 204 (.load1 (t 203)) [0,1],mT 205 14,fT 206 0 19,Kt 207 (.load1 (t 206)) [0,1],mT 208 21,mT 209 22,xT 210 1 208 209,Kt 211 (.load1 (t 210)) [0,1],i 212 (.build zj [(0,(1,(zT 5))),(1,(1,(t 205))),(2,(1,(t 207))),(3,(1,(t 211))),(4,(1,(zT 0)))]),Wt 213 (.buildSlice 1 zj [(0,(5,(t 212)))]) 0,Wt 214 (.append 5 40 false (t 204) (t 213)) 1,fT 215 4 13,St 1 215 214])) (.ops [mT 201 22,Bc 202 .add 201 1,mT 22 202])))
def Nnb:ACode:=(.seq (Oz [mT 118 18,fT 119 1 13,fT 120 1 119,lT 121 120,Nt 122 121,Bt 123 .lss 118 122] (Ce 123 4)) (.seq (.block 5 (Oz [fT 126 1 13,fT 127 1 126,lT 128 127,mT 129 18,xT 130 3 128 129,Gt 131 3 130,i 19 (.alloc zg),St 3 19 131] (.seq (Oz [fT 132 1 19,lT 133 132,mT 134 14,Bt 135 .neq 133 134] (.cond (t 135) (.exit 5) .skip)) (Oz [fT 136 0 13,lT 137 136,fT 138 0 19,lT 139 138,xT 140 7 137 139,Gt 141 7 140,i 20 (.alloc zf),St 7 20 141] (Oz [fT 142 0 20,fT 143 3 142,lT 144 143,i 145 (.bin .eql (t 144) (k (.int .u8 4)))] (.cond (t 145) (.ops [fT 146 4 13,lT 147 146,mT 148 14,fT 149 0 19,lT 150 149,mT 151 15,i 152 (.build zj [(0,(1,(zT 2))),(1,(1,(t 148))),(2,(1,(t 150))),(3,(1,(t 151))),(4,(1,(zT 0)))]),i 153 (.buildSlice 1 zj [(0,(5,(t 152)))]),i 154 (.append 5 40 false (t 147) (t 153)),fT 155 4 13,St 1 155 154]) (Oz [fT 156 2 19,lT 157 156,Bc 158 .eql 157 80] (.cond (t 158) (.ops [fT 159 4 13,lT 160 159,mT 161 14,fT 162 0 19,lT 163 162,mT 164 15,i 165 (.build zj [(0,(1,(zT 3))),(1,(1,(t 161))),(2,(1,(t 163))),(3,(1,(t 164))),(4,(1,(zT 0)))]),i 166 (.buildSlice 1 zj [(0,(5,(t 165)))]),i 167 (.append 5 40 false (t 160) (t 166)),fT 168 4 13,St 1 168 167]) (Oz [fT 169 2 19,lT 170 169,Bc 171 .gtr 170 0] (.cond (t 171) (.ops [fT 172 4 13,lT 173 172,mT 174 14,fT 175 0 19,lT 176 175,mT 177 15,fT 178 2 19,lT 179 178,i 180 (.build zj [(0,(1,(zT 4))),(1,(1,(t 174))),(2,(1,(t 176))),(3,(1,(t 177))),(4,(1,(t 179)))]),i 181 (.buildSlice 1 zj [(0,(5,(t 180)))]),i 182 (.append 5 40 false (t 173) (t 181)),fT 183 4 13,St 1 183 182]) (Oz [fT 184 0 20,fT 185 1 184,lT 186 185,mT 187 15,Bt 188 .neq 186 187] (.cond (t 188) (Oz [Gt 189 2 4,fT 190 0 20,fT 191 1 190,lT 192 191,mT 193 15,fT 194 6 20,lT 195 194,Ct 196 51 [(t 189),(t 192),(t 193),(t 195)],mT 21 196] (Oz [Zm 22 0] (Bl 6 N04))) .skip)))))))))))) (.ops [mT 124 18,Bc 125 .add 124 1,mT 18 125])))
def N03:ACode:=(.seq (Oz [mT 93 17,fT 94 1 13,fT 95 0 94,lT 96 95,Nt 97 96,Bt 98 .lss 93 97] (Ce 98 2)) (.seq (.block 3 (Oz [fT 101 1 13,fT 102 0 101,lT 103 102,mT 104 17,xT 105 1 103 104,lT 106 105,mT 107 14,Bt 108 .eql 106 107] (.cond (t 108) (.ops [i 16 (.mov (k (.bool false)))]) .skip))) (.ops [mT 99 17,Bc 100 .add 99 1,mT 17 100])))
def Ntb:ACode:=(.seq (Oz [mT 79 14,fT 80 0 13,lT 81 80,Nt 82 81,Bt 83 .lss 79 82] (Ce 83 0)) (.seq (.block 1 (Oz [fT 86 0 13,lT 87 86,mT 88 14,xT 89 7 87 88,fT 90 0 89,fT 91 1 90,lT 92 91,mT 15 92] (Oz [i 16 (.mov (k (.bool true)))] (.seq (Oz [Zm 17 0] (Bl 2 N03)) (.seq (Oz [mT 109 16] (.cond (t 109) (.ops [fT 110 4 13,lT 111 110,mT 112 14,mT 113 15,i 114 (.build zj [(0,(1,(zT 1))),(1,(1,(t 112))),(2,(1,(zT 0))),(3,(1,(t 113))),(4,(1,(zT 0)))]),i 115 (.buildSlice 1 zj [(0,(5,(t 114)))]),i 116 (.append 5 40 false (t 111) (t 115)),fT 117 4 13,St 1 117 116]) .skip)) (.seq (Oz [Zm 18 0] (Bl 4 Nnb)) (Oz [Zm 23 0] (Bl 8 Ntc)))))))) (.ops [mT 84 14,Bc 85 .add 84 1,mT 14 85])))
def c24:ACode:=(Oz [i 4 (.box (t 0)),i 8 (.alloc zl),Zm 9 0] (.seq (Oz [Gt 26 2 4,Ct 27 46 [(t 26)],mT 10 27] (Oz [mT 28 10,Bc 29 .neq 28 0] (.cond (t 29) (Oz [i 30 (.build zl []),mT 31 10,St 5 8 30,mT 9 31] .ret) .skip))) (.seq (Oz [mT 32 1,Ct 33 47 [(t 32)],Ut 34 33,mT 35 34,Qm 36 35 2,q 37 35 (.bin .lss (t 36) (zT 1)),Ot 38 35 37,mT 39 38,Qm 40 39 2,q 41 39 (.bin .gtr (t 40) (zT 999999)),Ot 42 39 41,mT 43 42,Qm 44 43 3,q 45 43 (.bin .lss (t 44) (zT 0)),Ot 46 43 45,mT 47 46,Qm 48 47 3,q 49 47 (.bin .gtr (t 48) (zT 1051898399)),Ot 50 47 49] (.cond (t 50) (Oz [i 51 (.build zl []),St 5 8 51,Zm 9 2] .ret) .skip)) (Oz [mT 53 1,Ct 54 48 [(t 53)],mT 52 54,Et 55 0 52,Et 56 1 52,mT 11 55,mT 12 56] (Oz [i 13 (.alloc zl)] (Oz [mT 57 11,mT 58 2,Ct 59 49 [(t 57),(t 58)],fT 60 0 13,St 1 60 59] (Oz [mT 61 12,mT 62 2,Ct 63 49 [(t 61),(t 62)],mT 12 63] (.seq (Oz [fT 64 0 13,lT 65 64,Nt 66 65,Bc 67 .eql 66 0] (.cond (t 67) (Oz [i 68 (.build zl []),St 5 8 68,Zm 9 6] .ret) .skip)) (.seq (Oz [fT 69 0 13,lT 70 69,Nt 71 70,Bc 72 .gtr 71 40] (.cond (t 72) (Oz [i 73 (.build zl []),St 5 8 73,Zm 9 5] .ret) .skip)) (Oz [Gt 74 2 4,fT 75 0 13,lT 76 75,Ct 77 50 [(t 74),(t 76)],fT 78 1 13,St 3 78 77] (.seq (Oz [Zm 14 0] (Bl 0 Ntb)) (Oz [fT 250 1 13,fT 251 0 250,lT 252 251,fT 253 1 13,fT 254 0 253,lT 255 254,Nt 256 255,Bc 257 .sub 256 1,xT 258 1 252 257,lT 259 258,mT 24 259] (Oz [fT 260 0 13,lT 261 260,mT 262 24,xT 263 7 261 262,Gt 264 7 263,i 25 (.alloc zf),St 7 25 264] (.seq (Oz [fT 265 0 25,fT 266 3 265,lT 267 266,i 268 (.bin .neq (t 267) (k (.int .u8 4))),mT 269 268,Pm 270 269 3,Pf 271 269 6 25,Pl 272 269 271,Pb 273 269 .sub 270 272,p 274 269 (.bin .gtr (t 273) (zT 20160)),At 275 269 274] (.cond (t 275) (.ops [fT 276 4 13,lT 277 276,mT 278 24,fT 279 0 25,fT 280 1 279,lT 281 280,mT 282 3,fT 283 6 25,lT 284 283,Bt 285 .sub 282 284,i 286 (.build zj [(0,(1,(zT 7))),(1,(1,(t 278))),(2,(1,(zT 0))),(3,(1,(t 281))),(4,(1,(t 285)))]),i 287 (.buildSlice 1 zj [(0,(5,(t 286)))]),i 288 (.append 5 40 false (t 277) (t 287)),fT 289 4 13,St 1 289 288]) .skip)) (Oz [Gt 290 5 13,St 5 8 290,Zm 9 0] .ret)))))))))))))))
def a24:AFunc:=⟨291,[(.cellN 5 8),(.tmp 9)],c24⟩
theorem n24:a24.ntmps=291/\a24.results=[(.cellN 5 8),(.tmp 9)]:=⟨id rfl,rfl⟩
theorem b24:a24.body=c24:=rfl
def N84:ACode:=(Oz [Bt 55 .lss 54 53] (.seq (Ce 55 2) (.seq (.block 3 (Oz [mT 56 54,xT 57 5 52 54,Gt 58 5 57,i 7 (.alloc zh),mT 6 56,St 5 7 58] (Oz [fT 59 4 3,lT 60 59,mT 61 6,xT 62 5 60 61,Gt 63 5 62,i 8 (.alloc zj),St 5 8 63] (Oz [fT 64 0 7,lT 65 64,i 66 (.conv .i64 (t 65)),fT 67 0 8,lT 68 67,Bt 69 .neq 66 68,mT 70 69,Qf 71 70 1 7,Ql 72 70 71,Qf 73 70 1 8,Ql 74 70 73,Qb 75 70 .neq 72 74,Ot 76 70 75,mT 77 76,Qf 78 77 2 7,Ql 79 77 78,Qf 80 77 2 8,Ql 81 77 80,Qb 82 77 .neq 79 81,Ot 83 77 82,mT 84 83,Qf 85 84 3 7,Ql 86 84 85,Qf 87 84 3 8,Ql 88 84 87,Qb 89 84 .neq 86 88,Ot 90 84 89,mT 91 90,Qf 92 91 4 7,Ql 93 91 92,Qf 94 91 4 8,Ql 95 91 94,Qb 96 91 .neq 93 95,Ot 97 91 96] (.cond (t 97) (Oz [i 4 (.mov (k (.bool false)))] .ret) .skip))))) (.ops [Bc 98 .add 54 1,mT 54 98]))))
def N83:ACode:=(Oz [Bt 37 .lss 36 35] (.seq (Ce 37 0) (.seq (.block 1 (Oz [mT 38 36,mT 5 38] (Ds 0 [fT 39 0 2,lT 40 39,mT 41 5,xT 42 7 40 41,Gt 43 7 42,fT 44 0 3,lT 45 44,mT 46 5,xT 47 7 45 46,Gt 48 7 47,i 49 (.eqv true (.agg [(.int .i64),(.int .i64),(.int .i64),(.int .u8),(.int .i64),(.int .i64),(.int .i64)]) (t 43) (t 48))] (.cond (t 49) (Oz [i 4 (.mov (k (.bool false)))] .ret) .skip)))) (.ops [Bc 50 .add 36 1,mT 36 50]))))
def c25:ACode:=(Oz [i 2 (.box (t 0)),i 3 (.box (t 1)),i 4 (.mov (k (.bool false)))] (.seq (Oz [fT 9 0 2,lT 10 9,Nt 11 10,fT 12 0 3,lT 13 12,Nt 14 13,Bt 15 .neq 11 14,mT 16 15,Qf 17 16 4 2,Ql 18 16 17,q 19 16 (.lenSlice (t 18)),Qf 20 16 4 3,Ql 21 16 20,q 22 16 (.lenSlice (t 21)),Qb 23 16 .neq 19 22,Ot 24 16 23,mT 25 24,Qf 26 25 1 2,q 27 25 (.loadN 3 (t 26)),Qf 28 25 1 3,q 29 25 (.loadN 3 (t 28)),q 30 25 (.call .any (.func 53) [(t 27),(t 29)]),q 31 25 (.un .not (t 30)),Ot 32 25 31] (.cond (t 32) (Oz [i 4 (.mov (k (.bool false)))] .ret) .skip)) (.seq (Oz [fT 33 0 2,lT 34 33,Nt 35 34,Zm 36 0] (Bl 0 N83)) (.seq (Oz [fT 51 4 2,lT 52 51,Nt 53 52,Zm 54 0] (Bl 2 N84)) (Oz [i 4 (.mov (k (.bool true)))] .ret)))))
def a25:AFunc:=⟨99,[(.tmp 4)],c25⟩
theorem n25:a25.ntmps=99/\a25.results=[(.tmp 4)]:=⟨id rfl,rfl⟩
theorem b25:a25.body=c25:=rfl
def c27:ACode:=(Oz [i 2 (.mov (k Vz)),Zm 3 0] (.seq (Oz [mT 6 0,Ct 7 55 [(t 6)],Ut 8 7] (.cond (t 8) (Oz [i 2 (.mov (k Vz)),Zm 3 2] .ret) .skip)) (Oz [mT 10 0,Ct 11 56 [(t 10)],mT 9 11,Et 12 0 9,Et 13 1 9,mT 4 12,mT 5 13] (Oz [mT 14 5,mT 2 14,Zm 3 0] .ret))))
def a27:AFunc:=⟨15,[(.tmp 2),(.tmp 3)],c27⟩
theorem n27:a27.ntmps=15/\a27.results=[(.tmp 2),(.tmp 3)]:=⟨id rfl,rfl⟩
theorem b27:a27.body=c27:=rfl
def N82:ACode:=(Oz [Bt 14 .lss 13 12] (.seq (Ce 14 0) (.seq (.block 1 (Oz [xT 15 7 11 13,Gt 16 7 15,i 7 (.alloc zf),St 7 7 16] (Oz [mT 17 1,Bc 18 .eql 17 0,mT 19 18,Qf 20 19 0 7,Qf 21 19 0 20,Ql 22 19 21,Qm 23 19 1,Qb 24 19 .eql 22 23,Ot 25 19 24] (.cond (t 25) (.ops [mT 26 5,Gt 27 7 7,i 28 (.buildSlice 1 zf [(0,(7,(t 27)))]),i 29 (.append 7 56 false (t 26) (t 28)),mT 5 29]) .skip)))) (.ops [Bc 30 .add 13 1,mT 13 30]))))
def c28:ACode:=(Oz [i 4 (.mov (k Vz))] (Oz [mT 8 0,Nt 9 8,i 10 (.makeSlice 7 56 zf (zT 0) (t 9)),mT 5 10] (.seq (Oz [mT 11 0,Nt 12 11,Zm 13 0] (Bl 0 N82)) (Oz [mT 31 5,mT 4 31] .ret))))
def a28:AFunc:=⟨32,[(.tmp 4)],c28⟩
theorem n28:a28.ntmps=32/\a28.results=[(.tmp 4)]:=⟨id rfl,rfl⟩
theorem b28:a28.body=c28:=rfl
def N81:ACode:=(Oz [Bt 14 .lss 13 12] (.seq (Ce 14 0) (.seq (.block 1 (Oz [mT 15 13,mT 5 15] (Ds 0 [mT 16 0,mT 17 5,xT 18 5 16 17,Gt 19 5 18,mT 20 1,mT 21 5,xT 22 5 20 21,Gt 23 5 22,i 24 (.eqv true (.agg [(.int .u8),(.int .i64),(.int .i64),(.int .i64),(.int .i64)]) (t 19) (t 23))] (.cond (t 24) (Oz [i 4 (.mov (k (.bool false)))] .ret) .skip)))) (.ops [Bc 25 .add 13 1,mT 13 25]))))
def c30:ACode:=(Oz [i 4 (.mov (k (.bool false)))] (.seq (Oz [mT 6 0,Nt 7 6,mT 8 1,Nt 9 8,Bt 10 .neq 7 9] (.cond (t 10) (Oz [i 4 (.mov (k (.bool false)))] .ret) .skip)) (.seq (Oz [mT 11 0,Nt 12 11,Zm 13 0] (Bl 0 N81)) (Oz [i 4 (.mov (k (.bool true)))] .ret))))
def a30:AFunc:=⟨26,[(.tmp 4)],c30⟩
theorem n30:a30.ntmps=26/\a30.results=[(.tmp 4)]:=⟨id rfl,rfl⟩
theorem b30:a30.body=c30:=rfl
def c31:ACode:=(Oz [i 6 (.alloc zi)] (Oz [mT 7 0,mT 8 0,mT 9 2,mT 10 1,mT 11 1,i 12 (.build zi [(0,(1,(zT 7))),(1,(1,(t 7))),(2,(1,(t 8))),(3,(1,(t 9))),(4,(1,(t 10))),(5,(1,(t 11)))]),St 6 6 12] .ret))
def a31:AFunc:=⟨13,[(.cellN 6 6)],c31⟩
theorem n31:a31.ntmps=13/\a31.results=[(.cellN 6 6)]:=⟨id rfl,rfl⟩
theorem b31:a31.body=c31:=rfl
def N02:ACode:=(Oz [Bt 80 .lss 79 78] (.seq (Ce 80 2) (.seq (.block 3 (Oz [xT 81 8 77 79,Gt 82 8 81,i 23 (.alloc ze),St 8 23 82] (.seq (Oz [fT 83 1 23,lT 84 83,mT 85 19,Bt 86 .neq 84 85] (.cond (t 86) (.exit 3) .skip)) (Oz [Gt 88 8 23,mT 89 20,Ct 90 68 [(t 88),(t 89)],mT 87 90,Et 91 0 87,Et 92 1 87,i 24 (.alloc zm),St 2 24 91,mT 25 92] (Ds 0 [mT 93 25,mT 94 93,Pf 95 94 1 24,Pl 96 94 95,Pm 97 94 16,Pm 98 94 21,Pm 99 94 10,Pf 100 94 2 23,Pl 101 94 100,p 102 94 (.lookup (.int .i64) (Vi 0) false (t 99) (t 101)),Px 103 94 50 97 98,p 104 94 (.idxAddrA 50 1 (t 103) (t 102)),Pl 105 94 104,Pb 106 94 .leq 96 105,At 107 94 106] (.cond (t 107) (Oz [mT 108 18,fT 109 0 23,lT 110 109,fT 111 0 24,lT 112 111,fT 113 1 24,lT 114 113,i 115 (.build zg [(0,(1,(t 110))),(1,(1,(t 112))),(2,(1,(t 114)))]),i 116 (.buildSlice 1 zg [(0,(3,(t 115)))]),i 117 (.append 3 24 false (t 108) (t 116)),mT 18 117] (Ds 0 [fT 118 2 23,lT 119 118,fT 120 1 24,lT 121 120,mT 19 119,mT 20 121] (.exit 2))) .skip)))))) (.ops [Bc 122 .add 79 1,mT 79 122]))))
def N80:ACode:=(.seq (Oz [mT 73 21,Bc 74 .geq 73 0] (Ce 74 0)) (.seq (.block 1 (Oz [mT 77 17,Nt 78 77,Zm 79 0] (Bl 2 N02))) (.ops [mT 75 21,Bc 76 .sub 75 1,mT 21 76])))
def c32:ACode:=(Oz [i 4 (.box (t 0)),i 8 (.mov (k Vz)),Zm 9 0] (Oz [Gt 27 2 4,mT 28 1,mT 29 2,mT 30 3,Ct 31 58 [(t 27),(t 28),(t 29),(t 30)],mT 26 31,Et 32 0 26,Et 33 1 26,mT 10 32,mT 11 33] (.seq (Oz [mT 34 11,Bc 35 .neq 34 0] (.cond (t 35) (Oz [mT 36 11,i 8 (.mov (k Vz)),mT 9 36] .ret) .skip)) (Oz [mT 37 10,mT 38 2,i 39 (.lookup (.int .i64) (Vi 0) false (t 37) (t 38)),i 12 (.alloc zt),St 1 12 39] (Oz [Gt 40 2 4,mT 41 10,mT 42 1,mT 43 3,Ct 44 59 [(t 40),(t 41),(t 42),(t 43)],mT 13 44] (Ds 1 [mT 45 13,mT 46 13,Nt 47 46,Bc 48 .sub 47 1,Kt 49 (.load1 (t 12)) [0],xT 50 50 45 48,i 51 (.idxAddrA 50 1 (t 50) (t 49)),Kt 52 (.load1 (t 51)) [0],Wt 14 (.alloc zt) 0,St 1 14 52] (.seq (Oz [lT 53 14,Bc 54 .lss 53 0] (.cond (t 54) (Oz [i 8 (.mov (k Vz)),Zm 9 6] .ret) .skip)) (Oz [mT 55 13,i 56 (.makeFunc 61 [] [(t 12),(t 14)]),Ct 57 60 [(t 55),(t 56)],mT 15 57] (Ds 0 [Gt 58 2 4,mT 59 10,lT 60 12,lT 61 14,i 62 (.call .pure (.func 63) [(t 60),(t 61)]),mT 63 15,Ct 64 62 [(t 58),(t 59),(t 62),(t 63)],mT 16 64] (Oz [fT 65 1 4,lT 66 65,Ct 67 65 [(t 66)],Ct 68 64 [(t 67),(.func 66)],mT 17 68] (Oz [i 18 (.mov (k Vz))] (Oz [mT 69 1,mT 70 3,mT 19 69,mT 20 70] (.seq (Oz [mT 71 15,Bc 72 .sub 71 1,mT 21 72] (Bl 0 N80)) (Oz [mT 123 18,mT 8 123,Zm 9 0] .ret))))))))))))))
def a32:AFunc:=⟨124,[(.tmp 8),(.tmp 9)],c32⟩
theorem n32:a32.ntmps=124/\a32.results=[(.tmp 8),(.tmp 9)]:=⟨id rfl,rfl⟩
theorem b32:a32.body=c32:=rfl
def N8z:ACode:=(Oz [Bt 12 .lss 11 10] (.seq (Ce 12 0) (.seq (.block 1 (Oz [xT 13 8 9 11,Gt 14 8 13,i 7 (.alloc ze),St 8 7 14] (Oz [fT 15 0 7,lT 16 15,mT 17 1,Bt 18 .eql 16 17] (.cond (t 18) (Oz [Gt 19 8 7,St 8 4 19,i 5 (.mov (k (.bool true)))] .ret) .skip)))) (.ops [Bc 20 .add 11 1,mT 11 20]))))
def c33:ACode:=(Oz [i 2 (.box (t 0)),i 4 (.alloc ze),i 5 (.mov (k (.bool false)))] (.seq (Oz [fT 8 1 2,lT 9 8,Nt 10 9,Zm 11 0] (Bl 0 N8z)) (Oz [i 21 (.build ze []),St 8 4 21,i 5 (.mov (k (.bool false)))] .ret)))
def a33:AFunc:=⟨22,[(.cellN 8 4),(.tmp 5)],c33⟩
theorem n33:a33.ntmps=22/\a33.results=[(.cellN 8 4),(.tmp 5)]:=⟨id rfl,rfl⟩
theorem b33:a33.body=c33:=rfl
def N8y:ACode:=(Oz [Bc 34 .lss 33 8] (.seq (Ce 34 0) (.seq (.block 1 (Oz [i 35 (.idxA 8 3 true (t 32) (t 33)),i 5 (.alloc zg),St 3 5 35] (Oz [fT 36 0 5,lT 37 36,fT 38 1 5,lT 39 38,Bt 40 .lss 37 39,mT 41 40,Qf 42 41 0 5,Ql 43 41 42,Qf 44 41 2 5,Ql 45 41 44,Qb 46 41 .gtr 43 45,Ot 47 41 46] (.cond (t 47) (Oz [i 2 (.mov (k (.bool false)))] .ret) .skip)))) (.ops [Bc 48 .add 33 1,mT 33 48]))))
def c34:ACode:=(Oz [i 1 (.box (t 0)),i 2 (.mov (k (.bool false)))] (Oz [fT 6 0 1,lT 7 6,i 8 (.build zg [(0,(1,(t 7))),(1,(1,(zT 1))),(2,(1,(zT 999999)))]),fT 9 1 1,lT 10 9,i 11 (.build zg [(0,(1,(t 10))),(1,(1,(zT 1))),(2,(1,(zT 999999)))]),fT 12 2 1,lT 13 12,i 14 (.build zg [(0,(1,(t 13))),(1,(1,(zT 1))),(2,(1,(zT 999999)))]),fT 15 3 1,lT 16 15,i 17 (.build zg [(0,(1,(t 16))),(1,(1,(zT 0))),(2,(1,(zT 1439)))]),fT 18 4 1,lT 19 18,i 20 (.build zg [(0,(1,(t 19))),(1,(1,(zT 1))),(2,(1,(zT 20160)))]),fT 21 5 1,lT 22 21,i 23 (.build zg [(0,(1,(t 22))),(1,(1,(zT 0))),(2,(1,(zT 10080)))]),fT 24 6 1,lT 25 24,i 26 (.build zg [(0,(1,(t 25))),(1,(1,(zT 0))),(2,(1,(zT 1000000000)))]),fT 27 7 1,lT 28 27,i 29 (.conv .i64 (t 28)),i 30 (.build zg [(0,(1,(t 29))),(1,(1,(zT 1))),(2,(1,(zT 127)))]),i 31 (.build zn [(0,(3,(t 8))),(3,(3,(t 11))),(6,(3,(t 14))),(9,(3,(t 17))),(12,(3,(t 20))),(15,(3,(t 23))),(18,(3,(t 26))),(21,(3,(t 30)))]),i 3 (.alloc zn),St 24 3 31] (.seq (Oz [Gt 32 24 3,Zm 33 0] (Bl 0 N8y)) (Oz [fT 49 1 1,lT 50 49,fT 51 2 1,lT 52 51,Bt 53 .neq 50 52,mT 2 53] .ret))))
def a34:AFunc:=⟨54,[(.tmp 2)],c34⟩
theorem n34:a34.ntmps=54/\a34.results=[(.tmp 2)]:=⟨id rfl,rfl⟩
theorem b34:a34.body=c34:=rfl
def c35:ACode:=(Oz [i 0 (.alloc zk)] (Oz [i 1 (.build zk [(0,(1,(k (.string ⟨#[]⟩)))),(1,(1,(k (.string ⟨#[115,116,114,97,121]⟩)))),(2,(1,(k (.string ⟨#[97,102,116,101,114]⟩)))),(3,(1,(k (.string ⟨#[106,117,109,112]⟩)))),(4,(1,(k (.string ⟨#[101,97,114,108,121]⟩)))),(5,(1,(k (.string ⟨#[109,105,115,115,101,100]⟩)))),(6,(1,(k (.string ⟨#[100,111,117,98,108,101,100]⟩)))),(7,(1,(k (.string ⟨#[108,111,115,116]⟩))))]),St 8 0 1] .ret))
def a35:AFunc:=⟨2,[(.cellN 8 0)],c35⟩
theorem n35:a35.ntmps=2/\a35.results=[(.cellN 8 0)]:=⟨id rfl,rfl⟩
theorem b35:a35.body=c35:=rfl
def c36:ACode:=(Oz [i 2 (.mov (k Vz)),Zm 3 0] (.seq (Oz [mT 6 0,Ct 7 55 [(t 6)],Ut 8 7] (.cond (t 8) (Oz [i 2 (.mov (k Vz)),Zm 3 2] .ret) .skip)) (Oz [mT 10 0,Ct 11 56 [(t 10)],mT 9 11,Et 12 0 9,Et 13 1 9,mT 4 12,mT 5 13] (Oz [mT 14 4,mT 2 14,Zm 3 0] .ret))))
def a36:AFunc:=⟨15,[(.tmp 2),(.tmp 3)],c36⟩
theorem n36:a36.ntmps=15/\a36.results=[(.tmp 2),(.tmp 3)]:=⟨id rfl,rfl⟩
theorem b36:a36.body=c36:=rfl
def c37:ACode:=(Oz [i 2 (.box (t 0)),i 4 (.alloc zr),Zm 5 0] (.seq (Oz [Gt 8 2 2,mT 9 1,Ct 10 69 [(t 8),(t 9)],mT 6 10] (Oz [mT 11 6,Bc 12 .neq 11 0] (.cond (t 12) (Oz [i 13 (.build zr []),mT 14 6,St 3 4 13,mT 5 14] .ret) .skip))) (Oz [Gt 15 2 2,Ct 16 70 [(t 15)],mT 7 16] (Oz [mT 17 7,mT 18 1,mT 19 7,mT 20 1,Ct 21 72 [(t 19),(t 20)],Ct 22 71 [(t 17),(t 18),(t 21)],St 3 4 22,Zm 5 0] .ret))))
def a37:AFunc:=⟨23,[(.cellN 3 4),(.tmp 5)],c37⟩
theorem n37:a37.ntmps=23/\a37.results=[(.cellN 3 4),(.tmp 5)]:=⟨id rfl,rfl⟩
theorem b37:a37.body=c37:=rfl
def WJ:ACode:=(Oz [Bt 25 .lss 24 23] (.seq (Ce 25 0) (.seq (.block 1 (Oz [mT 26 24,xT 27 7 22 24,Gt 28 7 27,i 14 (.alloc zf),mT 13 26,St 7 14 28] (.seq (Oz [mT 29 11,mT 30 13,xT 31 1 29 30,lT 32 31,Ut 33 32] (.cond (t 33) (.ops [mT 34 10,mT 35 13,fT 36 0 14,fT 37 1 36,lT 38 37,i 39 (.build zh [(0,(1,(k (.int .u8 1)))),(1,(1,(t 35))),(3,(1,(t 38)))]),i 40 (.buildSlice 1 zh [(0,(5,(t 39)))]),i 41 (.call .any (t 34) [(t 40)])]) .skip)) (.seq (Ds 0 [mT 42 12,mT 43 13,xT 44 3 42 43,fT 45 0 44,lT 46 45,mT 47 12,mT 48 13,xT 49 3 47 48,fT 50 1 49,lT 51 50,Bt 52 .lss 46 51] (.cond (t 52) (.drawn 0 [mT 53 10,Gt 54 5 4,Gt 55 2 5,mT 56 12,mT 57 13,xT 58 3 56 57,Gt 59 3 58,Ct 60 75 [(t 54),(t 55),(t 59)],i 61 (.call .any (t 53) [(t 60)])]) .skip)) (.ops [mT 62 10,Gt 63 5 4,mT 64 2,mT 65 13,Ct 66 76 [(t 63),(t 64),(t 65)],i 67 (.call .any (t 62) [(t 66)])]))))) (.ops [Bc 68 .add 24 1,mT 24 68]))))
def c38:ACode:=(Oz [i 4 (.box (t 0)),i 5 (.box (t 1)),i 8 (.mov (k Vz))] (Oz [i 9 (.alloc [Vz])] (Oz [i 15 (.makeFunc 73 [] [(t 9)]),mT 10 15] (Oz [Gt 17 5 4,Ct 18 74 [(t 17)],mT 16 18,Et 19 0 16,Et 20 1 16,mT 11 19,mT 12 20] (.seq (Oz [fT 21 0 4,lT 22 21,Nt 23 22,Zm 24 0] (Bl 0 WJ)) (Oz [mT 69 10,Gt 70 5 4,mT 71 3,Ct 72 77 [(t 70),(t 71)],i 73 (.call .any (t 69) [(t 72)])] (Oz [lT 74 9,mT 8 74] .ret)))))))
def a38:AFunc:=⟨75,[(.tmp 8)],c38⟩
theorem n38:a38.ntmps=75/\a38.results=[(.tmp 8)]:=⟨id rfl,rfl⟩
theorem b38:a38.body=c38:=rfl
def c39:ACode:=(Oz [i 0 (.alloc [Vz,Vz])] (Oz [i 1 (.buildSlice 3 zg [(0,(1,(zT 1))),(1,(1,(zT 2))),(2,(1,(zT 3)))]),i 2 (.build ze [(0,(1,(zT 1))),(1,(1,(zT 1))),(2,(1,(zT 2))),(3,(1,(zT 600))),(4,(1,(zT 60))),(6,(1,(zT 1000))),(7,(1,(k (.int .u8 127))))]),i 3 (.build ze [(0,(1,(zT 2))),(1,(1,(zT 2))),(2,(1,(zT 3))),(3,(1,(zT 700))),(4,(1,(zT 100))),(6,(1,(zT 1000))),(7,(1,(k (.int .u8 127))))]),i 4 (.buildSlice 2 [Vi 0,Vi 0,Vi 0,Vi 0,Vi 0,Vi 0,Vi 0,.int .u8 0,Vi 0,Vi 0,Vi 0,Vi 0,Vi 0,Vi 0,Vi 0,.int .u8 0] [(0,(8,(t 2))),(8,(8,(t 3)))]),i 5 (.build [Vz,Vz] [(0,(1,(t 1))),(1,(1,(t 4)))]),St 2 0 5] .ret))
def a39:AFunc:=⟨6,[(.cellN 2 0)],c39⟩
theorem n39:a39.ntmps=6/\a39.results=[(.cellN 2 0)]:=⟨id rfl,rfl⟩
theorem b39:a39.body=c39:=rfl
def N8x:ACode:=(.seq (Oz [mT 12 4,Bc 13 .lss 12 12] (Ce 13 0)) (.seq (.block 1 (.ops [mT 16 3,mT 17 4,Ct 18 78 [(zT 1),(t 17)],i 19 (.buildSlice 1 zt [(0,(1,(t 18)))]),i 20 (.append 1 8 false (t 16) (t 19)),mT 3 20])) (.ops [mT 14 4,Bc 15 .add 14 1,mT 4 15])))
def c40:ACode:=(Oz [i 2 (.mov (k Vz))] (Oz [mT 5 0,Nt 6 5,Bc 7 .add 6 12,i 8 (.makeSlice 1 8 zt (zT 0) (t 7)),mT 3 8] (Oz [mT 9 3,mT 10 0,i 11 (.append 1 8 false (t 9) (t 10)),mT 3 11] (.seq (Oz [Zm 4 0] (Bl 0 N8x)) (Oz [mT 21 3,mT 22 0,Nt 23 22,i 24 (.sliceS 1 (t 21) none (some (t 23)) none),mT 2 24] .ret)))))
def a40:AFunc:=⟨25,[(.tmp 2)],c40⟩
theorem n40:a40.ntmps=25/\a40.results=[(.tmp 2)]:=⟨id rfl,rfl⟩
theorem b40:a40.body=c40:=rfl
def N8w:ACode:=(.seq (Oz [mT 12 4,Bc 13 .lss 12 12] (Ce 13 0)) (.seq (.block 1 (.ops [mT 16 3,mT 17 4,Ct 18 79 [(zT 1),(t 17)],i 19 (.buildSlice 1 ze [(0,(8,(t 18)))]),i 20 (.append 8 64 false (t 16) (t 19)),mT 3 20])) (.ops [mT 14 4,Bc 15 .add 14 1,mT 4 15])))
def c41:ACode:=(Oz [i 2 (.mov (k Vz))] (Oz [mT 5 0,Nt 6 5,Bc 7 .add 6 12,i 8 (.makeSlice 8 64 ze (zT 0) (t 7)),mT 3 8] (Oz [mT 9 3,mT 10 0,i 11 (.append 8 64 false (t 9) (t 10)),mT 3 11] (.seq (Oz [Zm 4 0] (Bl 0 N8w)) (Oz [mT 21 3,mT 22 0,Nt 23 22,i 24 (.sliceS 8 (t 21) none (some (t 23)) none),mT 2 24] .ret)))))
def a41:AFunc:=⟨25,[(.tmp 2)],c41⟩
theorem n41:a41.ntmps=25/\a41.results=[(.tmp 2)]:=⟨id rfl,rfl⟩
theorem b41:a41.body=c41:=rfl
def c42:ACode:=(Oz [i 4 (.alloc zi)] (Oz [mT 5 0,mT 6 1,Ct 7 78 [(t 5),(t 6)],i 8 (.build zi [(0,(1,(t 7)))]),St 6 4 8] .ret))
def a42:AFunc:=⟨9,[(.cellN 6 4)],c42⟩
theorem n42:a42.ntmps=9/\a42.results=[(.cellN 6 4)]:=⟨id rfl,rfl⟩
theorem b42:a42.body=c42:=rfl
def c43:ACode:=(Oz [i 2 (.box (t 0)),i 3 (.box (t 1)),i 4 (.mov (k (.bool false)))] (Oz [fT 5 0 2,lT 6 5,fT 7 0 3,lT 8 7,Ct 9 80 [(t 6),(t 8)],mT 10 9,Pf 11 10 1 2,Pl 12 10 11,Pf 13 10 1 3,Pl 14 10 13,p 15 10 (.call .any (.func 81) [(t 12),(t 14)]),At 16 10 15,mT 4 16] .ret))
def a43:AFunc:=⟨17,[(.tmp 4)],c43⟩
theorem n43:a43.ntmps=17/\a43.results=[(.tmp 4)]:=⟨id rfl,rfl⟩
theorem b43:a43.body=c43:=rfl
def N8v:ACode:=(.seq (Oz [mT 17 6,mT 18 5,Nt 19 18,Bt 20 .lss 17 19] (Ce 20 0)) (.seq (.block 1 (Ds 0 [mT 23 6,mT 24 1,Nt 25 24,Bt 26 .lss 23 25,mT 27 26,Pm 28 27 5,Pm 29 27 6,Px 30 27 1 28 29,Pl 31 27 30,Pm 32 27 1,Pm 33 27 6,Px 34 27 1 32 33,Pl 35 27 34,Pb 36 27 .eql 31 35,p 37 27 (.un .not (t 36)),At 38 27 37,mT 39 38,Qm 40 39 6,Qm 41 39 1,q 42 39 (.lenSlice (t 41)),Qb 43 39 .geq 40 42,Qm 44 39 43,Pm 45 44 5,Pm 46 44 6,Px 47 44 1 45 46,Pl 48 44 47,Pm 49 44 6,Pm 50 44 1,p 51 44 (.lenSlice (t 50)),Pb 52 44 .sub 49 51,p 53 44 (.call .pure (.func 78) [(zT 1),(t 52)]),Pb 54 44 .eql 48 53,p 55 44 (.un .not (t 54)),q 56 39 (.pick (t 44) (t 55) (k (.bool false))),Ot 57 39 56] (.cond (t 57) (Oz [i 4 (.mov (k (.bool false)))] .ret) .skip))) (.ops [mT 21 6,Bc 22 .add 21 1,mT 6 22])))
def c44:ACode:=(Oz [i 4 (.mov (k (.bool false)))] (.seq (Oz [mT 7 0,Nt 8 7,mT 9 1,Nt 10 9,Bt 11 .neq 8 10] (.cond (t 11) (Oz [i 4 (.mov (k (.bool false)))] .ret) .skip)) (Oz [mT 12 0,mT 13 1,Nt 14 13,Bc 15 .add 14 12,i 16 (.sliceS 1 (t 12) none (some (t 15)) none),mT 5 16] (.seq (Oz [Zm 6 0] (Bl 0 N8v)) (Oz [i 4 (.mov (k (.bool true)))] .ret)))))
def a44:AFunc:=⟨58,[(.tmp 4)],c44⟩
theorem n44:a44.ntmps=58/\a44.results=[(.tmp 4)]:=⟨id rfl,rfl⟩
theorem b44:a44.body=c44:=rfl
def N8u:ACode:=(.seq (Oz [mT 17 6,mT 18 5,Nt 19 18,Bt 20 .lss 17 19] (Ce 20 0)) (.seq (.block 1 (Ds 0 [mT 23 6,mT 24 1,Nt 25 24,Bt 26 .lss 23 25,mT 27 26,Pm 28 27 5,Pm 29 27 6,Px 30 27 8 28 29,p 31 27 (.loadN 8 (t 30)),Pm 32 27 1,Pm 33 27 6,Px 34 27 8 32 33,p 35 27 (.loadN 8 (t 34)),p 36 27 (.eqv false (.agg [(.int .i64),(.int .i64),(.int .i64),(.int .i64),(.int .i64),(.int .i64),(.int .i64),(.int .u8)]) (t 31) (t 35)),p 37 27 (.un .not (t 36)),At 38 27 37,mT 39 38,Qm 40 39 6,Qm 41 39 1,q 42 39 (.lenSlice (t 41)),Qb 43 39 .geq 40 42,Qm 44 39 43,Pm 45 44 5,Pm 46 44 6,Px 47 44 8 45 46,p 48 44 (.loadN 8 (t 47)),Pm 49 44 6,Pm 50 44 1,p 51 44 (.lenSlice (t 50)),Pb 52 44 .sub 49 51,p 53 44 (.call .pure (.func 79) [(zT 1),(t 52)]),p 54 44 (.eqv false (.agg [(.int .i64),(.int .i64),(.int .i64),(.int .i64),(.int .i64),(.int .i64),(.int .i64),(.int .u8)]) (t 48) (t 53)),p 55 44 (.un .not (t 54)),q 56 39 (.pick (t 44) (t 55) (k (.bool false))),Ot 57 39 56] (.cond (t 57) (Oz [i 4 (.mov (k (.bool false)))] .ret) .skip))) (.ops [mT 21 6,Bc 22 .add 21 1,mT 6 22])))
def c45:ACode:=(Oz [i 4 (.mov (k (.bool false)))] (.seq (Oz [mT 7 0,Nt 8 7,mT 9 1,Nt 10 9,Bt 11 .neq 8 10] (.cond (t 11) (Oz [i 4 (.mov (k (.bool false)))] .ret) .skip)) (Oz [mT 12 0,mT 13 1,Nt 14 13,Bc 15 .add 14 12,i 16 (.sliceS 8 (t 12) none (some (t 15)) none),mT 5 16] (.seq (Oz [Zm 6 0] (Bl 0 N8u)) (Oz [i 4 (.mov (k (.bool true)))] .ret)))))
def a45:AFunc:=⟨58,[(.tmp 4)],c45⟩
theorem n45:a45.ntmps=58/\a45.results=[(.tmp 4)]:=⟨id rfl,rfl⟩
theorem b45:a45.body=c45:=rfl
def N01:ACode:=(.seq (Oz [mT 73 6,mT 74 4,Bt 75 .lss 73 74] (Ce 75 4)) (.seq (.block 5 (Ds 0 [fT 78 1 1,lT 79 78,mT 80 6,xT 81 8 79 80,fT 82 0 81,lT 83 82,fT 84 0 5,lT 85 84,Bt 86 .eql 83 85] (.cond (t 86) (Oz [Zm 2 321] .ret) .skip))) (.ops [mT 76 6,Bc 77 .add 76 1,mT 6 77])))
def N8t:ACode:=(.seq (Oz [mT 42 4,fT 43 1 1,lT 44 43,Nt 45 44,Bt 46 .lss 42 45] (Ce 46 2)) (.seq (.block 3 (Oz [fT 49 1 1,lT 50 49,mT 51 4,xT 52 8 50 51,Gt 53 8 52,i 5 (.alloc ze),St 8 5 53] (.seq (Oz [Gt 54 8 5,Ct 55 84 [(t 54)],Ut 56 55,mT 57 56,Qf 58 57 0 1,Ql 59 57 58,Qf 60 57 1 5,Ql 61 57 60,q 62 57 (.call .any (.func 83) [(t 59),(t 61)]),q 63 57 (.bin .eql (t 62) (zT 0)),Ot 64 57 63,mT 65 64,Qf 66 65 0 1,Ql 67 65 66,Qf 68 65 2 5,Ql 69 65 68,q 70 65 (.call .any (.func 83) [(t 67),(t 69)]),q 71 65 (.bin .eql (t 70) (zT 0)),Ot 72 65 71] (.cond (t 72) (Oz [Zm 2 321] .ret) .skip)) (Oz [Zm 6 0] (Bl 4 N01))))) (.ops [mT 47 4,Bc 48 .add 47 1,mT 4 48])))
def N8s:ACode:=(.seq (Oz [mT 17 3,fT 18 0 1,lT 19 18,Nt 20 19,Bt 21 .lss 17 20] (Ce 21 0)) (.seq (.block 1 (Ds 0 [fT 24 0 1,lT 25 24,mT 26 3,xT 27 1 25 26,lT 28 27,i 29 (.call .pure (.func 82) [(t 28),(zT 1),(zT 999999)]),Ut 30 29,mT 31 30,Qf 32 31 0 1,Ql 33 31 32,Qf 34 31 0 1,Ql 35 31 34,Qm 36 31 3,Qx 37 31 1 35 36,Ql 38 31 37,q 39 31 (.call .pure (.func 83) [(t 33),(t 38)]),q 40 31 (.bin .gtr (t 39) (zT 1)),Ot 41 31 40] (.cond (t 41) (Oz [Zm 2 320] .ret) .skip))) (.ops [mT 22 3,Bc 23 .add 22 1,mT 3 23])))
def c46:ACode:=(Oz [i 1 (.box (t 0)),Zm 2 0] (.seq (Oz [fT 7 0 1,lT 8 7,Nt 9 8,Bc 10 .gtr 9 50,mT 11 10,Qf 12 11 1 1,Ql 13 11 12,q 14 11 (.lenSlice (t 13)),q 15 11 (.bin .gtr (t 14) (zT 200)),Ot 16 11 15] (.cond (t 16) (Oz [Zm 2 5] .ret) .skip)) (.seq (Oz [Zm 3 0] (Bl 0 N8s)) (.seq (Oz [Zm 4 0] (Bl 2 N8t)) (Oz [Zm 2 0] .ret)))))
def a46:AFunc:=⟨87,[(.tmp 2)],c46⟩
theorem n46:a46.ntmps=87/\a46.results=[(.tmp 2)]:=⟨id rfl,rfl⟩
theorem b46:a46.body=c46:=rfl
def N8r:ACode:=(.seq (Oz [mT 4 3,mT 5 0,Nt 6 5,Bt 7 .lss 4 6] (Ce 7 0)) (.seq (.block 1 (Oz [mT 10 3,Bc 11 .geq 10 2000,mT 12 11,Qm 13 12 0,Qm 14 12 3,Qx 15 12 6 13 14,q 16 12 (.loadN 6 (t 15)),q 17 12 (.call .any (.func 85) [(t 16)]),q 18 12 (.un .not (t 17)),Ot 19 12 18] (.cond (t 19) (Oz [i 2 (.mov (k (.bool false)))] .ret) .skip))) (.ops [mT 8 3,Bc 9 .add 8 1,mT 3 9])))
def c47:ACode:=(Oz [i 2 (.mov (k (.bool false)))] (.seq (Oz [Zm 3 0] (Bl 0 N8r)) (Oz [i 2 (.mov (k (.bool true)))] .ret)))
def a47:AFunc:=⟨20,[(.tmp 2)],c47⟩
theorem n47:a47.ntmps=20/\a47.results=[(.tmp 2)]:=⟨id rfl,rfl⟩
theorem b47:a47.body=c47:=rfl
def N8q:ACode:=(.seq (Oz [mT 75 13,Bc 76 .geq 75 0] (Ce 76 6)) (.seq (.block 7 (Ds 2 [mT 79 9,mT 80 13,xT 81 7 79 80,fT 82 0 81,Kt 83 (.loadN 6 (t 82)) [0,1],mT 84 5,mT 85 11,xT 86 7 84 85,fT 87 0 86,Kt 88 (.loadN 6 (t 87)) [0,1],Wt 14 (.alloc zi) 0,Wt 15 (.alloc zi) 1,⟨none,none,(.storeD 6 (t 14) (t 83)),(some 0),[]⟩,⟨none,none,(.storeD 6 (t 15) (t 88)),(some 1),[]⟩] (Oz [fT 89 0 14,lT 90 89,fT 91 0 15,lT 92 91,Bt 93 .eql 90 92,mT 94 93,Pf 95 94 1 14,Pl 96 94 95,Pf 97 94 1 15,Pl 98 94 97,Pb 99 94 .eql 96 98,At 100 94 99,mT 101 100,Pf 102 101 3 14,Pl 103 101 102,Pf 104 101 3 15,Pl 105 101 104,Pb 106 101 .eql 103 105,At 107 101 106] (.cond (t 107) (Ds 0 [mT 108 5,mT 109 11,xT 110 7 108 109,fT 111 6 110,lT 112 111,mT 113 9,mT 114 13,xT 115 7 113 114,fT 116 6 115,lT 117 116,Bt 118 .sub 112 117,Bc 119 .leq 118 10,mT 12 119] (.exit 6)) .skip)))) (.ops [mT 77 13,Bc 78 .sub 77 1,mT 13 78])))
def N8p:ACode:=(.seq (Oz [mT 66 11,mT 67 5,Nt 68 67,Bt 69 .lss 66 68] (Ce 69 4)) (.seq (.block 5 (Oz [i 12 (.mov (k (.bool false)))] (.seq (Oz [mT 72 9,Nt 73 72,Bc 74 .sub 73 1,mT 13 74] (Bl 6 N8q)) (Oz [mT 120 12] (.cond (t 120) (.ops [mT 121 10,mT 122 5,mT 123 11,xT 124 7 122 123,Gt 125 7 124,i 126 (.buildSlice 1 zf [(0,(7,(t 125)))]),i 127 (.append 7 56 false (t 121) (t 126)),mT 10 127]) (.ops [mT 128 9,mT 129 5,mT 130 11,xT 131 7 129 130,Gt 132 7 131,i 133 (.buildSlice 1 zf [(0,(7,(t 132)))]),i 134 (.append 7 56 false (t 128) (t 133)),mT 9 134])))))) (.ops [mT 70 11,Bc 71 .add 70 1,mT 11 71])))
def N8o:ACode:=(.seq (Ds 0 [mT 41 8,Bc 42 .gtr 41 0,mT 43 42,p 44 43 (.loadN 7 (t 7)),Pm 45 43 5,Pm 46 43 8,p 47 43 (.bin .sub (t 46) (zT 1)),Px 48 43 7 45 47,p 49 43 (.loadN 7 (t 48)),p 50 43 (.call .pure (.func 88) [(t 44),(t 49)]),At 51 43 50] (Ce 51 2)) (.block 3 (Oz [mT 52 5,mT 53 8,mT 54 5,mT 55 8,Bc 56 .sub 55 1,xT 57 7 54 56,Gt 58 7 57,xT 59 7 52 53,St 7 59 58] (.ops [mT 60 8,Bc 61 .sub 60 1,mT 8 61]))))
def N8n:ACode:=(.seq (Oz [mT 18 6,mT 19 0,Nt 20 19,Bt 21 .lss 18 20] (Ce 21 0)) (.seq (.block 1 (Ds 1 [mT 24 0,mT 25 6,xT 26 6 24 25,Kt 27 (.loadN 6 (t 26)) [0],mT 28 4,mT 29 0,mT 30 6,xT 31 6 29 30,Kt 32 (.loadN 6 (t 31)) [0],Kt 33 (.call .pure (.func 87) [(t 28),(t 32)]) [0],i 34 (.build zf [(0,(6,(t 27))),(6,(1,(t 33)))]),Wt 7 (.alloc zf) 0,St 7 7 34] (Oz [mT 35 5,Nt 36 35,mT 8 36] (Oz [mT 37 5,Gt 38 7 7,i 39 (.buildSlice 1 zf [(0,(7,(t 38)))]),i 40 (.append 7 56 false (t 37) (t 39)),mT 5 40] (.seq (Bl 2 N8o) (.ops [mT 62 5,mT 63 8,Gt 64 7 7,xT 65 7 62 63,St 7 65 64])))))) (.ops [mT 22 6,Bc 23 .add 22 1,mT 6 23])))
def c48:ACode:=(Oz [i 2 (.mov (k Vz)),i 3 (.mov (k Vz))] (Oz [mT 16 0,Ct 17 86 [(t 16)],mT 4 17] (Oz [i 5 (.mov (k Vz))] (.seq (Oz [Zm 6 0] (Bl 0 N8n)) (Oz [i 9 (.mov (k Vz)),i 10 (.mov (k Vz))] (.seq (Oz [Zm 11 0] (Bl 4 N8p)) (Oz [mT 135 9,mT 136 10,mT 2 135,mT 3 136] .ret)))))))
def a48:AFunc:=⟨137,[(.tmp 2),(.tmp 3)],c48⟩
theorem n48:a48.ntmps=137/\a48.results=[(.tmp 2),(.tmp 3)]:=⟨id rfl,rfl⟩
theorem b48:a48.body=c48:=rfl
def N8m:ACode:=(.seq (Oz [mT 7 6,mT 8 0,Nt 9 8,Bt 10 .lss 7 9] (Ce 10 0)) (.seq (.block 1 (Oz [mT 13 0,mT 14 6,xT 15 7 13 14,fT 16 0 15,fT 17 0 16,lT 18 17,mT 19 1,Bt 20 .eql 18 19] (.cond (t 20) (.ops [mT 21 5,mT 22 0,mT 23 6,xT 24 7 22 23,Gt 25 7 24,i 26 (.buildSlice 1 zf [(0,(7,(t 25)))]),i 27 (.append 7 56 false (t 21) (t 26)),mT 5 27]) .skip))) (.ops [mT 11 6,Bc 12 .add 11 1,mT 6 12])))
def c49:ACode:=(Oz [i 4 (.mov (k Vz))] (Oz [i 5 (.mov (k Vz))] (.seq (Oz [Zm 6 0] (Bl 0 N8m)) (Oz [mT 28 5,mT 4 28] .ret))))
def a49:AFunc:=⟨29,[(.tmp 4)],c49⟩
theorem n49:a49.ntmps=29/\a49.results=[(.tmp 4)]:=⟨id rfl,rfl⟩
theorem b49:a49.body=c49:=rfl
def N00:ACode:=(.seq (Oz [mT 169 15,Bc 170 .geq 169 0] (Ce 170 6)) (.seq (.block 7 (.ops [mT 175 14,mT 176 15,i 177 (.buildSlice 1 zt [(0,(1,(t 176)))]),i 178 (.append 1 8 false (t 175) (t 177)),mT 14 178])) (.ops [mT 171 8,mT 172 15,xT 173 1 171 172,lT 174 173,mT 15 174])))
def N0z:ACode:=(.seq (Oz [mT 116 13,Bc 117 .geq 116 0] (Ce 117 4)) (.seq (.block 5 (Ds 0 [mT 120 9,Bc 121 .lss 120 0,mT 122 121,Qm 123 122 13,q 124 122 (.bin .mul (zT 30) (t 123)),Qm 125 122 6,Qm 126 122 13,Qx 127 122 1 125 126,Ql 128 122 127,Qb 129 122 .add 124 128,Qm 130 122 9,q 131 122 (.bin .mul (zT 30) (t 130)),Qm 132 122 6,Qm 133 122 9,Qx 134 122 1 132 133,Ql 135 122 134,Qb 136 122 .add 131 135,Qb 137 122 .lss 129 136,Ot 138 122 137,mT 139 138,Qm 140 139 13,q 141 139 (.bin .mul (zT 30) (t 140)),Qm 142 139 6,Qm 143 139 13,Qx 144 139 1 142 143,Ql 145 139 144,Qb 146 139 .add 141 145,Qm 147 139 9,q 148 139 (.bin .mul (zT 30) (t 147)),Qm 149 139 6,Qm 150 139 9,Qx 151 139 1 149 150,Ql 152 139 151,Qb 153 139 .add 148 152,Qb 154 139 .eql 146 153,Qm 155 139 154,Pm 156 155 7,Pm 157 155 13,Px 158 155 1 156 157,Pl 159 155 158,Pm 160 155 7,Pm 161 155 9,Px 162 155 1 160 161,Pl 163 155 162,Pb 164 155 .geq 159 163,q 165 139 (.pick (t 155) (t 164) (k (.bool false))),Ot 166 139 165] (.cond (t 166) (.ops [mT 167 13,mT 9 167]) .skip))) (.ops [mT 118 13,Bc 119 .sub 118 1,mT 13 119])))
def N0y:ACode:=(.seq (Oz [mT 46 11,mT 47 10,Bt 48 .gtr 46 47] (Ce 48 2)) (.seq (.block 3 (Ds 0 [Gt 51 2 2,mT 52 1,mT 53 10,xT 54 7 52 53,Gt 55 7 54,mT 56 1,mT 57 11,xT 58 7 56 57,Gt 59 7 58,i 60 (.call .pure (.func 89) [(t 51),(t 55),(t 59)]),mT 61 11,mT 62 10,Bt 63 .sub 61 62,Bc 64 .sub 63 1,i 65 (.bin .mul (zT 30) (t 64)),Bt 66 .add 60 65,mT 67 6,mT 68 11,xT 69 1 67 68,lT 70 69,Bt 71 .add 66 70,mT 12 71] (Ds 0 [mT 72 12,mT 73 6,mT 74 10,xT 75 1 73 74,lT 76 75,Bt 77 .lss 72 76,mT 78 77,Qm 79 78 12,Qm 80 78 6,Qm 81 78 10,Qx 82 78 1 80 81,Ql 83 78 82,Qb 84 78 .eql 79 83,Qm 85 78 84,Pm 86 85 7,Pm 87 85 11,Px 88 85 1 86 87,Pl 89 85 88,p 90 85 (.bin .add (t 89) (zT 1)),Pm 91 85 7,Pm 92 85 10,Px 93 85 1 91 92,Pl 94 85 93,Pb 95 85 .geq 90 94,q 96 78 (.pick (t 85) (t 95) (k (.bool false))),Ot 97 78 96] (.cond (t 97) (.ops [mT 98 6,mT 99 10,mT 100 7,mT 101 10,mT 102 8,mT 103 10,mT 104 12,mT 105 7,mT 106 11,xT 107 1 105 106,lT 108 107,Bc 109 .add 108 1,mT 110 11,xT 111 1 98 99,St 1 111 104,xT 112 1 100 101,St 1 112 109,xT 113 1 102 103,St 1 113 110]) .skip)))) (.ops [mT 49 11,Bc 50 .sub 49 1,mT 11 50])))
def N0x:ACode:=(.seq (Oz [mT 26 10,Bc 27 .geq 26 0] (Ce 27 0)) (.seq (.block 1 (Oz [mT 30 6,mT 31 10,mT 32 7,mT 33 10,mT 34 8,mT 35 10,mT 36 5,Bc 37 .sub 36 1,mT 38 10,Bt 39 .sub 37 38,i 40 (.bin .mul (zT 30) (t 39)),xT 41 1 30 31,St 1 41 40,xT 42 1 32 33,s (.store 1 (t 42) (zT 1)),xT 43 1 34 35,s (.store 1 (t 43) (zT (-1)))] (Oz [mT 44 5,Bc 45 .sub 44 1,mT 11 45] (Bl 2 N0y)))) (.ops [mT 28 10,Bc 29 .sub 28 1,mT 10 29])))
def c50:ACode:=(Oz [i 2 (.box (t 0)),i 4 (.alloc zr)] (Oz [mT 16 1,Nt 17 16,mT 5 17] (Ds 3 [mT 18 5,Wt 19 (.makeSlice 1 8 zt (t 18) (t 18)) 0,mT 20 5,Wt 21 (.makeSlice 1 8 zt (t 20) (t 20)) 1,mT 22 5,Wt 23 (.makeSlice 1 8 zt (t 22) (t 22)) 2,mT 6 19,mT 7 21,mT 8 23] (Oz [Zm 9 (-1)] (.seq (Oz [mT 24 5,Bc 25 .sub 24 1,mT 10 25] (Bl 0 N0x)) (.seq (Oz [mT 114 5,Bc 115 .sub 114 1,mT 13 115] (Bl 4 N0z)) (Oz [i 14 (.mov (k Vz))] (.seq (Oz [mT 168 9,mT 15 168] (Bl 6 N00)) (Oz [Gt 179 2 2,mT 180 1,mT 181 14,Ct 182 90 [(t 179),(t 180),(t 181)],St 3 4 182] .ret)))))))))
def a50:AFunc:=⟨183,[(.cellN 3 4)],c50⟩
theorem n50:a50.ntmps=183/\a50.results=[(.cellN 3 4)]:=⟨id rfl,rfl⟩
theorem b50:a50.body=c50:=rfl
def N0w:ACode:=(.seq (Oz [mT 29 13,fT 30 1 4,lT 31 30,Nt 32 31,Bt 33 .lss 29 32] (Ce 33 2)) (.seq (.block 3 (Ds 0 [fT 36 1 4,lT 37 36,mT 38 13,xT 39 8 37 38,fT 40 0 39,lT 41 40,mT 42 10,mT 43 12,xT 44 3 42 43,fT 45 0 44,lT 46 45,Bt 47 .eql 41 46] (.cond (t 47) (.ops [mT 48 9,fT 49 1 4,lT 50 49,mT 51 13,xT 52 8 50 51,fT 53 2 52,lT 54 53,i 55 (.buildSlice 1 zt [(0,(1,(t 54)))]),i 56 (.append 1 8 false (t 48) (t 55)),mT 9 56]) .skip))) (.ops [mT 34 13,Bc 35 .add 34 1,mT 13 35])))
def Nta:ACode:=(.seq (Oz [mT 22 12,mT 23 10,Nt 24 23,Bc 25 .sub 24 1,Bt 26 .lss 22 25] (Ce 26 0)) (.seq (.block 1 (Oz [Zm 13 0] (Bl 2 N0w))) (.ops [mT 27 12,Bc 28 .add 27 1,mT 12 28])))
def c51:ACode:=(Oz [i 4 (.box (t 0)),i 8 (.mov (k Vz))] (Oz [i 9 (.mov (k Vz))] (Oz [Gt 15 2 4,mT 16 1,mT 17 2,mT 18 3,Ct 19 91 [(t 15),(t 16),(t 17),(t 18)],mT 14 19,Et 20 0 14,Et 21 1 14,mT 10 20,mT 11 21] (.seq (Oz [Zm 12 0] (Bl 0 Nta)) (Oz [mT 57 9,mT 8 57] .ret)))))
def a51:AFunc:=⟨58,[(.tmp 8)],c51⟩
theorem n51:a51.ntmps=58/\a51.results=[(.tmp 8)]:=⟨id rfl,rfl⟩
theorem b51:a51.body=c51:=rfl
def N8l:ACode:=(.seq (Oz [mT 9 7,mT 10 0,Nt 11 10,Bt 12 .lss 9 11] (Ce 12 0)) (.seq (.block 1 (Ds 0 [mT 15 0,mT 16 7,xT 17 7 15 16,fT 18 0 17,fT 19 1 18,lT 20 19,fT 21 0 4,fT 22 1 21,lT 23 22,Bt 24 .eql 20 23,mT 25 24,Pm 26 25 0,Pm 27 25 7,Px 28 25 7 26 27,Pf 29 25 0 28,Pf 30 25 3 29,Pl 31 25 30,Pf 32 25 0 4,Pf 33 25 3 32,Pl 34 25 33,Pb 35 25 .eql 31 34,At 36 25 35,mT 37 36,Pm 38 37 0,Pm 39 37 7,Px 40 37 7 38 39,Pf 41 37 6 40,Pl 42 37 41,Pf 43 37 6 4,Pl 44 37 43,Pb 45 37 .leq 42 44,At 46 37 45,mT 8 46] (Oz [mT 47 7,mT 48 2,Bt 49 .eql 47 48,mT 50 49,Pm 51 50 8,p 52 50 (.un .not (t 51)),At 53 50 52,mT 54 53,Qm 55 54 7,Qm 56 54 2,Qb 57 54 .gtr 55 56,Qm 58 54 57,Pm 59 58 8,q 60 54 (.pick (t 58) (t 59) (k (.bool false))),Ot 61 54 60] (.cond (t 61) (Oz [i 6 (.mov (k (.bool false)))] .ret) .skip)))) (.ops [mT 13 7,Bc 14 .add 13 1,mT 7 14])))
def c52:ACode:=(Oz [i 4 (.box (t 1)),i 6 (.mov (k (.bool false)))] (.seq (Oz [Zm 7 0] (Bl 0 N8l)) (Oz [i 6 (.mov (k (.bool true)))] .ret)))
def a52:AFunc:=⟨62,[(.tmp 6)],c52⟩
theorem n52:a52.ntmps=62/\a52.results=[(.tmp 6)]:=⟨id rfl,rfl⟩
theorem b52:a52.body=c52:=rfl
def N8k:ACode:=(Oz [Bt 32 .lss 31 30] (.seq (Ce 32 0) (.seq (.block 1 (Oz [mT 33 31,mT 5 33] (Ds 0 [fT 34 1 2,lT 35 34,mT 36 5,xT 37 3 35 36,Gt 38 3 37,fT 39 1 3,lT 40 39,mT 41 5,xT 42 3 40 41,Gt 43 3 42,i 44 (.eqv true (.agg [(.int .i64),(.int .i64),(.int .i64)]) (t 38) (t 43))] (.cond (t 44) (Oz [i 4 (.mov (k (.bool false)))] .ret) .skip)))) (.ops [Bc 45 .add 31 1,mT 31 45]))))
def c53:ACode:=(Oz [i 2 (.box (t 0)),i 3 (.box (t 1)),i 4 (.mov (k (.bool false)))] (.seq (Oz [fT 6 2 2,lT 7 6,fT 8 2 3,lT 9 8,Bt 10 .neq 7 9,mT 11 10,Qf 12 11 0 2,Ql 13 11 12,Qf 14 11 0 3,Ql 15 11 14,q 16 11 (.call .any (.func 80) [(t 13),(t 15)]),q 17 11 (.un .not (t 16)),Ot 18 11 17,mT 19 18,Qf 20 19 1 2,Ql 21 19 20,q 22 19 (.lenSlice (t 21)),Qf 23 19 1 3,Ql 24 19 23,q 25 19 (.lenSlice (t 24)),Qb 26 19 .neq 22 25,Ot 27 19 26] (.cond (t 27) (Oz [i 4 (.mov (k (.bool false)))] .ret) .skip)) (.seq (Oz [fT 28 1 2,lT 29 28,Nt 30 29,Zm 31 0] (Bl 0 N8k)) (Oz [i 4 (.mov (k (.bool true)))] .ret))))
def a53:AFunc:=⟨46,[(.tmp 4)],c53⟩
theorem n53:a53.ntmps=46/\a53.results=[(.tmp 4)]:=⟨id rfl,rfl⟩
theorem b53:a53.body=c53:=rfl
def Ns9:ACode:=(Oz [Bt 11 .lss 10 9] (.seq (Ce 11 0) (.seq (.block 1 (Oz [xT 12 6 8 10,Gt 13 6 12,i 4 (.alloc zi),St 6 4 13] (Oz [Gt 14 6 4,Ct 15 92 [(t 14)],Ut 16 15] (.cond (t 16) (Oz [i 2 (.mov (k (.bool false)))] .ret) .skip)))) (.ops [Bc 17 .add 10 1,mT 10 17]))))
def c55:ACode:=(Oz [i 2 (.mov (k (.bool false)))] (.seq (Oz [mT 5 0,Nt 6 5,Bc 7 .gtr 6 2000] (.cond (t 7) (Oz [i 2 (.mov (k (.bool false)))] .ret) .skip)) (.seq (Oz [mT 8 0,Nt 9 8,Zm 10 0] (Bl 0 Ns9)) (Oz [i 2 (.mov (k (.bool true)))] .ret))))
def a55:AFunc:=⟨18,[(.tmp 2)],c55⟩
theorem n55:a55.ntmps=18/\a55.results=[(.tmp 2)]:=⟨id rfl,rfl⟩
theorem b55:a55.body=c55:=rfl
def N8j:ACode:=(Oz [Bt 40 .lss 39 38] (.seq (Ce 40 2) (.seq (.block 3 (Oz [xT 41 7 37 39,Gt 42 7 41,i 10 (.alloc zf),St 7 10 42] (Oz [fT 43 0 10,fT 44 0 43,lT 45 44,fT 46 0 10,fT 47 1 46,lT 48 47,fT 49 0 10,fT 50 3 49,lT 51 50,i 52 (.build zu [(0,(1,(t 45))),(1,(1,(t 48))),(2,(1,(t 51)))]),i 11 (.alloc zu),St 3 11 52] (.seq (Oz [mT 54 8,Gt 55 3 11,i 56 (.lookup (.ints [.i64,.i64,.u8]) (Vi 0) true (t 54) (t 55)),mT 53 56,Et 57 0 53,Et 58 1 53,mT 12 57,mT 13 58] (Oz [mT 59 13,mT 60 59,Pf 61 60 6 10,Pl 62 60 61,Pm 63 60 12,Pb 64 60 .sub 62 63,p 65 60 (.bin .leq (t 64) (zT 10)),At 66 60 65] (.cond (t 66) (Oz [mT 67 3,Gt 68 7 10,i 69 (.buildSlice 1 zf [(0,(7,(t 68)))]),i 70 (.append 7 56 false (t 67) (t 69)),mT 3 70] (.exit 3)) .skip))) (Oz [mT 71 8,Gt 72 3 11,fT 73 6 10,lT 74 73,s (.mapUpdate (.ints [.i64,.i64,.u8]) (t 71) (t 72) (t 74))] (.ops [mT 75 2,Gt 76 7 10,i 77 (.buildSlice 1 zf [(0,(7,(t 76)))]),i 78 (.append 7 56 false (t 75) (t 77)),mT 2 78])))))) (.ops [Bc 79 .add 39 1,mT 39 79]))))
def N8i:ACode:=(Oz [Bt 22 .lss 21 20] (.seq (Ce 22 0) (.seq (.block 1 (Oz [xT 23 6 19 21,Gt 24 6 23,i 7 (.alloc zi),St 6 7 24] (.drawn 2 [mT 25 5,Kt 26 (.loadN 6 (t 7)) [0,1],mT 27 4,Kt 28 (.loadN 6 (t 7)) [0,1],Kt 29 (.call .pure (.func 94) [(t 27),(t 28)]) [0,1],i 30 (.build zf [(0,(6,(t 26))),(6,(1,(t 29)))]),Wt 31 (.buildSlice 1 zf [(0,(7,(t 30)))]) 0,Wt 32 (.append 7 56 false (t 25) (t 31)) 1,mT 5 32]))) (.ops [Bc 33 .add 21 1,mT 21 33]))))
def c56:ACode:=(Oz [i 2 (.mov (k Vz)),i 3 (.mov (k Vz))] (Oz [mT 14 0,Ct 15 93 [(t 14)],mT 4 15] (Oz [mT 16 0,Nt 17 16,i 18 (.makeSlice 7 56 zf (zT 0) (t 17)),mT 5 18] (.seq (Oz [mT 19 0,Nt 20 19,Zm 21 0] (Bl 0 N8i)) (Oz [mT 34 5,Ct 35 95 [(t 34),(.func 96)]] (Oz [i 36 (.makeMap none),mT 8 36] (.seq (Oz [mT 37 5,Nt 38 37,Zm 39 0] (Bl 2 N8j)) (Oz [mT 80 2,mT 81 3,mT 2 80,mT 3 81] .ret))))))))
def a56:AFunc:=⟨82,[(.tmp 2),(.tmp 3)],c56⟩
theorem n56:a56.ntmps=82/\a56.results=[(.tmp 2),(.tmp 3)]:=⟨id rfl,rfl⟩
theorem b56:a56.body=c56:=rfl
def c58:ACode:=(Oz [i 4 (.box (t 0)),i 8 (.mov (k (.map none))),Zm 9 0] (.seq (Oz [Gt 16 2 4,Ct 17 12 [(t 16)],mT 10 17] (Oz [mT 18 10,Bc 19 .neq 18 0] (.cond (t 19) (Oz [mT 20 10,i 8 (.mov (k (.map none))),mT 9 20] .ret) .skip))) (Oz [Gt 21 2 4,Ct 22 97 [(t 21)],mT 11 22] (Oz [mT 24 11,mT 25 1,i 26 (.lookup (.int .i64) (Vi 0) true (t 24) (t 25)),mT 23 26,Et 27 0 23,Et 28 1 23,mT 12 27,mT 13 28] (Oz [mT 30 11,mT 31 2,i 32 (.lookup (.int .i64) (Vi 0) true (t 30) (t 31)),mT 29 32,Et 33 0 29,Et 34 1 29,mT 14 33,mT 15 34] (.seq (Oz [mT 35 13,Ut 36 35,mT 37 36,Qm 38 37 15,q 39 37 (.un .not (t 38)),Ot 40 37 39,mT 41 40,Qm 42 41 3,q 43 41 (.bin .lss (t 42) (zT 0)),Ot 44 41 43,mT 45 44,Qm 46 45 3,q 47 45 (.bin .gtr (t 46) (zT 1051898399)),Ot 48 45 47] (.cond (t 48) (Oz [i 8 (.mov (k (.map none))),Zm 9 2] .ret) .skip)) (Oz [mT 49 11,mT 8 49,Zm 9 0] .ret)))))))
def a58:AFunc:=⟨50,[(.tmp 8),(.tmp 9)],c58⟩
theorem n58:a58.ntmps=50/\a58.results=[(.tmp 8),(.tmp 9)]:=⟨id rfl,rfl⟩
theorem b58:a58.body=c58:=rfl
def c59:ACode:=(Oz [i 4 (.box (t 0)),i 5 (.box (t 1)),i 7 (.box (t 3)),i 8 (.mov (k Vz))] (Oz [i 10 (.makeFunc 98 [] [(t 5),(t 7)]),mT 9 10] (Ds 0 [lT 11 5,mT 12 2,i 13 (.lookup (.int .i64) (Vi 0) false (t 11) (t 12)),lT 14 7,i 15 (.call .pure (.func 63) [(t 13),(t 14)]),fT 16 1 4,lT 17 16,mT 18 9,Ct 19 99 [(t 15),(t 17),(t 18)],mT 8 19] .ret)))
def a59:AFunc:=⟨20,[(.tmp 8)],c59⟩
theorem n59:a59.ntmps=20/\a59.results=[(.tmp 8)]:=⟨id rfl,rfl⟩
theorem b59:a59.body=c59:=rfl
def N8h:ACode:=(Oz [Bt 9 .lss 8 7] (.seq (Ce 9 0) (.seq (.block 1 (Oz [mT 10 8,mT 5 10] (Oz [mT 11 1,mT 12 0,mT 13 5,xT 14 50 12 13,Gt 15 50 14,i 16 (.call .any (t 11) [(t 15)])] (.cond (t 16) (Oz [mT 17 5,mT 4 17] .ret) .skip)))) (.ops [Bc 18 .add 8 1,mT 8 18]))))
def c60:ACode:=(Oz [Zm 4 0] (.seq (Oz [mT 6 0,Nt 7 6,Zm 8 0] (Bl 0 N8h)) (Oz [Zm 4 (-1)] .ret)))
def a60:AFunc:=⟨19,[(.tmp 4)],c60⟩
theorem n60:a60.ntmps=19/\a60.results=[(.tmp 4)]:=⟨id rfl,rfl⟩
theorem b60:a60.body=c60:=rfl
def c61:ACode:=(Oz [i 3 (.box (t 0)),i 4 (.mov (k (.bool false)))] (Ds 0 [lT 5 1,i 6 (.idxAddrA 50 1 (t 3) (t 5)),lT 7 6,lT 8 2,Bt 9 .eql 7 8,mT 4 9] .ret))
def a61:AFunc:=⟨10,[(.tmp 4)],c61⟩
theorem n61:a61.ntmps=10/\a61.results=[(.tmp 4)]:=⟨id rfl,rfl⟩
theorem b61:a61.body=c61:=rfl
def N0v:ACode:=(Oz [Bt 33 .lss 32 31] (.seq (Ce 33 2) (.seq (.block 3 (Oz [xT 34 8 30 32,Gt 35 8 34,i 13 (.alloc ze),St 8 13 35] (Oz [mT 36 1,fT 37 2 13,lT 38 37,i 39 (.lookup (.int .i64) (Vi 0) false (t 36) (t 38)),i 40 (.idxAddrA 50 1 (t 10) (t 39)),lT 41 40,mT 14 41] (.seq (Oz [mT 42 14,Bc 43 .lss 42 0] (.cond (t 43) (.exit 3) .skip)) (Oz [Gt 45 8 13,mT 46 14,Ct 47 100 [(t 45),(t 46)],mT 44 47,Et 48 0 44,Et 49 1 44,i 15 (.alloc zm),St 2 15 48,mT 16 49] (Oz [mT 50 16] (.cond (t 50) (.drawn 0 [mT 51 1,fT 52 1 13,lT 53 52,i 54 (.lookup (.int .i64) (Vi 0) false (t 51) (t 53)),mT 55 1,fT 56 1 13,lT 57 56,i 58 (.lookup (.int .i64) (Vi 0) false (t 55) (t 57)),i 59 (.idxAddrA 50 1 (t 11) (t 58)),lT 60 59,fT 61 0 15,lT 62 61,fT 63 5 13,lT 64 63,Bt 65 .sub 62 64,i 66 (.minmax true [(t 60),(t 65)]),i 67 (.idxAddrA 50 1 (t 11) (t 54)),St 1 67 66]) .skip))))))) (.ops [Bc 68 .add 32 1,mT 32 68]))))
def N8g:ACode:=(Oz [Bt 21 .lss 20 19] (.seq (Ce 21 0) (.seq (.block 1 (Ds 2 [mT 22 9,mT 23 9,Nt 24 23,Bc 25 .sub 24 1,xT 26 50 22 25,Kt 27 (.loadN 50 (t 26)) [0,1],Kt 28 (.call .pure (.func 63) [(zT 0),(zT (-1))]) [0,1],Wt 10 (.alloc zd) 0,Wt 11 (.alloc zd) 1,St 50 10 27,St 50 11 28] (.seq (Oz [fT 29 1 4,lT 30 29,Nt 31 30,Zm 32 0] (Bl 2 N0v)) (.ops [mT 69 9,Gt 70 50 11,i 71 (.buildSlice 1 zd [(0,(50,(t 70)))]),i 72 (.append 50 400 false (t 69) (t 71)),mT 9 72])))) (.ops [Bc 73 .add 20 1,mT 20 73]))))
def c62:ACode:=(Oz [i 4 (.box (t 0)),i 6 (.box (t 2)),i 8 (.mov (k Vz))] (Oz [Gt 17 50 6,i 18 (.buildSlice 1 zd [(0,(50,(t 17)))]),mT 9 18] (.seq (Oz [mT 19 3,Zm 20 0] (Bl 0 N8g)) (Oz [mT 74 9,mT 8 74] .ret))))
def a62:AFunc:=⟨75,[(.tmp 8)],c62⟩
theorem n62:a62.ntmps=75/\a62.results=[(.tmp 8)]:=⟨id rfl,rfl⟩
theorem b62:a62.body=c62:=rfl
def N8f:ACode:=(Oz [Bc 8 .lss 7 50] (.seq (Ce 8 0) (.seq (.block 1 (Oz [mT 9 7,mT 6 9] (.ops [mT 10 6,i 11 (.idxAddrA 50 1 (t 5) (t 10)),s (.store 1 (t 11) (zT (-1)))]))) (.ops [Bc 12 .add 7 1,mT 7 12]))))
def c63:ACode:=(Oz [i 4 (.alloc zd)] (Oz [i 5 (.alloc zd)] (.seq (Oz [Zm 7 0] (Bl 0 N8f)) (Oz [mT 13 0,mT 14 1,i 15 (.idxAddrA 50 1 (t 5) (t 13)),St 1 15 14] (Oz [Gt 16 50 5,St 50 4 16] .ret)))))
def a63:AFunc:=⟨17,[(.cellN 50 4)],c63⟩
theorem n63:a63.ntmps=17/\a63.results=[(.cellN 50 4)]:=⟨id rfl,rfl⟩
theorem b63:a63.body=c63:=rfl
def c64:ACode:=(Oz [i 4 (.mov (k Vz))] (Oz [mT 6 0,Ct 7 101 [(t 6)],mT 5 7] (Oz [mT 8 5,mT 9 1,Ct 10 102 [(t 8),(t 9)]] (Oz [mT 11 5,mT 4 11] .ret))))
def a64:AFunc:=⟨12,[(.tmp 4)],c64⟩
theorem n64:a64.ntmps=12/\a64.results=[(.tmp 4)]:=⟨id rfl,rfl⟩
theorem b64:a64.body=c64:=rfl
def c65:ACode:=(Oz [i 1 (.box (t 0)),i 2 (.mov (k .nilFunc))] (Oz [i 3 (.makeFunc 103 [] [(t 1)]),mT 2 3] .ret))
def a65:AFunc:=⟨4,[(.tmp 2)],c65⟩
theorem n65:a65.ntmps=4/\a65.results=[(.tmp 2)]:=⟨id rfl,rfl⟩
theorem b65:a65.body=c65:=rfl
def c66:ACode:=(Oz [i 2 (.box (t 0)),i 3 (.box (t 1)),Zm 4 0] (Oz [fT 5 0 2,lT 6 5,fT 7 0 3,lT 8 7,Ct 9 67 [(t 6),(t 8)],mT 4 9] .ret))
def a66:AFunc:=⟨10,[(.tmp 4)],c66⟩
theorem n66:a66.ntmps=10/\a66.results=[(.tmp 4)]:=⟨id rfl,rfl⟩
theorem b66:a66.body=c66:=rfl
def c67:ACode:=(Oz [Zm 4 0] (Oz [mT 7 0,Ct 8 104 [(t 7)],mT 5 8] (Oz [mT 9 1,Ct 10 104 [(t 9)],mT 6 10] (.seq (Oz [mT 11 5] (.cond (t 11) (.seq (Oz [mT 12 6] (.cond (t 12) (Oz [Zm 4 0] .ret) .skip)) (Oz [Zm 4 (-1)] .ret)) .skip)) (.seq (Oz [mT 13 6] (.cond (t 13) (Oz [Zm 4 1] .ret) .skip)) (.seq (Oz [mT 14 0,mT 15 1,Bt 16 .lss 14 15] (.cond (t 16) (Oz [Zm 4 (-1)] .ret) .skip)) (.seq (Oz [mT 17 0,mT 18 1,Bt 19 .gtr 17 18] (.cond (t 19) (Oz [Zm 4 1] .ret) .skip)) (Oz [Zm 4 0] .ret))))))))
def a67:AFunc:=⟨20,[(.tmp 4)],c67⟩
theorem n67:a67.ntmps=20/\a67.results=[(.tmp 4)]:=⟨id rfl,rfl⟩
theorem b67:a67.body=c67:=rfl
def Nfk:ACode:=(.ops [i 7 (.alloc zm),St 2 7 26])
def Nfi:ACode:=(.block 1 (Oz [fT 27 0 7,lT 28 27,fT 29 5 2,lT 30 29,Bt 31 .sub 28 30,lT 32 3,Bt 33 .geq 31 32] (.cond (t 33) (Oz [Gt 34 2 7,St 2 4 34,s (.store 1 (t 5) (k (.bool true)))] .retR) .skip)))
def c68:ACode:=(.seq (Oz [i 2 (.box (t 0)),i 3 (.box (t 1)),i 4 (.alloc zm),i 5 (.alloc zw)] (.seq (Oz [Gt 8 8 2,Ct 9 34 [(t 8)],Ut 10 9,mT 11 10,Ql 12 11 3,q 13 11 (.bin .gtr (t 12) (zT 1051898399)),Ot 14 11 13] (.cond (t 14) (Oz [i 15 (.build zm []),St 2 4 15,s (.store 1 (t 5) (k (.bool false)))] .retM) .skip)) (Oz [lT 16 3,i 17 (.minmax true [(t 16),(zT 0)]),St 1 3 17] (Oz [lT 18 3,fT 19 5 2,lT 20 19,Bt 21 .add 18 20,Bc 22 .quo 21 1440,mT 6 22] (.seq (Oz [Gt 23 8 2,mT 24 6,Ct 25 105 [(t 23),(t 24),(zT 1)]] (.block 0 (.rangeF (t 25) [26] Nfk Nfi))) (Oz [i 35 (.build zm []),St 2 4 35,s (.store 1 (t 5) (k (.bool false)))] .retM)))))) .retM)
def a68:AFunc:=⟨36,[(.cellN 2 4),(.cell1 5)],c68⟩
theorem n68:a68.ntmps=36:=id rfl
theorem r68:a68.results=[(.cellN 2 4),(.cell1 5)]:=rfl
theorem b68:a68.body=c68:=rfl
def N8e:ACode:=(Oz [Bt 19 .lss 18 17] (.seq (Ce 19 0) (.seq (.block 1 (Oz [mT 20 18,xT 21 7 16 18,Gt 22 7 21,i 7 (.alloc zf),mT 6 20,St 7 7 22] (.block 2 (.seq (Oz [fT 24 0 7,Gt 25 6 24,i 26 (.buildSlice 1 zi [(0,(6,(t 25)))]),Ct 27 55 [(t 26)],Ut 28 27,mT 23 28] (.cond (t 23) .skip (Oz [fT 29 6 7,lT 30 29,Bc 31 .lss 30 0,mT 23 31] (.cond (t 23) .skip (.ops [fT 32 6 7,lT 33 32,Bc 34 .gtr 33 1051898399,mT 23 34]))))) (.cond (t 23) (Oz [Zm 4 2] .ret) (Ds 0 [mT 36 6,Bc 37 .gtr 36 0,mT 38 37,Pf 39 38 0 7,Pf 40 38 0 39,Pl 41 38 40,Pm 42 38 1,p 43 38 (.idxAddrS 7 (t 42) (zT 0)),Pf 44 38 0 43,Pf 45 38 0 44,Pl 46 38 45,Pb 47 38 .neq 41 46,Pm 48 38 47,Qf 49 48 6 7,Ql 50 48 49,Qm 51 48 1,Qm 52 48 6,q 53 48 (.bin .sub (t 52) (zT 1)),Qx 54 48 7 51 53,Qf 55 48 6 54,Ql 56 48 55,Qb 57 48 .lss 50 56,p 58 38 (.pick (t 48) (k (.bool true)) (t 57)),At 59 38 58,mT 35 59] (.cond (t 35) (Oz [Zm 4 2] .ret) .skip))))))) (.ops [Bc 60 .add 18 1,mT 18 60]))))
def c69:ACode:=(Oz [i 2 (.box (t 0)),Zm 4 0] (.seq (Oz [Gt 8 2 2,Ct 9 12 [(t 8)],mT 5 9] (Oz [mT 10 5,Bc 11 .neq 10 0] (.cond (t 11) (Oz [mT 12 5,mT 4 12] .ret) .skip))) (.seq (Oz [mT 13 1,Nt 14 13,Bc 15 .gtr 14 40] (.cond (t 15) (Oz [Zm 4 5] .ret) .skip)) (.seq (Oz [mT 16 1,Nt 17 16,Zm 18 0] (Bl 0 N8e)) (Oz [Zm 4 0] .ret)))))
def a69:AFunc:=⟨61,[(.tmp 4)],c69⟩
theorem n69:a69.ntmps=61/\a69.results=[(.tmp 4)]:=⟨id rfl,rfl⟩
theorem b69:a69.body=c69:=rfl
def c70:ACode:=(Oz [i 1 (.box (t 0)),i 2 (.mov (k (.pointer none)))] (Oz [Gt 3 2 1,i 4 (.makeMap none),i 5 (.build [Vz,Vz,(.map none)] [(0,(2,(t 3))),(2,(1,(t 4)))]),i 6 (.box (t 5)),mT 2 6] .ret))
def a70:AFunc:=⟨7,[(.tmp 2)],c70⟩
theorem n70:a70.ntmps=7/\a70.results=[(.tmp 2)]:=⟨id rfl,rfl⟩
theorem b70:a70.body=c70:=rfl
def N8d:ACode:=(.seq (Oz [mT 19 8,mT 20 2,Nt 21 20,Bt 22 .lss 19 21] (Ce 22 0)) (.seq (.block 1 (Ds 1 [mT 25 2,mT 26 8,Bc 27 .sub 26 1,xT 28 1 25 27,Kt 29 (.load1 (t 28)) [0],mT 30 2,mT 31 8,xT 32 1 30 31,Kt 33 (.load1 (t 32)) [0],i 34 (.build zg [(0,(1,(t 29))),(1,(1,(t 33)))]),Wt 9 (.alloc zg) 0,St 3 9 34] (Ds 0 [mT 35 0,mT 36 1,fT 37 0 9,lT 38 37,xT 39 7 36 38,Gt 40 7 39,mT 41 1,fT 42 1 9,lT 43 42,xT 44 7 41 43,Gt 45 7 44,Ct 46 107 [(t 35),(t 40),(t 45)],fT 47 2 9,St 1 47 46] (Oz [fT 48 2 7,lT 49 48,fT 50 2 9,lT 51 50,Bt 52 .add 49 51,fT 53 2 7,St 1 53 52] (.ops [fT 54 1 7,lT 55 54,Gt 56 3 9,i 57 (.buildSlice 1 zg [(0,(3,(t 56)))]),i 58 (.append 3 24 false (t 55) (t 57)),fT 59 1 7,St 1 59 58]))))) (.ops [mT 23 8,Bc 24 .add 23 1,mT 8 24])))
def c71:ACode:=(Oz [i 6 (.alloc zr)] (Oz [mT 10 2,Ct 11 106 [(t 10)],mT 12 1,Nt 13 12,mT 14 2,Nt 15 14,Bt 16 .sub 13 15,i 17 (.bin .mul (zT 30) (t 16)),i 18 (.build zr [(0,(1,(t 11))),(2,(1,(t 17)))]),i 7 (.alloc zr),St 3 7 18] (.seq (Oz [Zm 8 1] (Bl 0 N8d)) (Oz [Gt 60 3 7,St 3 6 60] .ret))))
def a71:AFunc:=⟨61,[(.cellN 3 6)],c71⟩
theorem n71:a71.ntmps=61/\a71.results=[(.cellN 3 6)]:=⟨id rfl,rfl⟩
theorem b71:a71.body=c71:=rfl
def N8c:ACode:=(.seq (Oz [mT 119 16,Bc 120 .geq 119 0] (Ce 120 6)) (.seq (.block 7 (.ops [mT 126 15,mT 127 16,i 128 (.buildSlice 1 zt [(0,(1,(t 127)))]),i 129 (.append 1 8 false (t 126) (t 128)),mT 15 129])) (.ops [mT 121 5,mT 122 16,xT 123 3 121 122,fT 124 2 123,lT 125 124,mT 16 125])))
def N0u:ACode:=(.seq (Oz [mT 87 13,Bc 88 .geq 87 0] (Ce 88 4)) (.seq (.block 5 (Ds 1 [mT 91 13,i 92 (.bin .mul (zT 30) (t 91)),mT 93 5,mT 94 13,xT 95 3 93 94,fT 96 0 95,Kt 97 (.load1 (t 96)) [0],Bt 98 .add 92 97,mT 99 5,mT 100 13,xT 101 3 99 100,fT 102 1 101,Kt 103 (.load1 (t 102)) [0],mT 104 13,i 105 (.build zg [(0,(1,(t 98))),(1,(1,(t 103))),(2,(1,(t 104)))]),Wt 14 (.alloc zg) 0,St 3 14 105] (Oz [fT 106 2 12,lT 107 106,Bc 108 .lss 107 0,mT 109 108,Qm 110 109 6,q 111 109 (.loadN 3 (t 12)),q 112 109 (.loadN 3 (t 14)),q 113 109 (.call .any (t 110) [(t 111),(t 112)]),q 114 109 (.un .not (t 113)),Ot 115 109 114] (.cond (t 115) (.ops [Gt 116 3 14,St 3 12 116]) .skip)))) (.ops [mT 89 13,Bc 90 .sub 89 1,mT 13 90])))
def N0t:ACode:=(.seq (Oz [mT 37 9,mT 38 7,Bt 39 .gtr 37 38] (Ce 39 2)) (.seq (.block 3 (Oz [mT 42 9,mT 43 7,Bt 44 .sub 42 43,Bc 45 .sub 44 1,i 46 (.bin .mul (zT 30) (t 45)),mT 10 46] (Ds 1 [mT 47 0,mT 48 1,mT 49 7,xT 50 7 48 49,Kt 51 (.loadN 7 (t 50)) [0],mT 52 1,mT 53 9,xT 54 7 52 53,Kt 55 (.loadN 7 (t 54)) [0],mT 57 10,mT 59 5,mT 60 9,xT 61 3 59 60,fT 62 0 61,Kt 63 (.load1 (t 62)) [0],mT 65 5,mT 66 9,xT 67 3 65 66,fT 68 1 67,Kt 69 (.load1 (t 68)) [0],Bc 70 .add 69 1,mT 71 9,Wt 11 (.alloc zg) 0,Kt 56 (.call .maps (.func 107) [(t 47),(t 51),(t 55)]) [0],Bt 58 .add 56 57,Bt 64 .add 58 63,i 72 (.build zg [(0,(1,(t 64))),(1,(1,(t 70))),(2,(1,(t 71)))]),St 3 11 72] (Oz [mT 73 6,Gt 74 3 8,Gt 75 3 11,i 76 (.call .any (t 73) [(t 74),(t 75)]),Ut 77 76] (.cond (t 77) (.ops [Gt 78 3 11,St 3 8 78]) .skip))))) (.ops [mT 40 9,Bc 41 .sub 40 1,mT 9 41])))
def N8b:ACode:=(.seq (Oz [mT 23 7,Bc 24 .geq 23 0] (Ce 24 0)) (.seq (.block 1 (Oz [mT 27 1,Nt 28 27,Bc 29 .sub 28 1,mT 30 7,Bt 31 .sub 29 30,i 32 (.bin .mul (zT 30) (t 31)),i 33 (.build zg [(0,(1,(t 32))),(1,(1,(zT 1))),(2,(1,(zT (-1))))]),i 8 (.alloc zg),St 3 8 33] (.seq (Oz [mT 34 1,Nt 35 34,Bc 36 .sub 35 1,mT 9 36] (Bl 2 N0t)) (.ops [mT 79 5,mT 80 7,Gt 81 3 8,xT 82 3 79 80,St 3 82 81])))) (.ops [mT 25 7,Bc 26 .sub 25 1,mT 7 26])))
def c72:ACode:=(Oz [i 4 (.mov (k Vz))] (Oz [mT 17 1,Nt 18 17,i 19 (.makeSlice 3 24 zg (t 18) (t 18)),mT 5 19] (Oz [i 6 (.mov (.func 108))] (.seq (Oz [mT 20 1,Nt 21 20,Bc 22 .sub 21 1,mT 7 22] (Bl 0 N8b)) (Oz [i 83 (.build zg [(2,(1,(zT (-1))))]),i 12 (.alloc zg),St 3 12 83] (.seq (Oz [mT 84 1,Nt 85 84,Bc 86 .sub 85 1,mT 13 86] (Bl 4 N0u)) (Oz [i 15 (.mov (k Vz))] (.seq (Oz [fT 117 2 12,lT 118 117,mT 16 118] (Bl 6 N8c)) (Oz [mT 130 15,mT 4 130] .ret)))))))))
def a72:AFunc:=⟨131,[(.tmp 4)],c72⟩
theorem n72:a72.ntmps=131/\a72.results=[(.tmp 4)]:=⟨id rfl,rfl⟩
theorem b72:a72.body=c72:=rfl
def c73:ACode:=(.ops [lT 3 1,mT 4 0,i 5 (.append 5 40 false (t 3) (t 4)),St 1 1 5])
def a73:AFunc:=⟨6,[],c73⟩
theorem n73:a73.ntmps=6/\a73.results=[]:=⟨id rfl,rfl⟩
theorem b73:a73.body=c73:=rfl
def N8a:ACode:=(Oz [Bt 35 .lss 34 33] (.seq (Ce 35 2) (.seq (.block 3 (Oz [xT 36 3 32 34,Gt 37 3 36,i 9 (.alloc zg),St 3 9 37] (.ops [mT 38 5,fT 39 1 9,lT 40 39,Gt 41 3 9,xT 42 3 38 40,St 3 42 41]))) (.ops [Bc 43 .add 34 1,mT 34 43]))))
def N79:ACode:=(Oz [Bt 23 .lss 22 21] (.seq (Ce 23 0) (.seq (.block 1 (Oz [xT 24 1 20 22,lT 25 24,mT 7 25] (.ops [mT 26 4,mT 27 7,xT 28 1 26 27,s (.store 1 (t 28) (k (.bool true)))]))) (.ops [Bc 29 .add 22 1,mT 22 29]))))
def c74:ACode:=(Oz [i 1 (.box (t 0)),i 2 (.mov (k Vz)),i 3 (.mov (k Vz))] (Oz [fT 10 0 1,lT 11 10,Nt 12 11,i 13 (.makeSlice 1 1 zw (t 12) (t 12)),mT 4 13] (Oz [fT 14 0 1,lT 15 14,Nt 16 15,i 17 (.makeSlice 3 24 zg (t 16) (t 16)),mT 5 17] (.seq (Oz [fT 18 1 1,fT 19 0 18,lT 20 19,Nt 21 20,Zm 22 0] (Bl 0 N79)) (.seq (Oz [fT 30 1 1,fT 31 1 30,lT 32 31,Nt 33 32,Zm 34 0] (Bl 2 N8a)) (Oz [mT 44 4,mT 45 5,mT 2 44,mT 3 45] .ret))))))
def a74:AFunc:=⟨46,[(.tmp 2),(.tmp 3)],c74⟩
theorem n74:a74.ntmps=46/\a74.results=[(.tmp 2),(.tmp 3)]:=⟨id rfl,rfl⟩
theorem b74:a74.body=c74:=rfl
def c75:ACode:=(Oz [i 3 (.box (t 0)),i 4 (.box (t 1)),i 5 (.box (t 2)),i 6 (.mov (k Vz))] (Ds 2 [fT 10 0 3,Kt 11 (.load1 (t 10)) [0,1],fT 12 0 5,Kt 13 (.load1 (t 12)) [0,1],xT 14 7 11 13,fT 15 0 14,Kt 16 (.loadN 6 (t 15)) [0,1],fT 17 0 3,Kt 18 (.load1 (t 17)) [0,1],fT 19 1 5,Kt 20 (.load1 (t 19)) [0,1],xT 21 7 18 20,fT 22 0 21,Kt 23 (.loadN 6 (t 22)) [0,1],Wt 7 (.alloc zi) 0,Wt 8 (.alloc zi) 1,⟨none,none,(.storeD 6 (t 7) (t 16)),(some 0),[]⟩,⟨none,none,(.storeD 6 (t 8) (t 23)),(some 1),[]⟩] (Oz [fT 24 1 5,lT 25 24,fT 26 0 5,lT 27 26,fT 28 1 8,lT 29 28,i 30 (.build zh [(1,(1,(t 25))),(2,(1,(t 27))),(3,(1,(t 29)))]),i 9 (.alloc zh),St 5 9 30] (.seq (.block 0 (Oz [fT 32 3 7,lT 33 32,i 34 (.bin .eql (t 33) (k (.int .u8 4))),mT 31 34] (.cond (t 31) (.ops [fT 35 0 9,s (.store 1 (t 35) (k (.int .u8 2)))]) (Oz [fT 37 2 5,lT 38 37,Bc 39 .eql 38 80,mT 36 39] (.cond (t 36) (.ops [fT 40 0 9,s (.store 1 (t 40) (k (.int .u8 3)))]) (Oz [fT 42 2 5,lT 43 42,Bc 44 .gtr 43 0,mT 41 44] (.cond (t 41) (.drawn 0 [fT 45 2 5,i 46 (.loadO none (t 45) (t 9)),fT 47 0 9,s (.storeO 1 (t 47) (k (.int .u8 4)) (t 9)),fT 48 4 9,St 1 48 46]) (Oz [fT 50 1 7,lT 51 50,fT 52 1 8,lT 53 52,Bt 54 .neq 51 53,mT 49 54] (.cond (t 49) (Oz [Gt 55 5 3,Gt 56 2 4,Gt 57 3 5,Ct 58 109 [(t 55),(t 56),(t 57)],mT 6 58] .ret) (Oz [i 6 (.mov (k Vz))] .ret)))))))))) (Oz [Gt 59 5 9,i 60 (.buildSlice 1 zh [(0,(5,(t 59)))]),mT 6 60] .ret)))))
def a75:AFunc:=⟨61,[(.tmp 6)],c75⟩
theorem n75:a75.ntmps=61/\a75.results=[(.tmp 6)]:=⟨id rfl,rfl⟩
theorem b75:a75.body=c75:=rfl
def N78:ACode:=(Oz [Bt 40 .lss 39 38] (.seq (Ce 40 2) (.seq (.block 3 (Oz [xT 41 7 37 39,Gt 42 7 41,i 14 (.alloc zf),St 7 14 42] (Oz [mT 43 8,Gt 44 7 14,i 45 (.call .any (t 43) [(t 44)]),mT 46 45,Pf 47 46 6 14,Pl 48 46 47,Pf 49 46 6 7,Pl 50 46 49,Pb 51 46 .geq 48 50,At 52 46 51,mT 53 52,Pf 54 53 6 14,Pl 55 53 54,Pm 56 53 9,Pb 57 53 .lss 55 56,At 58 53 57] (.cond (t 58) (.ops [mT 59 12,mT 60 2,fT 61 0 7,fT 62 1 61,lT 63 62,fT 64 6 14,lT 65 64,fT 66 6 7,lT 67 66,Bt 68 .sub 65 67,i 69 (.build zh [(0,(1,(k (.int .u8 6)))),(1,(1,(t 60))),(3,(1,(t 63))),(4,(1,(t 68)))]),i 70 (.buildSlice 1 zh [(0,(5,(t 69)))]),i 71 (.append 5 40 false (t 59) (t 70)),mT 12 71]) .skip)))) (.ops [Bc 72 .add 39 1,mT 39 72]))))
def N77:ACode:=(Oz [Bt 28 .lss 27 26] (.seq (Ce 28 0) (.seq (.block 1 (Oz [xT 29 7 25 27,Gt 30 7 29,i 11 (.alloc zf),St 7 11 30] (Oz [mT 31 8,Gt 32 7 11,i 33 (.call .any (t 31) [(t 32)])] (.cond (t 33) (Oz [fT 34 6 11,lT 35 34,mT 9 35] (.exit 0)) .skip)))) (.ops [Bc 36 .add 27 1,mT 27 36]))))
def c76:ACode:=(Oz [i 3 (.box (t 0)),i 6 (.mov (k Vz))] (Oz [fT 15 0 3,lT 16 15,mT 17 2,xT 18 7 16 17,Gt 19 7 18,i 7 (.alloc zf),St 7 7 19] (Oz [i 20 (.makeFunc 110 [] [(t 7)]),mT 8 20] (Oz [Zm 9 1051898400] (.seq (Oz [fT 21 0 3,lT 22 21,mT 23 2,Bc 24 .add 23 1,i 25 (.sliceS 7 (t 22) (some (t 24)) none none),Nt 26 25,Zm 27 0] (Bl 0 N77)) (Oz [i 12 (.mov (k Vz))] (.seq (Oz [mT 37 1,Nt 38 37,Zm 39 0] (Bl 2 N78)) (Oz [mT 73 12,mT 6 73] .ret))))))))
def a76:AFunc:=⟨74,[(.tmp 6)],c76⟩
theorem n76:a76.ntmps=74/\a76.results=[(.tmp 6)]:=⟨id rfl,rfl⟩
theorem b76:a76.body=c76:=rfl
def c77:ACode:=(Oz [i 2 (.box (t 0)),i 4 (.mov (k Vz))] (.seq (Oz [fT 7 1 2,fT 8 0 7,lT 9 8,Nt 10 9,Bc 11 .eql 10 0] (.cond (t 11) (Oz [i 4 (.mov (k Vz))] .ret) .skip)) (Oz [fT 12 1 2,fT 13 0 12,lT 14 13,fT 15 1 2,fT 16 0 15,lT 17 16,Nt 18 17,Bc 19 .sub 18 1,xT 20 1 14 19,lT 21 20,mT 5 21] (Oz [fT 22 0 2,lT 23 22,mT 24 5,xT 25 7 23 24,Gt 26 7 25,i 6 (.alloc zf),St 7 6 26] (.seq (Oz [fT 27 0 6,fT 28 3 27,lT 29 28,i 30 (.bin .eql (t 29) (k (.int .u8 4))),mT 31 30,Qm 32 31 1,Qf 33 31 6 6,Ql 34 31 33,Qb 35 31 .sub 32 34,q 36 31 (.bin .leq (t 35) (zT 20160)),Ot 37 31 36] (.cond (t 37) (Oz [i 4 (.mov (k Vz))] .ret) .skip)) (Oz [mT 38 5,fT 39 0 6,fT 40 1 39,lT 41 40,mT 42 1,fT 43 6 6,lT 44 43,Bt 45 .sub 42 44,i 46 (.build zh [(0,(1,(k (.int .u8 7)))),(1,(1,(t 38))),(3,(1,(t 41))),(4,(1,(t 45)))]),i 47 (.buildSlice 1 zh [(0,(5,(t 46)))]),mT 4 47] .ret))))))
def a77:AFunc:=⟨48,[(.tmp 4)],c77⟩
theorem n77:a77.ntmps=48/\a77.results=[(.tmp 4)]:=⟨id rfl,rfl⟩
theorem b77:a77.body=c77:=rfl
def c78:ACode:=(Oz [Zm 4 0] (Oz [mT 5 0,Bc 6 .add 5 7,i 7 (.bin .mul (zT 1000003) (t 6)),mT 8 1,Bt 9 .add 7 8,mT 4 9] .ret))
def a78:AFunc:=⟨10,[(.tmp 4)],c78⟩
theorem n78:a78.ntmps=10/\a78.results=[(.tmp 4)]:=⟨id rfl,rfl⟩
theorem b78:a78.body=c78:=rfl
def c79:ACode:=(Oz [i 4 (.alloc ze)] (Oz [mT 5 0,mT 6 1,Ct 7 78 [(t 5),(t 6)],i 8 (.build ze [(0,(1,(t 7)))]),St 8 4 8] .ret))
def a79:AFunc:=⟨9,[(.cellN 8 4)],c79⟩
theorem n79:a79.ntmps=9/\a79.results=[(.cellN 8 4)]:=⟨id rfl,rfl⟩
theorem b79:a79.body=c79:=rfl
def N76:ACode:=(.seq (Oz [mT 11 5,mT 12 0,Nt 13 12,Bt 14 .lss 11 13] (Ce 14 0)) (.seq (.block 1 (Ds 0 [mT 17 0,mT 18 5,xT 19 1 17 18,lT 20 19,mT 21 1,mT 22 5,xT 23 1 21 22,lT 24 23,Bt 25 .neq 20 24] (.cond (t 25) (Oz [i 4 (.mov (k (.bool false)))] .ret) .skip))) (.ops [mT 15 5,Bc 16 .add 15 1,mT 5 16])))
def c80:ACode:=(Oz [i 4 (.mov (k (.bool false)))] (.seq (Oz [mT 6 0,Nt 7 6,mT 8 1,Nt 9 8,Bt 10 .neq 7 9] (.cond (t 10) (Oz [i 4 (.mov (k (.bool false)))] .ret) .skip)) (.seq (Oz [Zm 5 0] (Bl 0 N76)) (Oz [i 4 (.mov (k (.bool true)))] .ret))))
def a80:AFunc:=⟨26,[(.tmp 4)],c80⟩
theorem n80:a80.ntmps=26/\a80.results=[(.tmp 4)]:=⟨id rfl,rfl⟩
theorem b80:a80.body=c80:=rfl
def N75:ACode:=(.seq (Oz [mT 11 5,mT 12 0,Nt 13 12,Bt 14 .lss 11 13] (Ce 14 0)) (.seq (.block 1 (Ds 0 [mT 17 0,mT 18 5,xT 19 8 17 18,Gt 20 8 19,mT 21 1,mT 22 5,xT 23 8 21 22,Gt 24 8 23,i 25 (.eqv true (.agg [(.int .i64),(.int .i64),(.int .i64),(.int .i64),(.int .i64),(.int .i64),(.int .i64),(.int .u8)]) (t 20) (t 24))] (.cond (t 25) (Oz [i 4 (.mov (k (.bool false)))] .ret) .skip))) (.ops [mT 15 5,Bc 16 .add 15 1,mT 5 16])))
def c81:ACode:=(Oz [i 4 (.mov (k (.bool false)))] (.seq (Oz [mT 6 0,Nt 7 6,mT 8 1,Nt 9 8,Bt 10 .neq 7 9] (.cond (t 10) (Oz [i 4 (.mov (k (.bool false)))] .ret) .skip)) (.seq (Oz [Zm 5 0] (Bl 0 N75)) (Oz [i 4 (.mov (k (.bool true)))] .ret))))
def a81:AFunc:=⟨26,[(.tmp 4)],c81⟩
theorem n81:a81.ntmps=26/\a81.results=[(.tmp 4)]:=⟨id rfl,rfl⟩
theorem b81:a81.body=c81:=rfl
def c82:ACode:=(Oz [i 6 (.mov (k (.bool false)))] (Oz [mT 7 0,mT 8 1,Bt 9 .geq 7 8,mT 10 9,Pm 11 10 0,Pm 12 10 2,Pb 13 10 .leq 11 12,At 14 10 13,mT 6 14] .ret))
def a82:AFunc:=⟨15,[(.tmp 6)],c82⟩
theorem n82:a82.ntmps=15/\a82.results=[(.tmp 6)]:=⟨id rfl,rfl⟩
theorem b82:a82.body=c82:=rfl
def N74:ACode:=(.seq (Oz [mT 7 6,mT 8 0,Nt 9 8,Bt 10 .lss 7 9] (Ce 10 0)) (.seq (.block 1 (Oz [mT 13 0,mT 14 6,xT 15 1 13 14,lT 16 15,mT 17 1,Bt 18 .eql 16 17] (.cond (t 18) (.ops [mT 19 5,Bc 20 .add 19 1,mT 5 20]) .skip))) (.ops [mT 11 6,Bc 12 .add 11 1,mT 6 12])))
def c83:ACode:=(Oz [Zm 4 0] (Oz [Zm 5 0] (.seq (Oz [Zm 6 0] (Bl 0 N74)) (Oz [mT 21 5,mT 4 21] .ret))))
def a83:AFunc:=⟨22,[(.tmp 4)],c83⟩
theorem n83:a83.ntmps=22/\a83.results=[(.tmp 4)]:=⟨id rfl,rfl⟩
theorem b83:a83.body=c83:=rfl
def c84:ACode:=(Oz [i 1 (.box (t 0)),i 2 (.mov (k (.bool false)))] (Oz [fT 3 0 1,lT 4 3,Ct 5 82 [(t 4),(zT 1),(zT 999999)],mT 6 5,Pf 7 6 1 1,Pl 8 6 7,p 9 6 (.call .any (.func 82) [(t 8),(zT 1),(zT 999999)]),At 10 6 9,mT 11 10,Pf 12 11 2 1,Pl 13 11 12,p 14 11 (.call .any (.func 82) [(t 13),(zT 1),(zT 999999)]),At 15 11 14,mT 16 15,Pf 17 16 1 1,Pl 18 16 17,Pf 19 16 2 1,Pl 20 16 19,Pb 21 16 .neq 18 20,At 22 16 21,mT 23 22,Pf 24 23 3 1,Pl 25 23 24,p 26 23 (.call .any (.func 82) [(t 25),(zT 0),(zT 1439)]),At 27 23 26,mT 28 27,Pf 29 28 4 1,Pl 30 28 29,p 31 28 (.call .any (.func 82) [(t 30),(zT 1),(zT 20160)]),At 32 28 31,mT 33 32,Pf 34 33 5 1,Pl 35 33 34,p 36 33 (.call .any (.func 82) [(t 35),(zT 0),(zT 10080)]),At 37 33 36,mT 38 37,Pf 39 38 6 1,Pl 40 38 39,p 41 38 (.call .any (.func 82) [(t 40),(zT 0),(zT 1000000000)]),At 42 38 41,mT 43 42,Pf 44 43 7 1,Pl 45 43 44,p 46 43 (.bin .geq (t 45) (k (.int .u8 1))),At 47 43 46,mT 48 47,Pf 49 48 7 1,Pl 50 48 49,p 51 48 (.bin .leq (t 50) (k (.int .u8 127))),At 52 48 51,mT 2 52] .ret))
def a84:AFunc:=⟨53,[(.tmp 2)],c84⟩
theorem n84:a84.ntmps=53/\a84.results=[(.tmp 2)]:=⟨id rfl,rfl⟩
theorem b84:a84.body=c84:=rfl
def c85:ACode:=(Oz [i 1 (.box (t 0)),i 2 (.mov (k (.bool false)))] (Oz [fT 4 0 1,lT 5 4,Bc 6 .geq 5 1,mT 7 6,Pf 8 7 0 1,Pl 9 7 8,p 10 7 (.bin .leq (t 9) (zT 999999)),At 11 7 10,mT 12 11,Pf 13 12 1 1,Pl 14 12 13,p 15 12 (.bin .geq (t 14) (zT 1)),At 16 12 15,mT 17 16,Pf 18 17 1 1,Pl 19 17 18,p 20 17 (.bin .leq (t 19) (zT 999999)),At 21 17 20,mT 22 21,Pf 23 22 2 1,Pl 24 22 23,p 25 22 (.bin .geq (t 24) (zT 1)),At 26 22 25,mT 27 26,Pf 28 27 2 1,Pl 29 27 28,p 30 27 (.bin .leq (t 29) (zT 999999)),At 31 27 30,mT 3 31] (Oz [mT 32 3,mT 33 32,Pf 34 33 3 1,Pl 35 33 34,p 36 33 (.bin .geq (t 35) (k (.int .u8 1))),At 37 33 36,mT 38 37,Pf 39 38 3 1,Pl 40 38 39,p 41 38 (.bin .leq (t 40) (k (.int .u8 4))),At 42 38 41,mT 43 42,Pf 44 43 4 1,Pl 45 43 44,p 46 43 (.bin .geq (t 45) (zT 0)),At 47 43 46,mT 48 47,Pf 49 48 4 1,Pl 50 48 49,p 51 48 (.bin .leq (t 50) (zT 1051898399)),At 52 48 51,mT 53 52,Pf 54 53 5 1,Pl 55 53 54,p 56 53 (.bin .geq (t 55) (zT 0)),At 57 53 56,mT 58 57,Pf 59 58 5 1,Pl 60 58 59,p 61 58 (.bin .leq (t 60) (zT 1051898399)),At 62 58 61,mT 2 62] .ret)))
def a85:AFunc:=⟨63,[(.tmp 2)],c85⟩
theorem n85:a85.ntmps=63/\a85.results=[(.tmp 2)]:=⟨id rfl,rfl⟩
theorem b85:a85.body=c85:=rfl
def N73:ACode:=(.seq (Ds 0 [mT 43 6,mT 44 3,Nt 45 44,Bt 46 .lss 43 45,mT 47 46,Pm 48 47 3,Pm 49 47 6,Px 50 47 3 48 49,Pf 51 47 0 50,Pl 52 47 51,Pf 53 47 0 5,Pl 54 47 53,Pb 55 47 .lss 52 54,Pm 56 47 55,Qm 57 56 3,Qm 58 56 6,Qx 59 56 3 57 58,Qf 60 56 0 59,Ql 61 56 60,Qf 62 56 0 5,Ql 63 56 62,Qb 64 56 .eql 61 63,Qm 65 56 64,Pm 66 65 3,Pm 67 65 6,Px 68 65 3 66 67,Pf 69 65 1 68,Pl 70 65 69,Pf 71 65 1 5,Pl 72 65 71,Pb 73 65 .lss 70 72,q 74 56 (.pick (t 65) (t 73) (k (.bool false))),p 75 47 (.pick (t 56) (k (.bool true)) (t 74)),At 76 47 75] (Ce 76 2)) (.block 3 (.ops [mT 77 6,Bc 78 .add 77 1,mT 6 78])))
def N72:ACode:=(.seq (Oz [mT 8 4,mT 9 0,Nt 10 9,Bt 11 .lss 8 10] (Ce 11 0)) (.seq (.block 1 (.seq (Oz [mT 14 0,mT 15 0,mT 16 4,xT 17 6 15 16,Gt 18 6 17,Ct 19 111 [(t 14),(t 18)],Ut 20 19] (.cond (t 20) (.exit 1) .skip)) (Ds 1 [mT 21 0,mT 22 4,xT 23 6 21 22,fT 24 2 23,Kt 25 (.load1 (t 24)) [0],mT 26 0,mT 27 4,xT 28 6 26 27,fT 29 4 28,Kt 30 (.load1 (t 29)) [0],mT 31 0,mT 32 4,xT 33 6 31 32,fT 34 5 33,Kt 35 (.load1 (t 34)) [0],mT 36 0,mT 37 4,xT 38 6 36 37,fT 39 4 38,Kt 40 (.load1 (t 39)) [0],Bt 41 .sub 35 40,i 42 (.build zg [(0,(1,(t 25))),(1,(1,(t 30))),(2,(1,(t 41)))]),Wt 5 (.alloc zg) 0,St 3 5 42] (Oz [Zm 6 0] (.seq (Bl 2 N73) (.seq (Ds 0 [mT 79 6,mT 80 3,Nt 81 80,Bt 82 .lss 79 81,mT 83 82,Pm 84 83 3,Pm 85 83 6,Px 86 83 3 84 85,Pf 87 83 0 86,Pl 88 83 87,Pf 89 83 0 5,Pl 90 83 89,Pb 91 83 .eql 88 90,At 92 83 91,mT 93 92,Pm 94 93 3,Pm 95 93 6,Px 96 93 3 94 95,Pf 97 93 1 96,Pl 98 93 97,Pf 99 93 1 5,Pl 100 93 99,Pb 101 93 .eql 98 100,At 102 93 101] (.cond (t 102) (.seq (Ds 0 [fT 103 2 5,lT 104 103,mT 105 3,mT 106 6,xT 107 3 105 106,fT 108 2 107,lT 109 108,Bt 110 .lss 104 109] (.cond (t 110) (.ops [mT 111 3,mT 112 6,fT 113 2 5,lT 114 113,xT 115 3 111 112,fT 116 2 115,St 1 116 114]) .skip)) (.exit 1)) .skip)) (Oz [i 117 (.buildSlice 0 [] []),mT 118 3,mT 119 6,i 120 (.sliceS 3 (t 118) none (some (t 119)) none),i 121 (.append 3 24 false (t 117) (t 120)),mT 7 121] (Oz [mT 122 7,Gt 123 3 5,i 124 (.buildSlice 1 zg [(0,(3,(t 123)))]),i 125 (.append 3 24 false (t 122) (t 124)),mT 7 125] (.ops [mT 126 7,mT 127 3,mT 128 6,i 129 (.sliceS 3 (t 127) (some (t 128)) none none),i 130 (.append 3 24 false (t 126) (t 129)),mT 3 130]))))))))) (.ops [mT 12 4,Bc 13 .add 12 1,mT 4 13])))
def c86:ACode:=(Oz [i 2 (.mov (k Vz))] (Oz [i 3 (.mov (k Vz))] (.seq (Oz [Zm 4 0] (Bl 0 N72)) (Oz [mT 131 3,mT 2 131] .ret))))
def a86:AFunc:=⟨132,[(.tmp 2)],c86⟩
theorem n86:a86.ntmps=132/\a86.results=[(.tmp 2)]:=⟨id rfl,rfl⟩
theorem b86:a86.body=c86:=rfl
def c87:ACode:=(Oz [i 3 (.box (t 1)),Zm 4 0] (Ds 0 [fT 6 4 3,lT 7 6,mT 8 0,fT 9 2 3,lT 10 9,fT 11 4 3,lT 12 11,i 13 (.call .pure (.func 112) [(t 8),(t 10),(t 12)]),Bt 14 .add 7 13,mT 5 14] (.seq (Oz [mT 15 5,Bc 16 .lss 15 0] (.cond (t 16) (.ops [Zm 5 0]) .skip)) (.seq (Oz [mT 17 5,fT 18 5 3,lT 19 18,Bt 20 .gtr 17 19] (.cond (t 20) (.ops [fT 21 5 3,lT 22 21,mT 5 22]) .skip)) (Oz [mT 23 5,mT 4 23] .ret)))))
def a87:AFunc:=⟨24,[(.tmp 4)],c87⟩
theorem n87:a87.ntmps=24/\a87.results=[(.tmp 4)]:=⟨id rfl,rfl⟩
theorem b87:a87.body=c87:=rfl
def N71:ACode:=(.seq (Oz [mT 52 7,mT 53 5,Nt 54 53,Bt 55 .lss 52 54] (Ce 55 0)) (.seq (.block 1 (Ds 0 [mT 58 5,mT 59 7,xT 60 1 58 59,lT 61 60,mT 62 6,mT 63 7,xT 64 1 62 63,lT 65 64,Bt 66 .neq 61 65] (.cond (t 66) (Ds 0 [mT 67 5,mT 68 7,xT 69 1 67 68,lT 70 69,mT 71 6,mT 72 7,xT 73 1 71 72,lT 74 73,Bt 75 .lss 70 74,mT 4 75] .ret) .skip))) (.ops [mT 56 7,Bc 57 .add 56 1,mT 7 57])))
def c88:ACode:=(Oz [i 2 (.box (t 0)),i 3 (.box (t 1)),i 4 (.mov (k (.bool false)))] (Oz [fT 8 6 2,lT 9 8,fT 10 0 2,fT 11 3 10,lT 12 11,i 13 (.conv .i64 (t 12)),fT 14 0 2,fT 15 1 14,lT 16 15,fT 17 0 2,fT 18 2 17,lT 19 18,fT 20 0 2,fT 21 0 20,lT 22 21,fT 23 0 2,fT 24 4 23,lT 25 24,fT 26 0 2,fT 27 5 26,lT 28 27,i 29 (.buildSlice 7 zq [(0,(1,(t 9))),(1,(1,(t 13))),(2,(1,(t 16))),(3,(1,(t 19))),(4,(1,(t 22))),(5,(1,(t 25))),(6,(1,(t 28)))]),mT 5 29] (Oz [fT 30 6 3,lT 31 30,fT 32 0 3,fT 33 3 32,lT 34 33,i 35 (.conv .i64 (t 34)),fT 36 0 3,fT 37 1 36,lT 38 37,fT 39 0 3,fT 40 2 39,lT 41 40,fT 42 0 3,fT 43 0 42,lT 44 43,fT 45 0 3,fT 46 4 45,lT 47 46,fT 48 0 3,fT 49 5 48,lT 50 49,i 51 (.buildSlice 7 zq [(0,(1,(t 31))),(1,(1,(t 35))),(2,(1,(t 38))),(3,(1,(t 41))),(4,(1,(t 44))),(5,(1,(t 47))),(6,(1,(t 50)))]),mT 6 51] (.seq (Oz [Zm 7 0] (Bl 0 N71)) (Oz [i 4 (.mov (k (.bool false)))] .ret)))))
def a88:AFunc:=⟨76,[(.tmp 4)],c88⟩
theorem n88:a88.ntmps=76/\a88.results=[(.tmp 4)]:=⟨id rfl,rfl⟩
theorem b88:a88.body=c88:=rfl
def c89:ACode:=(Oz [i 3 (.box (t 0)),i 4 (.box (t 1)),i 5 (.box (t 2)),Zm 6 0] (.seq (Oz [fT 10 0 4,fT 11 3 10,lT 12 11,i 13 (.bin .eql (t 12) (k (.int .u8 4)))] (.cond (t 13) (Oz [Zm 6 80] .ret) .skip)) (.seq (Oz [fT 14 0 4,fT 15 1 14,lT 16 15,fT 17 0 5,fT 18 1 17,lT 19 18,Bt 20 .eql 16 19] (.cond (t 20) (Oz [Zm 6 0] .ret) .skip)) (.seq (Oz [Gt 21 2 3,fT 22 0 4,fT 23 1 22,lT 24 23,Ct 25 113 [(t 21),(t 24)],Bc 26 .lss 25 0,mT 27 26,q 28 27 (.loadN 2 (t 3)),Qf 29 27 0 5,Qf 30 27 1 29,Ql 31 27 30,q 32 27 (.call .any (.func 113) [(t 28),(t 31)]),q 33 27 (.bin .lss (t 32) (zT 0)),Ot 34 27 33] (.cond (t 34) (Oz [Zm 6 80] .ret) .skip)) (Oz [Gt 36 2 3,fT 37 0 4,fT 38 1 37,lT 39 38,fT 40 6 4,lT 41 40,Ct 42 114 [(t 36),(t 39),(t 41)],mT 35 42,Et 43 0 35,Et 44 1 35,mT 7 43,mT 8 44] (Oz [mT 45 7,Gt 46 2 3,fT 47 0 5,fT 48 1 47,lT 49 48,Ct 50 113 [(t 46),(t 49)],xT 51 1 45 50,lT 52 51,mT 9 52] (.seq (Oz [mT 53 9,Bc 54 .lss 53 0] (.cond (t 54) (Oz [Zm 6 80] .ret) .skip)) (.seq (Oz [mT 55 9,fT 56 6 5,lT 57 56,Bt 58 .leq 55 57] (.cond (t 58) (Oz [Zm 6 0] .ret) .skip)) (.seq (Oz [mT 59 9,fT 60 6 5,lT 61 60,Bt 62 .sub 59 61,Bc 63 .gtr 62 60] (.cond (t 63) (Oz [Zm 6 60] .ret) .skip)) (Oz [mT 64 9,fT 65 6 5,lT 66 65,Bt 67 .sub 64 66,mT 6 67] .ret))))))))))
def a89:AFunc:=⟨68,[(.tmp 6)],c89⟩
theorem n89:a89.ntmps=68/\a89.results=[(.tmp 6)]:=⟨id rfl,rfl⟩
theorem b89:a89.body=c89:=rfl
def N70:ACode:=(.seq (Oz [mT 18 8,mT 19 2,Nt 20 19,Bt 21 .lss 18 20] (Ce 21 0)) (.seq (.block 1 (Ds 0 [Gt 24 2 3,mT 25 1,mT 26 2,mT 27 8,Bc 28 .sub 27 1,xT 29 1 26 28,lT 30 29,xT 31 7 25 30,Gt 32 7 31,mT 33 1,mT 34 2,mT 35 8,xT 36 1 34 35,lT 37 36,xT 38 7 33 37,Gt 39 7 38,i 40 (.call .pure (.func 89) [(t 24),(t 32),(t 39)]),mT 9 40] (Ds 2 [fT 41 1 7,Kt 42 (.load1 (t 41)) [0,1],mT 43 2,mT 44 8,Bc 45 .sub 44 1,xT 46 1 43 45,Kt 47 (.load1 (t 46)) [0,1],mT 48 2,mT 49 8,xT 50 1 48 49,Kt 51 (.load1 (t 50)) [0,1],mT 52 9,i 53 (.build zg [(0,(1,(t 47))),(1,(1,(t 51))),(2,(1,(t 52)))]),Wt 54 (.buildSlice 1 zg [(0,(3,(t 53)))]) 0,Wt 55 (.append 3 24 false (t 42) (t 54)) 1,fT 56 1 7,St 1 56 55] (.ops [fT 57 2 7,lT 58 57,mT 59 9,Bt 60 .add 58 59,fT 61 2 7,St 1 61 60])))) (.ops [mT 22 8,Bc 23 .add 22 1,mT 8 23])))
def c90:ACode:=(Oz [i 3 (.box (t 0)),i 6 (.alloc zr)] (Oz [mT 10 2,mT 11 1,Nt 12 11,mT 13 2,Nt 14 13,Bt 15 .sub 12 14,i 16 (.bin .mul (zT 30) (t 15)),i 17 (.build zr [(0,(1,(t 10))),(2,(1,(t 16)))]),i 7 (.alloc zr),St 3 7 17] (.seq (Oz [Zm 8 1] (Bl 0 N70)) (Oz [Gt 62 3 7,St 3 6 62] .ret))))
def a90:AFunc:=⟨63,[(.cellN 3 6)],c90⟩
theorem n90:a90.ntmps=63/\a90.results=[(.cellN 3 6)]:=⟨id rfl,rfl⟩
theorem b90:a90.body=c90:=rfl
def N0s:ACode:=(.seq (Oz [mT 72 19,fT 73 1 4,lT 74 73,Nt 75 74,Bt 76 .lss 72 75] (Ce 76 4)) (.seq (.block 5 (Oz [fT 79 1 4,lT 80 79,mT 81 19,xT 82 8 80 81,Gt 83 8 82,i 20 (.alloc ze),St 8 20 83] (Oz [Gt 85 8 20,mT 86 16,Ct 87 118 [(t 85),(t 86)],mT 84 87,Et 88 0 84,Et 89 1 84,i 21 (.alloc zm),St 2 21 88,mT 22 89] (.seq (Oz [fT 90 1 20,lT 91 90,mT 92 15,Bt 93 .neq 91 92,mT 94 93,Qm 95 94 22,q 96 94 (.un .not (t 95)),Ot 97 94 96,mT 98 97,Qf 99 98 1 21,Ql 100 98 99,Qm 101 98 12,Qb 102 98 .gtr 100 101,Ot 103 98 102,mT 104 103,Qf 105 104 0 18,Ql 106 104 105,q 107 104 (.bin .gtr (t 106) (zT 0)),Qm 108 104 107,Pf 109 108 0 18,Pl 110 108 109,Pf 111 108 0 20,Pl 112 108 111,Pb 113 108 .lss 110 112,q 114 104 (.pick (t 108) (t 113) (k (.bool false))),Ot 115 104 114] (.cond (t 115) (.exit 5) .skip)) (Oz [Gt 116 2 4,fT 117 2 20,lT 118 117,fT 119 1 21,lT 120 119,mT 121 12,mT 122 17,Ct 123 117 [(t 116),(t 118),(t 120),(t 121),(t 122)],mT 124 11,xT 125 1 123 124,lT 126 125,Bc 127 .geq 126 0] (.cond (t 127) (.ops [fT 128 0 20,lT 129 128,fT 130 0 21,lT 131 130,fT 132 1 21,lT 133 132,i 134 (.build zg [(0,(1,(t 129))),(1,(1,(t 131))),(2,(1,(t 133)))]),St 3 18 134]) .skip)))))) (.ops [mT 77 19,Bc 78 .add 77 1,mT 19 78])))
def N0r:ACode:=(.seq (Oz [mT 67 17,Bc 68 .geq 67 0] (Ce 68 2)) (.seq (.block 3 (Oz [i 71 (.build zg []),i 18 (.alloc zg),St 3 18 71] (.seq (Oz [Zm 19 0] (Bl 4 N0s)) (Oz [mT 135 14,Gt 136 3 18,i 137 (.buildSlice 1 zg [(0,(3,(t 136)))]),i 138 (.append 3 24 false (t 135) (t 137)),mT 14 138] (Oz [Gt 140 2 4,fT 141 0 18,lT 142 141,Ct 143 119 [(t 140),(t 142)],mT 139 143,Et 144 0 139,Et 145 1 139,i 23 (.alloc ze),St 8 23 144,mT 24 145] (Oz [fT 146 2 23,lT 147 146,mT 15 147] (.ops [fT 148 2 18,lT 149 148,mT 16 149]))))))) (.ops [mT 69 17,Bc 70 .sub 69 1,mT 17 70])))
def N0q:ACode:=(.seq (Oz [Gt 50 2 4,mT 51 1,mT 52 3,mT 53 12,mT 54 13,Ct 55 117 [(t 50),(t 51),(t 52),(t 53),(t 54)],mT 56 11,xT 57 1 55 56,lT 58 57,mT 59 12,Bt 60 .neq 58 59] (Ce 60 0)) (.block 1 (.ops [mT 61 13,Bc 62 .add 61 1,mT 13 62])))
def c91:ACode:=(Oz [i 4 (.box (t 0)),i 8 (.mov (k Vz)),Zm 9 0] (Oz [Gt 25 2 4,mT 26 1,mT 27 2,mT 28 3,Ct 29 115 [(t 25),(t 26),(t 27),(t 28)],mT 10 29] (.seq (Oz [mT 30 10,Bc 31 .neq 30 0] (.cond (t 31) (Oz [mT 32 10,i 8 (.mov (k Vz)),mT 9 32] .ret) .skip)) (Oz [Gt 33 2 4,mT 34 2,Ct 35 116 [(t 33),(t 34)],mT 11 35] (Oz [Gt 36 2 4,mT 37 1,mT 38 3,mT 39 3,Bc 40 .add 39 86400,fT 41 0 4,lT 42 41,Nt 43 42,Ct 44 117 [(t 36),(t 37),(t 38),(t 40),(t 43)],mT 45 11,xT 46 1 44 45,lT 47 46,mT 12 47] (.seq (Oz [mT 48 12,Bc 49 .lss 48 0] (.cond (t 49) (Oz [i 8 (.mov (k Vz)),Zm 9 6] .ret) .skip)) (Oz [Zm 13 0] (.seq (Bl 0 N0q) (Oz [i 14 (.mov (k Vz))] (Oz [mT 63 1,mT 15 63] (Oz [mT 64 3,mT 16 64] (.seq (Oz [mT 65 13,Bc 66 .sub 65 1,mT 17 66] (Bl 2 N0r)) (Oz [mT 150 14,mT 8 150,Zm 9 0] .ret)))))))))))))
def a91:AFunc:=⟨151,[(.tmp 8),(.tmp 9)],c91⟩
theorem n91:a91.ntmps=151/\a91.results=[(.tmp 8),(.tmp 9)]:=⟨id rfl,rfl⟩
theorem b91:a91.body=c91:=rfl
def c92:ACode:=(Oz [i 1 (.box (t 0)),i 2 (.mov (k (.bool false)))] (Oz [fT 3 0 1,lT 4 3,Ct 5 120 [(t 4)],mT 6 5,Pf 7 6 1 1,Pl 8 6 7,p 9 6 (.call .any (.func 120) [(t 8)]),At 10 6 9,mT 11 10,Pf 12 11 2 1,Pl 13 11 12,p 14 11 (.call .any (.func 120) [(t 13)]),At 15 11 14,mT 16 15,Pf 17 16 3 1,Pl 18 16 17,p 19 16 (.bin .geq (t 18) (k (.int .u8 1))),At 20 16 19,mT 21 20,Pf 22 21 3 1,Pl 23 21 22,p 24 21 (.bin .leq (t 23) (k (.int .u8 4))),At 25 21 24,mT 26 25,Pf 27 26 4 1,Pl 28 26 27,p 29 26 (.call .any (.func 121) [(t 28)]),At 30 26 29,mT 31 30,Pf 32 31 5 1,Pl 33 31 32,p 34 31 (.call .any (.func 121) [(t 33)]),At 35 31 34,mT 2 35] .ret))
def a92:AFunc:=⟨36,[(.tmp 2)],c92⟩
theorem n92:a92.ntmps=36/\a92.results=[(.tmp 2)]:=⟨id rfl,rfl⟩
theorem b92:a92.body=c92:=rfl
def N7z:ACode:=(Oz [Bt 15 .lss 14 13] (.seq (Ce 15 0) (.seq (.block 1 (Oz [xT 16 6 12 14,Gt 17 6 16,i 5 (.alloc zi),St 6 5 17] (Oz [fT 18 2 5,lT 19 18,fT 20 5 5,lT 21 20,Bc 22 .quo 21 1440,i 23 (.build zm [(0,(1,(t 19))),(1,(1,(t 22)))]),i 6 (.alloc zm),St 2 6 23] (Oz [fT 24 2 5,lT 25 24,fT 26 4 5,lT 27 26,fT 28 5 5,lT 29 28,fT 30 4 5,lT 31 30,Bt 32 .sub 29 31,i 33 (.build zg [(0,(1,(t 25))),(1,(1,(t 27))),(2,(1,(t 32)))]),i 7 (.alloc zg),St 3 7 33] (Oz [mT 35 3,Gt 36 2 6,i 37 (.lookup (.ints [.i64,.i64]) (.agg #[(Vi 0),(Vi 0),(Vi 0)]) true (t 35) (t 36)),mT 34 37,Et 38 0 34,Et 39 1 34,i 8 (.alloc zg),St 3 8 38,mT 9 39] (Oz [mT 40 9,Ut 41 40,mT 42 41,Qf 43 42 2 7,Ql 44 42 43,Qf 45 42 2 8,Ql 46 42 45,Qb 47 42 .lss 44 46,Ot 48 42 47,mT 49 48,Qf 50 49 2 7,Ql 51 49 50,Qf 52 49 2 8,Ql 53 49 52,Qb 54 49 .eql 51 53,Qm 55 49 54,Pf 56 55 1 7,Pl 57 55 56,Pf 58 55 1 8,Pl 59 55 58,Pb 60 55 .lss 57 59,q 61 49 (.pick (t 55) (t 60) (k (.bool false))),Ot 62 49 61] (.cond (t 62) (.ops [mT 63 3,Gt 64 2 6,Gt 65 3 7,s (.mapUpdate (.ints [.i64,.i64]) (t 63) (t 64) (t 65))]) .skip))))))) (.ops [Bc 66 .add 14 1,mT 14 66]))))
def c93:ACode:=(Oz [i 2 (.mov (k Vz))] (Oz [i 11 (.makeMap none),mT 3 11] (.seq (Oz [mT 12 0,Nt 13 12,Zm 14 0] (Bl 0 N7z)) (Oz [mT 67 3,Ct 68 123 [(t 67)],Ct 69 122 [(t 68),(.func 124)],mT 10 69] (Oz [mT 70 10,Ct 71 126 [(t 70),(.func 127)],mT 2 71] .ret)))))
def a93:AFunc:=⟨72,[(.tmp 2)],c93⟩
theorem n93:a93.ntmps=72/\a93.results=[(.tmp 2)]:=⟨id rfl,rfl⟩
theorem b93:a93.body=c93:=rfl
def c94:ACode:=(Oz [i 3 (.box (t 1)),Zm 4 0] (Ds 0 [fT 5 4 3,lT 6 5,mT 7 0,fT 8 2 3,lT 9 8,fT 10 4 3,lT 11 10,i 12 (.call .pure (.func 128) [(t 7),(t 9),(t 11)]),Bt 13 .add 6 12,i 14 (.minmax true [(t 13),(zT 0)]),fT 15 5 3,lT 16 15,i 17 (.minmax false [(t 14),(t 16)]),mT 4 17] .ret))
def a94:AFunc:=⟨18,[(.tmp 4)],c94⟩
theorem n94:a94.ntmps=18/\a94.results=[(.tmp 4)]:=⟨id rfl,rfl⟩
theorem b94:a94.body=c94:=rfl
def c96:ACode:=(Oz [i 2 (.box (t 0)),i 3 (.box (t 1)),Zm 4 0] (Ds 1 [fT 5 6 2,Kt 6 (.load1 (t 5)) [0],fT 7 6 3,Kt 8 (.load1 (t 7)) [0],Kt 9 (.call .pure (.func 67) [(t 6),(t 8)]) [0],fT 10 0 2,fT 11 3 10,Kt 12 (.load1 (t 11)) [0],fT 13 0 3,fT 14 3 13,Kt 15 (.load1 (t 14)) [0],Kt 16 (.call .pure (.func 131) [(t 12),(t 15)]) [0],fT 17 0 2,fT 18 1 17,Kt 19 (.load1 (t 18)) [0],fT 20 0 3,fT 21 1 20,Kt 22 (.load1 (t 21)) [0],Kt 23 (.call .pure (.func 67) [(t 19),(t 22)]) [0],fT 24 0 2,fT 25 2 24,Kt 26 (.load1 (t 25)) [0],fT 27 0 3,fT 28 2 27,Kt 29 (.load1 (t 28)) [0],Kt 30 (.call .pure (.func 67) [(t 26),(t 29)]) [0],fT 31 0 2,fT 32 0 31,Kt 33 (.load1 (t 32)) [0],fT 34 0 3,fT 35 0 34,Kt 36 (.load1 (t 35)) [0],Kt 37 (.call .pure (.func 67) [(t 33),(t 36)]) [0],fT 38 0 2,fT 39 4 38,Kt 40 (.load1 (t 39)) [0],fT 41 0 3,fT 42 4 41,Kt 43 (.load1 (t 42)) [0],Kt 44 (.call .pure (.func 67) [(t 40),(t 43)]) [0],fT 45 0 2,fT 46 5 45,Kt 47 (.load1 (t 46)) [0],fT 48 0 3,fT 49 5 48,Kt 50 (.load1 (t 49)) [0],Kt 51 (.call .pure (.func 67) [(t 47),(t 50)]) [0],Wt 52 (.buildSlice 7 zq [(0,(1,(t 9))),(1,(1,(t 16))),(2,(1,(t 23))),(3,(1,(t 30))),(4,(1,(t 37))),(5,(1,(t 44))),(6,(1,(t 51)))]) 0,i 53 (.call .pure (.func 125) [(t 52)]),mT 4 53] .ret))
def a96:AFunc:=⟨54,[(.tmp 4)],c96⟩
theorem n96:a96.ntmps=54/\a96.results=[(.tmp 4)]:=⟨id rfl,rfl⟩
theorem b96:a96.body=c96:=rfl
def N7y:ACode:=(Oz [Bt 14 .lss 13 12] (.seq (Ce 14 0) (.seq (.block 1 (Oz [mT 15 13,xT 16 1 11 13,lT 17 16,mT 4 15,mT 5 17] (.ops [mT 18 3,mT 19 5,mT 20 4,s (.mapUpdate (.int .i64) (t 18) (t 19) (t 20))]))) (.ops [Bc 21 .add 13 1,mT 13 21]))))
def c97:ACode:=(Oz [i 1 (.box (t 0)),i 2 (.mov (k (.map none)))] (Oz [fT 6 0 1,lT 7 6,Nt 8 7,i 9 (.makeMap (some (t 8))),mT 3 9] (.seq (Oz [fT 10 0 1,lT 11 10,Nt 12 11,Zm 13 0] (Bl 0 N7y)) (Oz [mT 22 3,mT 2 22] .ret))))
def a97:AFunc:=⟨23,[(.tmp 2)],c97⟩
theorem n97:a97.ntmps=23/\a97.results=[(.tmp 2)]:=⟨id rfl,rfl⟩
theorem b97:a97.body=c97:=rfl
def c98:ACode:=(Oz [i 5 (.box (t 0)),i 6 (.box (t 1))] (Ds 0 [lT 12 3,fT 13 1 5,lT 14 13,i 15 (.lookup (.int .i64) (Vi 0) false (t 12) (t 14)),i 16 (.idxAddrA 50 1 (t 6) (t 15)),lT 17 16,lT 18 3,fT 19 2 5,lT 20 19,i 21 (.lookup (.int .i64) (Vi 0) false (t 18) (t 20)),mT 8 17,mT 9 21] (.seq (Oz [mT 22 8,Bc 23 .lss 22 0] (.cond (t 23) .ret .skip)) (Oz [Gt 25 8 5,mT 26 8,Ct 27 68 [(t 25),(t 26)],mT 24 27,Et 28 0 24,Et 29 1 24,i 10 (.alloc zm),St 2 10 28,mT 11 29] (Ds 0 [mT 30 11,mT 31 30,Pf 32 31 1 10,Pl 33 31 32,Pl 34 31 4,p 35 31 (.bin .add (t 34) (zT 86400)),Pb 36 31 .leq 33 35,At 37 31 36,mT 38 37,Pm 39 38 2,Pm 40 38 9,p 41 38 (.nilCheck (t 39)),p 42 38 (.idxAddrA 50 1 (t 41) (t 40)),Pl 43 38 42,p 44 38 (.bin .lss (t 43) (zT 0)),Pm 45 38 44,Qf 46 45 1 10,Ql 47 45 46,Qm 48 45 2,Qm 49 45 9,q 50 45 (.nilCheck (t 48)),q 51 45 (.idxAddrA 50 1 (t 50) (t 49)),Ql 52 45 51,Qb 53 45 .lss 47 52,p 54 38 (.pick (t 45) (k (.bool true)) (t 53)),At 55 38 54] (.cond (t 55) (.drawn 0 [mT 56 2,mT 57 9,fT 58 1 10,lT 59 58,i 60 (.nilCheck (t 56)),i 61 (.idxAddrA 50 1 (t 60) (t 57)),St 1 61 59]) .skip))))))
def a98:AFunc:=⟨62,[],c98⟩
theorem n98:a98.ntmps=62/\a98.results=[]:=⟨id rfl,rfl⟩
theorem b98:a98.body=c98:=rfl
def N0p:ACode:=(Oz [Bt 24 .lss 23 22] (.seq (Ce 24 2) (.seq (.block 3 (Oz [xT 25 8 21 23,Gt 26 8 25,i 11 (.alloc ze),St 8 11 26] (.ops [mT 27 2,Gt 28 8 11,Gt 29 50 8,i 30 (.call .any (t 27) [(t 28),(t 29),(t 9)])]))) (.ops [Bc 31 .add 23 1,mT 23 31]))))
def N7x:ACode:=(.block 1 (Oz [mT 14 7,mT 15 7,Nt 16 15,Bc 17 .sub 16 1,xT 18 50 14 17,Gt 19 50 18,i 8 (.alloc zd),St 50 8 19] (Oz [Gt 20 50 8,i 9 (.alloc zd),St 50 9 20] (.seq (Oz [mT 21 1,Nt 22 21,Zm 23 0] (Bl 2 N0p)) (.seq (Oz [Gt 32 50 9,Gt 33 50 8,i 34 (.eqv false (.agg [(.int .i64),(.int .i64),(.int .i64),(.int .i64),(.int .i64),(.int .i64),(.int .i64),(.int .i64),(.int .i64),(.int .i64),(.int .i64),(.int .i64),(.int .i64),(.int .i64),(.int .i64),(.int .i64),(.int .i64),(.int .i64),(.int .i64),(.int .i64),(.int .i64),(.int .i64),(.int .i64),(.int .i64),(.int .i64),(.int .i64),(.int .i64),(.int .i64),(.int .i64),(.int .i64),(.int .i64),(.int .i64),(.int .i64),(.int .i64),(.int .i64),(.int .i64),(.int .i64),(.int .i64),(.int .i64),(.int .i64),(.int .i64),(.int .i64),(.int .i64),(.int .i64),(.int .i64),(.int .i64),(.int .i64),(.int .i64),(.int .i64),(.int .i64)]) (t 32) (t 33))] (.cond (t 34) (Oz [mT 35 7,mT 6 35] .ret) .skip)) (.ops [mT 36 7,Gt 37 50 9,i 38 (.buildSlice 1 zd [(0,(50,(t 37)))]),i 39 (.append 50 400 false (t 36) (t 38)),mT 7 39]))))))
def c99:ACode:=(Oz [i 3 (.box (t 0)),i 6 (.mov (k Vz))] (Oz [Gt 12 50 3,i 13 (.buildSlice 1 zd [(0,(50,(t 12)))]),mT 7 13] (Bl 0 N7x)))
def a99:AFunc:=⟨40,[(.tmp 6)],c99⟩
theorem n99:a99.ntmps=40/\a99.results=[(.tmp 6)]:=⟨id rfl,rfl⟩
theorem b99:a99.body=c99:=rfl
def Nan:ACode:=(.ops [i 7 (.alloc zm),St 2 7 31])
def Nam:ACode:=(.block 1 (Oz [fT 32 1 7,lT 33 32,lT 34 3,Bt 35 .leq 33 34] (.cond (t 35) (Oz [Gt 36 2 7,St 2 4 36,s (.store 1 (t 5) (k (.bool true)))] .retR) .skip)))
def Obp:ACode:=(.seq (Oz [i 2 (.box (t 0)),i 3 (.box (t 1)),i 4 (.alloc zm),i 5 (.alloc zw)] (.seq (Oz [Gt 8 8 2,Ct 9 34 [(t 8)],Ut 10 9,mT 11 10,Ql 12 11 3,Qf 13 11 3 2,Ql 14 11 13,Qf 15 11 4 2,Ql 16 11 15,Qb 17 11 .add 14 16,Qb 18 11 .lss 12 17,Ot 19 11 18] (.cond (t 19) (Oz [i 20 (.build zm []),St 2 4 20,s (.store 1 (t 5) (k (.bool false)))] .retM) .skip)) (Oz [lT 21 3,i 22 (.minmax false [(t 21),(zT 1051898399)]),St 1 3 22] (Oz [lT 23 3,fT 24 4 2,lT 25 24,Bt 26 .sub 23 25,Bc 27 .quo 26 1440,mT 6 27] (.seq (Oz [Gt 28 8 2,mT 29 6,Ct 30 105 [(t 28),(t 29),(zT (-1))]] (.block 0 (.rangeF (t 30) [31] Nan Nam))) (Oz [i 37 (.build zm []),St 2 4 37,s (.store 1 (t 5) (k (.bool false)))] .retM)))))) .retM)
def Nkw:AFunc:=⟨38,[(.cellN 2 4),(.cell1 5)],Obp⟩
theorem n100:Nkw.ntmps=38:=id rfl
theorem N9x:Nkw.results=[(.cellN 2 4),(.cell1 5)]:=rfl
theorem Oha:Nkw.body=Obp:=rfl
def Obo:ACode:=(Oz [i 2 (.mov (k Vz))] (Oz [mT 3 0,Ct 4 132 [(k Vz),(t 3)],mT 2 4] .ret))
def N4c:AFunc:=⟨5,[(.tmp 2)],Obo⟩
theorem n101:N4c.ntmps=5:=id rfl
theorem Oek:N4c.results=[(.tmp 2)]:=rfl
theorem Og9:N4c.body=Obo:=rfl
def N1n:ACode:=(Oz [Bt 8 .lss 7 6] (.seq (Ce 8 0) (.seq (.block 1 (Oz [xT 9 8 5 7,Gt 10 8 9,i 4 (.alloc ze),St 8 4 10] (Oz [mT 11 0,Gt 12 8 4,i 13 (.call .any (t 11) [(t 12)]),Ut 14 13] (.cond (t 14) .ret .skip)))) (.ops [Bc 15 .add 7 1,mT 7 15]))))
def Obn:ACode:=(Oz [lT 5 1,Nt 6 5,Zm 7 0] (Bl 0 N1n))
def N4b:AFunc:=⟨16,[],Obn⟩
theorem n103:N4b.ntmps=16:=id rfl
theorem Oej:N4b.results=[]:=rfl
theorem Og8:N4b.body=Obn:=rfl
def Obm:ACode:=(Oz [i 2 (.mov (k (.bool false)))] (Oz [mT 3 0,mT 4 0,Bt 5 .neq 3 4,mT 2 5] .ret))
def N4a:AFunc:=⟨6,[(.tmp 2)],Obm⟩
theorem n104:N4a.ntmps=6:=id rfl
theorem Oei:N4a.results=[(.tmp 2)]:=rfl
theorem Og7:N4a.body=Obm:=rfl
def c105:ACode:=(Oz [i 3 (.box (t 0)),i 4 (.box (t 1)),i 5 (.box (t 2)),i 6 (.mov (k .nilFunc))] (Oz [i 7 (.makeFunc 134 [] [(t 4),(t 5),(t 3)]),mT 6 7] .ret))
def a105:AFunc:=⟨8,[(.tmp 6)],c105⟩
theorem n105:a105.ntmps=8:=id rfl
theorem Oeh:a105.results=[(.tmp 6)]:=rfl
theorem Og6:a105.body=c105:=rfl
def N68:ACode:=(Oz [i 2 (.mov (k Vz))] (.seq (Oz [mT 3 0,i 4 (.eqv false .slice (t 3) (k Vz))] (.cond (t 4) (Oz [i 2 (.mov (k Vz))] .ret) .skip)) (Oz [i 5 (.buildSlice 0 [] []),mT 6 0,i 7 (.append 1 8 false (t 5) (t 6)),mT 2 7] .ret)))
def N39:AFunc:=⟨8,[(.tmp 2)],N68⟩
theorem n106:N39.ntmps=8:=id rfl
theorem N9w:N39.results=[(.tmp 2)]:=rfl
theorem Ods:N39.body=N68:=rfl
def c107:ACode:=(Oz [i 4 (.box (t 1)),i 5 (.box (t 2)),Zm 6 0] (.seq (.block 0 (Oz [fT 10 0 4,fT 11 3 10,lT 12 11,i 13 (.bin .eql (t 12) (k (.int .u8 4))),mT 9 13] (.cond (t 9) (Oz [Zm 6 80] .ret) (Oz [fT 15 0 4,fT 16 1 15,lT 17 16,fT 18 0 5,fT 19 1 18,lT 20 19,Bt 21 .eql 17 20,mT 14 21] (.cond (t 14) (Oz [Zm 6 0] .ret) .skip))))) (Ds 0 [mT 22 0,i 23 (.nilCheck (t 22)),fT 24 0 23,fT 25 0 24,lT 26 25,fT 27 0 5,fT 28 1 27,lT 29 28,i 30 (.call .pure (.func 136) [(t 26),(t 29)]),mT 7 30] (.seq (Oz [mT 31 7,Bc 32 .lss 31 0] (.cond (t 32) (Oz [Zm 6 80] .ret) .skip)) (Oz [mT 33 0,fT 34 0 4,fT 35 1 34,lT 36 35,fT 37 6 4,lT 38 37,Ct 39 137 [(t 33),(t 36),(t 38)],mT 8 39] (.seq (Oz [mT 40 7,mT 41 8,Nt 42 41,Bt 43 .geq 40 42,mT 44 43,Qm 45 44 8,Qm 46 44 7,Qx 47 44 1 45 46,Ql 48 44 47,q 49 44 (.bin .lss (t 48) (zT 0)),Ot 50 44 49] (.cond (t 50) (Oz [Zm 6 80] .ret) .skip)) (Ds 0 [mT 51 8,mT 52 7,xT 53 1 51 52,lT 54 53,fT 55 6 5,lT 56 55,Bt 57 .sub 54 56,i 58 (.minmax true [(t 57),(zT 0)]),i 59 (.minmax false [(t 58),(zT 60)]),mT 6 59] .ret)))))))
def a107:AFunc:=⟨60,[(.tmp 6)],c107⟩
theorem n107:a107.ntmps=60:=id rfl
theorem Nuq:a107.results=[(.tmp 6)]:=rfl
theorem Og5:a107.body=c107:=rfl
def Obl:ACode:=(Oz [i 2 (.box (t 0)),i 3 (.box (t 1)),i 4 (.mov (k (.bool false)))] (Oz [fT 5 0 2,lT 6 5,fT 7 0 3,lT 8 7,Bt 9 .lss 6 8,mT 10 9,Qf 11 10 0 2,Ql 12 10 11,Qf 13 10 0 3,Ql 14 10 13,Qb 15 10 .eql 12 14,Qm 16 10 15,Pf 17 16 1 2,Pl 18 16 17,Pf 19 16 1 3,Pl 20 16 19,Pb 21 16 .gtr 18 20,q 22 10 (.pick (t 16) (t 21) (k (.bool false))),Ot 23 10 22,mT 4 23] .ret))
def N38:AFunc:=⟨24,[(.tmp 4)],Obl⟩
theorem n108:N38.ntmps=24:=id rfl
theorem N9v:N38.results=[(.tmp 4)]:=rfl
theorem Og4:N38.body=Obl:=rfl
def N1m:ACode:=(Oz [Bt 55 .lss 54 53] (.seq (Ce 55 0) (.seq (.block 1 (Oz [xT 56 3 52 54,Gt 57 3 56,i 13 (.alloc zg),St 3 13 57] (Oz [Gt 59 2 4,fT 60 0 13,lT 61 60,Ct 62 33 [(t 59),(t 61)],mT 58 62,Et 63 0 58,Et 64 1 58,i 14 (.alloc ze),St 8 14 63,mT 15 64] (.ops [mT 65 11,fT 66 1 5,lT 67 66,fT 68 0 5,lT 69 68,fT 70 2 14,lT 71 70,i 72 (.build zh [(0,(1,(k (.int .u8 5)))),(1,(1,(t 67))),(2,(1,(t 69))),(3,(1,(t 71)))]),i 73 (.buildSlice 1 zh [(0,(5,(t 72)))]),i 74 (.append 5 40 false (t 65) (t 73)),mT 11 74])))) (.ops [Bc 75 .add 54 1,mT 54 75]))))
def c109:ACode:=(Oz [i 3 (.box (t 0)),i 4 (.box (t 1)),i 5 (.box (t 2)),i 6 (.mov (k Vz))] (Ds 2 [fT 16 0 3,Kt 17 (.load1 (t 16)) [0,1],fT 18 0 5,Kt 19 (.load1 (t 18)) [0,1],xT 20 7 17 19,Kt 21 (.loadN 7 (t 20)) [0,1],fT 22 0 3,Kt 23 (.load1 (t 22)) [0,1],fT 24 1 5,Kt 25 (.load1 (t 24)) [0,1],xT 26 7 23 25,Kt 27 (.loadN 7 (t 26)) [0,1],Wt 7 (.alloc zf) 0,Wt 8 (.alloc zf) 1,⟨none,none,(.storeD 7 (t 7) (t 21)),(some 0),[]⟩,⟨none,none,(.storeD 7 (t 8) (t 27)),(some 1),[]⟩] (Oz [Gt 29 2 4,fT 30 0 7,fT 31 1 30,lT 32 31,fT 33 0 8,fT 34 1 33,lT 35 34,fT 36 6 7,lT 37 36,Ct 38 32 [(t 29),(t 32),(t 35),(t 37)],mT 28 38,Et 39 0 28,Et 40 1 28,mT 9 39,mT 10 40] (.seq (Oz [mT 41 10,Bc 42 .neq 41 0,mT 43 42,Qm 44 43 9,q 45 43 (.lenSlice (t 44)),q 46 43 (.bin .eql (t 45) (zT 0)),Ot 47 43 46] (.cond (t 47) (Oz [i 6 (.mov (k Vz))] .ret) .skip)) (Oz [i 11 (.mov (k Vz))] (.seq (Oz [mT 48 9,mT 49 9,Nt 50 49,Bc 51 .sub 50 1,i 52 (.sliceS 3 (t 48) none (some (t 51)) none),Nt 53 52,Zm 54 0] (Bl 0 N1m)) (Oz [mT 76 11,mT 6 76] .ret)))))))
def a109:AFunc:=⟨77,[(.tmp 6)],c109⟩
theorem n109:a109.ntmps=77:=id rfl
theorem N5b:a109.results=[(.tmp 6)]:=rfl
theorem Og3:a109.body=c109:=rfl
def Obk:ACode:=(Oz [i 2 (.box (t 0)),i 3 (.mov (k (.bool false)))] (Oz [fT 4 0 2,fT 5 1 4,lT 6 5,fT 7 0 1,fT 8 1 7,lT 9 8,Bt 10 .eql 6 9,mT 11 10,Pf 12 11 0 2,Pf 13 11 3 12,Pl 14 11 13,Pf 15 11 0 1,Pf 16 11 3 15,Pl 17 11 16,Pb 18 11 .eql 14 17,At 19 11 18,mT 3 19] .ret))
def N37:AFunc:=⟨20,[(.tmp 3)],Obk⟩
theorem n110:N37.ntmps=20:=id rfl
theorem N9u:N37.results=[(.tmp 3)]:=rfl
theorem Og2:N37.body=Obk:=rfl
def N1l:ACode:=(.seq (Oz [mT 7 5,mT 8 0,Nt 9 8,Bt 10 .lss 7 9] (Ce 10 0)) (.seq (.block 1 (Oz [mT 13 0,mT 14 5,xT 15 6 13 14,Gt 16 6 15,i 6 (.alloc zi),St 6 6 16] (.seq (Oz [fT 17 2 6,lT 18 17,fT 19 2 3,lT 20 19,Bt 21 .neq 18 20,mT 22 21,Qf 23 22 5 6,Ql 24 22 23,q 25 22 (.bin .quo (t 24) (zT 1440)),Qf 26 22 5 3,Ql 27 22 26,q 28 22 (.bin .quo (t 27) (zT 1440)),Qb 29 22 .neq 25 28,Ot 30 22 29] (.cond (t 30) (.exit 1) .skip)) (Oz [fT 31 5 6,lT 32 31,fT 33 4 6,lT 34 33,Bt 35 .sub 32 34,fT 36 5 3,lT 37 36,fT 38 4 3,lT 39 38,Bt 40 .sub 37 39,Bt 41 .lss 35 40,mT 42 41,Qf 43 42 5 6,Ql 44 42 43,Qf 45 42 4 6,Ql 46 42 45,Qb 47 42 .sub 44 46,Qf 48 42 5 3,Ql 49 42 48,Qf 50 42 4 3,Ql 51 42 50,Qb 52 42 .sub 49 51,Qb 53 42 .eql 47 52,Qm 54 42 53,Pf 55 54 4 6,Pl 56 54 55,Pf 57 54 4 3,Pl 58 54 57,Pb 59 54 .lss 56 58,q 60 42 (.pick (t 54) (t 59) (k (.bool false))),Ot 61 42 60] (.cond (t 61) (Oz [i 4 (.mov (k (.bool false)))] .ret) .skip))))) (.ops [mT 11 5,Bc 12 .add 11 1,mT 5 12])))
def Obi:ACode:=(Oz [i 3 (.box (t 1)),i 4 (.mov (k (.bool false)))] (.seq (Oz [Zm 5 0] (Bl 0 N1l)) (Oz [i 4 (.mov (k (.bool true)))] .ret)))
def N36:AFunc:=⟨62,[(.tmp 4)],Obi⟩
theorem n111:N36.ntmps=62:=id rfl
theorem N9t:N36.results=[(.tmp 4)]:=rfl
theorem Og1:N36.body=Obi:=rfl
def N1k:ACode:=(.seq (Oz [mT 12 9,mT 13 0,Nt 14 13,Bt 15 .lss 12 14] (Ce 15 0)) (.seq (.block 1 (.seq (Oz [mT 18 0,mT 19 9,xT 20 3 18 19,fT 21 0 20,lT 22 21,mT 23 1,Bt 24 .neq 22 23] (.cond (t 24) (.exit 1) .skip)) (Oz [mT 25 0,mT 26 9,xT 27 3 25 26,fT 28 1 27,lT 29 28,mT 30 2,Bt 31 .leq 29 30] (.cond (t 31) (.ops [mT 32 7,mT 33 0,mT 34 9,xT 35 3 33 34,Gt 36 3 35,i 37 (.buildSlice 1 zg [(0,(3,(t 36)))]),i 38 (.append 3 24 false (t 32) (t 37)),mT 7 38]) (.ops [mT 39 8,mT 40 0,mT 41 9,xT 42 3 40 41,Gt 43 3 42,i 44 (.buildSlice 1 zg [(0,(3,(t 43)))]),i 45 (.append 3 24 false (t 39) (t 44)),mT 8 45]))))) (.ops [mT 16 9,Bc 17 .add 16 1,mT 9 17])))
def Obh:ACode:=(Oz [Zm 6 0] (Oz [i 7 (.mov (k Vz)),i 8 (.mov (k Vz))] (.seq (Oz [Zm 9 0] (Bl 0 N1k)) (.seq (Oz [mT 46 7,Nt 47 46,Bc 48 .eql 47 0,mT 49 48,Pm 50 49 8,p 51 49 (.lenSlice (t 50)),p 52 49 (.bin .eql (t 51) (zT 0)),At 53 49 52] (.cond (t 53) (Oz [Zm 6 0] .ret) .skip)) (.seq (Oz [mT 54 7,Nt 55 54,Bc 56 .eql 55 0] (.cond (t 56) (Oz [mT 57 8,i 58 (.idxAddrS 3 (t 57) (zT 0)),fT 59 2 58,lT 60 59,mT 6 60] .ret) .skip)) (Oz [mT 61 7,mT 62 7,Nt 63 62,Bc 64 .sub 63 1,xT 65 3 61 64,Gt 66 3 65,i 10 (.alloc zg),St 3 10 66] (.seq (Oz [mT 67 8,Nt 68 67,Bc 69 .eql 68 0] (.cond (t 69) (Oz [fT 70 2 10,lT 71 70,mT 6 71] .ret) .skip)) (Oz [mT 72 8,i 73 (.idxAddrS 3 (t 72) (zT 0)),Gt 74 3 73,i 11 (.alloc zg),St 3 11 74] (Ds 0 [fT 75 2 10,lT 76 75,fT 77 2 11,lT 78 77,fT 79 2 10,lT 80 79,Bt 81 .sub 78 80,mT 82 2,fT 83 1 10,lT 84 83,Bt 85 .sub 82 84,Bt 86 .mul 81 85,fT 87 1 11,lT 88 87,fT 89 1 10,lT 90 89,Bt 91 .sub 88 90,i 92 (.call .pure (.func 138) [(t 86),(t 91)]),Bt 93 .add 76 92,mT 6 93] .ret)))))))))
def N35:AFunc:=⟨94,[(.tmp 6)],Obh⟩
theorem n112:N35.ntmps=94:=id rfl
theorem N5a:N35.results=[(.tmp 6)]:=rfl
theorem Og0:N35.body=Obh:=rfl
def N1j:ACode:=(.seq (Oz [mT 6 5,fT 7 0 2,lT 8 7,Nt 9 8,Bt 10 .lss 6 9] (Ce 10 0)) (.seq (.block 1 (Oz [fT 13 0 2,lT 14 13,mT 15 5,xT 16 1 14 15,lT 17 16,mT 18 1,Bt 19 .eql 17 18] (.cond (t 19) (Oz [mT 20 5,mT 4 20] .ret) .skip))) (.ops [mT 11 5,Bc 12 .add 11 1,mT 5 12])))
def Obg:ACode:=(Oz [i 2 (.box (t 0)),Zm 4 0] (.seq (Oz [Zm 5 0] (Bl 0 N1j)) (Oz [Zm 4 (-1)] .ret)))
def N34:AFunc:=⟨21,[(.tmp 4)],Obg⟩
theorem n113:N34.ntmps=21:=id rfl
theorem Ocp:N34.results=[(.tmp 4)]:=rfl
theorem Ogz:N34.body=Obg:=rfl
def Obf:ACode:=(Oz [i 3 (.box (t 0)),i 6 (.mov (k Vz)),Zm 7 0] (Oz [Gt 9 2 3,mT 10 1,mT 11 1,mT 12 2,Ct 13 115 [(t 9),(t 10),(t 11),(t 12)],mT 8 13] (.seq (Oz [mT 14 8,Bc 15 .neq 14 0] (.cond (t 15) (Oz [mT 16 8,i 6 (.mov (k Vz)),mT 7 16] .ret) .skip)) (Oz [Gt 17 2 3,mT 18 1,mT 19 2,mT 20 2,Bc 21 .add 20 86400,fT 22 0 3,lT 23 22,Nt 24 23,Ct 25 117 [(t 17),(t 18),(t 19),(t 21),(t 24)],mT 6 25,Zm 7 0] .ret))))
def N33:AFunc:=⟨26,[(.tmp 6),(.tmp 7)],Obf⟩
theorem n114:N33.ntmps=26:=id rfl
theorem Oco:N33.results=[(.tmp 6),(.tmp 7)]:=rfl
theorem Ogy:N33.body=Obf:=rfl
def Obe:ACode:=(Oz [i 4 (.box (t 0)),Zm 8 0] (Oz [Gt 10 2 4,Ct 11 46 [(t 10)],mT 9 11] (.seq (Oz [mT 12 9,Bc 13 .neq 12 0] (.cond (t 13) (Oz [mT 14 9,mT 8 14] .ret) .skip)) (.seq (Oz [Gt 15 2 4,mT 16 1,Ct 17 116 [(t 15),(t 16)],Bc 18 .lss 17 0,mT 19 18,q 20 19 (.loadN 2 (t 4)),Qm 21 19 2,q 22 19 (.call .any (.func 116) [(t 20),(t 21)]),q 23 19 (.bin .lss (t 22) (zT 0)),Ot 24 19 23,mT 25 24,Qm 26 25 3,q 27 25 (.bin .lss (t 26) (zT 0)),Ot 28 25 27,mT 29 28,Qm 30 29 3,q 31 29 (.bin .gtr (t 30) (zT 1051898399)),Ot 32 29 31] (.cond (t 32) (Oz [Zm 8 2] .ret) .skip)) (Oz [Zm 8 0] .ret)))))
def N32:AFunc:=⟨33,[(.tmp 8)],Obe⟩
theorem n115:N32.ntmps=33:=id rfl
theorem Nup:N32.results=[(.tmp 8)]:=rfl
theorem Ogx:N32.body=Obe:=rfl
def N1i:ACode:=(.seq (Oz [mT 6 5,fT 7 0 2,lT 8 7,Nt 9 8,Bt 10 .lss 6 9] (Ce 10 0)) (.seq (.block 1 (Oz [fT 13 0 2,lT 14 13,mT 15 5,xT 16 1 14 15,lT 17 16,mT 18 1,Bt 19 .eql 17 18] (.cond (t 19) (Oz [mT 20 5,mT 4 20] .ret) .skip))) (.ops [mT 11 5,Bc 12 .add 11 1,mT 5 12])))
def c116:ACode:=(Oz [i 2 (.box (t 0)),Zm 4 0] (.seq (Oz [Zm 5 0] (Bl 0 N1i)) (Oz [Zm 4 (-1)] .ret)))
def a116:AFunc:=⟨21,[(.tmp 4)],c116⟩
theorem n116:a116.ntmps=21:=id rfl
theorem Ocn:a116.results=[(.tmp 4)]:=rfl
theorem Ogw:a116.body=c116:=rfl
def Nq2:ACode:=(.seq (Oz [mT 45 15,fT 46 1 5,lT 47 46,Nt 48 47,Bt 49 .lss 45 48] (Ce 49 4)) (.seq (.block 5 (Oz [fT 52 1 5,lT 53 52,mT 54 15,xT 55 8 53 54,Gt 56 8 55,i 16 (.alloc ze),St 8 16 56] (Oz [Gt 57 2 5,fT 58 1 16,lT 59 58,Ct 60 116 [(t 57),(t 59)],mT 17 60] (Oz [Gt 61 2 5,fT 62 2 16,lT 63 62,Ct 64 116 [(t 61),(t 63)],mT 18 64] (.seq (Oz [mT 65 11,mT 66 17,xT 67 1 65 66,lT 68 67,Bc 69 .lss 68 0] (.cond (t 69) (.exit 5) .skip)) (Ds 1 [Kt 71 (.loadN 8 (t 16)) [0],mT 72 11,mT 73 17,xT 74 1 72 73,Kt 75 (.load1 (t 74)) [0],Kt 76 (.call .pure (.func 118) [(t 71),(t 75)]) [0],mT 70 76,Et 77 0 70,Et 78 1 70,Wt 19 (.alloc zm) 0,St 2 19 77,mT 20 78] (Ds 0 [mT 79 20,mT 80 79,Pf 81 80 1 19,Pl 82 80 81,Pm 83 80 3,Pb 84 80 .leq 82 83,At 85 80 84,mT 86 85,Pm 87 86 14,Pm 88 86 18,Px 89 86 1 87 88,Pl 90 86 89,p 91 86 (.bin .lss (t 90) (zT 0)),Pm 92 86 91,Qf 93 92 1 19,Ql 94 92 93,Qm 95 92 14,Qm 96 92 18,Qx 97 92 1 95 96,Ql 98 92 97,Qb 99 92 .lss 94 98,p 100 86 (.pick (t 92) (k (.bool true)) (t 99)),At 101 86 100] (.cond (t 101) (.ops [mT 102 14,mT 103 18,fT 104 1 19,lT 105 104,xT 106 1 102 103,St 1 106 105]) .skip)))))))) (.ops [mT 50 15,Bc 51 .add 50 1,mT 15 51])))
def Nq1:ACode:=(.seq (Oz [mT 37 13,mT 38 4,Bt 39 .lss 37 38] (Ce 39 2)) (.seq (.block 3 (Oz [i 42 (.buildSlice 0 [] []),mT 43 11,i 44 (.append 1 8 false (t 42) (t 43)),mT 14 44] (.seq (Oz [Zm 15 0] (Bl 4 Nq2)) (.ops [mT 107 14,mT 11 107])))) (.ops [mT 40 13,Bc 41 .add 40 1,mT 13 41])))
def Nq0:ACode:=(.seq (Oz [mT 21 12,fT 22 0 5,lT 23 22,Nt 24 23,Bt 25 .lss 21 24] (Ce 25 0)) (.seq (.block 1 (.ops [mT 28 11,i 29 (.buildSlice 1 zt [(0,(1,(zT (-1))))]),i 30 (.append 1 8 false (t 28) (t 29)),mT 11 30])) (.ops [mT 26 12,Bc 27 .add 26 1,mT 12 27])))
def c117:ACode:=(Oz [i 5 (.box (t 0)),i 10 (.mov (k Vz))] (Oz [i 11 (.mov (k Vz))] (.seq (Oz [Zm 12 0] (Bl 0 Nq0)) (Oz [mT 31 11,Gt 32 2 5,mT 33 1,Ct 34 116 [(t 32),(t 33)],mT 35 2,xT 36 1 31 34,St 1 36 35] (.seq (Oz [Zm 13 0] (Bl 2 Nq1)) (Oz [mT 108 11,mT 10 108] .ret))))))
def a117:AFunc:=⟨109,[(.tmp 10)],c117⟩
theorem n117:a117.ntmps=109:=id rfl
theorem Oeg:a117.results=[(.tmp 10)]:=rfl
theorem Ogv:a117.body=c117:=rfl
def N1h:ACode:=(.seq (Oz [mT 13 7,mT 14 6,Bc 15 .add 14 30,Bt 16 .lss 13 15] (Ce 16 0)) (.seq (.block 1 (Oz [Gt 20 8 2,mT 21 7,Ct 22 140 [(t 20),(t 21)],mT 19 22,Et 23 0 19,Et 24 1 19,i 8 (.alloc zm),St 2 8 23,mT 9 24] (Oz [mT 25 9,mT 26 25,Pm 27 26 1,p 28 26 (.bin .lss (t 27) (zT 0)),Pm 29 26 28,Qf 30 29 0 8,Ql 31 29 30,Qf 32 29 5 2,Ql 33 29 32,Qb 34 29 .sub 31 33,Qm 35 29 1,Qb 36 29 .geq 34 35,p 37 26 (.pick (t 29) (k (.bool true)) (t 36)),At 38 26 37] (.cond (t 38) (Oz [Gt 39 2 8,St 2 4 39,i 5 (.mov (k (.bool true)))] .ret) .skip)))) (.ops [mT 17 7,Bc 18 .add 17 1,mT 7 18])))
def Obd:ACode:=(Oz [i 2 (.box (t 0)),i 4 (.alloc zm),i 5 (.mov (k (.bool false)))] (Oz [mT 10 1,Ct 11 139 [(t 10)],mT 6 11] (.seq (Oz [mT 12 6,mT 7 12] (Bl 0 N1h)) (Oz [i 40 (.build zm []),St 2 4 40,i 5 (.mov (k (.bool false)))] .ret))))
def N31:AFunc:=⟨41,[(.cellN 2 4),(.tmp 5)],Obd⟩
theorem n118:N31.ntmps=41:=id rfl
theorem Ocm:N31.results=[(.cellN 2 4),(.tmp 5)]:=rfl
theorem Ogu:N31.body=Obd:=rfl
def N1g:ACode:=(.seq (Oz [mT 7 6,fT 8 1 2,lT 9 8,Nt 10 9,Bt 11 .lss 7 10] (Ce 11 0)) (.seq (.block 1 (Oz [fT 14 1 2,lT 15 14,mT 16 6,xT 17 8 15 16,fT 18 0 17,lT 19 18,mT 20 1,Bt 21 .eql 19 20] (.cond (t 21) (Oz [fT 22 1 2,lT 23 22,mT 24 6,xT 25 8 23 24,Gt 26 8 25,St 8 4 26,i 5 (.mov (k (.bool true)))] .ret) .skip))) (.ops [mT 12 6,Bc 13 .add 12 1,mT 6 13])))
def c119:ACode:=(Oz [i 2 (.box (t 0)),i 4 (.alloc ze),i 5 (.mov (k (.bool false)))] (.seq (Oz [Zm 6 0] (Bl 0 N1g)) (Oz [i 27 (.build ze []),St 8 4 27,i 5 (.mov (k (.bool false)))] .ret)))
def a119:AFunc:=⟨28,[(.cellN 8 4),(.tmp 5)],c119⟩
theorem n119:a119.ntmps=28:=id rfl
theorem Ocl:a119.results=[(.cellN 8 4),(.tmp 5)]:=rfl
theorem Ogt:a119.body=c119:=rfl
def Obc:ACode:=(Oz [i 2 (.mov (k (.bool false)))] (Oz [mT 3 0,Bc 4 .geq 3 1,mT 5 4,Pm 6 5 0,p 7 5 (.bin .leq (t 6) (zT 999999)),At 8 5 7,mT 2 8] .ret))
def N30:AFunc:=⟨9,[(.tmp 2)],Obc⟩
theorem n120:N30.ntmps=9:=id rfl
theorem Ock:N30.results=[(.tmp 2)]:=rfl
theorem Ogs:N30.body=Obc:=rfl
def Obb:ACode:=(Oz [i 2 (.mov (k (.bool false)))] (Oz [mT 3 0,Bc 4 .geq 3 0,mT 5 4,Pm 6 5 0,p 7 5 (.bin .leq (t 6) (zT 1051898399)),At 8 5 7,mT 2 8] .ret))
def N3z:AFunc:=⟨9,[(.tmp 2)],Obb⟩
theorem n121:N3z.ntmps=9:=id rfl
theorem Ocj:N3z.results=[(.tmp 2)]:=rfl
theorem Ogr:N3z.body=Obb:=rfl
def Oba:ACode:=(Oz [i 4 (.mov (k Vz))] (Oz [mT 6 0,Ct 7 141 [(t 6)],mT 5 7] (Oz [mT 8 5,mT 9 1,Ct 10 142 [(t 8),(t 9)]] (Oz [mT 11 5,mT 4 11] .ret))))
def N3y:AFunc:=⟨12,[(.tmp 4)],Oba⟩
theorem n122:N3y.ntmps=12:=id rfl
theorem Oci:N3y.results=[(.tmp 4)]:=rfl
theorem Ogq:N3y.body=Oba:=rfl
def Oa9:ACode:=(Oz [i 1 (.box (t 0)),i 2 (.mov (k .nilFunc))] (Oz [i 3 (.makeFunc 143 [] [(t 1)]),mT 2 3] .ret))
def N3x:AFunc:=⟨4,[(.tmp 2)],Oa9⟩
theorem n123:N3x.ntmps=4:=id rfl
theorem Oef:N3x.results=[(.tmp 2)]:=rfl
theorem Ogp:N3x.body=Oa9:=rfl
def c124:ACode:=(Oz [i 2 (.box (t 0)),i 3 (.box (t 1)),Zm 4 0] (Ds 1 [fT 5 0 2,Kt 6 (.load1 (t 5)) [0],fT 7 0 3,Kt 8 (.load1 (t 7)) [0],Kt 9 (.call .pure (.func 67) [(t 6),(t 8)]) [0],fT 10 1 2,Kt 11 (.load1 (t 10)) [0],fT 12 1 3,Kt 13 (.load1 (t 12)) [0],Kt 14 (.call .pure (.func 67) [(t 11),(t 13)]) [0],fT 15 2 2,Kt 16 (.load1 (t 15)) [0],fT 17 2 3,Kt 18 (.load1 (t 17)) [0],Kt 19 (.call .pure (.func 67) [(t 16),(t 18)]) [0],Wt 20 (.buildSlice 3 zg [(0,(1,(t 9))),(1,(1,(t 14))),(2,(1,(t 19)))]) 0,i 21 (.call .pure (.func 125) [(t 20)]),mT 4 21] .ret))
def a124:AFunc:=⟨22,[(.tmp 4)],c124⟩
theorem n124:a124.ntmps=22:=id rfl
theorem Oee:a124.results=[(.tmp 4)]:=rfl
theorem Ogo:a124.body=c124:=rfl
def N1f:ACode:=(Oz [Bt 9 .lss 8 7] (.seq (Ce 9 0) (.seq (.block 1 (Oz [xT 10 1 6 8,lT 11 10,mT 5 11] (Oz [mT 12 5,mT 13 3,Bt 14 .neq 12 13] (.cond (t 14) (Oz [mT 15 5,mT 2 15] .ret) .skip)))) (.ops [Bc 16 .add 8 1,mT 8 16]))))
def Oa8:ACode:=(Oz [Zm 2 0] (Oz [Zm 3 0] (.seq (Oz [mT 6 0,Nt 7 6,Zm 8 0] (Bl 0 N1f)) (Oz [mT 17 3,mT 2 17] .ret))))
def N3w:AFunc:=⟨18,[(.tmp 2)],Oa8⟩
theorem n125:N3w.ntmps=18:=id rfl
theorem Och:N3w.results=[(.tmp 2)]:=rfl
theorem Ogn:N3w.body=Oa8:=rfl
def N1e:ACode:=(.seq (Oz [mT 32 7,mT 33 6,Nt 34 33,Bt 35 .lss 32 34] (Ce 35 2)) (.seq (.block 3 (Ds 0 [mT 38 1,mT 39 6,mT 40 7,xT 41 3 39 40,Gt 42 3 41,mT 43 6,mT 44 7,Bc 45 .sub 44 1,xT 46 3 43 45,Gt 47 3 46,i 48 (.call .pure (t 38) [(t 42),(t 47)]),Ut 49 48] (.cond (t 49) (Oz [mT 50 0,mT 51 5,mT 52 6,mT 53 7,xT 54 3 52 53,Gt 55 3 54,xT 56 3 50 51,St 3 56 55] (.ops [mT 57 5,Bc 58 .add 57 1,mT 5 58])) .skip))) (.ops [mT 36 7,Bc 37 .add 36 1,mT 7 37])))
def N1d:ACode:=(.seq (Oz [mT 12 5,mT 13 0,Nt 14 13,Bt 15 .lss 12 14] (Ce 15 0)) (.seq (.block 1 (Ds 0 [mT 18 1,mT 19 0,mT 20 5,xT 21 3 19 20,Gt 22 3 21,mT 23 0,mT 24 5,Bc 25 .sub 24 1,xT 26 3 23 25,Gt 27 3 26,i 28 (.call .pure (t 18) [(t 22),(t 27)])] (.cond (t 28) (Oz [mT 29 0,mT 30 5,i 31 (.sliceS 3 (t 29) (some (t 30)) none none),mT 6 31] (.seq (Oz [Zm 7 1] (Bl 2 N1e)) (Oz [mT 59 0,mT 60 5,i 61 (.sliceS 3 (t 59) (some (t 60)) none none),s (.clear zg (t 61))] (Oz [mT 62 0,mT 63 5,i 64 (.sliceS 3 (t 62) none (some (t 63)) none),mT 4 64] .ret)))) .skip))) (.ops [mT 16 5,Bc 17 .add 16 1,mT 5 17])))
def N67:ACode:=(Oz [i 4 (.mov (k Vz))] (.seq (Oz [mT 8 0,Nt 9 8,Bc 10 .lss 9 2] (.cond (t 10) (Oz [mT 11 0,mT 4 11] .ret) .skip)) (.seq (Oz [Zm 5 1] (Bl 0 N1d)) (Oz [mT 65 0,mT 4 65] .ret))))
def N3v:AFunc:=⟨66,[(.tmp 4)],N67⟩
theorem n126:N3v.ntmps=66:=id rfl
theorem N49:N3v.results=[(.tmp 4)]:=rfl
theorem Odr:N3v.body=N67:=rfl
def c127:ACode:=(Oz [i 2 (.box (t 0)),i 3 (.box (t 1)),i 4 (.mov (k (.bool false)))] (Oz [fT 5 0 2,lT 6 5,fT 7 0 3,lT 8 7,Bt 9 .eql 6 8,mT 10 9,Pf 11 10 1 2,Pl 12 10 11,Pf 13 10 1 3,Pl 14 10 13,Pb 15 10 .eql 12 14,At 16 10 15,mT 4 16] .ret))
def a127:AFunc:=⟨17,[(.tmp 4)],c127⟩
theorem n127:a127.ntmps=17:=id rfl
theorem Ocg:a127.results=[(.tmp 4)]:=rfl
theorem Ogm:a127.body=c127:=rfl
def V7:ACode:=(.ops [i 8 (.alloc zg),St 3 8 12])
def V5:ACode:=(.block 1 (.block 2 (Oz [lT 33 5,fT 34 1 8,lT 35 34,Bt 36 .gtr 33 35,mT 32 36] (.cond (t 32) (.ops [Gt 37 3 8,St 3 7 37]) (Oz [Gt 39 3 7,i 40 (.build zg []),i 41 (.eqv false (.agg [(.int .i64),(.int .i64),(.int .i64)]) (t 39) (t 40)),mT 38 41] (.cond (t 38) (Oz [fT 42 2 8,lT 43 42,St 1 6 43] .retR) (Ds 0 [fT 13 2 7,lT 14 13,fT 15 2 8,lT 16 15,fT 17 2 7,lT 18 17,Bt 19 .sub 16 18,lT 20 5,fT 21 1 7,lT 22 21,Bt 23 .sub 20 22,Bt 24 .mul 19 23,fT 25 1 8,lT 26 25,fT 27 1 7,lT 28 27,Bt 29 .sub 26 28,i 30 (.call .pure (.func 145) [(t 24),(t 29)]),Bt 31 .add 14 30,St 1 6 31] .retR)))))))
def Oa7:ACode:=(.seq (Oz [i 5 (.box (t 2)),i 6 (.alloc zt)] (Oz [i 7 (.alloc zg)] (.seq (Oz [mT 9 0,mT 10 1,Ct 11 144 [(t 9),(t 10)]] (.block 0 (.rangeF (t 11) [12] V7 V5))) (Oz [fT 44 2 7,lT 45 44,St 1 6 45] .retM)))) .retM)
def Noq:AFunc:=⟨46,[(.cell1 6)],Oa7⟩
theorem n128:Noq.ntmps=46:=id rfl
theorem Ocf:Noq.results=[(.cell1 6)]:=rfl
theorem Ogl:Noq.body=Oa7:=rfl
def c131:ACode:=(Oz [Zm 4 0] (Oz [mT 7 0,Ct 8 156 [(t 7)],mT 5 8] (Oz [mT 9 1,Ct 10 156 [(t 9)],mT 6 10] (.seq (Oz [mT 11 5] (.cond (t 11) (.seq (Oz [mT 12 6] (.cond (t 12) (Oz [Zm 4 0] .ret) .skip)) (Oz [Zm 4 (-1)] .ret)) .skip)) (.seq (Oz [mT 13 6] (.cond (t 13) (Oz [Zm 4 1] .ret) .skip)) (.seq (Oz [mT 14 0,mT 15 1,Bt 16 .lss 14 15] (.cond (t 16) (Oz [Zm 4 (-1)] .ret) .skip)) (.seq (Oz [mT 17 0,mT 18 1,Bt 19 .gtr 17 18] (.cond (t 19) (Oz [Zm 4 1] .ret) .skip)) (Oz [Zm 4 0] .ret))))))))
def a131:AFunc:=⟨20,[(.tmp 4)],c131⟩
theorem n131:a131.ntmps=20:=id rfl
theorem Oed:a131.results=[(.tmp 4)]:=rfl
theorem Ogk:a131.body=c131:=rfl
def Yg:ACode:=(.ops [i 5 (.alloc ze),St 8 5 7])
def Yf:ACode:=(.block 1 (.ops [lT 8 2,Gt 9 8 5,i 10 (.buildSlice 1 ze [(0,(8,(t 9)))]),i 11 (.append 8 64 false (t 8) (t 10)),St 1 2 11]))
def Oa6:ACode:=(.seq (Oz [i 2 (.box (t 0)),i 4 (.mov (k Vz))] (.seq (Oz [mT 6 1] (.block 0 (.rangeF (t 6) [7] Yg Yf))) (Oz [lT 12 2,mT 4 12] .retM))) .retM)
def Nkv:AFunc:=⟨13,[(.tmp 4)],Oa6⟩
theorem n132:Nkv.ntmps=13:=id rfl
theorem Oec:Nkv.results=[(.tmp 4)]:=rfl
theorem Ogj:Nkv.body=Oa6:=rfl
def N1b:ACode:=(.seq (Oz [lT 7 1,Bc 8 .geq 7 0,mT 9 8,Pl 10 9 1,p 11 9 (.bin .leq (t 10) (zT 730484)),At 12 9 11] (Ce 12 0)) (.seq (.block 1 (Oz [Gt 17 8 3,lT 18 1,Ct 19 135 [(t 17),(t 18)],mT 16 19,Et 20 0 16,Et 21 1 16,i 5 (.alloc zm),St 2 5 20,mT 6 21] (Oz [mT 22 6,mT 23 22,Pm 24 23 0,p 25 23 (.loadN 2 (t 5)),p 26 23 (.call .any (t 24) [(t 25)]),p 27 23 (.un .not (t 26)),At 28 23 27] (.cond (t 28) .ret .skip)))) (.ops [lT 13 1,lT 14 2,Bt 15 .add 13 14,St 1 1 15])))
def Oa5:ACode:=(Bl 0 N1b)
def Nxh:AFunc:=⟨29,[],Oa5⟩
theorem n134:Nxh.ntmps=29:=id rfl
theorem N9s:Nxh.results=[]:=rfl
theorem Ogi:Nxh.body=Oa5:=rfl
def Oa4:ACode:=(Oz [i 2 (.box (t 0)),i 4 (.alloc zm),i 5 (.mov (k (.bool false)))] (Oz [mT 7 1,i 8 (.bin .mul (zT 1440) (t 7)),fT 9 3 2,lT 10 9,Bt 11 .add 8 10,mT 6 11] (.seq (Oz [fT 12 7 2,lT 13 12,mT 14 1,Bc 15 .rem 14 7,Bt 16 .shr 13 15,i 17 (.bin .and (t 16) (k (.int .u8 1))),i 18 (.bin .eql (t 17) (k (.int .u8 0))),mT 19 18,Qm 20 19 6,Qf 21 19 5 2,Ql 22 19 21,Qb 23 19 .sub 20 22,q 24 19 (.bin .lss (t 23) (zT 0)),Ot 25 19 24,mT 26 25,Qm 27 26 6,Qf 28 26 4 2,Ql 29 26 28,Qb 30 26 .add 27 29,q 31 26 (.bin .gtr (t 30) (zT 1051898399)),Ot 32 26 31] (.cond (t 32) (Oz [i 33 (.build zm []),St 2 4 33,i 5 (.mov (k (.bool false)))] .ret) .skip)) (Oz [mT 34 6,mT 35 6,fT 36 4 2,lT 37 36,Bt 38 .add 35 37,i 39 (.build zm [(0,(1,(t 34))),(1,(1,(t 38)))]),St 2 4 39,i 5 (.mov (k (.bool true)))] .ret))))
def N3u:AFunc:=⟨40,[(.cellN 2 4),(.tmp 5)],Oa4⟩
theorem n135:N3u.ntmps=40:=id rfl
theorem Oeb:N3u.results=[(.cellN 2 4),(.tmp 5)]:=rfl
theorem Ogh:N3u.body=Oa4:=rfl
def N1a:ACode:=(Oz [Bt 9 .lss 8 7] (.seq (Ce 9 0) (.seq (.block 1 (Oz [mT 10 8,mT 5 10] (Oz [mT 11 1,mT 12 0,mT 13 5,xT 14 1 12 13,lT 15 14,Bt 16 .eql 11 15] (.cond (t 16) (Oz [mT 17 5,mT 4 17] .ret) .skip)))) (.ops [Bc 18 .add 8 1,mT 8 18]))))
def Oa3:ACode:=(Oz [Zm 4 0] (.seq (Oz [mT 6 0,Nt 7 6,Zm 8 0] (Bl 0 N1a)) (Oz [Zm 4 (-1)] .ret)))
def N3t:AFunc:=⟨19,[(.tmp 4)],Oa3⟩
theorem n136:N3t.ntmps=19:=id rfl
theorem Oce:N3t.results=[(.tmp 4)]:=rfl
theorem Ogg:N3t.body=Oa3:=rfl
def Oa2:ACode:=(Oz [i 6 (.mov (k Vz))] (Oz [mT 11 1,mT 12 2,i 13 (.build zm [(0,(1,(t 11))),(1,(1,(t 12)))]),i 7 (.alloc zm),St 2 7 13] (Ds 0 [mT 15 0,i 16 (.nilCheck (t 15)),fT 17 2 16,lT 18 17,Gt 19 2 7,i 20 (.lookup (.ints [.i64,.i64]) Vz true (t 18) (t 19)),mT 14 20,Et 21 0 14,Et 22 1 14,mT 8 21,mT 9 22] (.seq (Oz [mT 23 9,Ut 24 23] (.cond (t 24) (Oz [Zm 10 0] (.seq (Oz [mT 26 0,i 27 (.nilCheck (t 26)),fT 28 0 27,Gt 29 2 28,mT 30 1,mT 31 2,Ct 32 165 [(t 29),(t 30),(t 31)],mT 25 32,Et 33 0 25,Et 34 1 25,mT 8 33,mT 10 34] (Oz [mT 35 10,Bc 36 .neq 35 0] (.cond (t 36) (.ops [i 8 (.mov (k Vz))]) .skip))) (.drawn 0 [mT 37 0,i 38 (.nilCheck (t 37)),fT 39 2 38,lT 40 39,Gt 41 2 7,mT 42 8,s (.mapUpdate (.ints [.i64,.i64]) (t 40) (t 41) (t 42))]))) .skip)) (Oz [mT 43 8,mT 6 43] .ret)))))
def N3s:AFunc:=⟨44,[(.tmp 6)],Oa2⟩
theorem n137:N3s.ntmps=44:=id rfl
theorem N9r:N3s.results=[(.tmp 6)]:=rfl
theorem Ogf:N3s.body=Oa2:=rfl
def N09:ACode:=(.seq (Oz [mT 9 5,mT 10 1,Bt 11 .mul 9 10,mT 12 0,Bt 13 .gtr 11 12] (Ce 13 0)) (.block 1 (.ops [mT 14 5,Bc 15 .sub 14 1,mT 5 15])))
def c138:ACode:=(Oz [Zm 4 0] (Oz [mT 6 0,mT 7 1,Bt 8 .quo 6 7,mT 5 8] (.seq (Bl 0 N09) (Oz [mT 16 5,mT 4 16] .ret))))
def a138:AFunc:=⟨17,[(.tmp 4)],c138⟩
theorem n138:a138.ntmps=17:=id rfl
theorem Oea:a138.results=[(.tmp 4)]:=rfl
theorem Oge:a138.body=c138:=rfl
def c139:ACode:=(Oz [Zm 2 0] (.seq (Oz [mT 3 0,Bc 4 .lss 3 0] (.cond (t 4) (Oz [Zm 2 0] .ret) .skip)) (.seq (Oz [mT 5 0,Bc 6 .gtr 5 1051898399] (.cond (t 6) (Oz [Zm 2 730485] .ret) .skip)) (Oz [mT 7 0,Bc 8 .quo 7 1440,mT 2 8] .ret))))
def a139:AFunc:=⟨9,[(.tmp 2)],c139⟩
theorem n139:a139.ntmps=9:=id rfl
theorem N9q:a139.results=[(.tmp 2)]:=rfl
theorem Ogd:a139.body=c139:=rfl
def Oa1:ACode:=(Oz [i 2 (.box (t 0)),i 4 (.alloc zm),i 5 (.mov (k (.bool false)))] (.seq (Oz [Gt 7 8 2,Ct 8 84 [(t 7)],Ut 9 8,mT 10 9,Qm 11 10 1,q 12 10 (.call .any (.func 82) [(t 11),(zT 0),(zT 730484)]),q 13 10 (.un .not (t 12)),Ot 14 10 13,mT 15 14,q 16 15 (.loadN 8 (t 2)),Qm 17 15 1,q 18 15 (.bin .rem (t 17) (zT 7)),q 19 15 (.call .any (.func 166) [(t 16),(t 18)]),q 20 15 (.un .not (t 19)),Ot 21 15 20] (.cond (t 21) (Oz [i 22 (.build zm []),St 2 4 22,i 5 (.mov (k (.bool false)))] .ret) .skip)) (Oz [mT 23 1,Bc 24 .mul 23 1440,fT 25 3 2,lT 26 25,Bt 27 .add 24 26,mT 6 27] (.seq (Oz [mT 28 6,fT 29 5 2,lT 30 29,Bt 31 .sub 28 30,Bc 32 .lss 31 0,mT 33 32,Qm 34 33 6,Qf 35 33 4 2,Ql 36 33 35,Qb 37 33 .add 34 36,q 38 33 (.bin .gtr (t 37) (zT 1051898399)),Ot 39 33 38] (.cond (t 39) (Oz [i 40 (.build zm []),St 2 4 40,i 5 (.mov (k (.bool false)))] .ret) .skip)) (Oz [mT 41 6,mT 42 6,fT 43 4 2,lT 44 43,Bt 45 .add 42 44,i 46 (.build zm [(0,(1,(t 41))),(1,(1,(t 45)))]),St 2 4 46,i 5 (.mov (k (.bool true)))] .ret)))))
def N3r:AFunc:=⟨47,[(.cellN 2 4),(.tmp 5)],Oa1⟩
theorem n140:N3r.ntmps=47:=id rfl
theorem Ny5:N3r.results=[(.cellN 2 4),(.tmp 5)]:=rfl
theorem Ogc:N3r.body=Oa1:=rfl
def c141:ACode:=(Oz [i 2 (.mov (k Vz))] (Oz [mT 3 0,Ct 4 167 [(k Vz),(t 3)],mT 2 4] .ret))
def a141:AFunc:=⟨5,[(.tmp 2)],c141⟩
theorem n141:a141.ntmps=5:=id rfl
theorem Od9:a141.results=[(.tmp 2)]:=rfl
theorem Ogb:a141.body=c141:=rfl
def N08:ACode:=(Oz [Wt 7 (.mov (t 6)) 2,Et 8 0 7] (.seq (Ce 8 0) (.block 1 (Oz [Wt 9 (.mov (t 6)) 3,Et 10 1 9,i 4 (.alloc zg),St 3 4 10] (Oz [mT 11 0,Gt 12 3 4,i 13 (.call .any (t 11) [(t 12)]),Ut 14 13] (.cond (t 14) .ret .skip))))))
def c143:ACode:=(Oz [lT 5 1,Wt 6 (.mov (t 5)) 1] (Bl 0 N08))
def a143:AFunc:=⟨15,[],c143⟩
theorem n143:a143.ntmps=15:=id rfl
theorem Od8:a143.results=[]:=rfl
theorem Oga:a143.body=c143:=rfl
def Oa0:ACode:=(Oz [i 2 (.box (t 0)),i 3 (.box (t 1)),i 4 (.mov (k .nilFunc))] (Oz [i 5 (.makeFunc 169 [] [(t 2),(t 3)]),mT 4 5] .ret))
def N3q:AFunc:=⟨6,[(.tmp 4)],Oa0⟩
theorem n144:N3q.ntmps=6:=id rfl
theorem Od7:N3q.results=[(.tmp 4)]:=rfl
theorem Of9:N3q.body=Oa0:=rfl
def c145:ACode:=(Oz [Zm 4 0] (Oz [mT 6 0,mT 7 1,Bt 8 .quo 6 7,mT 5 8] (.seq (Oz [mT 9 0,mT 10 1,Bt 11 .rem 9 10,Bc 12 .lss 11 0] (.cond (t 12) (.ops [mT 13 5,Bc 14 .sub 13 1,mT 5 14]) .skip)) (Oz [mT 15 5,mT 4 15] .ret))))
def a145:AFunc:=⟨16,[(.tmp 4)],c145⟩
theorem n145:a145.ntmps=16:=id rfl
theorem Ocd:a145.results=[(.tmp 4)]:=rfl
theorem Of8:a145.body=c145:=rfl
def c156:ACode:=(Oz [i 2 (.mov (k (.bool false)))] (Oz [mT 3 0,mT 4 0,Bt 5 .neq 3 4,mT 2 5] .ret))
def a156:AFunc:=⟨6,[(.tmp 2)],c156⟩
theorem n156:a156.ntmps=6:=id rfl
theorem Od6:a156.results=[(.tmp 2)]:=rfl
theorem Of7:a156.body=c156:=rfl
def Oaz:ACode:=(Oz [i 3 (.box (t 0)),i 6 (.mov (k Vz)),Zm 7 0] (Oz [Gt 13 2 3,mT 14 1,mT 15 1,mT 16 2,Ct 17 58 [(t 13),(t 14),(t 15),(t 16)],mT 12 17,Et 18 0 12,Et 19 1 12,mT 8 18,mT 9 19] (.seq (Oz [mT 20 9,Bc 21 .neq 20 0] (.cond (t 21) (Oz [mT 22 9,i 6 (.mov (k Vz)),mT 7 22] .ret) .skip)) (Oz [Gt 23 2 3,mT 24 8,mT 25 1,mT 26 2,Ct 27 59 [(t 23),(t 24),(t 25),(t 26)],mT 10 27] (Oz [mT 28 10,mT 29 10,Nt 30 29,Bc 31 .sub 30 1,xT 32 50 28 31,Gt 33 50 32,i 11 (.alloc zd),St 50 11 33] (Oz [fT 34 0 3,lT 35 34,Nt 36 35,i 37 (.sliceA 50 1 (t 11) none (some (t 36)) none),Ct 38 106 [(t 37)],mT 6 38,Zm 7 0] .ret))))))
def N3p:AFunc:=⟨39,[(.tmp 6),(.tmp 7)],Oaz⟩
theorem n165:N3p.ntmps=39:=id rfl
theorem Occ:N3p.results=[(.tmp 6),(.tmp 7)]:=rfl
theorem Of6:N3p.body=Oaz:=rfl
def N07:ACode:=(.seq (Oz [mT 10 6,mT 11 1,Bt 12 .lss 10 11] (Ce 12 0)) (.seq (.block 1 (.ops [mT 15 5,Bc 16 .quo 15 2,mT 5 16])) (.ops [mT 13 6,Bc 14 .add 13 1,mT 6 14])))
def Oay:ACode:=(Oz [i 2 (.box (t 0)),i 4 (.mov (k (.bool false)))] (Oz [fT 7 7 2,lT 8 7,i 9 (.conv .i64 (t 8)),mT 5 9] (.seq (Oz [Zm 6 0] (Bl 0 N07)) (Oz [mT 17 5,Bc 18 .rem 17 2,Bc 19 .eql 18 1,mT 4 19] .ret))))
def N3o:AFunc:=⟨20,[(.tmp 4)],Oay⟩
theorem n166:N3o.ntmps=20:=id rfl
theorem Ocb:N3o.results=[(.tmp 4)]:=rfl
theorem Of5:N3o.body=Oay:=rfl
def WN:ACode:=(.ops [i 5 (.alloc zg),St 3 5 7])
def WM:ACode:=(.block 1 (.ops [lT 8 2,Gt 9 3 5,i 10 (.buildSlice 1 zg [(0,(3,(t 9)))]),i 11 (.append 3 24 false (t 8) (t 10)),St 1 2 11]))
def c167:ACode:=(.seq (Oz [i 2 (.box (t 0)),i 4 (.mov (k Vz))] (.seq (Oz [mT 6 1] (.block 0 (.rangeF (t 6) [7] WN WM))) (Oz [lT 12 2,mT 4 12] .retM))) .retM)
def a167:AFunc:=⟨13,[(.tmp 4)],c167⟩
theorem n167:a167.ntmps=13:=id rfl
theorem Od5:a167.results=[(.tmp 4)]:=rfl
theorem Of4:a167.body=c167:=rfl
def N06:ACode:=(Oz [Bt 16 .lss 15 14] (.seq (Ce 16 0) (.seq (.block 1 (Oz [xT 17 3 13 15,Gt 18 3 17,i 6 (.alloc zg),St 3 6 18] (Oz [fT 19 0 6,lT 20 19,lT 21 2,Bt 22 .neq 20 21,mT 23 22,Qm 24 23 0,q 25 23 (.loadN 3 (t 6)),q 26 23 (.call .any (t 24) [(t 25)]),q 27 23 (.un .not (t 26)),Ot 28 23 27] (.cond (t 28) .ret .skip)))) (.ops [Bc 29 .add 15 1,mT 15 29]))))
def Oax:ACode:=(Oz [lT 7 1,Nt 8 7,i 9 (.makeFunc 171 [] [(t 1),(t 2)]),Ct 10 170 [(t 8),(t 9)],mT 4 10] (Oz [lT 11 1,mT 12 4,i 13 (.sliceS 3 (t 11) (some (t 12)) none none),Nt 14 13,Zm 15 0] (Bl 0 N06)))
def N3n:AFunc:=⟨30,[],Oax⟩
theorem n169:N3n.ntmps=30:=id rfl
theorem N9p:N3n.results=[]:=rfl
theorem Of3:N3n.body=Oax:=rfl
def N05:ACode:=(.seq (Oz [mT 9 5,mT 10 6,Bt 11 .lss 9 10] (Ce 11 0)) (.block 1 (Oz [mT 12 5,mT 13 6,Bt 14 .add 12 13,i 15 (.conv .u64 (t 14)),i 16 (.bin .shr (t 15) (k (.int .u64 1))),i 17 (.conv .i64 (t 16)),mT 7 17] (Oz [mT 18 1,mT 19 7,i 20 (.call .any (t 18) [(t 19)]),Ut 21 20] (.cond (t 21) (.ops [mT 22 7,Bc 23 .add 22 1,mT 5 23]) (.ops [mT 24 7,mT 6 24]))))))
def Oaw:ACode:=(Oz [Zm 4 0] (Oz [mT 8 0,Zm 5 0,mT 6 8] (.seq (Bl 0 N05) (Oz [mT 25 5,mT 4 25] .ret))))
def N3m:AFunc:=⟨26,[(.tmp 4)],Oaw⟩
theorem n170:N3m.ntmps=26:=id rfl
theorem Od4:N3m.results=[(.tmp 4)]:=rfl
theorem Of2:N3m.body=Oaw:=rfl
def c171:ACode:=(Oz [i 4 (.mov (k (.bool false)))] (Ds 0 [lT 5 1,mT 6 0,xT 7 3 5 6,fT 8 0 7,lT 9 8,lT 10 2,Bt 11 .geq 9 10,mT 4 11] .ret))
def a171:AFunc:=⟨12,[(.tmp 4)],c171⟩
theorem n171:a171.ntmps=12:=id rfl
theorem Od3:a171.results=[(.tmp 4)]:=rfl
theorem Of1:a171.body=c171:=rfl
def i1_:List FuncId:=[4,12,13,17,18,19,20,21,22,23,24,25]
def v1_:List AFunc:=[a4,a12,a13,a17,a18,a19,a20,a21,a22,a23,a24,a25]
def i2_:List FuncId:=[27,28,30,31,32,33,34,35,36,37,38,39]
def v2_:List AFunc:=[a27,a28,a30,a31,a32,a33,a34,a35,a36,a37,a38,a39]
def i3_:List FuncId:=[40,41,42,43,44,45,46,47,48,49,50,51]
def v3_:List AFunc:=[a40,a41,a42,a43,a44,a45,a46,a47,a48,a49,a50,a51]
def i4_:List FuncId:=[52,53,55,56,58,59,60,61,62,63,64,65]
def v4_:List AFunc:=[a52,a53,a55,a56,a58,a59,a60,a61,a62,a63,a64,a65]
def i5_:List FuncId:=[66,67,68,69,70,71,72,73,74,75,76,77]
def v5_:List AFunc:=[a66,a67,a68,a69,a70,a71,a72,a73,a74,a75,a76,a77]
def i6_:List FuncId:=[78,79,80,81,82,83,84,85,86,87,88,89]
def v6_:List AFunc:=[a78,a79,a80,a81,a82,a83,a84,a85,a86,a87,a88,a89]
def i7_:List FuncId:=[90,91,92,93,94,96,97,98,99,100,101,103]
def v7_:List AFunc:=[a90,a91,a92,a93,a94,a96,a97,a98,a99,Nkw,N4c,N4b]
def i8_:List FuncId:=[104,105,106,107,108,109,110,111,112,113,114,115]
def v8_:List AFunc:=[N4a,a105,N39,a107,N38,a109,N37,N36,N35,N34,N33,N32]
def i9_:List FuncId:=[116,117,118,119,120,121,122,123,124,125,126,127]
def v9_:List AFunc:=[a116,a117,N31,a119,N30,N3z,N3y,N3x,a124,N3w,N3v,a127]
def Odi:List FuncId:=[128,131,132,134,135,136,137,138,139,140,141,143]
def Ob5:List AFunc:=[Noq,a131,Nkv,Nxh,N3u,N3t,N3s,a138,a139,N3r,a141,a143]
def Odh:List FuncId:=[144,145,156,165,166,167,169,170,171]
def Ob4:List AFunc:=[N3q,a145,a156,N3p,N3o,a167,N3n,N3m,a171]
def ids:List FuncId:=i1_++i2_++i3_++i4_++i5_++i6_++i7_++i8_++i9_++Odi++Odh
def fns:List AFunc:=v1_++v2_++v3_++v4_++v5_++v6_++v7_++v8_++v9_++Ob5++Ob4
def tr (g:FuncId):Option AFunc:=(ids.zip fns).lookup g
theorem Ofy:tr 100=some Nkw:=rfl
theorem Ofx:tr 101=some N4c:=rfl
theorem Ofw:tr 103=some N4b:=rfl
theorem Ofv:tr 104=some N4a:=rfl
theorem Ofu:tr 105=some a105:=rfl
theorem Odn:tr 106=some N39:=rfl
theorem Oft:tr 107=some a107:=rfl
theorem Ofs:tr 108=some N38:=rfl
theorem Ofr:tr 109=some a109:=rfl
theorem Ofq:tr 110=some N37:=rfl
theorem Ofp:tr 111=some N36:=rfl
theorem Ofo:tr 112=some N35:=rfl
theorem Ofn:tr 113=some N34:=rfl
theorem Ofm:tr 114=some N33:=rfl
theorem Ofl:tr 115=some N32:=rfl
theorem Ofk:tr 116=some a116:=rfl
theorem Ofj:tr 117=some a117:=rfl
theorem Ofi:tr 118=some N31:=rfl
theorem Ofh:tr 119=some a119:=rfl
theorem Ofg:tr 120=some N30:=rfl
theorem Ofe:tr 121=some N3z:=rfl
theorem Ofd:tr 122=some N3y:=rfl
theorem Ofc:tr 123=some N3x:=rfl
theorem Odm:tr 124=some a124:=rfl
theorem Ofb:tr 125=some N3w:=rfl
theorem Odl:tr 126=some N3v:=rfl
theorem Ofa:tr 127=some a127:=rfl
theorem Oe9:tr 128=some Noq:=rfl
theorem Oe8:tr 131=some a131:=rfl
theorem Oe7:tr 132=some Nkv:=rfl
theorem Oe6:tr 134=some Nxh:=rfl
theorem Oe5:tr 135=some N3u:=rfl
theorem Oe4:tr 136=some N3t:=rfl
theorem Oe3:tr 137=some N3s:=rfl
theorem Oe2:tr 138=some a138:=rfl
theorem Oe1:tr 139=some a139:=rfl
theorem Oe0:tr 140=some N3r:=rfl
theorem Oez:tr 141=some a141:=rfl
theorem Oey:tr 143=some a143:=rfl
theorem Oex:tr 144=some N3q:=rfl
theorem Oew:tr 145=some a145:=rfl
theorem Oev:tr 156=some a156:=rfl
theorem Oeu:tr 165=some N3p:=rfl
theorem Oet:tr 166=some N3o:=rfl
theorem Oes:tr 167=some a167:=rfl
theorem Oer:tr 169=some N3n:=rfl
theorem Oeq:tr 170=some N3m:=rfl
theorem Oep:tr 171=some a171:=rfl
end Go.Proofs.YtkppjkkkdpcgiaaGreat.Fn



namespace Go.AM
variable {X H:NA} {n j e:Nat} {b:Blk} {es:List (Value×Value)} {α:Type} {l:List α}
section
variable {α:Type}
variable {c:List Value} {x:α} {ro:Bool} {r:List α}
def gt [Inhabited α] (l:List α) (i:Nat):α:=l.getD i default
theorem OQ [Inhabited α] {l:List α} {i:Nat} (h:i<l.length):gt l i=l[i]:=by simp [gt,Nb,Ni h]
theorem Nal [Inhabited α] {l:List α}:gt (x::l) 0=x:=rfl
theorem QL [Inhabited α] {l:List α} {i:Nat}:gt (x::l) (i+1)=gt l i:=by simp [gt]
theorem UM [Inhabited α] {l:List α} {i:Nat} (h:i<l.length):gt (l++r) i=gt l i:=by
 simp [gt,Nb,Oa h]
theorem Xb [Inhabited α] {l:List α} {i:Nat}:gt (l++r) (l.length+i)=gt r i:=by
 unfold gt;rw [Nb,Nb,Oi (by omega),Q5]
theorem PM [Inhabited α] {l:List α} {i:Nat} (h:i<l.length):gt l i∈l:=by rw [OQ h];exact Qa h
def addrOf (p:Option Addr):Addr:=p.getD ⟨0,0,none⟩
def Vs (p:Option Addr) (e i:Nat):Addr:=(addrOf p).add (i*e)
def Sl (H:NA) (enc:α->List Value) (e:Nat) (p:Option Addr) (l:List α):Prop:=
 match p with
 | none=>l=[]
 | some a=>a.spot=none/\(l≠[]->∃ro c,NE H a.block=.cells ro c/\a.off+l.length*e<=c.length/\(c.drop a.off).take (l.length*e)=l.flatMap enc)
theorem NM {H:NA} {i:Nat} (h:NE H i=.cells ro c):i<H.length:=by
 rcases Od i H.length with h1 | h1
 ·exact h1
 ·unfold NE at h;rw [Nb,N0 h1] at h;cases h
def cellsOf:Blk->List Value | .cells _ c=>c | _=>[]
def isCells:Blk->Bool | .cells _ _=>true | _=>false
theorem Me:cellsOf (.cells ro c)=c:=rfl
theorem ZY:isCells (.cells ro c)=true:=id rfl
theorem Sl.app {H:NA} {enc:α->List Value} {e:Nat} {p:Option Addr} {l:List α} (h:Sl H enc e p l) (X:NA):Sl (H++X) enc e p l:=by
 cases p with
 | none=>exact h
 | some a=>
   refine ⟨h.1,fun hn=>?_⟩;obtain ⟨ro,c,h2,b⟩:=h.2 hn;exact ⟨ro,c,by rw [NS (NM h2)];exact h2,b⟩
theorem Sl.sim {H G:NA} {enc:α->List Value} {e:Nat} {p:Option Addr} {l:List α} (h:Sl H enc e p l) (f:∀b ro c,NE H b=.cells ro c->NE G b=.cells ro c):Sl G enc e p l:=by
 cases p with
 | none=>exact h
 | some a=>
   refine ⟨h.1,fun hn=>?_⟩;obtain ⟨ro,c,h2,d⟩:=h.2 hn;exact ⟨ro,c,f _ _ _ h2,d⟩
theorem OW {enc:α->List Value} {e:Nat} (he:∀x,(enc x).length=e) (l:List α):(l.flatMap enc).length=l.length*e:=by
 induction l with
 | nil=>simp
 | cons x l ih=>simp [ih,he,P4,Ro]
theorem ZI {enc:α->List Value} {e:Nat} (he:∀x,(enc x).length=e):∀(l:List α) (i:Nat),i<l.length->[Inhabited α]->((l.flatMap enc).drop (i*e)).take e=enc (gt l i)
 | [],i,h,_=>by simp at h
 | x::l,0,_,_=>by
   rw [Ol,Qi,On,Rm (by rw [he];exact Nf _),Oc (by rw [he];exact Nf _)];rfl
 | x::l,i+1,h,_=>by
   rw [Ol,List.drop_append,P8 (by rw [he,P4];omega),Og,he,show (i+1)*e-e=i*e by rw [P4];omega];have:=ZI he l i (by simpa using h);rw [this,QL]
variable [Inhabited α] {H:NA} {enc:α->List Value} {e:Nat} {p:Option Addr} {l:List α}
theorem Sl.loadCells (h:Sl H enc e p l) (he:∀x,(enc x).length=e) {i:Nat} (hi:i<l.length):AM.loadCells H (Vs p e i) e=some (enc (gt l i)):=by
 cases p with
 | none=>simp only [Sl] at h;subst h;simp at hi
 | some a=>
   obtain ⟨b,o,s⟩:=a;obtain ⟨ro,c,h2,g,d⟩:=h.2 (by rintro rfl;simp at hi);have h1:=h.1;simp only at h1 h2 d g;subst h1;have j:i*e+e<=l.length*e:=by
    have:=Ph e (Qy hi);rw [Pw] at this;exact this
   have f:=ZI he l i hi;rw [<-d,List.drop_take,Rd,List.drop_drop] at f;simp only [Vs,addrOf,Pj,addr_add,AM.loadCells,h2];rw [Nl (by omega),<-f,P1 (by omega)]
theorem Sl.loadCell (h:Sl H enc e p l) (he:∀x,(enc x).length=e) {i j:Nat} (hi:i<l.length) (k:j<e):AM.loadCell H ((Vs p e i).add j)=(enc (gt l i))[j]?:=by
 have d:=h.loadCells he hi;cases p with
 | none=>simp only [Sl] at h;subst h;simp at hi
 | some a=>
   obtain ⟨b,o,s⟩:=a;obtain ⟨ro,c,h2,g,f⟩:=h.2 (by rintro rfl;simp at hi);have h1:=h.1;simp only at h1 h2 f g;subst h1;simp only [Vs,addrOf,Pj,addr_add,AM.loadCells,h2] at d;split at d
   ·simp only [Option.some.injEq] at d;rw [<-d];simp only [Vs,addrOf,Pj,addr_add,AM.loadCell,h2,Qc,Q0,Nl k,Pq]
   ·cases d
theorem Sl.loadCell0 (h:Sl H enc e p l) (he:∀x,(enc x).length=e) {i:Nat} (hi:i<l.length) (a:0<e):AM.loadCell H (Vs p e i)=(enc (gt l i))[0]?:=by
 rw [<-h.loadCell he hi a];congr 1
omit [Inhabited α] in
theorem Sl.idx (h:Sl H enc e p l) {i c:Nat} {k:IntKind} {H1:NA} (hi:i<l.length):Vq e (.slice p l.length c) (.int k (i:Int)) H1=some (.pointer (some (Vs p e i)),H1):=by
 cases p with
 | none=>simp only [Sl] at h;subst h;simp at hi
 | some a=>exact Zc hi
end
theorem Rv (h:j<X.length):NE (X.set j b) j=b:=by
 unfold NE;rw [Nb,Rc h];rfl
theorem QC {i:Nat} (h:i≠j):NE (X.set j b) i=NE X i:=by
 unfold NE;rw [Nb,Nb,Qr (Ne.symm h)]
theorem Nip [Inhabited α] {i:Nat} {w:α->Bool} (h:i<l.length):(l.drop i).find? w=if w (gt l i)=true then some (gt l i) else (l.drop (i+1)).find? w:=by
 rw [Oy h,List.find?_cons,OQ h];split<;>simp_all
theorem Nv6 {e len c:Nat} {p:Addr} {k:IntKind} {H:NA} (h:0<len):Vq e (.slice (some p) len c) (.int k 0) H=some (.pointer (some (p.add 0)),H):=by
 have:=Zc (e:=e) (n:=0) (len:=len) (c:=c) (p:=p) (k:=k) (H:=H) h;rw [Qi] at this;exact this
theorem Nv1 {k:IntKind} {n:Int}:U6 (.int k) (.int k n)=true:=by simp [U6]
theorem Nv0 {b:ByteArray}:U6 .str (.string b)=true:=id rfl
theorem Nki {k k':IntKind} {a b c d:Int} {v:Value} {i:Nat}:findKey (.agg #[.int k a,.int k' b]) ((.agg #[.int k c,.int k' d],v)::es) i=if a=c/\b=d then some (some (i,v)) else findKey (.agg #[.int k a,.int k' b]) es (i+1):=by
 simp only [findKey,Wy,UL,if_true,Ny,Bool.and_true];by_cases h:a=c/\b=d
 ·obtain ⟨rfl,rfl⟩:=h;simp
 ·rw [Ng h];have e:((a == c)&&(b == d))=false:=by
   cases he:((a == c)&&(b == d)) with
   | false=>rfl
   | true=>
     simp only [N2,beq_iff_eq] at he;exact absurd he h
  simp [e]
theorem Nnw {v:Value} {i:Nat}:findKey v [] i=some none:=rfl
theorem Zf {k:IntKind} {a b:Int} {v:Value} {es:List (Value×Value)} {i:Nat}:findKey (.int k a) ((.int k b,v)::es) i=if a=b then some (some (i,v)) else findKey (.int k a) es (i+1):=by
 simp only [findKey,Wy,if_true];by_cases h:a=b
 ·simp [h]
 ·have e:(a == b)=false:=by simpa using h
  simp [h,e]
theorem Uw {H:NA} {r:Nat}:mapEntries H (.map (some r))=(match NE H r with | .map es=>some es | _=>none):=rfl
theorem Ndf {H:NA}:mapEntries H (.map none)=some []:=rfl
theorem Yi {α:Type} {k:IntKind} {a:Int} {f:α->Int} {g:α->Value}:∀{l:List α} {i:Nat},(∀x∈l,f x≠a)->findKey (.int k a) (l.map fun x=>(.int k (f x),g x)) i=some none
 | [],_,_=>rfl
 | x::l,i,h=>by
   rw [Oj,Zf,Ng (fun e=>h x (by simp) e.symm)];exact Yi fun y b=>h y (by simp [b])
theorem Ze {α:Type} {k:IntKind} {a:Int} {f:α->Int} {g:α->Value} {v:Value}:∀{l:List α} {i:Nat},(∃x∈l,f x=a)->(∀x∈l,f x=a->g x=v)->∃j,findKey (.int k a) (l.map fun x=>(.int k (f x),g x)) i=some (some (j,v))
 | [],_,h,_=>by obtain ⟨x,c,_⟩:=h;simp at c
 | x::l,i,h,hv=>by
   rw [Oj,Zf];by_cases e:a=f x
   ·exact ⟨i,by rw [Nl e,hv x (by simp) e.symm]⟩
   ·rw [Ng e];refine Ze ?_ fun y hy=>hv y (by simp [hy])
    obtain ⟨y,hy,b⟩:=h;rcases Ns.1 hy with rfl | hy
    ·exact absurd b.symm e
    ·exact ⟨y,hy,b⟩
def OD (H G:NA):Prop:=∃X,G=H++X
section
variable {H G:NA}
variable {c:List Value} {ro:Bool} {b:Nat}
theorem OD.refl:OD H H:=⟨[],by simp⟩
theorem OD.app (h:OD H G) {X:NA}:OD H (G++X):=by
 obtain ⟨Y,rfl⟩:=h;exact ⟨Y++X,by simp⟩
theorem OD.trans {K:NA} (h:OD H G) (k:OD G K):OD H K:=by
 obtain ⟨Y,rfl⟩:=k;exact h.app
theorem OD.len (h:OD H G):H.length<=G.length:=by
 obtain ⟨Y,rfl⟩:=h;simp
theorem OD.sl {α:Type} {enc:α->List Value} {e:Nat} {p:Option Addr} {l:List α} (h:OD H G) (hs:Sl H enc e p l):Sl G enc e p l:=by
 obtain ⟨Y,rfl⟩:=h;exact hs.app Y
theorem OD.cells (h:OD H G) (hs:NE H b=.cells ro c):NE G b=.cells ro c:=by
 obtain ⟨Y,rfl⟩:=h;rw [NS (NM hs)];exact hs
theorem zc {H:NA} (h:NE H b=.cells ro c) (X:NA):NE (H++X) b=.cells ro c:=OD.cells (OD.refl.app) h
end
section
variable {E:Env} {af:AFunc} {lim:Nat} {K:List AItem} {fr:Nat->Value} {H:NA} {R:Value->NA->Prop} {b:ACode}
variable {Q Q':Value->NA->Prop} {id:Nat} {f:LoopB->Prop} {x:LoopB} {g:FuncId} {as:List Value} {mp:Bool} {k':List AItem}
theorem NP {S:Type} (m:S->Nat) (I:S->(Nat->Value)->NA->Prop) (s:S) (d:I s fr H)
  (step:∀s fr H,I s fr H->(∀a fr' H',I a fr' H'->m a<m s->PT E af lim (.inLoop b::K) fr' H' R)->PT E af lim (.code b::.inLoop b::K) fr H R) :
  PT E af lim (.code (.loop b)::K) fr H R:=by
 rw [Nox,<-Y0];have key:∀n s fr H,m s<=n->I s fr H->PT E af lim (.inLoop b::K) fr H R:=by
  intro n
  induction n with
  | zero=>
    intro s fr H hm hi;rw [Y0];exact step s fr H hi fun a fr' H' _ hl=>absurd hl (by omega)
  | succ n ih=>
    intro s fr H hm hi;rw [Y0];exact step s fr H hi fun a fr' H' c hl=>ih a fr' H' (by omega) c
 exact key _ s fr H (Nf _) d
theorem NQ.mono (h:NQ E mp lim g as H Q) (a:∀v H',Q v H'->Q' v H'):NQ E mp lim g as H Q':=by
 obtain ⟨n,L,h1,h2⟩:=h;exact ⟨n,L,h1,h2.mono a⟩
theorem PT.mono {k:List AItem} {R':Value->NA->Prop} (h:PT E af lim k fr H R) (a:∀v H',R v H'->R' v H'):PT E af lim k fr H R':=by
 obtain ⟨n,L,h1,h2⟩:=h;exact ⟨n,L,h1,h2.mono a⟩
theorem NJ {k:List AItem} (h:PT E af lim k fr (H++[]) R):PT E af lim k fr H R:=by rwa [Na] at h
theorem Zr {k:List AItem} (h:RI id k=RI id k'):PT E af lim (.code (.exit id)::k) fr H R=PT E af lim (.code (.exit id)::k') fr H R:=by
 cases hk:RI id k' with
 | some K'=>rw [Ngq (h.trans hk),Ngq hk]
 | none=>
   have key:∀{k:List AItem},RI id k=none->¬PT E af lim (.code (.exit id)::k) fr H R:=by
    rintro k hk ⟨n,L,a,_⟩;cases n with
    | zero=>simp [PK] at a
    | succ n=>rw [PK.eq_def] at a;simp only [hk] at a;cases a
   exact propext ⟨fun q=>absurd q (key (h.trans hk)),fun q=>absurd q (key hk)⟩
theorem Nhd {id:Nat} {c:ACode}:PT E af lim (.code (.exit id)::.code c::K) fr H R=PT E af lim (.code (.exit id)::K) fr H R:=Zr (by simp [RI])
theorem Nhb {id:Nat} {c:ACode}:PT E af lim (.code (.exit id)::.inLoop c::K) fr H R=PT E af lim (.code (.exit id)::K) fr H R:=Zr (by simp [RI])
theorem Ngm {id a:Nat} (h:a≠id):PT E af lim (.code (.exit id)::.inBlock a::K) fr H R=PT E af lim (.code (.exit id)::K) fr H R:=Zr (by simp [RI,h])
theorem Nhc {id:Nat}:PT E af lim (.code (.exit id)::.inBlock id::K) fr H R=PT E af lim K fr H R:=Ngq (by simp [RI])
def N7s (r:Option NA) (f:NA->Prop) (_:Bx f:=⟨⟩):Prop:=match r with | some H'=>f H' | none=>False
theorem Npk {f:NA->Prop}:N7s (some H) f=f H:=rfl
theorem N4g:PT E af lim (.code .retM::K) fr H R=N7s (shut lim (marks K) H) fun H'=>RQ ((result fr H' af.results).map (·,H')) R:=by
 rw [Te (r:=match shut lim (marks K) H with | some H'=>(result fr H' af.results).map (·,H') | none=>none) fun n=>by rw [PK.eq_def];simp only;cases shut lim (marks K) H<;>rfl];cases shut lim (marks K) H<;>rfl
theorem Nvs:marks []=[]:=rfl
theorem Nqp {c:ACode}:marks (.code c::K)=marks K:=rfl
theorem Nqo {c:ACode}:marks (.inLoop c::K)=marks K:=rfl
theorem Nmv {id:Nat}:marks (.inBlock id::K)=marks K:=rfl
theorem Nqn {i:Nat}:marks (.mark i::K)=marks K++[i]:=rfl
theorem MR:shut lim [] H=some H:=rfl
theorem Z4 {i:Nat} {l:List Nat} (h:NE H i=.dfr) (hl:lim<=i):shut lim (i::l) H=shut lim l (H.set i .dead):=by simp only [shut,h,Nl hl]
def Nrk (i:Nat) (j:Option ACode) (H:NA) (b:Blk):Option (Value×NA):=match b with | .loop x=>some (.bool j.isNone,H.set i (.loop { x with st:=if j.isNone then 0 else 2,pend:=j })) | _=>none
theorem N6v {i st N:Nat} {p:Option ACode} {g:Nat->Value} {ps:List Nat} {a b:ACode}:Nrk i none H (.loop ⟨st,p,g,N,ps,a,b⟩)=some (.bool true,H.set i (.loop ⟨0,none,g,N,ps,a,b⟩)):=rfl
theorem N2m {i st N:Nat} {p:Option ACode} {g:Nat->Value} {ps:List Nat} {a b c:ACode}:Nrk i (some c) H (.loop ⟨st,p,g,N,ps,a,b⟩)=some (.bool false,H.set i (.loop ⟨2,some c,g,N,ps,a,b⟩)):=rfl
theorem Yk {i:Nat} {j:Option ACode}:endRound i j H=Nrk i j H (NE H i):=by unfold endRound Nrk;cases NE H i<;>rfl
theorem Nxi {i:Nat} (hl:lim<=i):PT E af lim (.round i::K) fr H R=RQ (Nrk i none H (NE H i)) R:=by
 rw [<-Yk];exact Te fun n=>by rw [PK.eq_def];simp only [Nl hl]
def N7a (b:Blk) (f:LoopB->Prop) (_:Bx f:=⟨⟩):Prop:=match b with | .loop x=>if x.st=0 then f x else False | _=>False
theorem Nw3 {N:Nat} {p:Option ACode} {g:Nat->Value} {ps:List Nat} {a b:ACode} {f:LoopB->Prop}:N7a (.loop ⟨0,p,g,N,ps,a,b⟩) f=f ⟨0,p,g,N,ps,a,b⟩:=by simp [N7a]
theorem Nxo {i:Nat} (hl:lim<=i):PT E af lim (.begin i::K) fr H R=N7a (NE H i) fun x=>PT E af lim K fr (H.set i (.loop { x with st:=1 })) R:=by
 unfold N7a;have a:(∀n,PK E (n+1) af lim (.begin i::K) fr H=none)->PT E af lim (.begin i::K) fr H R=False:=fun h=>by rw [Te (r:=none) fun n=>(h n).trans rfl];rfl
 cases hb:NE H i with
 | loop x=>
   simp only;split
   ·rename_i hs;exact PT.succ fun n=>by rw [PK.eq_def];simp only [hb,Nl (za hs hl)]
   ·rename_i hs;exact a fun n=>by rw [PK.eq_def];simp only [hb,hs,false_and,if_false]
 | _=>exact a fun n=>by rw [PK.eq_def];simp only [hb]
theorem Nxj {k:List AItem} (h:∀n,PK E (n+1) af lim k fr H=none):PT E af lim k fr H R=False:=by rw [Te (r:=none) fun n=>(h n).trans rfl];rfl
theorem Zq {k:List AItem} (h:roundOf k=roundOf k'):PT E af lim (.code .retR::k) fr H R=PT E af lim (.code .retR::k') fr H R:=by
 rw [Te (r:=match roundOf k with | some i=>if lim<=i then endRound i (some .retM) H else none | none=>none) fun n=>by rw [PK.eq_def];simp only;cases roundOf k with | none=>rfl | some i=>simp only;split<;>rfl,
  Te (k:=.code .retR::k') (r:=match roundOf k' with | some i=>if lim<=i then endRound i (some .retM) H else none | none=>none) fun n=>by rw [PK.eq_def];simp only;cases roundOf k' with | none=>rfl | some i=>simp only;split<;>rfl,h]
theorem Nha {c:ACode}:PT E af lim (.code .retR::.code c::K) fr H R=PT E af lim (.code .retR::K) fr H R:=Zq rfl
theorem Ng9 {c:ACode}:PT E af lim (.code .retR::.inLoop c::K) fr H R=PT E af lim (.code .retR::K) fr H R:=Zq rfl
theorem Ngl {id:Nat}:PT E af lim (.code .retR::.inBlock id::K) fr H R=PT E af lim (.code .retR::K) fr H R:=Zq rfl
theorem Ngk {i:Nat} (hl:lim<=i):PT E af lim (.code .retR::.round i::K) fr H R=RQ (Nrk i (some .retM) H (NE H i)) R:=by
 rw [<-Yk];exact Te fun n=>by rw [PK.eq_def];simp only [roundOf,Nl hl]
theorem Y1 {k:List AItem} (h:RI id k=RI id k') (h2:roundOf k=roundOf k'):PT E af lim (.code (.exitR id)::k) fr H R=PT E af lim (.code (.exitR id)::k') fr H R:=by
 cases hk:RI id k' with
 | some K'=>
   exact (PT.succ (k1:=K') (fr1:=fr) (H1:=H) fun n=>by rw [PK.eq_def];simp only [h.trans hk]).trans (PT.succ fun n=>by rw [PK.eq_def];simp only [hk]).symm
 | none=>
   rw [Te (r:=match roundOf k with | some i=>if lim<=i then endRound i (some (.exit id)) H else none | none=>none) fun n=>by rw [PK.eq_def];simp only [h.trans hk];cases roundOf k with | none=>rfl | some i=>simp only;split<;>rfl,
    Te (k:=.code (.exitR id)::k') (r:=match roundOf k' with | some i=>if lim<=i then endRound i (some (.exit id)) H else none | none=>none) fun n=>by rw [PK.eq_def];simp only [hk];cases roundOf k' with | none=>rfl | some i=>simp only;split<;>rfl,h2]
theorem Ngp {id:Nat} {c:ACode}:PT E af lim (.code (.exitR id)::.code c::K) fr H R=PT E af lim (.code (.exitR id)::K) fr H R:=Y1 (by simp [RI]) rfl
theorem Ngn {id:Nat} {c:ACode}:PT E af lim (.code (.exitR id)::.inLoop c::K) fr H R=PT E af lim (.code (.exitR id)::K) fr H R:=Y1 (by simp [RI]) rfl
theorem Ndi {id a:Nat} (h:a≠id):PT E af lim (.code (.exitR id)::.inBlock a::K) fr H R=PT E af lim (.code (.exitR id)::K) fr H R:=Y1 (by simp [RI,h]) rfl
theorem Ngo {id:Nat}:PT E af lim (.code (.exitR id)::.inBlock id::K) fr H R=PT E af lim K fr H R:=PT.succ fun n=>by rw [PK.eq_def];simp [RI]
theorem Ndh {id i:Nat} (hl:lim<=i):PT E af lim (.code (.exitR id)::.round i::[]) fr H R=RQ (Nrk i (some (.exit id)) H (NE H i)) R:=by
 rw [<-Yk];exact Te fun n=>by rw [PK.eq_def];simp only [RI,roundOf,Nl hl]
def YS (x:LoopB):List AItem:=match x.pend with | none=>[] | some c=>[.code c]
theorem Np0 {st N:Nat} {g:Nat->Value} {ps:List Nat} {a b:ACode}:YS ⟨st,none,g,N,ps,a,b⟩=[]:=rfl
theorem Npz {st N:Nat} {g:Nat->Value} {ps:List Nat} {a b c:ACode}:YS ⟨st,some c,g,N,ps,a,b⟩=[.code c]:=rfl
def Oav (c:Option ((FuncId ⊕ Nat)×List Value)) (f:FuncId->List Value->Prop) (_:Bx f:=⟨⟩):Prop:=match c with | some (.inl g,as)=>f g as | _=>False
theorem Nwx {g:FuncId} {as:List Value} {f:FuncId->List Value->Prop}:Oav (some (.inl g,as)) f=f g as:=rfl
def YF (b:Blk) (f:LoopB->Prop) (_:Bx f:=⟨⟩):Prop:=match b with | .loop x=>if x.st=1 then False else f x | _=>False
theorem N2l {N:Nat} {p:Option ACode} {g:Nat->Value} {ps:List Nat} {a b:ACode} {f:LoopB->Prop}:YF (.loop ⟨0,p,g,N,ps,a,b⟩) f=f ⟨0,p,g,N,ps,a,b⟩:=by simp [YF]
theorem Oak {N:Nat} {p:Option ACode} {g:Nat->Value} {ps:List Nat} {a b:ACode} {f:LoopB->Prop}:YF (.loop ⟨2,p,g,N,ps,a,b⟩) f=f ⟨2,p,g,N,ps,a,b⟩:=by simp [YF]
theorem Nwk (h:x.st≠1):YF (.loop x) f=f x:=by simp [YF,h]
theorem Nrj {b b':Blk} (h:b=b'):YF b f=YF b' f:=by rw [h]
theorem Nos {f:Operand} {ps:List Nat} {a b:ACode} (hc:NF (ev fr f) [.func (.yield (H.length+1)) #[] #[]] = some (.inl g,as)) :
  PT E af lim (.code (.rangeF f ps a b)::K) fr H R=NQ E false lim g as (H++[.dfr,.loop ⟨0,none,fr,af.ntmps,ps,a,b⟩]) fun _ P=>
   YF (NE P (H.length+1)) fun x=>PT E af lim (YS x++(K++[.mark H.length])) fr (P.set (H.length+1) .dead) R:=by
 let F:=fun (n:Nat) (r:Value×NA)=>match NE r.2 (H.length+1) with
  | .loop x=>if x.st=1 then none else PK E n af lim ((match x.pend with | none=>[] | some c=>[AItem.code c])++(K++[AItem.mark H.length])) fr (r.2.set (H.length+1) .dead)
  | _=>none
 have G:∀n r s,F n r=some s->∃x,NE r.2 (H.length+1)=.loop x/\x.st≠1/\PK E n af lim (YS x++(K++[.mark H.length])) fr (r.2.set (H.length+1) .dead)=some s:=fun n r s h=>by
  simp only [F] at h;split at h
  case h_2=>cases h
  rename_i x v;split at h
  ·cases h
  rename_i j;exact ⟨x,v,j,h⟩
 have t:∀n r x s,NE r.2 (H.length+1)=.loop x->x.st≠1->PK E n af lim (YS x++(K++[.mark H.length])) fr (r.2.set (H.length+1) .dead)=some s->F n r=some s:=fun n r x s v j h=>by
  simp only [F,v,Ng j];exact h
 have A:∀n r s,F n r=some s->s≠[]:=fun n r s h=>by
  obtain ⟨x,_,_,h⟩:=G n r s h;exact ZN E _ _ _ _ _ _ _ h
 have d:∀{n m r s},n<=m->F n r=some s->F m r=some s:=fun {n m r s} I h=>by
  obtain ⟨x,h1,h2,D⟩:=G n r s h;exact t m r x s h1 h2 (Wd E I D)
 have o:∀n,PK E (n+1) af lim (.code (.rangeF f ps a b)::K) fr H=match QV E (PK E n) false lim (.inl g) as (H++[.dfr,.loop ⟨0,none,fr,af.ntmps,ps,a,b⟩]) with
   | some L=>Uj (F n) L
   | none=>none:=fun n=>by rw [PK.eq_def];simp only [hc];rfl
 apply propext;constructor
 ·rintro ⟨n,L,k,hr⟩;cases n with
  | zero=>simp [PK] at k
  | succ n=>
  rw [o] at k;split at k
  case h_2=>cases k
  rename_i L0 i;refine ⟨n,L0,i,fun hd=>?_,fun r hr'=>?_⟩
  ·obtain ⟨y,C⟩:=hr.1 hd;exact ZM k (fun x _ s hs=>A n x s hs) C
  ·obtain ⟨s,hs,B⟩:=Vv k r hr';obtain ⟨x,h1,h2,D⟩:=G n r s hs;rw [h1,Nwk h2];refine ⟨n,s,D,fun hd=>?_,fun q J=>hr.2 q (B q J)⟩;obtain ⟨y,C⟩:=hr.1 hd;obtain ⟨z,O⟩:=ZM k (fun x _ s hs=>A n x s hs) C;subst O;rw [Nq] at hr';subst hr';simp only [Uj,hs,Option.some.injEq,Na] at k;exact ⟨y,k.trans C⟩
 ·rintro ⟨n,L0,i,hd,h2⟩;have u:∃N,∀r∈L0,∃s,F N r=some s/\Na2 E.dt s R:=by
   clear hd i
   induction L0 with
   | nil=>exact ⟨0,fun r hr=>by cases hr⟩
   | cons y L0 ih=>
     obtain ⟨N,hN⟩:=ih fun r hr=>h2 r (by simp [hr])
     have hk:=h2 y (by simp);simp only [YF] at hk;split at hk
     case h_2=>exact hk.elim
     rename_i x v;split at hk
     ·exact hk.elim
     rename_i j;obtain ⟨m,s,k,hr⟩:=hk;refine ⟨max N m,fun r hr'=>?_⟩;rcases Ns.1 hr' with rfl | hr'
     ·exact ⟨s,d (Pu N m) (t m r x s v j k),hr⟩
     ·obtain ⟨Q,S,T⟩:=hN r hr';exact ⟨Q,d (Qd N m) S,T⟩
  obtain ⟨N,hN⟩:=u;have e:QV E (PK E (max n N)) false lim (.inl g) as (H++[.dfr,.loop ⟨0,none,fr,af.ntmps,ps,a,b⟩])=some L0:=UU E (Qd n N) _ _ _ _ _ _ i;obtain ⟨L,hL⟩:=Yu (f:=F (max n N)) (l:=L0) fun r hr=>by
   obtain ⟨s,hs,_⟩:=hN r hr;exact ⟨s,d (Pu n N) hs⟩
  refine ⟨max n N+1,L,by rw [o,e];exact hL,fun w=>?_,fun q J=>?_⟩
  ·obtain ⟨y,rfl⟩:=hd w;obtain ⟨s,hs,ho⟩:=hN y (by simp);have p:=d (Pu n N) hs;simp only [Uj,p,Option.some.injEq,Na] at hL;obtain ⟨z,O⟩:=ho.1 w;exact ⟨z,by rw [<-hL,O]⟩
  ·obtain ⟨r,hr,s,hs,M⟩:=Vw hL q J;obtain ⟨Q,p,ho⟩:=hN r hr;have:=d (Pu n N) p;rw [hs] at this;cases this;exact ho.2 q M
theorem Nsf {f:Operand} {ps:List Nat} {a b:ACode} :
  PT E af lim (.code (.rangeF f ps a b)::K) fr H R=Oav (NF (ev fr f) [.func (.yield (H.length+1)) #[] #[]]) fun g as=>NQ E false lim g as (H++[.dfr,.loop ⟨0,none,fr,af.ntmps,ps,a,b⟩]) fun _ c=>
   YF (NE c (H.length+1)) fun x=>PT E af lim (YS x++(K++[.mark H.length])) fr (c.set (H.length+1) .dead) R:=by
 unfold Oav;split
 ·rename_i g as hc;exact Nos hc
 ·rename_i hc;refine Nxj fun n=>?_
  rw [PK.eq_def];simp only
theorem YB.mono {i:Nat} (h:YB E mp lim i as H Q) (a:∀v H',Q v H'->Q' v H'):YB E mp lim i as H Q':=by
 obtain ⟨n,L,h1,h2⟩:=h;exact ⟨n,L,h1,h2.mono a⟩
theorem XK {i:Nat} (b:NE H i=.loop x) (hl:lim<=i) (a:as.length=x.params.length) (hp:(x.params.all (·<x.N))=true) :
  YB E false lim i as H Q=PT E ⟨x.N,[],.skip⟩ lim [.code x.assign,.begin i,.code x.body,.round i] (Tx x.fr x.params as) H Q:=by
 unfold YB PT R4 QV;simp only [b,Nl (za hl (za a hp)),N3,if_false]
theorem NU {c c':ACode} (h:c=c'):PT E af lim (.code c::K) fr H R=PT E af lim (.code c'::K) fr H R:=by rw [h]
theorem Nj8 {b o:Nat} {s:Option Nat}:AM.loadCell H ⟨b,o,s⟩=(match NE H b with | .cells _ c=>c[o]? | _=>none):=rfl
theorem PV {b o n:Nat} {s:Option Nat}:AM.loadCells H ⟨b,o,s⟩ n=(match NE H b with | .cells _ c=>if o+n<=c.length then some ((c.drop o).take n) else none | _=>none):=rfl
theorem Ti {b o:Nat} {s:Option Nat} {vs:List Value}:AM.storeAt lim H ⟨b,o,s⟩ vs=(match NE H b with | .cells false c=>if lim<=b/\o+vs.length<=c.length then some (H.set b (.cells false (QI c o vs))) else none | _=>none):=rfl
theorem NQ.eq {v:Value} {H':NA} (h:NQ E mp lim g as H fun v' H1=>v'=v/\H1=H'):NQ E mp lim g as H Q=Q v H':=by
 obtain ⟨n,L,h1,h2⟩:=h;rw [<-Nb8,WV.all h1];have c:=Nop E h1;obtain ⟨x,d⟩:=Q7 _ c;have e:∀r∈L,r=(v,H'):=fun r hr=>by
  obtain ⟨a,b⟩:=h2.2 r hr;exact Prod.ext a b
 apply propext;constructor
 ·intro h;have:=h.2 x d;rw [e x d] at this;exact this
 ·exact fun f=>⟨h2.1,fun r hr=>by rw [e r hr];exact f⟩
end
section
variable {p q:Prop} {t b:Bool}
theorem Nk5:Uq undef b p q=q:=by unfold undef Uq;rfl
theorem Nts:Uq (.bool (!t)) b p q=Uq (.bool t) (!b) p q:=by cases t<;>cases b<;>simp [Uq]
theorem Nwq:Nfz (.bool (!t)) p q=Nfz (.bool t) q p:=by cases t<;>rfl
end
theorem ND {a b:Nat}:((a:Int)<(b:Int))=(a<b):=by simp
theorem TU {a b:Nat}:((a:Int)<=(b:Int))=(a<=b):=by simp
theorem Nne {a:Nat}:((0:Int)<(a:Int))=(0<a):=by simp
theorem NR {n:Int} (h1:-2 ^ 63<=n) (h2:n<2 ^ 63):IntKind.i64.wrap n=n:=by
 by_cases h:0<=n
 ·have h1:n % 2 ^ 64=n:=Rj h (by omega);simp only [IntKind.wrap,IntKind.bits,IntKind.signed,h1];rw [Ng (by simp;omega)]
 ·have h1:n % 2 ^ 64=n+2 ^ 64:=by
   rw [<-Int.add_emod_right,Rj (by omega) (by omega)]
  simp only [IntKind.wrap,IntKind.bits,IntKind.signed,h1];rw [Nl (by simp;omega)];omega
theorem Zy (h:0<n) (h2:n<2 ^ 63):IntKind.i64.wrap ((n:Int)-1)=((n-1:Nat):Int):=by rw [NR (by omega) (by omega)];omega
theorem Nrb {b:Nat} (h:isCells (NE H b)=true):∃ro,NE H b=.cells ro (cellsOf (NE H b)):=by
 cases hb:NE H b with
 | cells ro c=>exact ⟨ro,by simp [cellsOf]⟩
 | _=>rw [hb] at h;simp [isCells] at h
theorem Sl.lit {enc:α->List Value} {b:Nat} (he:∀x,(enc x).length=e) (h:isCells (NE H b)=true) (hc:cellsOf (NE H b)=l.flatMap enc):Sl H enc e (some ⟨b,0,none⟩) l:=by
 obtain ⟨ro,h1⟩:=Nrb h;refine ⟨rfl,fun _=>⟨ro,_,h1, ?_, ?_⟩⟩
 ·rw [hc,OW he];simp
 ·rw [hc,On,Oc (by rw [OW he];exact Nf _)]
theorem Noc {a:Option Addr} {n c:Nat}:(Value.slice a n c).cells=#[.slice a n c]:=rfl
theorem Nwt {a:Option Addr}:(Value.pointer a).cells=#[.pointer a]:=rfl
theorem Nws {s:ByteArray}:(Value.string s).cells=#[.string s]:=rfl
theorem Ohd {v:Value}:(#[v]:Array Value).toList=[v]:=rfl
theorem Ob9 {v:Value}:(#[v]:Array Value).size=1:=rfl
theorem Nwu {a:Option Nat}:(Value.map a).cells=#[.map a]:=rfl
theorem cells_func {f:Fn} {a b:Array Value}:(Value.func f a b).cells=#[.func f a b]:=rfl
theorem Nny {off:Nat} {a:Option Addr} {n m:Nat} {c:List Value} (h:off<c.length):U9 off 1 (.slice a n m) c=some (c.set off (.slice a n m)):=Wl rfl rfl h
theorem Nwg {off:Nat} {a:Option Addr} {c:List Value} (h:off<c.length):U9 off 1 (.pointer a) c=some (c.set off (.pointer a)):=Wl rfl rfl h
theorem Nwf {off:Nat} {a:ByteArray} {c:List Value} (h:off<c.length):U9 off 1 (.string a) c=some (c.set off (.string a)):=Wl rfl rfl h
theorem Nwh {off:Nat} {a:Option Nat} {c:List Value} (h:off<c.length):U9 off 1 (.map a) c=some (c.set off (.map a)):=Wl rfl rfl h
theorem Ocw:List.replicate 4 Blk.dead=[.dead,.dead,.dead,.dead]:=rfl
theorem Ocv:List.replicate 5 Blk.dead=[.dead,.dead,.dead,.dead,.dead]:=rfl
theorem Ocu:List.replicate 6 Blk.dead=[.dead,.dead,.dead,.dead,.dead,.dead]:=rfl
theorem Ocs:List.replicate 7 Blk.dead=[.dead,.dead,.dead,.dead,.dead,.dead,.dead]:=rfl
theorem Ocr:List.replicate 8 Blk.dead=[.dead,.dead,.dead,.dead,.dead,.dead,.dead,.dead]:=rfl
theorem Ocq:List.replicate 9 Blk.dead=[.dead,.dead,.dead,.dead,.dead,.dead,.dead,.dead,.dead]:=rfl
theorem N90:List.replicate 10 Blk.dead=[.dead,.dead,.dead,.dead,.dead,.dead,.dead,.dead,.dead,.dead]:=rfl
theorem N9z:List.replicate 11 Blk.dead=[.dead,.dead,.dead,.dead,.dead,.dead,.dead,.dead,.dead,.dead,.dead]:=rfl
theorem N9y:List.replicate 12 Blk.dead=[.dead,.dead,.dead,.dead,.dead,.dead,.dead,.dead,.dead,.dead,.dead,.dead]:=rfl
theorem Noe:bytesOf []=some []:=rfl
theorem Nkp {n:Int} {l:List Value}:bytesOf (.int .u8 n::l)=(bytesOf l).map (UInt8.ofNat n.toNat::·):=by
 simp only [bytesOf];cases bytesOf l<;>rfl
theorem Nnf {a b:Nat}:((a:Int)=(b:Int))=(a=b):=propext Int.ofNat_inj
theorem Nlq {v:Value} {c vs:List Value}:∀{o:Nat},QI (v::c) (o+1) vs=v::QI c o vs:=by
 induction vs generalizing c with
 | nil=>intro o;rfl
 | cons u vs ih=>intro o;rw [U5,U5,Qz];exact ih
theorem NK {l:List Value} {n:Nat} (h:l.length=n):l.take n=l:=by subst h;exact N9
theorem Nmr {n:Nat}:((n:Int)<0)=False:=by simp
theorem NI {c vs:List Value} (h:vs.length=c.length):QI c 0 vs=vs:=by
 have key:∀(vs c pre:List Value),vs.length=c.length->QI (pre++c) pre.length vs=pre++vs:=by
  intro vs
  induction vs with
  | nil=>intro c pre h;have:c=[]:=List.length_eq_zero_iff.1 h.symm;subst this;rfl
  | cons v vs ih=>
    intro c pre h
    match c,h with
    | x::c,h=>
      rw [U5];have e1:(pre++x::c).set pre.length v=(pre++[v])++c:=by simp
      rw [e1];have:=ih c (pre++[v]) (by simpa using h);rw [Nk] at this;simp only [Nm,Nn,Nx] at this;rw [this];simp
 exact key vs c [] h
def Obs (v:Value) (H:NA):Option (Value×NA):=match v with
 | .slice none n _=>if n=0 then some (.string .empty,H) else none
 | .slice (some a) n _=>match loadCells H a n with
   | some cs=>match bytesOf cs with
     | some bs=>some (.string ⟨bs.toArray⟩,H)
     | none=>none
   | none=>none
 | _=>none
theorem Nw5 {a:Addr} {n c:Nat} {H:NA}:Obs (.slice (some a) n c) H=(match AM.loadCells H a n with
  | some cs=>match bytesOf cs with
    | some bs=>some (.string ⟨bs.toArray⟩,H)
    | none=>none
  | none=>none):=rfl
theorem N5n {E:Env} {lim:Nat} {mask:List Nat} {fr:Nat->Value} {H:NA} {Q:Value->NA->Prop} {a:Operand}:oK E lim none none mask (.b2s a) fr H Q=RQ (Obs (ev fr a) H) Q:=PN rfl
theorem N5v {E:Env} {lim b:Nat} {dest:Option Nat} {mask:List Nat} {fr:Nat->Value} {H:NA} {Q:Value->NA->Prop} {a:Operand}:oK E lim (some b) dest mask (.b2s a) fr H Q=RQ (Obs (ev fr a) (OI b mask H)) fun v H'=>Q v (OE b mask H H'):=PE rfl
def unV:Operand->Value
 | .const v=>v
 | _=>undef
def TN (e:Nat) (v:Value) (lo hi mx:Option Value):Option Value:=TH e unV v (lo.map .const) (hi.map .const) (mx.map .const)
theorem Nxc {e:Nat} {ρ:Operand->Value} {v:Value} {lo hi mx:Option Operand}:TH e ρ v lo hi mx=TN e v (lo.map ρ) (hi.map ρ) (mx.map ρ):=by
 unfold TN TH;cases v with
 | slice a n c=>cases lo<;>cases hi<;>cases mx<;>rfl
 | _=>rfl
def copyV (lim esz:Nat) (d x:Value) (H:NA):Option (Value×NA):=match d,lenOf x with
    | .slice base dl _,some sl=>match Nix H esz (min sl dl) x with
      | some cs=>match base with
        | some a=>if min sl dl=0 then some (.int .i64 0,H) else (storeAt lim H a cs).map (.int .i64 (min sl dl:Nat),·)
        | none=>if dl=0 then some (.int .i64 0,H) else none
      | none=>none
    | _,_=>none
theorem Nzh {E:Env} {lim e:Nat} {mask:List Nat} {fr:Nat->Value} {H:NA} {Q:Value->NA->Prop} {d x:Operand}:oK E lim none none mask (.copy e d x) fr H Q=RQ (copyV lim e (ev fr d) (ev fr x) H) Q:=PN rfl
theorem Nzv {E:Env} {lim b e:Nat} {dest:Option Nat} {mask:List Nat} {fr:Nat->Value} {H:NA} {Q:Value->NA->Prop} {d x:Operand}:oK E lim (some b) dest mask (.copy e d x) fr H Q=RQ (copyV lim e (ev fr d) (ev fr x) (OI b mask H)) fun v H'=>Q v (OE b mask H H'):=PE rfl
def XQ (n e:Nat) (v:Value) (lo hi mx:Option Value):Option Value:=match v with
 | .pointer (some a)=>match bounds unV n n (lo.map .const) (hi.map .const) (mx.map .const) with
   | some (l,h,m)=>if m<2 ^ 62 then some (.slice (some (if m=l then a else a.add (l*e))) (h-l) (m-l)) else none
   | none=>none
 | _=>none
theorem Nln {lim:Nat} {dest:Option Nat} {ρ:Operand->Value} {x:Operand} {lo hi mx:Option Operand}:NL lim dest (.sliceA n e x lo hi mx) ρ H=(XQ n e (ρ x) (lo.map ρ) (hi.map ρ) (mx.map ρ)).map (·,H):=by
 have b:bounds unV n n ((lo.map ρ).map .const) ((hi.map ρ).map .const) ((mx.map ρ).map .const)=bounds ρ n n lo hi mx:=by
  cases lo<;>cases hi<;>cases mx<;>rfl
 simp only [NL,XQ,b];cases ρ x with
 | pointer a=>
   cases a with
   | none=>rfl
   | some a=>
     simp only;cases bounds ρ n n lo hi mx with
     | none=>rfl
     | some p=>
       obtain ⟨l,h,m⟩:=p;simp only;split<;>rfl
 | _=>rfl
theorem Np4 {E:Env} {lim n e:Nat} {mask:List Nat} {fr:Nat->Value} {H:NA} {Q:Value->NA->Prop} {x:Operand} {lo hi mx:Option Operand}:oK E lim none none mask (.sliceA n e x lo hi mx) fr H Q=RQ ((XQ n e (ev fr x) (lo.map (ev fr)) (hi.map (ev fr)) (mx.map (ev fr))).map (·,H)) Q:=by
 rw [PN rfl,Nln]
theorem Nqc {E:Env} {lim b n e:Nat} {dest:Option Nat} {mask:List Nat} {fr:Nat->Value} {H:NA} {Q:Value->NA->Prop} {x:Operand} {lo hi mx:Option Operand}:oK E lim (some b) dest mask (.sliceA n e x lo hi mx) fr H Q=RQ ((XQ n e (ev fr x) (lo.map (ev fr)) (hi.map (ev fr)) (mx.map (ev fr))).map (·,OI b mask H)) fun v H'=>Q v (OE b mask H H'):=by
 rw [PE rfl,Nln]
def Nay (lim:Nat) (dest:Option Nat) (esz bytes:Nat) (str:Bool) (s x:Value) (H:NA):Option (Value×NA):=match s with
    | .slice none n c=>OP lim dest esz bytes str (.slice none n c) x H
    | .slice (some a) n c=>if c=loose esz\/c=n then OP lim dest esz bytes str (.slice (some a) n c) x H else none
    | _=>none
theorem Nme {E:Env} {lim e b:Nat} {str:Bool} {mask:List Nat} {fr:Nat->Value} {H:NA} {Q:Value->NA->Prop} {s x:Operand}:oK E lim none none mask (.appendL e b str s x) fr H Q=RQ (Nay lim none e b str (ev fr s) (ev fr x) H) Q:=PN rfl
theorem Nmp {E:Env} {lim e b' b:Nat} {str:Bool} {dest:Option Nat} {mask:List Nat} {fr:Nat->Value} {H:NA} {Q:Value->NA->Prop} {s x:Operand}:oK E lim (some b) dest mask (.appendL e b' str s x) fr H Q=RQ (Nay lim (dest.map (b+·)) e b' str (ev fr s) (ev fr x) (OI b mask H)) fun v H'=>Q v (OE b mask H H'):=PE rfl
theorem Ng8 {lim e b n c:Nat} {str:Bool} {dest:Option Nat} {x:Value} {H:NA}:Nay lim dest e b str (.slice none n c) x H=OP lim dest e b str (.slice none n c) x H:=rfl
theorem Ng7 {lim e b n c:Nat} {str:Bool} {dest:Option Nat} {x:Value} {H:NA} {a:Addr}:Nay lim dest e b str (.slice (some a) n c) x H=if c=loose e\/c=n then OP lim dest e b str (.slice (some a) n c) x H else none:=rfl
section
variable {α:Type}
def DH (enc:α->List Value) (G:NA) (B:Nat) (d:Array α):NA:=G.set B (.cells false (d.toList.flatMap enc))
variable [Inhabited α] {enc:α->List Value} {G X:NA} {B e i:Nat} {d:Array α} {p:Option Addr} {lim:Nat}
omit [Inhabited α] in
theorem N4o:(DH enc G B d).length=G.length:=by simp [DH]
omit [Inhabited α] in
theorem Nk1 (hB:B<G.length):NE (DH enc G B d++X) B=.cells false (d.toList.flatMap enc):=by
 rw [NS (by rw [N4o];exact hB)];exact Rv hB
omit [Inhabited α] in
theorem N9f (hp:p=some ⟨B,0,none⟩) (hB:B<G.length) (he:∀x,(enc x).length=e):Sl (DH enc G B d++X) enc e p d.toList:=by
 subst hp;refine Sl.lit he ?_ ?_
 ·rw [Nk1 hB];rfl
 ·rw [Nk1 hB];rfl
omit [Inhabited α] in
theorem Nns (he:∀x,(enc x).length=e) (y:α):∀(l:List α) (i:Nat),i<l.length->QI (l.flatMap enc) (i*e) (enc y)=(l.set i y).flatMap enc:=by
 have key:∀(vs a b c:List Value) ,vs.length=b.length->QI (a++b++c) a.length vs=a++vs++c:=by
  intro vs
  induction vs with
  | nil=>intro a b c h;simp at h;have:b=[]:=List.length_eq_zero_iff.1 h.symm;subst this;rfl
  | cons v vs ih=>
    intro a b c h
    match b,h with
    | x::b,h=>
      rw [U5];have e1:(a++x::b++c).set a.length v=(a++[v])++b++c:=by simp
      rw [e1];have:=ih (a++[v]) b c (by simpa using h);rw [Nk] at this;simp only [Nm,Nn,Nx] at this;rw [this];simp
 intro l i hi;have e1:l.flatMap enc=(l.take i).flatMap enc++enc l[i]++(l.drop (i+1)).flatMap enc:=by
  have e0:l=l.take i++l[i]::l.drop (i+1):=by rw [<-Oy hi,Pv]
  have:=Q2 (List.flatMap enc) e0;rw [Pi,Ol] at this;rw [this,No]
 have e2:(l.set i y).flatMap enc=(l.take i).flatMap enc++enc y++(l.drop (i+1)).flatMap enc:=by
  rw [List.set_eq_take_append_cons_drop,Nl hi];simp
 have e3:i*e=((l.take i).flatMap enc).length:=by rw [OW he,N5,P1 (by omega)]
 rw [e1,e2,e3];exact key _ _ _ _ (by rw [he,he])
omit [Inhabited α] in
theorem Odw (hp:p=some ⟨B,0,none⟩) (hB:B<G.length) (hl:lim<=B) (he:∀x,(enc x).length=e) (hi:i<d.size) {y:α}:AM.storeAt lim (DH enc G B d++X) (Vs p e i) (enc y)=some (DH enc G B (d.setIfInBounds i y)++X):=by
 subst hp;have h1:i*e+e<=d.size*e:=by
  have:=Ph e (Qy hi);rw [Pw] at this;exact this
 simp only [Vs,addrOf,Pj,addr_add,Ti,Nk1 hB,Nx];rw [Nl ⟨hl,by rw [he,OW he];simpa using h1⟩,Nns he y _ _ (by simpa using hi)];congr 1;rw [Qj _ _ (by rw [N4o];exact hB)];simp only [DH,List.set_set];congr 3;simp
end
def SB:=za @ne_eq.{1} (za @if_true.{1} (za @if_false.{1} (za @dite_true.{1} (za @dite_false.{1} (za @N7h (za @Nxy (za @Nx1 (za @Nxz (za @Nx0 (za @N20 (za @N21 (za @N6d (za @N6c (za @N5y (za @Nfn (za @Ng2 (za @Nrg (za @Nwi (za @Nrf (za @Nwj (za @Npl (za @U5 (za @N4h (za @Nhd (za @Nhb (za @Ngm (za @Nhc (za @N4f (za @Nxn (za @Noy (za @N4i (za @Obz (za @Ob0 (za @false_and (za @and_false (za @Nou (za @N7i (za @decide_true (za @N6m (za @N6l (za @N91 (za @N5j (za @N94 (za @N92 (za @Oc0 (za @N5m (za @Nzk (za @N93 (za @Nzj (za @Ngz (za @Nzg (za @Nzf (za @Nze (za @Nl8 (za @Nju (za @Nu6 (za @Nu5 (za @Nmc (za @Nmb (za @N5l (za @Nu4 (za @Nuz (za @Nl7 (za @Nu2 (za @Nma (za @Nu3 (za @N5k (za @Nu8 (za @Np9 (za @Nu0 (za @Njt (za @Np6 (za @Nu1 (za @Njs (za @Nu7 (za @Nzi (za @Nl9 (za @Np8 (za @Nzd (za @Np5 (za @N95 (za @N5r (za @N98 (za @N96 (za @Oc3 (za @N5u (za @Nzy (za @N97 (za @Nzx (za @Ng0 (za @Nzu (za @Nzt (za @Nzr (za @Nzs (za @Nvb (za @Nzq (za @Nvc (za @Nmj (za @Nj0 (za @Nvk (za @Nvj (za @Nmn (za @Nmm (za @N5t (za @Nvi (za @Nvd (za @Nmi (za @Nvg (za @Nml (za @Nvh (za @N5s (za @Nvm (za @Nqh (za @Nve (za @Njz (za @Nqe (za @Nvf (za @Njy (za @Nvl (za @Nzw (za @Nmk (za @Nqg (za @Nzp (za @Nqd (za @N5x (za @Nz3 (za @Nz1 (za @Nzz (za @Nz0 (za @N5w (za @Nz2 (za @Nmd (za @Nmo (za @Np7 (za @Nqf (za @Nwy (za @Nl2 (za @N18 (za @Nv9 (za @N6n (za @Nqt (za @Nqs (za @Nq7 (za @Nkb (za @Nq8 (za @Nus (za @N5c (za @N55 (za @N0j (za @Oae (za @Nb8 (za @Nxr (za @N4g (za @Nvs (za @Nqp (za @Nqo (za @Nmv (za @Nqn (za @MR (za @Z4 (za @Npk (za @Nxi (za @Nxo (za @Nw3 (za @N6v (za @N2m (za @Nha (za @Ng9 (za @Ngl (za @Ngk (za @Ngp (za @Ngn (za @Ndi (za @Ngo (za @Ndh (za @Nwx (za @N2l (za @Oak (za @Np0 (za @Npz (za @Nsf (za @List.map_cons.{0,0} (za @List.map_nil.{0,0} (za @Option.map_none.{0,0} (za @N0d (za @Nvr (za @Nlc (za @N5g (za @Ny9 (za @N5f (za @Nux (za @Nxk (za @Pq (za @No5 (za @Tg (za @Oai (za @N2f (za @N6o (za @upd_same (za @upd_ne (za @not_false_eq_true (za @Nzc (za @Option.map_some.{0,0} (za @List.getD_cons_zero.{0} (za @List.getD_cons_succ.{0} (za @decide_false (za @N3 (za @not_true_eq_false (za @and_true (za @Rh (za @NY (za @NN (za @NS (za @Njg (za @Nys (za @List.set_cons_zero.{0} (za @List.set_cons_succ.{0} (za @List.append_assoc.{0} (za @List.cons_append.{0} (za @List.nil_append.{0} (za @Ti (za @Nj8 (za @PV (za @Zc (za @List.length_cons.{0} (za @List.length_nil.{0} (za @addr_add (za @List.drop_zero.{0} (za @List.drop_succ_cons.{0} (za @List.take_succ_cons.{0} (za @List.take_zero.{0} (za @Nf (za @Nat.le_add_right (za @Nx (za @Pd (za @Npr (za @Nps (za @Nly (za @Nru (za @N2c (za @Nwd (za @N2d (za @Nww (za @Nwv (za @Nr0 (za @N3g (za @N3f (za @Option.some.injEq.{0} (za @Prod.mk.injEq.{0,0} (za @List.length_append.{0} (za @List.getElem?_cons_zero.{0} (za @List.getElem?_cons_succ.{0} (za @Nat.lt_irrefl (za @and_self (za @ND (za @TU (za @Nts (za @Nwq (za @Qn (za @Bool.not_false (za @Nat.le_add_right_of_le (za @Nne (za @Nk5 (za @Nv1 (za @Nv0 (za @Nnw (za @Zf (za @Uw (za @Ndf (za @Rg (za @Nv6 (za @N7j (za @Noc (za @Nwt (za @Nws (za @Nwu (za @cells_func (za @Ohd (za @Ob9 (za @Nny (za @Nwg (za @Nwf (za @Nwh (za @Nmr (za @NI (za @Option.isNone_none.{0} (za @Option.isNone_some.{0} (za @N1 (za @NK (za @Nlq (za @Ocw (za @Ocv (za @Ocu (za @Ocs (za @Ocr (za @Ocq (za @N90 (za @N9z (za @N9y (za @Nkp (za @Noe (za @Nnf (za @N5n (za @N5v (za @Nw5 (za @Nxc (za @Nzh (za @Nzv (za @Np4 (za @Nqc (za @Nme (za @Nmp (za @Ng8 (@Ng7))))))))))))))))))))))))))))))))))))))))))))))))))))))))))))))))))))))))))))))))))))))))))))))))))))))))))))))))))))))))))))))))))))))))))))))))))))))))))))))))))))))))))))))))))))))))))))))))))))))))))))))))))))))))))))))))))))))))))))))))))))))))))))))))))))))))))))))))))))))))))))))))))))))))))))))))))))))))))
theorem Nwa {args:List Value} {t:Nat}:NG args t=args.getD t undef:=id rfl
def FB:=za @upd_same (za @upd_ne (za @ne_eq.{1} (za @not_false_eq_true (za @Nwa (za @List.getD_cons_zero.{0} @List.getD_cons_succ.{0})))))
section
variable {G G' K:NA} {R:Nat} {b:Blk}
variable {j:Nat}
structure Mut (G G':NA) (R:Nat):Prop where
 len:G'.length=G.length
 other:∀j,j≠R->NE G' j=NE G j
theorem Mut.ext {H:NA} (h:Mut G G' R) (a:OD H G) (b:H.length<=R):OD H G':=by
 obtain ⟨Y,rfl⟩:=a;refine ⟨G'.drop H.length, ?_⟩;apply Pr
 ·have:=h.len;simp at this⊢;omega
 intro i h1 h2;have hl:=h.len;simp at hl;by_cases hi:i<H.length
 ·rw [Q9 hi];have:=h.other i (by omega);unfold NE at this;rw [Nb,Nb,Ni h1,Ni (by simp;omega)] at this;simp only [Pj] at this;rw [this,Q9 hi]
 ·rw [Rr (by omega),Q8];congr 1;omega
theorem Mut.cells (h:Mut G G' R) {ro:Bool} {c:List Value} (b:NE G j=.cells ro c) (a:j≠R):NE G' j=.cells ro c:=by rw [h.other j a];exact b
theorem Mut.alive (h:Mut G G' R) {B:Blk} (b:NE G j=B) (a:j≠R):NE G' j=B:=by rw [h.other j a];exact b
theorem Mut.sl {α:Type} {enc:α->List Value} {e:Nat} {p:Option Addr} {l:List α} (h:Mut G G' R) (hs:Sl G enc e p l) (hp:∀a,p=some a->l≠[]->a.block≠R):Sl G' enc e p l:=by
 cases p with
 | none=>exact hs
 | some a=>
   refine ⟨hs.1,fun hn=>?_⟩;obtain ⟨ro,c,h2,b⟩:=hs.2 hn;exact ⟨ro,c,h.cells h2 (hp a rfl hn),b⟩
theorem Ue (h:G'.length=G.length):(G'.length=G.length)/\(∀(X:NA) (j:Nat),NE (G'++X) (G.length+j)=X.getD j .dead)/\(∀X:NA,NE (G'++X) G.length=X.getD 0 .dead)/\
  (∀(X:NA) (j:Nat) b,(G'++X).set (G.length+j) b=G'++X.set j b)/\(∀(X:NA) b,(G'++X).set G.length b=G'++X.set 0 b):=by
 refine ⟨h,fun X j=>by rw [<-h];exact NY,fun X=>by rw [<-h];exact NN,fun X j b=>?_,fun X b=>?_⟩
 ·rw [<-h,Qe _ _ (by omega)];simp
 ·rw [<-h,Qe _ _ (by omega)];simp
theorem OO (a:R<G.length) (b:Blk):∃G',(∀X:NA,(G++X).set R b=G'++X)/\NE G' R=b/\Mut G G' R:=
 ⟨G.set R b,fun X=>Qj _ _ a,Rv a,by simp,fun j c=>QC c⟩
end
def Own (lim:Nat) (G:NA) (enc:α->List Value) (e:Nat) (p:Option Addr) (cap:Nat) (l:List α):Prop:=
 (l=[]/\p=none/\cap=0)\/∃R,p=some ⟨R,0,none⟩/\cap=loose e/\NE G R=.cells false (l.flatMap enc)/\lim<=R
section
variable {α:Type} {lim e bytes cap:Nat} {G:NA} {enc:α->List Value} {p:Option Addr} {l m:List α}
variable {lim' R:Nat}
theorem Own.nil:Own lim G enc e none 0 []:=.inl ⟨rfl,rfl,rfl⟩
theorem Own.app (h:Own lim G enc e p cap l) (X:NA):Own lim (G++X) enc e p cap l:=by
 rcases h with h | ⟨R,h1,h2,a,b⟩
 ·exact .inl h
 ·exact .inr ⟨R,h1,h2,by rw [NS (NM a)];exact a,b⟩
theorem Own.mut {G':NA} (h:Own lim G enc e p cap l) (hm:Mut G G' R) (hp:∀a,p=some a->a.block≠R):Own lim G' enc e p cap l:=by
 rcases h with h | ⟨b,h1,h2,c,d⟩
 ·exact .inl h
 ·exact .inr ⟨b,h1,h2,hm.cells c (hp _ h1),d⟩
theorem Own.new (a:NE G R=.cells false (l.flatMap enc)) (hl:lim<=R):Own lim G enc e (some ⟨R,0,none⟩) (loose e) l:=.inr ⟨R,rfl,rfl,a,hl⟩
theorem Own.sl (h:Own lim G enc e p cap l) (he:∀x,(enc x).length=e):Sl G enc e p l:=by
 rcases h with ⟨h1,h2,_⟩ | ⟨R,h1,h2,a,b⟩
 ·subst h1 h2;rfl
 ·subst h1;exact Sl.lit he (by rw [a];rfl) (by rw [a];rfl)
theorem Own.le (h:Own lim G enc e p cap l) (hl:lim'<=lim):Own lim' G enc e p cap l:=by
 rcases h with h | ⟨R,h1,h2,a,b⟩
 ·exact .inl h
 ·exact .inr ⟨R,h1,h2,a,by omega⟩
theorem Own.block (h:Own lim G enc e p cap l) {a:Addr} (b:p=some a):lim<=a.block/\a.block<G.length:=by
 rcases h with ⟨h1,h2,c⟩ | ⟨R,h1,h2,c,d⟩
 ·rw [h2] at b;cases b
 ·rw [h1] at b;cases b;exact ⟨d,NM c⟩
theorem Sl.cells (hs:Sl G enc e p m) (hm:m≠[]):∃a,p=some a/\AM.loadCells G a (m.length*e)=some (m.flatMap enc):=by
 cases p with
 | none=>exact absurd hs hm
 | some a=>
   obtain ⟨k1,k2⟩:=hs;obtain ⟨ro,cs,k3,k4,b⟩:=k2 hm;refine ⟨a,rfl, ?_⟩;obtain ⟨c,ao,as'⟩:=a;simp only [PV];simp only at k3 k4 b;simp only [k3];rw [Nl k4,b]
theorem Own.push (h:Own lim G enc e p cap l) (t:lim'<=lim) (he:∀x,(enc x).length=e) (s:e≠0) (m:List α) (hm:m≠[]) (r:(l.length+m.length)*bytes<=OX) (hn:l.length+m.length<2 ^ 61) :
  ∃(G':NA) (R:Nat),(p=none->R=G.length)/\(∀a,p=some a->R=a.block)/\Mut G G' R/\(∀j,j≠R->NE G' j=NE G j)/\(∀H0:NA,OD H0 G->H0.length<=lim->OD H0 G')/\
   (∀(X:NA) (n:Option Addr) (k:Nat),Sl (G++X) enc e n m->OP lim' none e bytes false (.slice p l.length cap) (.slice n m.length k) (G++X)=some (.slice (some ⟨G.length+X.length,0,none⟩) (l.length+m.length) (loose e),G'++(X++[.cells false ((l++m).flatMap enc)]))):=by
 have f:¬m.length=0:=by intro q;exact hm (List.length_eq_zero_iff.1 q)
 rcases h with ⟨h1,h2,i⟩ | ⟨R,h1,h2,i,u⟩
 ·subst h1 h2 i;refine ⟨G,G.length,fun _=>rfl,fun a h=>(by cases h),⟨rfl,fun j _=>rfl⟩,fun j _=>rfl,fun H0 h _=>h,fun X n k o=>?_⟩;obtain ⟨a,rfl,hl⟩:=o.cells hm;simp only [Nn,Nx] at r hn;simp only [OP,firstCells,lenOf,hl,f,if_false,N3,Nn,Nx];rw [Ng (by omega)];simp [place]
 ·subst h1 h2;have c:=NM i;refine ⟨G.set R .dead,R,fun h=>(by cases h),fun a h=>(by cases h;rfl),⟨by simp,fun j d=>QC d⟩,fun j d=>QC d,fun H0 h hl=>Mut.ext (R:=R) ⟨by simp,fun j d=>QC d⟩ h (by omega),fun X n k o=>?_⟩;obtain ⟨a,rfl,hl⟩:=o.cells hm;have b:NE (G++X) R=.cells false (l.flatMap enc):=by rw [NS c];exact i
  have g:AM.loadCells (G++X) ⟨R,0,none⟩ (l.length*e)=some (l.flatMap enc):=by
   simp only [PV,b,Nx,OW he,Nf,if_true,On];rw [Oc (by rw [OW he];exact Nf _)]
  simp only [OP,firstCells,lenOf,hl,g,b,f,if_false,N3,if_true];rw [Ng (by unfold loose;omega)];simp [show lim'<=R by omega,place,Qj _ _ c,No]
theorem Own.push1 (h:Own lim G enc e p cap l) (d:lim'<=lim) (he:∀x,(enc x).length=e) (c:e≠0) (x:α) (j:(l.length+1)*bytes<=OX) (hn:l.length+1<2 ^ 61) :
  ∃(G':NA) (R:Nat),(p=none->R=G.length)/\(∀a,p=some a->R=a.block)/\Mut G G' R/\(∀H0:NA,OD H0 G->H0.length<=lim->OD H0 G')/\
   (∀(X:NA) (b k:Nat),NE (G++X) b=.cells false (enc x)->OP lim' none e bytes false (.slice p l.length cap) (.slice (some ⟨b,0,none⟩) 1 k) (G++X)=some (.slice (some ⟨G.length+X.length,0,none⟩) (l.length+1) (loose e),G'++(X++[.cells false ((l++[x]).flatMap enc)]))):=by
 obtain ⟨G',R,h1,h2,g,_,i,h5⟩:=h.push d he c [x] (by simp) (by simpa using j) (by simpa using hn);refine ⟨G',R,h1,h2,g,i,fun X b k f=>?_⟩;exact h5 X (some ⟨b,0,none⟩) k (Sl.lit he (by rw [f];rfl) (by rw [f];simp [cellsOf]))
def WQ (len cap:Nat) (lo hi mx:Option Value):Option (Nat×Nat×Nat):=bounds (fun o=>match o with | .const v=>v | _=>undef) len cap (lo.map .const) (hi.map .const) (mx.map .const)
theorem Nav {ρ:Operand->Value} {len cap:Nat} {lo hi mx:Option Operand}:bounds ρ len cap lo hi mx=WQ len cap (lo.map ρ) (hi.map ρ) (mx.map ρ):=by
 unfold WQ;cases lo<;>cases hi<;>cases mx<;>rfl
theorem Niz {n:Int} {m:Nat} {kk:IntKind} (a:0<=n) (h:n<=(m:Int)):bound (.int kk n) m=some n.toNat:=by
 simp only [bound];rw [Nl ⟨a,h⟩]
section
variable {len:Nat} {k1 k2 k3:IntKind} {l h x:Int}
theorem Zo (a:0<=h) (h1:h<=(cap:Int)):WQ len cap none (some (.int k1 h)) none=some (0,h.toNat,cap):=by
 delta WQ bounds;simp only [Ny,Oo,Niz a h1]
theorem Nkq (a:0<=l) (b:l<=(len:Int)):WQ len cap (some (.int k1 l)) none none=some (l.toNat,len,cap):=by
 delta WQ bounds;simp only [Ny,Oo,Niz a b]
end
end
def UF:ACode->ACode
 | .seq a _=>a
 | c=>c
def QP:ACode->ACode
 | .seq _ b=>b
 | _=>.skip
end Go.AM



namespace Go.Scan
structure Ev where
 (item place scanner kind at' seen time:Int)
 deriving DecidableEq,Inhabited
structure Mk where
 (scanner at' off:Int)
 deriving DecidableEq,Inhabited
def UE:Int:=1051898399
def RA (e:Ev):Prop:=(1<=e.item/\e.item<=999999)/\(1<=e.place/\e.place<=999999)/\(1<=e.scanner/\e.scanner<=999999)/\(1<=e.kind/\e.kind<=4)/\(0<=e.at'/\e.at'<=UE)/\(0<=e.seen/\e.seen<=UE)
instance (e:Ev):Decidable (RA e):=by unfold RA;infer_instance
def QK (S:List Ev):Prop:=S.length<=2000/\∀s∈S,RA s
instance (S:List Ev):Decidable (QK S):=by unfold QK;infer_instance
def RX:List Int->List Int->Int
 | a::x,b::y=>if a<b then -1 else if b<a then 1 else RX x y
 | _,_=>0
theorem Nh9:∀x,RX x x=0
 | []=>rfl
 | a::x=>by unfold RX;rw [Ng (by omega),Ng (by omega)];exact Nh9 x
theorem Nm3:∀x y,RX x y=-1\/RX x y=0\/RX x y=1
 | [],_=>by unfold RX;simp
 | _::_,[]=>by unfold RX;simp
 | a::x,b::y=>by
   unfold RX;split
   ·simp
   split
   ·simp
   exact Nm3 x y
theorem UJ:∀x y,RX y x=- RX x y
 | [],y=>by cases y<;>rfl
 | a::x,[]=>rfl
 | a::x,b::y=>by
   have h:=UJ x y;unfold RX;by_cases h1:a<b
   ·rw [Ng (by omega),Nl h1,Nl h1];rfl
   ·by_cases h2:b<a
    ·rw [Nl h2,Ng h1,Nl h2]
    ·rw [Ng h2,Ng h1,Ng h1,Ng h2];exact h
theorem Nj9:∀x y,x.length=y.length->RX x y=0->x=y
 | [],[],_,_=>rfl
 | [],b::y,h,_=>by simp at h
 | a::x,[],h,_=>by simp at h
 | a::x,b::y,hl,h=>by
   unfold RX at h;by_cases h1:a<b
   ·rw [Nl h1] at h;omega
   rw [Ng h1] at h;by_cases h2:b<a
   ·rw [Nl h2] at h;omega
   rw [Ng h2] at h;rw [Nj9 x y (by simpa using hl) h,show a=b by omega]
theorem Ww:∀x y z,x.length=y.length->y.length=z.length->RX x y<=0->RX y z<=0->RX x z<=0
 | [],_,_,_,_,_,_=>by unfold RX;simp
 | a::x,[],_,h,_,_,_=>by simp at h
 | a::x,b::y,[],_,h,_,_=>by simp at h
 | a::x,b::y,c::z,h1,h2,h3,h4=>by
   unfold RX at h3 h4⊢;by_cases d:a<c
   ·rw [Nl d];omega
   rw [Ng d];by_cases g:a<b
   ·rw [Ng (show ¬b<c by omega),Nl (show c<b by omega)] at h4;omega
   rw [Ng g] at h3;by_cases e:b<a
   ·rw [Nl e] at h3;omega
   rw [Ng e] at h3;rw [Ng (show ¬b<c by omega)] at h4;by_cases f:c<b
   ·rw [Nl f] at h4;omega
   rw [Ng f] at h4;rw [Ng (show ¬c<a by omega)];exact Ww x y z (by simpa using h1) (by simpa using h2) h3 h4
section
variable {α:Type}
variable {l a:List α} {n:Nat}
def Nra (k:α->List Int) (x:α):List α->List α
 | []=>[x]
 | y::l=>if RX (k y) (k x)<0 then y::Nra k x l else x::y::l
def UI (k:α->List Int):List α->List α
 | []=>[]
 | x::l=>Nra k x (UI k l)
theorem Nbw (k:α->List Int) (x:α):∀l,(Nra k x l).Perm (x::l)
 | []=>.refl _
 | y::l=>by
   unfold Nra;split
   ·exact ((Nbw k x l).cons y).trans (.swap x y l)
   ·exact .refl _
theorem Tm (k:α->List Int):∀l,(UI k l).Perm l
 | []=>.refl _
 | x::l=>(Nbw k x _).trans ((Tm k l).cons x)
def TJ (k:α->List Int) (l:List α):Prop:=l.Pairwise fun a b=>RX (k a) (k b)<=0
theorem Ncu {k:α->List Int} {n:Nat} (hn:∀x,(k x).length=n) (x:α):∀l,TJ k l->TJ k (Nra k x l)
 | [],_=>by unfold Nra;exact List.pairwise_singleton _ _
 | y::l,h=>by
   obtain ⟨h1,h2⟩:=List.pairwise_cons.mp h;unfold Nra;split
   ·rename_i hc;refine List.pairwise_cons.mpr ⟨fun b hb=>?_,Ncu hn x l h2⟩;rcases Ns.mp ((Nbw k x l).mem_iff.mp hb) with rfl | hb
    ·omega
    ·exact h1 b hb
   ·rename_i hc;have a:RX (k x) (k y)<=0:=by rw [UJ (k y) (k x)];omega
    refine List.pairwise_cons.mpr ⟨fun b hb=>?_,h⟩;rcases Ns.mp hb with rfl | hb
    ·exact a
    ·exact Ww _ (k y) _ (by rw [hn,hn]) (by rw [hn,hn]) a (h1 b hb)
theorem UH {k:α->List Int} {n:Nat} (hn:∀x,(k x).length=n):∀l,TJ k (UI k l)
 | []=>List.Pairwise.nil
 | x::l=>Ncu hn x _ (UH hn l)
theorem Njr {k:α->List Int} (hn:∀x,(k x).length=n) (hi:∀x y,k x=k y->x=y) {l':List α} (h:TJ k l) (h':TJ k l') (hp:l.Perm l'):l=l':=
 List.Perm.eq_of_pairwise (le:=fun a b=>RX (k a) (k b)<=0) (fun a b _ _ h1 h2=>hi a b (Nj9 _ _ (by rw [hn,hn]) (by rw [UJ (k a) (k b)] at h2;omega))) h h' hp
theorem XP {k:α->List Int} (hn:∀x,(k x).length=n) (hi:∀x y,k x=k y->x=y) (h:TJ k a) (hp:a.Perm l):a=UI k l:=
 Njr hn hi h (UH hn l) (hp.trans (Tm k l).symm)
theorem Nlm {k:α->List Int} (hn:∀x,(k x).length=n) (hi:∀x y,k x=k y->x=y) (hp:a.Perm l):UI k a=UI k l:=
 XP hn hi (UH hn a) ((Tm k a).trans hp)
end
def SC (s:Ev):Int×Int:=(s.scanner,s.seen / 1440)
def V3 (s:Ev):Mk:=⟨s.scanner,s.at',s.seen-s.at'⟩
def RG (m old:Mk):Prop:=m.off<old.off\/m.off=old.off/\m.at'<old.at'
instance (m old:Mk):Decidable (RG m old):=by unfold RG;infer_instance
def Xu (k:Int×Int) (m:Mk):List ((Int×Int)×Mk)->List ((Int×Int)×Mk)
 | []=>[(k,m)]
 | (k',old)::l=>if k'=k then (k',m)::l else (k',old)::Xu k m l
def Xz (k:Int×Int):List ((Int×Int)×Mk)->Option Mk
 | []=>none
 | (k',old)::l=>if k'=k then some old else Xz k l
def SY (l:List ((Int×Int)×Mk)) (s:Ev):List ((Int×Int)×Mk):=
 match Xz (SC s) l with
 | none=>Xu (SC s) (V3 s) l
 | some old=>if RG (V3 s) old then Xu (SC s) (V3 s) l else l
def Vo (S:List Ev):List ((Int×Int)×Mk):=S.foldl SY []
def Si (m:Mk):List Int:=[m.scanner,m.at',m.off]
theorem ZC (m:Mk):(Si m).length=3:=id rfl
theorem Nic (m n:Mk) (h:Si m=Si n):m=n:=by
 obtain ⟨a,b,c⟩:=m;obtain ⟨d,e,f⟩:=n;simp only [Si,List.cons.injEq] at h;obtain ⟨rfl,rfl,rfl,_⟩:=h;rfl
def Rs (m p:Mk):Prop:=m.scanner=p.scanner/\m.at'=p.at'
instance (m p:Mk):Decidable (Rs m p):=by unfold Rs;infer_instance
def UZ (p:Mk):List Mk->List Mk
 | []=>[]
 | m::l=>if Rs m p then UZ m l else m::UZ m l
def Sy:List Mk->List Mk
 | []=>[]
 | m::l=>m::UZ m l
def QZ (S:List Ev):List Mk:=Sy (UI Si ((Vo S).map (·.2)))
def X7 (m:Mk):Prop:=1<=m.scanner/\m.scanner<=999999/\0<=m.at'/\m.at'<=UE/\-UE<=m.off/\m.off<=UE
instance (m:Mk):Decidable (X7 m):=by unfold X7;infer_instance
def VW (a b:Mk):Prop:=a.scanner<b.scanner\/a.scanner=b.scanner/\a.at'<b.at'
instance (a b:Mk):Decidable (VW a b):=by unfold VW;infer_instance
def Wh (l:List Mk):Prop:=(∀m∈l,X7 m)/\l.Pairwise VW
def SE:Mk:=⟨0,0,0⟩
def Xv (t:Int):Mk->List Mk->Int
 | last,[]=>last.off
 | last,m::l=>if t > m.at' then Xv t m l else if last=SE then m.off else last.off+(m.off-last.off)*(t-last.at') / (m.at'-last.at')
def ofN (M:List Mk) (sc:Int):List Mk:=M.filter fun m=>m.scanner == sc
def XW (M:List Mk) (sc t:Int):Int:=Xv t SE (ofN M sc)
def TL (M:List Mk) (s:Ev):Int:=min (max (s.at'+XW M s.scanner s.at') 0) s.seen
def QQ (e:Ev):List Int:=[e.time,e.kind,e.place,e.scanner,e.item,e.at',e.seen]
theorem ZE (e:Ev):(QQ e).length=7:=id rfl
theorem Nid (x y:Ev) (h:QQ x=QQ y):x=y:=by
 obtain ⟨a,b,c,d,e,f,g⟩:=x;obtain ⟨a',b',c',i,j,k,l⟩:=y;simp only [QQ,List.cons.injEq] at h;obtain ⟨rfl,rfl,rfl,rfl,rfl,rfl,rfl,_⟩:=h;rfl
def RP (M:List Mk) (S:List Ev):List Ev:=UI QQ (S.map fun s=>{ s with time:=TL M s })
def RD (e:Ev):Int×Int×Int:=(e.item,e.place,e.kind)
def Wx (e:Ev) (kept:List Ev):Option Ev:=kept.find? fun x=>RD x == RD e
def Uz (e:Ev) (kept:List Ev):Bool:=match Wx e kept with
 | none=>false
 | some x=>decide (e.time-x.time<=10)
def TP:List Ev->List Ev->List Ev->List Ev×List Ev
 | kept,twice,[]=>(kept.reverse,twice.reverse)
 | kept,twice,e::l=>if Uz e kept then TP kept (e::twice) l else TP (e::kept) twice l
def OH (S:List Ev):List Ev×List Ev:=TP [] [] (RP (QZ S) S)
def Sz (l:List Ev) (item:Int):List Ev:=l.filter fun e=>item == 0||e.item == item
end Go.Scan




