/-
  Joined texts, 4 of 7. A part of the claim that the last text states.
-/
import Derived.Sort.AssemblyPlain
import Derived.Test.YtlmoijifgbkapaaPV3
set_option linter.unusedVariables false
set_option linter.unusedSimpArgs false
set_option linter.defProp false
set_option linter.unusedSectionVars false
set_option maxRecDepth 100000
set_option maxHeartbeats 4000000
namespace Go.Proofs.Ytlmoijifgbkapaa.Fn
open Go.AM Go.AM.Sym
abbrev p (d n:Nat) (o:AOp):zIn:=⟨some d,some (n,true),o,none,[]⟩
abbrev q (d n:Nat) (o:AOp):zIn:=⟨some d,some (n,false),o,none,[]⟩
abbrev s (o:AOp):zIn:=⟨none,none,o,none,[]⟩
def pure:List FuncId:=[7,10,11,12,13,15,16,18,23,24,26,27,28,31,32,33,34,35,36,37,38,39,40,41,43,44,47,48,51,52,53,54,55,56,57,58,59,60,61,62,63,64,67,68,69,70,71,72,73,74,75,76,77,88,89,90,91,92,93,94]
def pf:FuncId→Bool:=fun f=>pure.contains f
def l7_1:zAc:=(.seq (.ops [i 82 (.bin .lss (t 81) (t 80))]) (.seq (.cond (t 82) .skip (.exit 10)) (.seq (.block 11 (.seq (.ops [xT 83 1 79 81,lT 84 83,mT 11 84]) (.seq (.ops [mT 85 11,i 86 (.call .any (.func 23) [(t 85)]),i 87 (.un .not (t 86))]) (.cond (t 87) (.seq (.ops [i 0 (.mov (k (.bool false)))]) .ret) .skip)))) (.ops [i 88 (.bin .add (t 81) (zT 1)),mT 81 88]))))
def l7_2:zAc:=(.seq (.seq (.ops [mT 57 8,i 58 (.bin .leq (t 57) (k (.int .u8 2)))]) (.cond (t 58) .skip (.exit 8))) (.seq (.block 9 (.seq (.ops [mT 61 7,i 62 (.minmax true [(t 61),(zT 0)]),mT 63 8,mT 64 5,i 65 (.bin .mul (zT 2) (t 64)),i 66 (.bin .add (zT 4998) (t 65)),i 67 (.build [(.int .i64 0),(.int .i64 0),(.int .i64 0),(.int .u8 0),(.int .i64 0),(.int .i64 0)] [(0,(1,(zT 1))),(1,(1,(zT 9))),(2,(1,(t 62))),(3,(1,(t 63))),(4,(1,(zT 101))),(5,(1,(t 66)))]),i 9 (.alloc [(.int .i64 0),(.int .i64 0),(.int .i64 0),(.int .u8 0),(.int .i64 0),(.int .i64 0)]),s (.store 6 (t 9) (t 67))]) (.seq (.drawn 0 [mT 70 4,mT 72 1,i 73 (.loadN 6 (t 9)),i 68 (.call .mk (.func 20) []),i 69 (.call .mk (.func 21) []),i 71 (.call .mk (.func 22) [(t 70)]),i 74 (.call .any (t 72) [(t 73)]),i 75 (.call .pure (.func 18) [(t 68),(t 69),(t 71),(t 74)]),i 76 (.un .not (t 75))]) (.cond (t 76) (.seq (.ops [i 0 (.mov (k (.bool false)))]) .ret) .skip)))) (.ops [mT 59 8,i 60 (.bin .add (t 59) (k (.int .u8 1))),mT 8 60])))
def l7_3:zAc:=(.seq (.ops [i 54 (.bin .lss (t 53) (t 52))]) (.seq (.cond (t 54) .skip (.exit 6)) (.seq (.block 7 (.seq (.ops [xT 55 1 51 53,lT 56 55,mT 7 56]) (.seq (.ops [i 8 (.mov (k (.int .u8 1)))]) (.block 8 (.loop l7_2))))) (.ops [i 77 (.bin .add (t 53) (zT 1)),mT 53 77]))))
def l7_4:zAc:=(.seq (.seq (.ops [mT 36 5,i 37 (.bin .lss (t 36) (zT 3))]) (.cond (t 37) .skip (.exit 4))) (.seq (.block 5 (.seq (.ops [mT 40 5,i 41 (.bin .add (zT 2879) (t 40)),mT 42 5,i 43 (.bin .add (zT 2939) (t 42)),mT 44 4,mT 45 5,i 46 (.bin .add (t 44) (t 45)),mT 47 5,i 48 (.bin .add (zT 12879) (t 47)),mT 49 5,i 50 (.bin .add (zT 46079) (t 49)),i 51 (.buildSlice 5 [(.int .i64 0),(.int .i64 0),(.int .i64 0),(.int .i64 0),(.int .i64 0)] [(0,(1,(t 41))),(1,(1,(t 43))),(2,(1,(t 46))),(3,(1,(t 48))),(4,(1,(t 50)))]),i 52 (.lenSlice (t 51)),i 53 (.mov (zT 0))]) (.block 6 (.loop l7_3)))) (.ops [mT 38 5,i 39 (.bin .add (t 38) (zT 1)),mT 5 39])))
def l7_5:zAc:=(.seq (.ops [i 33 (.bin .lss (t 32) (t 31))]) (.seq (.cond (t 33) .skip (.exit 2)) (.seq (.block 3 (.seq (.ops [xT 34 1 30 32,lT 35 34,mT 4 35]) (.seq (.ops [i 5 (.mov (zT (-2)))]) (.block 4 (.loop l7_4))))) (.ops [i 78 (.bin .add (t 32) (zT 1)),mT 32 78]))))
def l7_6:zAc:=(.seq (.seq (.ops [mT 12 2,i 13 (.bin .lss (t 12) (zT 4))]) (.cond (t 13) .skip (.exit 0))) (.seq (.block 1 (.seq (.ops [mT 16 2,i 17 (.bin .add (zT 1500) (t 16)),mT 18 2,i 19 (.bin .add (zT 2879) (t 18)),mT 20 2,i 21 (.bin .add (zT 2939) (t 20)),mT 22 2,i 23 (.bin .add (zT 4379) (t 22)),mT 24 2,i 25 (.bin .add (zT 8699) (t 24)),mT 26 2,i 27 (.bin .add (zT 12879) (t 26)),mT 28 2,i 29 (.bin .add (zT 46079) (t 28)),i 30 (.buildSlice 8 [(.int .i64 0),(.int .i64 0),(.int .i64 0),(.int .i64 0),(.int .i64 0),(.int .i64 0),(.int .i64 0),(.int .i64 0)] [(0,(1,(zT (-1)))),(1,(1,(t 17))),(2,(1,(t 19))),(3,(1,(t 21))),(4,(1,(t 23))),(5,(1,(t 25))),(6,(1,(t 27))),(7,(1,(t 29)))]),i 31 (.lenSlice (t 30)),i 32 (.mov (zT 0))]) (.block 2 (.loop l7_5)))) (.ops [mT 14 2,i 15 (.bin .add (t 14) (zT 1)),mT 2 15])))
def c7:zAc:=(.seq (.ops [i 0 (.mov (k (.bool false)))]) (.seq (.ops [i 1 (.mov (.func 19))]) (.seq (.seq (.ops [i 2 (.mov (zT (-3)))]) (.block 0 (.loop l7_6))) (.seq (.seq (.ops [i 79 (.buildSlice 24 [(.int .i64 0),(.int .i64 0),(.int .i64 0),(.int .i64 0),(.int .i64 0),(.int .i64 0),(.int .i64 0),(.int .i64 0),(.int .i64 0),(.int .i64 0),(.int .i64 0),(.int .i64 0),(.int .i64 0),(.int .i64 0),(.int .i64 0),(.int .i64 0),(.int .i64 0),(.int .i64 0),(.int .i64 0),(.int .i64 0),(.int .i64 0),(.int .i64 0),(.int .i64 0),(.int .i64 0)] [(0,(1,(zT (-2)))),(1,(1,(zT (-1)))),(2,(1,(zT 0))),(3,(1,(zT 1))),(4,(1,(zT 2))),(5,(1,(zT 3649))),(6,(1,(zT 3650))),(7,(1,(zT 3651))),(8,(1,(zT 9999))),(9,(1,(zT 10000))),(10,(1,(zT 10001))),(11,(1,(zT 99999))),(12,(1,(zT 100000))),(13,(1,(zT 100001))),(14,(1,(zT 999999))),(15,(1,(zT 1000000))),(16,(1,(zT 1000001))),(17,(1,(zT 1051898398))),(18,(1,(zT 1051898399))),(19,(1,(zT 1051898400))),(20,(1,(zT 249999999999999))),(21,(1,(zT 250000000000000))),(22,(1,(zT 250000000000001))),(23,(1,(zT 9223372036854775807)))]),i 80 (.lenSlice (t 79)),i 81 (.mov (zT 0))]) (.block 10 (.loop l7_1))) (.seq (.ops [i 89 (.call .any (.func 24) []),mT 90 89,p 91 90 (.call .any (.func 10) []),i 92 (.pick (t 90) (t 91) (k (.bool false))),mT 0 92]) .ret)))))
def a7:zAf:=⟨93,[(.tmp 0)],c7⟩
theorem n7:a7.ntmps=93:=id rfl
theorem r7:a7.results=[(.tmp 0)]:=rfl
theorem b7:a7.body=c7:=rfl
def l10_1:zAc:=(.seq (.ops [i 58 (.bin .lss (t 57) (t 56))]) (.seq (.cond (t 58) .skip (.exit 2)) (.seq (.block 3 (.seq (.ops [mT 59 57,xT 60 1 55 57,lT 61 60,mT 8 59,mT 9 61]) (.seq (.ops [i 63 (.call .any (.func 20) []),i 64 (.call .any (.func 21) []),i 65 (.call .any (.func 22) [(zT (-1))]),mT 66 9,i 67 (.build [(.int .i64 0),(.int .i64 0),(.int .i64 0),(.int .u8 0),(.int .i64 0),(.int .i64 0)] [(0,(1,(zT 4))),(1,(1,(zT 9))),(2,(1,(t 66))),(3,(1,(k (.int .u8 2)))),(4,(1,(zT 100))),(5,(1,(zT 9000)))]),i 68 (.call .any (.func 15) [(t 63),(t 64),(t 65),(t 67)]),mT 62 68,i 69 (.extract 0 (t 62)),i 70 (.extract 1 (t 62)),i 10 (.alloc [(.int .i64 0),(.int .i64 0),(.int .u8 0)]),s (.store 3 (t 10) (t 69)),mT 11 70]) (.seq (.drawn 1 [⟨(some 71),none,(.loadN 3 (t 10)),none,[0]⟩,i 72 (.build [(.int .i64 0),(.int .i64 0),(.int .u8 0)] [(0,(1,(zT 4))),(2,(1,(k (.int .u8 4))))]),i 73 (.build [(.int .i64 0),(.int .i64 0),(.int .u8 0)] [(0,(1,(zT 4))),(1,(1,(zT 5100))),(2,(1,(k (.int .u8 6))))]),i 74 (.build [(.int .i64 0),(.int .i64 0),(.int .u8 0)] [(0,(1,(zT 4))),(2,(1,(k (.int .u8 3))))]),⟨(some 75),none,(.buildSlice 3 [(.int .i64 0),(.int .i64 0),(.int .u8 0),(.int .i64 0),(.int .i64 0),(.int .u8 0),(.int .i64 0),(.int .i64 0),(.int .u8 0)] [(0,(3,(t 72))),(3,(3,(t 73))),(6,(3,(t 74)))]),(some 0),[]⟩,mT 76 8,xT 77 3 75 76,i 78 (.loadN 3 (t 77)),i 79 (.eqv true (.agg [(.int .i64),(.int .i64),(.int .u8)]) (t 71) (t 78)),mT 80 79,q 81 80 (.mov (t 11)),q 82 80 (.bin .neq (t 81) (zT 0)),i 83 (.pick (t 80) (k (.bool true)) (t 82))]) (.cond (t 83) (.seq (.ops [i 0 (.mov (k (.bool false)))]) .ret) .skip))))) (.ops [i 84 (.bin .add (t 57) (zT 1)),mT 57 84]))))
def l10_2:zAc:=(.seq (.ops [i 26 (.bin .lss (t 25) (t 24))]) (.seq (.cond (t 26) .skip (.exit 0)) (.seq (.block 1 (.seq (.ops [mT 27 25,xT 28 1 23 25,lT 29 28,mT 3 27,mT 4 29]) (.seq (.ops [i 31 (.call .any (.func 20) []),i 32 (.call .any (.func 21) []),mT 33 4,i 34 (.call .any (.func 22) [(t 33)]),i 35 (.build [(.int .i64 0),(.int .i64 0),(.int .i64 0),(.int .u8 0),(.int .i64 0),(.int .i64 0)] [(0,(1,(zT 4))),(1,(1,(zT 9))),(2,(1,(zT 20000))),(3,(1,(k (.int .u8 1)))),(4,(1,(zT 100)))]),i 36 (.call .any (.func 15) [(t 31),(t 32),(t 34),(t 35)]),mT 30 36,i 37 (.extract 0 (t 30)),i 38 (.extract 1 (t 30)),i 5 (.alloc [(.int .i64 0),(.int .i64 0),(.int .u8 0)]),s (.store 3 (t 5) (t 37)),mT 6 38]) (.seq (.ops [i 39 (.buildSlice 4 [(.int .i64 0),(.int .i64 0),(.int .i64 0),(.int .i64 0)] [(0,(1,(zT 0))),(1,(1,(zT 25))),(2,(1,(zT 50))),(3,(1,(zT 100)))]),mT 40 3,xT 41 1 39 40,lT 42 41,i 43 (.build [(.int .i64 0),(.int .i64 0),(.int .u8 0)] [(0,(1,(zT 4))),(1,(1,(t 42))),(2,(1,(k (.int .u8 6))))]),i 7 (.alloc [(.int .i64 0),(.int .i64 0),(.int .u8 0)]),s (.store 3 (t 7) (t 43))]) (.seq (.seq (.ops [mT 44 3,i 45 (.bin .eql (t 44) (zT 0))]) (.cond (t 45) (.ops [fT 46 2 7,s (.store 1 (t 46) (k (.int .u8 5)))]) .skip)) (.seq (.ops [i 47 (.loadN 3 (t 5)),i 48 (.loadN 3 (t 7)),i 49 (.eqv true (.agg [(.int .i64),(.int .i64),(.int .u8)]) (t 47) (t 48)),mT 50 49,q 51 50 (.mov (t 6)),q 52 50 (.bin .neq (t 51) (zT 0)),i 53 (.pick (t 50) (k (.bool true)) (t 52))]) (.cond (t 53) (.seq (.ops [i 0 (.mov (k (.bool false)))]) .ret) .skip))))))) (.ops [i 54 (.bin .add (t 25) (zT 1)),mT 25 54]))))
def c10:zAc:=(.seq (.ops [i 0 (.mov (k (.bool false)))]) (.seq (.ops [i 13 (.call .any (.func 20) []),i 14 (.call .any (.func 16) [(t 13),(k (.int .u8 1)),(zT 2),(zT 3),(zT 500)]),mT 12 14,i 15 (.extract 0 (t 12)),i 16 (.extract 1 (t 12)),mT 1 15,mT 2 16]) (.seq (.seq (.ops [mT 17 1,i 18 (.bin .neq (t 17) (zT 2879)),mT 19 18,q 20 19 (.mov (t 2)),q 21 19 (.bin .neq (t 20) (zT 0)),i 22 (.pick (t 19) (k (.bool true)) (t 21))]) (.cond (t 22) (.seq (.ops [i 0 (.mov (k (.bool false)))]) .ret) .skip)) (.seq (.seq (.ops [i 23 (.buildSlice 4 [(.int .i64 0),(.int .i64 0),(.int .i64 0),(.int .i64 0)] [(0,(1,(zT 2939))),(1,(1,(zT 2940))),(2,(1,(zT 4380))),(3,(1,(zT 10000)))]),i 24 (.lenSlice (t 23)),i 25 (.mov (zT 0))]) (.block 0 (.loop l10_2))) (.seq (.seq (.ops [i 55 (.buildSlice 3 [(.int .i64 0),(.int .i64 0),(.int .i64 0)] [(0,(1,(zT 12879))),(1,(1,(zT 12880))),(2,(1,(zT 46080)))]),i 56 (.lenSlice (t 55)),i 57 (.mov (zT 0))]) (.block 2 (.loop l10_1))) (.seq (.ops [i 0 (.mov (k (.bool true)))]) .ret))))))
def a10:zAf:=⟨85,[(.tmp 0)],c10⟩
def l11_1:zAc:=(.seq (.ops [i 11 (.bin .lss (t 10) (t 9))]) (.seq (.cond (t 11) .skip (.exit 0)) (.seq (.block 1 (.seq (.ops [mT 12 10,xT 13 4 8 10,i 14 (.loadN 4 (t 13)),i 4 (.alloc [(.int .u8 0),(.int .i64 0),(.int .i64 0),(.int .i64 0)]),mT 3 12,s (.store 4 (t 4) (t 14))]) (.seq (.seq (.drawn 1 [fT 15 0 4,⟨(some 16),none,(.load1 (t 15)),none,[0]⟩,i 17 (.bin .lss (t 16) (k (.int .u8 1))),mT 18 17,q 19 18 (.fieldAddr 1 (t 4)),⟨(some 20),(some (18,false)),(.load1 (t 19)),none,[0]⟩,⟨(some 21),(some (18,false)),(.call .pure (.func 32) [(t 20)]),none,[0]⟩,q 22 18 (.fieldAddr 2 (t 4)),⟨(some 23),(some (18,false)),(.load1 (t 22)),none,[0]⟩,⟨(some 24),(some (18,false)),(.call .pure (.func 32) [(t 23)]),none,[0]⟩,q 25 18 (.fieldAddr 3 (t 4)),⟨(some 26),(some (18,false)),(.load1 (t 25)),none,[0]⟩,q 27 18 (.build [(.int .i64 0),(.int .i64 0),(.int .i64 0)] [(0,(1,(t 26))),(1,(1,(zT 0))),(2,(1,(zT 100000)))]),⟨(some 28),(some (18,false)),(.buildSlice 3 [(.int .i64 0),(.int .i64 0),(.int .i64 0),(.int .i64 0),(.int .i64 0),(.int .i64 0),(.int .i64 0),(.int .i64 0),(.int .i64 0)] [(0,(3,(t 21))),(3,(3,(t 24))),(6,(3,(t 27)))]),(some 0),[]⟩,q 29 18 (.call .pure (.func 31) [(t 28)]),q 30 18 (.un .not (t 29)),i 31 (.pick (t 18) (k (.bool true)) (t 30))]) (.cond (t 31) (.seq (.ops [i 2 (.mov (k (.bool false)))]) .ret) .skip)) (.seq (.drawn 0 [mT 32 3,i 33 (.bin .gtr (t 32) (zT 0)),mT 34 33,p 35 34 (.mov (t 0)),p 36 34 (.mov (t 3)),p 37 34 (.bin .sub (t 36) (zT 1)),p 38 34 (.idxAddrS 4 (t 35) (t 37)),p 39 34 (.loadN 4 (t 38)),p 40 34 (.loadN 4 (t 4)),p 41 34 (.call .pure (.func 33) [(t 39),(t 40)]),p 42 34 (.bin .geq (t 41) (zT 0)),i 43 (.pick (t 34) (t 42) (k (.bool false)))]) (.cond (t 43) (.seq (.ops [i 2 (.mov (k (.bool false)))]) .ret) .skip))))) (.ops [i 44 (.bin .add (t 10) (zT 1)),mT 10 44]))))
def c11:zAc:=(.seq (.ops [i 2 (.mov (k (.bool false)))]) (.seq (.seq (.ops [mT 5 0,i 6 (.lenSlice (t 5)),i 7 (.bin .gtr (t 6) (zT 500))]) (.cond (t 7) (.seq (.ops [i 2 (.mov (k (.bool false)))]) .ret) .skip)) (.seq (.seq (.ops [mT 8 0,i 9 (.lenSlice (t 8)),i 10 (.mov (zT 0))]) (.block 0 (.loop l11_1))) (.seq (.ops [i 2 (.mov (k (.bool true)))]) .ret))))
def a11:zAf:=⟨45,[(.tmp 2)],c11⟩
theorem n11:a11.ntmps=45:=id rfl
theorem r11:a11.results=[(.tmp 2)]:=rfl
theorem b11:a11.body=c11:=rfl
def l12_1:zAc:=(.seq (.seq (.ops [mT 5 3,mT 6 0,i 7 (.lenSlice (t 6)),i 8 (.bin .lss (t 5) (t 7))]) (.cond (t 8) .skip (.exit 0))) (.seq (.block 1 (.seq (.ops [mT 11 0,mT 12 3,xT 13 4 11 12,i 14 (.loadN 4 (t 13)),i 4 (.alloc [(.int .u8 0),(.int .i64 0),(.int .i64 0),(.int .i64 0)]),s (.store 4 (t 4) (t 14))]) (.seq (.drawn 0 [fT 15 0 4,lT 16 15,i 17 (.bin .eql (t 16) (k (.int .u8 0))),mT 18 17,q 19 18 (.fieldAddr 1 (t 4)),q 20 18 (.load1 (t 19)),q 21 18 (.call .pure (.func 34) [(t 20),(zT 1),(zT 999999)]),q 22 18 (.un .not (t 21)),i 23 (.pick (t 18) (k (.bool true)) (t 22)),mT 24 23,q 25 24 (.fieldAddr 2 (t 4)),q 26 24 (.load1 (t 25)),q 27 24 (.call .pure (.func 34) [(t 26),(zT 1),(zT 999999)]),q 28 24 (.un .not (t 27)),i 29 (.pick (t 24) (k (.bool true)) (t 28)),mT 30 29,q 31 30 (.fieldAddr 3 (t 4)),q 32 30 (.load1 (t 31)),q 33 30 (.call .pure (.func 34) [(t 32),(zT 0),(zT 100000)]),q 34 30 (.un .not (t 33)),i 35 (.pick (t 30) (k (.bool true)) (t 34)),mT 36 35,q 37 36 (.mov (t 3)),q 38 36 (.bin .gtr (t 37) (zT 0)),q 39 36 (.mov (t 38)),p 40 39 (.mov (t 0)),p 41 39 (.mov (t 3)),p 42 39 (.bin .sub (t 41) (zT 1)),p 43 39 (.idxAddrS 4 (t 40) (t 42)),p 44 39 (.loadN 4 (t 43)),p 45 39 (.loadN 4 (t 4)),p 46 39 (.call .pure (.func 35) [(t 44),(t 45)]),p 47 39 (.un .not (t 46)),q 48 36 (.pick (t 39) (t 47) (k (.bool false))),i 49 (.pick (t 36) (k (.bool true)) (t 48))]) (.cond (t 49) (.seq (.ops [i 2 (.mov (k (.bool false)))]) .ret) .skip)))) (.ops [mT 9 3,i 10 (.bin .add (t 9) (zT 1)),mT 3 10])))
def c12:zAc:=(.seq (.ops [i 2 (.mov (k (.bool false)))]) (.seq (.seq (.ops [i 3 (.mov (zT 0))]) (.block 0 (.loop l12_1))) (.seq (.ops [mT 50 0,i 51 (.lenSlice (t 50)),i 52 (.bin .leq (t 51) (zT 500)),mT 2 52]) .ret)))
def a12:zAf:=⟨53,[(.tmp 2)],c12⟩
theorem n12:a12.ntmps=53:=id rfl
theorem r12:a12.results=[(.tmp 2)]:=rfl
theorem b12:a12.body=c12:=rfl
def c13:zAc:=(.seq (.ops [i 10 (.mov (k (.bool false)))]) (.seq (.ops [mT 16 0,mT 17 1,mT 18 2,mT 19 3,mT 20 4,i 21 (.call .any (.func 16) [(t 16),(t 17),(t 18),(t 19),(t 20)]),mT 15 21,i 22 (.extract 0 (t 15)),i 23 (.extract 1 (t 15)),mT 11 22,mT 12 23]) (.seq (.ops [mT 25 0,mT 26 1,mT 27 2,mT 28 3,mT 29 4,i 30 (.call .any (.func 36) [(t 25),(t 26),(t 27),(t 28),(t 29)]),mT 24 30,i 31 (.extract 0 (t 24)),i 32 (.extract 1 (t 24)),mT 13 31,mT 14 32]) (.seq (.ops [mT 33 11,mT 34 13,i 35 (.bin .eql (t 33) (t 34)),mT 36 35,p 37 36 (.mov (t 12)),p 38 36 (.mov (t 14)),p 39 36 (.bin .eql (t 37) (t 38)),i 40 (.pick (t 36) (t 39) (k (.bool false))),mT 10 40]) .ret))))
def a13:zAf:=⟨41,[(.tmp 10)],c13⟩
theorem n13:a13.ntmps=41:=id rfl
theorem r13:a13.results=[(.tmp 10)]:=rfl
theorem b13:a13.body=c13:=rfl
def c15:zAc:=(.seq (.ops [i 7 (.box (t 3)),i 8 (.alloc [(.int .i64 0),(.int .i64 0),(.int .u8 0)]),i 9 (.mov (zT 0))]) (.seq (.seq (.ops [mT 11 0,mT 12 1,mT 13 2,i 14 (.loadN 6 (t 7)),i 15 (.buildSlice 1 [(.int .i64 0),(.int .i64 0),(.int .i64 0),(.int .u8 0),(.int .i64 0),(.int .i64 0)] [(0,(6,(t 14)))]),i 16 (.call .any (.func 37) [(t 11),(t 12),(t 13),(t 15)]),mT 10 16]) (.seq (.ops [mT 17 10,i 18 (.bin .neq (t 17) (zT 0))]) (.cond (t 18) (.seq (.ops [i 19 (.build [(.int .i64 0),(.int .i64 0),(.int .u8 0)] []),mT 20 10,s (.store 3 (t 8) (t 19)),mT 9 20]) .ret) .skip))) (.seq (.ops [mT 21 0,mT 22 1,mT 23 2,i 24 (.loadN 6 (t 7)),i 25 (.call .any (.func 38) [(t 21),(t 22),(t 23),(t 24)]),i 26 (.call .any (.func 39) [(t 25)]),s (.store 3 (t 8) (t 26)),i 9 (.mov (zT 0))]) .ret)))
def a15:zAf:=⟨27,[(.cellN 3 8),(.tmp 9)],c15⟩
theorem n15:a15.ntmps=27:=id rfl
theorem r15:a15.results=[(.cellN 3 8),(.tmp 9)]:=rfl
theorem b15:a15.body=c15:=rfl
def c16:zAc:=(.seq (.ops [i 10 (.mov (zT 0)),i 11 (.mov (zT 0))]) (.seq (.seq (.ops [mT 15 0,i 16 (.call .any (.func 11) [(t 15)]),i 17 (.un .not (t 16)),mT 18 17,q 19 18 (.mov (t 4)),q 20 18 (.bin .lss (t 19) (zT 0)),i 21 (.pick (t 18) (k (.bool true)) (t 20))]) (.cond (t 21) (.seq (.ops [i 10 (.mov (zT 0)),i 11 (.mov (zT 2))]) .ret) .skip)) (.seq (.ops [mT 23 0,mT 24 1,mT 25 2,mT 26 3,mT 27 4,i 28 (.call .any (.func 40) [(t 23),(t 24),(t 25),(t 26),(t 27)]),mT 22 28,i 29 (.extract 0 (t 22)),i 30 (.extract 1 (t 22)),i 31 (.extract 2 (t 22)),mT 12 29,mT 13 30,mT 14 31]) (.seq (.block 0 (.seq (.ops [mT 33 13,i 34 (.un .not (t 33)),mT 32 34]) (.cond (t 32) (.seq (.ops [i 10 (.mov (zT 0)),i 11 (.mov (zT 6))]) .ret) (.seq (.ops [mT 36 14,i 37 (.un .not (t 36)),mT 35 37]) (.cond (t 35) (.seq (.ops [i 10 (.mov (zT 0)),i 11 (.mov (zT 3))]) .ret) .skip))))) (.seq (.ops [mT 38 12,mT 10 38,i 11 (.mov (zT 0))]) .ret)))))
def a16:zAf:=⟨39,[(.tmp 10),(.tmp 11)],c16⟩
theorem n16:a16.ntmps=39:=id rfl
theorem r16:a16.results=[(.tmp 10),(.tmp 11)]:=rfl
theorem b16:a16.body=c16:=rfl
def l18_1:zAc:=(.seq (.seq (.ops [mT 91 14,mT 92 3,i 93 (.lenSlice (t 92)),i 94 (.bin .lss (t 91) (t 93)),mT 95 94,p 96 95 (.mov (t 14)),p 97 95 (.bin .lss (t 96) (zT 4)),i 98 (.pick (t 95) (t 97) (k (.bool false)))]) (.cond (t 98) .skip (.exit 2))) (.seq (.block 3 (.seq (.ops [mT 102 0,mT 103 1,mT 104 2,mT 105 3,mT 106 14,xT 107 6 105 106,i 108 (.loadN 6 (t 107)),i 109 (.call .any (.func 15) [(t 102),(t 103),(t 104),(t 108)]),mT 101 109,i 110 (.extract 0 (t 101)),i 111 (.extract 1 (t 101)),i 15 (.alloc [(.int .i64 0),(.int .i64 0),(.int .u8 0)]),s (.store 3 (t 15) (t 110)),mT 16 111]) (.seq (.ops [mT 113 0,mT 114 1,i 115 (.call .any (.func 42) [(t 114)]),mT 116 2,mT 117 3,i 118 (.call .any (.func 45) [(t 117)]),mT 119 14,xT 120 6 118 119,i 121 (.loadN 6 (t 120)),i 122 (.call .any (.func 48) [(t 113),(t 115),(t 116),(t 121)]),mT 112 122,i 123 (.extract 0 (t 112)),i 124 (.extract 1 (t 112)),i 17 (.alloc [(.int .i64 0),(.int .i64 0),(.int .u8 0)]),s (.store 3 (t 17) (t 123)),mT 18 124]) (.seq (.ops [mT 125 16,mT 126 18,i 127 (.bin .neq (t 125) (t 126)),mT 128 127,q 129 128 (.loadN 3 (t 15)),q 130 128 (.loadN 3 (t 17)),q 131 128 (.call .any (.func 47) [(t 129),(t 130)]),q 132 128 (.un .not (t 131)),i 133 (.pick (t 128) (k (.bool true)) (t 132))]) (.cond (t 133) (.seq (.ops [i 8 (.mov (k (.bool false)))]) .ret) .skip))))) (.ops [mT 99 14,i 100 (.bin .add (t 99) (zT 1)),mT 14 100])))
def l18_2:zAc:=(.seq (.seq (.ops [mT 75 13,mT 76 9,i 77 (.lenSlice (t 76)),i 78 (.bin .lss (t 75) (t 77))]) (.cond (t 78) .skip (.exit 0))) (.seq (.block 1 (.seq (.drawn 0 [mT 81 9,mT 82 13,xT 83 3 81 82,i 84 (.loadN 3 (t 83)),mT 85 11,mT 86 13,xT 87 3 85 86,i 88 (.loadN 3 (t 87)),i 89 (.call .pure (.func 47) [(t 84),(t 88)]),i 90 (.un .not (t 89))]) (.cond (t 90) (.seq (.ops [i 8 (.mov (k (.bool false)))]) .ret) .skip))) (.ops [mT 79 13,i 80 (.bin .add (t 79) (zT 1)),mT 13 80])))
def c18:zAc:=(.seq (.ops [i 8 (.mov (k (.bool false)))]) (.seq (.seq (.ops [mT 19 0,i 20 (.call .any (.func 11) [(t 19)]),mT 21 0,i 22 (.call .any (.func 12) [(t 21)]),i 23 (.eqv true .bool (t 20) (t 22)),mT 24 23,q 25 24 (.mov (t 1)),q 26 24 (.call .any (.func 26) [(t 25)]),q 27 24 (.mov (t 1)),q 28 24 (.call .any (.func 42) [(t 27)]),q 29 24 (.call .any (.func 41) [(t 28)]),q 30 24 (.eqv true .bool (t 26) (t 29)),i 31 (.pick (t 24) (k (.bool true)) (t 30)),mT 32 31,q 33 32 (.mov (t 2)),q 34 32 (.call .any (.func 27) [(t 33)]),q 35 32 (.mov (t 2)),q 36 32 (.call .any (.func 43) [(t 35)]),q 37 32 (.eqv true .bool (t 34) (t 36)),i 38 (.pick (t 32) (k (.bool true)) (t 37)),mT 39 38,q 40 39 (.mov (t 3)),q 41 39 (.call .any (.func 28) [(t 40)]),q 42 39 (.mov (t 3)),q 43 39 (.call .any (.func 45) [(t 42)]),q 44 39 (.call .any (.func 44) [(t 43)]),q 45 39 (.eqv true .bool (t 41) (t 44)),i 46 (.pick (t 39) (k (.bool true)) (t 45))]) (.cond (t 46) (.seq (.ops [i 8 (.mov (k (.bool false)))]) .ret) .skip)) (.seq (.ops [mT 48 0,mT 49 1,mT 50 2,mT 51 3,i 52 (.call .any (.func 25) [(t 48),(t 49),(t 50),(t 51)]),mT 47 52,i 53 (.extract 0 (t 47)),i 54 (.extract 1 (t 47)),mT 9 53,mT 10 54]) (.seq (.ops [mT 56 0,mT 57 1,i 58 (.call .any (.func 42) [(t 57)]),mT 59 2,mT 60 3,i 61 (.call .any (.func 45) [(t 60)]),i 62 (.call .any (.func 46) [(t 56),(t 58),(t 59),(t 61)]),mT 55 62,i 63 (.extract 0 (t 55)),i 64 (.extract 1 (t 55)),mT 11 63,mT 12 64]) (.seq (.seq (.ops [mT 65 10,mT 66 12,i 67 (.bin .neq (t 65) (t 66)),mT 68 67,q 69 68 (.mov (t 9)),q 70 68 (.lenSlice (t 69)),q 71 68 (.mov (t 11)),q 72 68 (.lenSlice (t 71)),q 73 68 (.bin .neq (t 70) (t 72)),i 74 (.pick (t 68) (k (.bool true)) (t 73))]) (.cond (t 74) (.seq (.ops [i 8 (.mov (k (.bool false)))]) .ret) .skip)) (.seq (.seq (.ops [i 13 (.mov (zT 0))]) (.block 0 (.loop l18_2))) (.seq (.seq (.ops [i 14 (.mov (zT 0))]) (.block 2 (.loop l18_1))) (.seq (.ops [i 8 (.mov (k (.bool true)))]) .ret))))))))
def a18:zAf:=⟨134,[(.tmp 8)],c18⟩
theorem n18:a18.ntmps=134:=id rfl
theorem r18:a18.results=[(.tmp 8)]:=rfl
theorem b18:a18.body=c18:=rfl
def c19:zAc:=(.seq (.ops [i 1 (.box (t 0)),i 2 (.mov (k (.slice none 0 0)))]) (.seq (.ops [i 3 (.loadN 6 (t 1)),i 4 (.buildSlice 1 [(.int .i64 0),(.int .i64 0),(.int .i64 0),(.int .u8 0),(.int .i64 0),(.int .i64 0)] [(0,(6,(t 3)))]),mT 2 4]) .ret))
def a19:zAf:=⟨5,[(.tmp 2)],c19⟩
theorem n19:a19.ntmps=5:=id rfl
theorem r19:a19.results=[(.tmp 2)]:=rfl
theorem b19:a19.body=c19:=rfl
def c20:zAc:=(.seq (.ops [i 0 (.mov (k (.slice none 0 0)))]) (.seq (.ops [i 1 (.build [(.int .u8 0),(.int .i64 0),(.int .i64 0),(.int .i64 0)] [(0,(1,(k (.int .u8 1)))),(1,(1,(zT 2))),(2,(1,(zT 3))),(3,(1,(zT 1000)))]),i 2 (.buildSlice 1 [(.int .u8 0),(.int .i64 0),(.int .i64 0),(.int .i64 0)] [(0,(4,(t 1)))]),mT 0 2]) .ret))
def a20:zAf:=⟨3,[(.tmp 0)],c20⟩
theorem n20:a20.ntmps=3:=id rfl
theorem r20:a20.results=[(.tmp 0)]:=rfl
theorem b20:a20.body=c20:=rfl
def c21:zAc:=(.seq (.ops [i 0 (.mov (k (.slice none 0 0)))]) (.seq (.ops [i 1 (.build [(.int .u8 0),(.int .i64 0),(.int .i64 0),(.int .i64 0),(.int .i64 0),(.int .i64 0),(.int .i64 0)] [(0,(1,(k (.int .u8 1)))),(1,(1,(zT 60))),(2,(1,(zT 2500))),(3,(1,(zT 10000))),(4,(1,(zT 10000))),(5,(1,(zT 5000))),(6,(1,(zT 30)))]),i 2 (.buildSlice 1 [(.int .u8 0),(.int .i64 0),(.int .i64 0),(.int .i64 0),(.int .i64 0),(.int .i64 0),(.int .i64 0)] [(0,(7,(t 1)))]),mT 0 2]) .ret))
def a21:zAf:=⟨3,[(.tmp 0)],c21⟩
theorem n21:a21.ntmps=3:=id rfl
theorem r21:a21.results=[(.tmp 0)]:=rfl
theorem b21:a21.body=c21:=rfl
def c22:zAc:=(.seq (.ops [i 2 (.mov (k (.slice none 0 0)))]) (.seq (.ops [mT 3 0,i 4 (.build [(.int .i64 0),(.int .u8 0),(.int .i64 0),(.int .i64 0),(.int .i64 0),(.int .i64 0)] [(0,(1,(zT 9))),(1,(1,(k (.int .u8 1)))),(2,(1,(zT 2))),(3,(1,(zT 3))),(4,(1,(zT 500))),(5,(1,(t 3)))]),i 5 (.buildSlice 1 [(.int .i64 0),(.int .u8 0),(.int .i64 0),(.int .i64 0),(.int .i64 0),(.int .i64 0)] [(0,(6,(t 4)))]),mT 2 5]) .ret))
def a22:zAf:=⟨6,[(.tmp 2)],c22⟩
theorem n22:a22.ntmps=6:=id rfl
theorem r22:a22.results=[(.tmp 2)]:=rfl
theorem b22:a22.body=c22:=rfl
def l23_1:zAc:=(.seq (.seq (.ops [mT 15 4,i 16 (.bin .lss (t 15) (zT 16))]) (.cond (t 16) .skip (.exit 0))) (.seq (.block 1 (.seq (.drawn 1 [⟨(some 22),none,(.loadN 6 (t 3)),none,[0]⟩,⟨(some 23),none,(.buildSlice 1 [(.int .i64 0),(.int .i64 0),(.int .i64 0),(.int .u8 0),(.int .i64 0),(.int .i64 0)] [(0,(6,(t 22)))]),(some 0),[]⟩,⟨(some 19),none,(.call .mk (.func 20) []),none,[0]⟩,⟨(some 20),none,(.call .mk (.func 21) []),none,[0]⟩,⟨(some 21),none,(.call .mk (.func 22) [(zT 6000)]),none,[0]⟩,mT 5 19,mT 6 20,mT 7 21,mT 8 23]) (.seq (.drawn 1 [mT 24 5,i 25 (.idxAddrS 4 (t 24) (zT 0)),fT 26 1 25,mT 27 5,i 28 (.idxAddrS 4 (t 27) (zT 0)),fT 29 2 28,mT 30 5,i 31 (.idxAddrS 4 (t 30) (zT 0)),fT 32 3 31,mT 33 6,i 34 (.idxAddrS 7 (t 33) (zT 0)),fT 35 1 34,mT 36 6,i 37 (.idxAddrS 7 (t 36) (zT 0)),fT 38 2 37,mT 39 6,i 40 (.idxAddrS 7 (t 39) (zT 0)),fT 41 3 40,mT 42 6,i 43 (.idxAddrS 7 (t 42) (zT 0)),fT 44 4 43,mT 45 6,i 46 (.idxAddrS 7 (t 45) (zT 0)),fT 47 5 46,mT 48 6,i 49 (.idxAddrS 7 (t 48) (zT 0)),fT 50 6 49,mT 51 7,i 52 (.idxAddrS 6 (t 51) (zT 0)),fT 53 0 52,mT 54 7,i 55 (.idxAddrS 6 (t 54) (zT 0)),fT 56 2 55,mT 57 7,i 58 (.idxAddrS 6 (t 57) (zT 0)),fT 59 4 58,mT 60 7,i 61 (.idxAddrS 6 (t 60) (zT 0)),fT 62 5 61,mT 63 8,i 64 (.idxAddrS 6 (t 63) (zT 0)),fT 65 0 64,mT 66 8,i 67 (.idxAddrS 6 (t 66) (zT 0)),fT 68 2 67,mT 69 8,i 70 (.idxAddrS 6 (t 69) (zT 0)),fT 71 4 70,⟨(some 72),none,(.buildSlice 16 [(.pointer none),(.pointer none),(.pointer none),(.pointer none),(.pointer none),(.pointer none),(.pointer none),(.pointer none),(.pointer none),(.pointer none),(.pointer none),(.pointer none),(.pointer none),(.pointer none),(.pointer none),(.pointer none)] [(0,(1,(t 26))),(1,(1,(t 29))),(2,(1,(t 32))),(3,(1,(t 35))),(4,(1,(t 38))),(5,(1,(t 41))),(6,(1,(t 44))),(7,(1,(t 47))),(8,(1,(t 50))),(9,(1,(t 53))),(10,(1,(t 56))),(11,(1,(t 59))),(12,(1,(t 62))),(13,(1,(t 65))),(14,(1,(t 68))),(15,(1,(t 71)))]),(some 0),[]⟩,mT 9 72]) (.seq (.ops [mT 73 9,mT 74 4,xT 75 1 73 74,lT 76 75,mT 77 0,i 78 (.nilCheck (t 76)),s (.store 1 (t 78) (t 77))]) (.seq (.seq (.ops [mT 79 5,mT 80 6,mT 81 7,mT 82 8,i 83 (.call .any (.func 18) [(t 79),(t 80),(t 81),(t 82)]),i 84 (.un .not (t 83)),mT 85 84,q 86 85 (.mov (t 5)),q 87 85 (.mov (t 0)),q 88 85 (.call .any (.func 13) [(t 86),(k (.int .u8 1)),(zT 2),(zT 3),(t 87)]),q 89 85 (.un .not (t 88)),i 90 (.pick (t 85) (k (.bool true)) (t 89)),mT 91 90,q 92 91 (.mov (t 5)),q 93 91 (.mov (t 0)),q 94 91 (.call .any (.func 13) [(t 92),(k (.int .u8 1)),(t 93),(zT 3),(zT 500)]),q 95 91 (.un .not (t 94)),i 96 (.pick (t 91) (k (.bool true)) (t 95)),mT 97 96,q 98 97 (.mov (t 5)),q 99 97 (.mov (t 0)),q 100 97 (.call .any (.func 13) [(t 98),(k (.int .u8 1)),(zT 2),(t 99),(zT 500)]),q 101 97 (.un .not (t 100)),i 102 (.pick (t 97) (k (.bool true)) (t 101))]) (.cond (t 102) (.seq (.ops [i 2 (.mov (k (.bool false)))]) .ret) .skip)) (.seq (.ops [mT 103 8,i 104 (.idxAddrS 6 (t 103) (zT 0)),fT 105 3 104,s (.store 1 (t 105) (k (.int .u8 2)))]) (.seq (.ops [mT 106 8,mT 107 0,i 108 (.idxAddrS 6 (t 106) (zT 0)),fT 109 5 108,s (.store 1 (t 109) (t 107))]) (.seq (.ops [mT 110 7,i 111 (.idxAddrS 6 (t 110) (zT 0)),fT 112 5 111,s (.store 1 (t 112) (zT (-1)))]) (.seq (.ops [mT 113 5,mT 114 6,mT 115 7,mT 116 8,i 117 (.call .any (.func 18) [(t 113),(t 114),(t 115),(t 116)]),i 118 (.un .not (t 117))]) (.cond (t 118) (.seq (.ops [i 2 (.mov (k (.bool false)))]) .ret) .skip)))))))))) (.ops [mT 17 4,i 18 (.bin .add (t 17) (zT 1)),mT 4 18])))
def c23:zAc:=(.seq (.ops [i 2 (.mov (k (.bool false)))]) (.seq (.ops [i 14 (.build [(.int .i64 0),(.int .i64 0),(.int .i64 0),(.int .u8 0),(.int .i64 0),(.int .i64 0)] [(0,(1,(zT 1))),(1,(1,(zT 9))),(2,(1,(zT 30000))),(3,(1,(k (.int .u8 1)))),(4,(1,(zT 100))),(5,(1,(zT 7)))]),i 3 (.alloc [(.int .i64 0),(.int .i64 0),(.int .i64 0),(.int .u8 0),(.int .i64 0),(.int .i64 0)]),s (.store 6 (t 3) (t 14))]) (.seq (.seq (.ops [i 4 (.mov (zT 0))]) (.block 0 (.loop l23_1))) (.seq (.drawn 1 [⟨(some 122),none,(.loadN 6 (t 3)),none,[0]⟩,⟨(some 123),none,(.buildSlice 1 [(.int .i64 0),(.int .i64 0),(.int .i64 0),(.int .u8 0),(.int .i64 0),(.int .i64 0)] [(0,(6,(t 122)))]),(some 0),[]⟩,⟨(some 119),none,(.call .mk (.func 20) []),none,[0]⟩,⟨(some 120),none,(.call .mk (.func 21) []),none,[0]⟩,⟨(some 121),none,(.call .mk (.func 22) [(zT 6000)]),none,[0]⟩,mT 10 119,mT 11 120,mT 12 121,mT 13 123]) (.seq (.ops [mT 124 10,mT 125 11,mT 126 12,mT 127 13,mT 128 0,i 129 (.conv .u8 (t 128)),mT 130 0,i 131 (.conv .u8 (t 130)),mT 132 0,i 133 (.conv .u8 (t 132)),mT 134 0,i 135 (.conv .u8 (t 134)),i 136 (.idxAddrS 4 (t 124) (zT 0)),fT 137 0 136,s (.store 1 (t 137) (t 129)),i 138 (.idxAddrS 7 (t 125) (zT 0)),fT 139 0 138,s (.store 1 (t 139) (t 131)),i 140 (.idxAddrS 6 (t 126) (zT 0)),fT 141 1 140,s (.store 1 (t 141) (t 133)),i 142 (.idxAddrS 6 (t 127) (zT 0)),fT 143 3 142,s (.store 1 (t 143) (t 135))]) (.seq (.ops [mT 144 13,mT 145 0,i 146 (.idxAddrS 6 (t 144) (zT 0)),fT 147 1 146,s (.store 1 (t 147) (t 145))]) (.seq (.drawn 1 [mT 148 10,⟨(some 149),none,(.call .any (.func 21) []),none,[0]⟩,⟨(some 150),none,(.call .any (.func 22) [(zT 1)]),none,[0]⟩,mT 151 13,i 152 (.sliceS 6 (t 151) none (some (zT 0)) none),⟨(some 153),none,(.call .pure (.func 18) [(t 148),(t 149),(t 150),(t 152)]),none,[0]⟩,mT 154 153,p 156 154 (.mov (t 11)),p 157 154 (.mov (t 12)),⟨(some 158),(some (154,true)),(.loadN 6 (t 3)),none,[0]⟩,⟨(some 159),(some (154,true)),(.buildSlice 1 [(.int .i64 0),(.int .i64 0),(.int .i64 0),(.int .u8 0),(.int .i64 0),(.int .i64 0)] [(0,(6,(t 158)))]),(some 0),[]⟩,⟨(some 155),(some (154,true)),(.call .mk (.func 20) []),none,[0]⟩,p 160 154 (.call .pure (.func 18) [(t 155),(t 156),(t 157),(t 159)]),i 161 (.pick (t 154) (t 160) (k (.bool false))),mT 162 161,p 163 162 (.call .any (.func 20) []),p 164 162 (.call .any (.func 21) []),p 165 162 (.call .any (.func 22) [(zT 1)]),p 166 162 (.mov (t 13)),p 167 162 (.call .pure (.func 18) [(t 163),(t 164),(t 165),(t 166)]),i 168 (.pick (t 162) (t 167) (k (.bool false))),mT 2 168]) .ret)))))))
def a23:zAf:=⟨169,[(.tmp 2)],c23⟩
theorem n23:a23.ntmps=169:=id rfl
theorem r23:a23.results=[(.tmp 2)]:=rfl
theorem b23:a23.body=c23:=rfl
def l24_1:zAc:=(.seq (.ops [i 139 (.bin .lss (t 138) (t 137))]) (.seq (.cond (t 139) .skip (.exit 8)) (.seq (.block 9 (.seq (.ops [xT 140 4 136 138,i 141 (.loadN 4 (t 140)),i 13 (.alloc [(.int .u8 0),(.int .i64 0),(.int .i64 0),(.int .i64 0)]),s (.store 4 (t 13) (t 141))]) (.seq (.ops [i 142 (.loadN 4 (t 11)),i 143 (.loadN 4 (t 13)),i 144 (.buildSlice 2 [(.int .u8 0),(.int .i64 0),(.int .i64 0),(.int .i64 0),(.int .u8 0),(.int .i64 0),(.int .i64 0),(.int .i64 0)] [(0,(4,(t 142))),(4,(4,(t 143)))]),mT 14 144]) (.seq (.ops [mT 145 14,i 146 (.call .any (.func 11) [(t 145)]),mT 147 14,i 148 (.call .any (.func 12) [(t 147)]),i 149 (.eqv true .bool (t 146) (t 148))]) (.cond (t 149) (.seq (.ops [i 0 (.mov (k (.bool false)))]) .ret) .skip))))) (.ops [i 150 (.bin .add (t 138) (zT 1)),mT 138 150]))))
def l24_2:zAc:=(.seq (.seq (.ops [mT 46 10,mT 47 6,i 48 (.bin .lss (t 46) (t 47))]) (.cond (t 48) .skip (.exit 6))) (.seq (.block 7 (.seq (.ops [mT 51 7,mT 52 10,i 53 (.bin .quo (t 52) (zT 1000)),i 54 (.bin .add (zT 1) (t 53)),i 55 (.conv .u8 (t 54)),mT 56 10,i 57 (.bin .quo (t 56) (zT 30)),i 58 (.bin .add (zT 1) (t 57)),mT 59 10,i 60 (.bin .rem (t 59) (zT 30)),i 61 (.bin .add (zT 1) (t 60)),i 62 (.build [(.int .u8 0),(.int .i64 0),(.int .i64 0),(.int .i64 0)] [(0,(1,(t 55))),(1,(1,(t 58))),(2,(1,(t 61)))]),i 63 (.buildSlice 1 [(.int .u8 0),(.int .i64 0),(.int .i64 0),(.int .i64 0)] [(0,(4,(t 62)))]),i 64 (.append 4 32 false (t 51) (t 63)),mT 7 64]) (.seq (.ops [mT 65 8,mT 66 6,mT 67 10,i 68 (.bin .sub (t 66) (t 67)),i 69 (.build [(.int .i64 0),(.int .u8 0),(.int .i64 0),(.int .i64 0),(.int .i64 0),(.int .i64 0)] [(0,(1,(t 68))),(1,(1,(k (.int .u8 1)))),(2,(1,(zT 1))),(3,(1,(zT 1))),(5,(1,(zT (-1))))]),i 70 (.buildSlice 1 [(.int .i64 0),(.int .u8 0),(.int .i64 0),(.int .i64 0),(.int .i64 0),(.int .i64 0)] [(0,(6,(t 69)))]),i 71 (.append 6 48 false (t 65) (t 70)),mT 8 71]) (.ops [mT 72 9,mT 73 6,mT 74 10,i 75 (.bin .sub (t 73) (t 74)),i 76 (.build [(.int .i64 0),(.int .i64 0),(.int .i64 0),(.int .u8 0),(.int .i64 0),(.int .i64 0)] [(0,(1,(t 75))),(1,(1,(zT 1))),(3,(1,(k (.int .u8 1))))]),i 77 (.buildSlice 1 [(.int .i64 0),(.int .i64 0),(.int .i64 0),(.int .u8 0),(.int .i64 0),(.int .i64 0)] [(0,(6,(t 76)))]),i 78 (.append 6 48 false (t 72) (t 77)),mT 9 78])))) (.ops [mT 49 10,i 50 (.bin .add (t 49) (zT 1)),mT 10 50])))
def l24_3:zAc:=(.seq (.ops [i 43 (.bin .lss (t 42) (t 41))]) (.seq (.cond (t 43) .skip (.exit 4)) (.seq (.block 5 (.seq (.ops [xT 44 1 40 42,lT 45 44,mT 6 45]) (.seq (.ops [i 7 (.mov (k (.slice none 0 0)))]) (.seq (.ops [i 8 (.mov (k (.slice none 0 0)))]) (.seq (.ops [i 9 (.mov (k (.slice none 0 0)))]) (.seq (.seq (.ops [i 10 (.mov (zT 0))]) (.block 6 (.loop l24_2))) (.seq (.seq (.ops [mT 79 7,i 80 (.call .any (.func 11) [(t 79)]),mT 81 7,i 82 (.call .any (.func 12) [(t 81)]),i 83 (.eqv true .bool (t 80) (t 82)),mT 84 83,q 85 84 (.mov (t 8)),q 86 84 (.call .any (.func 27) [(t 85)]),q 87 84 (.mov (t 8)),q 88 84 (.call .any (.func 43) [(t 87)]),q 89 84 (.eqv true .bool (t 86) (t 88)),i 90 (.pick (t 84) (k (.bool true)) (t 89)),mT 91 90,q 92 91 (.mov (t 9)),q 93 91 (.call .any (.func 28) [(t 92)]),q 94 91 (.mov (t 9)),q 95 91 (.call .any (.func 45) [(t 94)]),q 96 91 (.call .any (.func 44) [(t 95)]),q 97 91 (.eqv true .bool (t 93) (t 96)),i 98 (.pick (t 91) (k (.bool true)) (t 97))]) (.cond (t 98) (.seq (.ops [i 0 (.mov (k (.bool false)))]) .ret) .skip)) (.seq (.ops [mT 99 8,mT 100 6,i 101 (.bin .sub (t 100) (zT 1)),mT 102 9,mT 103 6,i 104 (.bin .sub (t 103) (zT 1)),mT 105 7,mT 106 6,i 107 (.bin .sub (t 106) (zT 1)),mT 108 7,mT 109 6,i 110 (.bin .sub (t 109) (zT 2)),xT 111 4 108 110,i 112 (.loadN 4 (t 111)),xT 113 6 99 101,fT 114 0 113,s (.store 1 (t 114) (zT 2)),xT 115 6 102 104,fT 116 0 115,s (.store 1 (t 116) (zT 2)),xT 117 4 105 107,s (.store 4 (t 117) (t 112))]) (.seq (.ops [mT 118 7,i 119 (.call .any (.func 11) [(t 118)]),mT 120 119,q 121 120 (.mov (t 8)),q 122 120 (.call .any (.func 27) [(t 121)]),i 123 (.pick (t 120) (k (.bool true)) (t 122)),mT 124 123,q 125 124 (.mov (t 9)),q 126 124 (.call .any (.func 28) [(t 125)]),i 127 (.pick (t 124) (k (.bool true)) (t 126))]) (.cond (t 127) (.seq (.ops [i 0 (.mov (k (.bool false)))]) .ret) .skip)))))))))) (.ops [i 128 (.bin .add (t 42) (zT 1)),mT 42 128]))))
def l24_4:zAc:=(.seq (.seq (.ops [mT 21 4,mT 22 2,i 23 (.bin .lss (t 21) (t 22))]) (.cond (t 23) .skip (.exit 2))) (.seq (.block 3 (.ops [mT 26 3,mT 27 4,i 28 (.bin .add (t 27) (zT 1)),i 29 (.conv .u8 (t 28)),i 30 (.build [(.int .u8 0),(.int .i64 0),(.int .i64 0),(.int .i64 0),(.int .i64 0),(.int .i64 0),(.int .i64 0)] [(0,(1,(t 29)))]),i 31 (.buildSlice 1 [(.int .u8 0),(.int .i64 0),(.int .i64 0),(.int .i64 0),(.int .i64 0),(.int .i64 0),(.int .i64 0)] [(0,(7,(t 30)))]),i 32 (.append 7 56 false (t 26) (t 31)),mT 3 32])) (.ops [mT 24 4,i 25 (.bin .add (t 24) (zT 1)),mT 4 25])))
def l24_5:zAc:=(.seq (.ops [i 18 (.bin .lss (t 17) (t 16))]) (.seq (.cond (t 18) .skip (.exit 0)) (.seq (.block 1 (.seq (.ops [xT 19 1 15 17,lT 20 19,mT 2 20]) (.seq (.ops [i 3 (.mov (k (.slice none 0 0)))]) (.seq (.seq (.ops [i 4 (.mov (zT 0))]) (.block 2 (.loop l24_4))) (.seq (.ops [mT 33 3,i 34 (.call .any (.func 26) [(t 33)]),mT 35 3,i 36 (.call .any (.func 42) [(t 35)]),i 37 (.call .any (.func 41) [(t 36)]),i 38 (.eqv true .bool (t 34) (t 37))]) (.cond (t 38) (.seq (.ops [i 0 (.mov (k (.bool false)))]) .ret) .skip)))))) (.ops [i 39 (.bin .add (t 17) (zT 1)),mT 17 39]))))
def c24:zAc:=(.seq (.ops [i 0 (.mov (k (.bool false)))]) (.seq (.seq (.ops [i 15 (.buildSlice 5 [(.int .i64 0),(.int .i64 0),(.int .i64 0),(.int .i64 0),(.int .i64 0)] [(0,(1,(zT 199))),(1,(1,(zT 200))),(2,(1,(zT 201))),(3,(1,(zT 254))),(4,(1,(zT 255)))]),i 16 (.lenSlice (t 15)),i 17 (.mov (zT 0))]) (.block 0 (.loop l24_5))) (.seq (.seq (.ops [i 40 (.buildSlice 6 [(.int .i64 0),(.int .i64 0),(.int .i64 0),(.int .i64 0),(.int .i64 0),(.int .i64 0)] [(0,(1,(zT 499))),(1,(1,(zT 500))),(2,(1,(zT 501))),(3,(1,(zT 1999))),(4,(1,(zT 2000))),(5,(1,(zT 2001)))]),i 41 (.lenSlice (t 40)),i 42 (.mov (zT 0))]) (.block 4 (.loop l24_3))) (.seq (.ops [i 129 (.build [(.int .u8 0),(.int .i64 0),(.int .i64 0),(.int .i64 0)] [(0,(1,(k (.int .u8 1)))),(1,(1,(zT 2))),(2,(1,(zT 3)))]),i 11 (.alloc [(.int .u8 0),(.int .i64 0),(.int .i64 0),(.int .i64 0)]),s (.store 4 (t 11) (t 129))]) (.seq (.seq (.ops [i 130 (.build [(.int .u8 0),(.int .i64 0),(.int .i64 0),(.int .i64 0)] [(0,(1,(k (.int .u8 1)))),(1,(1,(zT 2))),(2,(1,(zT 3)))]),i 131 (.build [(.int .u8 0),(.int .i64 0),(.int .i64 0),(.int .i64 0)] [(0,(1,(k (.int .u8 1)))),(1,(1,(zT 2))),(2,(1,(zT 4)))]),i 132 (.build [(.int .u8 0),(.int .i64 0),(.int .i64 0),(.int .i64 0)] [(0,(1,(k (.int .u8 1)))),(1,(1,(zT 2))),(2,(1,(zT 2)))]),i 133 (.build [(.int .u8 0),(.int .i64 0),(.int .i64 0),(.int .i64 0)] [(0,(1,(k (.int .u8 1)))),(1,(1,(zT 3))),(2,(1,(zT 1)))]),i 134 (.build [(.int .u8 0),(.int .i64 0),(.int .i64 0),(.int .i64 0)] [(0,(1,(k (.int .u8 1)))),(1,(1,(zT 1))),(2,(1,(zT 9)))]),i 135 (.build [(.int .u8 0),(.int .i64 0),(.int .i64 0),(.int .i64 0)] [(0,(1,(k (.int .u8 2)))),(1,(1,(zT 1))),(2,(1,(zT 1)))]),i 136 (.buildSlice 6 [(.int .u8 0),(.int .i64 0),(.int .i64 0),(.int .i64 0),(.int .u8 0),(.int .i64 0),(.int .i64 0),(.int .i64 0),(.int .u8 0),(.int .i64 0),(.int .i64 0),(.int .i64 0),(.int .u8 0),(.int .i64 0),(.int .i64 0),(.int .i64 0),(.int .u8 0),(.int .i64 0),(.int .i64 0),(.int .i64 0),(.int .u8 0),(.int .i64 0),(.int .i64 0),(.int .i64 0)] [(0,(4,(t 130))),(4,(4,(t 131))),(8,(4,(t 132))),(12,(4,(t 133))),(16,(4,(t 134))),(20,(4,(t 135)))]),i 137 (.lenSlice (t 136)),i 138 (.mov (zT 0))]) (.block 8 (.loop l24_1))) (.seq (.ops [i 0 (.mov (k (.bool true)))]) .ret))))))
def a24:zAf:=⟨151,[(.tmp 0)],c24⟩
theorem n24:a24.ntmps=151:=id rfl
theorem r24:a24.results=[(.tmp 0)]:=rfl
theorem b24:a24.body=c24:=rfl
def l25_1:zAc:=(.seq (.ops [i 36 (.bin .lss (t 35) (t 34))]) (.seq (.cond (t 36) .skip (.exit 0)) (.seq (.block 1 (.seq (.ops [xT 37 6 33 35,i 38 (.loadN 6 (t 37)),i 15 (.alloc [(.int .i64 0),(.int .i64 0),(.int .i64 0),(.int .u8 0),(.int .i64 0),(.int .i64 0)]),s (.store 6 (t 15) (t 38))]) (.seq (.ops [mT 39 0,mT 40 1,mT 41 2,i 42 (.loadN 6 (t 15)),i 43 (.call .any (.func 38) [(t 39),(t 40),(t 41),(t 42)]),i 44 (.call .any (.func 39) [(t 43)]),i 16 (.alloc [(.int .i64 0),(.int .i64 0),(.int .u8 0)]),s (.store 3 (t 16) (t 44))]) (.seq (.seq (.ops [fT 45 2 16,lT 46 45,i 47 (.bin .neq (t 46) (k (.int .u8 1))),mT 48 47,p 49 48 (.mov (t 12)),p 50 48 (.fieldAddr 1 (t 15)),p 51 48 (.load1 (t 50)),p 52 48 (.lookup (.int .i64) (.bool false) false (t 49) (t 51)),i 53 (.pick (t 48) (t 52) (k (.bool false)))]) (.cond (t 53) (.ops [fT 54 0 15,lT 55 54,i 56 (.build [(.int .i64 0),(.int .i64 0),(.int .u8 0)] [(0,(1,(t 55))),(2,(1,(k (.int .u8 7))))]),s (.store 3 (t 16) (t 56))]) .skip)) (.seq (.seq (.ops [fT 57 2 16,lT 58 57,i 59 (.bin .eql (t 58) (k (.int .u8 6)))]) (.cond (t 59) (.ops [mT 60 12,fT 61 1 15,lT 62 61,s (.mapUpdate (.int .i64) (t 60) (t 62) (k (.bool true)))]) .skip)) (.ops [mT 63 13,i 64 (.loadN 3 (t 16)),i 65 (.buildSlice 1 [(.int .i64 0),(.int .i64 0),(.int .u8 0)] [(0,(3,(t 64)))]),i 66 (.append 3 24 false (t 63) (t 65)),mT 13 66])))))) (.ops [i 67 (.bin .add (t 35) (zT 1)),mT 35 67]))))
def c25:zAc:=(.seq (.ops [i 8 (.mov (k (.slice none 0 0))),i 9 (.mov (zT 0))]) (.seq (.seq (.ops [mT 17 0,mT 18 1,mT 19 2,mT 20 3,i 21 (.call .any (.func 37) [(t 17),(t 18),(t 19),(t 20)]),mT 10 21]) (.seq (.ops [mT 22 10,i 23 (.bin .neq (t 22) (zT 0))]) (.cond (t 23) (.seq (.ops [mT 24 10,i 8 (.mov (k (.slice none 0 0))),mT 9 24]) .ret) .skip))) (.seq (.ops [mT 25 3,i 26 (.call .any (.func 49) [(t 25)]),mT 11 26]) (.seq (.ops [mT 27 11,i 28 (.call .any (.func 50) [(t 27),(.func 51)])]) (.seq (.ops [i 29 (.makeMap none),mT 12 29]) (.seq (.ops [mT 30 11,i 31 (.lenSlice (t 30)),i 32 (.makeSlice 3 24 [(.int .i64 0),(.int .i64 0),(.int .u8 0)] (zT 0) (t 31)),mT 13 32]) (.seq (.seq (.ops [mT 33 11,i 34 (.lenSlice (t 33)),i 35 (.mov (zT 0))]) (.block 0 (.loop l25_1))) (.seq (.ops [mT 68 13,mT 8 68,i 9 (.mov (zT 0))]) .ret))))))))
def a25:zAf:=⟨69,[(.tmp 8),(.tmp 9)],c25⟩
theorem n25:a25.ntmps=69:=id rfl
theorem r25:a25.results=[(.tmp 8),(.tmp 9)]:=rfl
theorem b25:a25.body=c25:=rfl
def l26_1:zAc:=(.seq (.ops [i 11 (.bin .lss (t 10) (t 9))]) (.seq (.cond (t 11) .skip (.exit 0)) (.seq (.block 1 (.seq (.ops [mT 12 10,xT 13 7 8 10,i 14 (.loadN 7 (t 13)),i 4 (.alloc [(.int .u8 0),(.int .i64 0),(.int .i64 0),(.int .i64 0),(.int .i64 0),(.int .i64 0),(.int .i64 0)]),mT 3 12,s (.store 7 (t 4) (t 14))]) (.seq (.seq (.drawn 0 [fT 15 0 4,lT 16 15,i 17 (.bin .lss (t 16) (k (.int .u8 1))),mT 18 17,q 19 18 (.mov (t 3)),q 20 18 (.bin .gtr (t 19) (zT 0)),q 21 18 (.mov (t 20)),p 22 21 (.fieldAddr 0 (t 4)),p 23 21 (.load1 (t 22)),p 24 21 (.mov (t 0)),p 25 21 (.mov (t 3)),p 26 21 (.bin .sub (t 25) (zT 1)),p 27 21 (.idxAddrS 7 (t 24) (t 26)),p 28 21 (.fieldAddr 0 (t 27)),p 29 21 (.load1 (t 28)),p 30 21 (.bin .leq (t 23) (t 29)),q 31 18 (.pick (t 21) (t 30) (k (.bool false))),i 32 (.pick (t 18) (k (.bool true)) (t 31))]) (.cond (t 32) (.seq (.ops [i 2 (.mov (k (.bool false)))]) .ret) .skip)) (.seq (.ops [fT 33 1 4,lT 34 33,i 35 (.build [(.int .i64 0),(.int .i64 0),(.int .i64 0)] [(0,(1,(t 34))),(1,(1,(zT 0))),(2,(1,(zT 100000)))]),fT 36 2 4,lT 37 36,i 38 (.build [(.int .i64 0),(.int .i64 0),(.int .i64 0)] [(0,(1,(t 37))),(1,(1,(zT 0))),(2,(1,(zT 10000)))]),fT 39 3 4,lT 40 39,i 41 (.build [(.int .i64 0),(.int .i64 0),(.int .i64 0)] [(0,(1,(t 40))),(1,(1,(zT 0))),(2,(1,(zT 10000)))]),fT 42 4 4,lT 43 42,i 44 (.build [(.int .i64 0),(.int .i64 0),(.int .i64 0)] [(0,(1,(t 43))),(1,(1,(zT 0))),(2,(1,(zT 1000000)))]),fT 45 5 4,lT 46 45,i 47 (.build [(.int .i64 0),(.int .i64 0),(.int .i64 0)] [(0,(1,(t 46))),(1,(1,(zT 0))),(2,(1,(zT 250000000000000)))]),fT 48 6 4,lT 49 48,i 50 (.build [(.int .i64 0),(.int .i64 0),(.int .i64 0)] [(0,(1,(t 49))),(1,(1,(zT 0))),(2,(1,(zT 3650)))]),i 51 (.buildSlice 6 [(.int .i64 0),(.int .i64 0),(.int .i64 0),(.int .i64 0),(.int .i64 0),(.int .i64 0),(.int .i64 0),(.int .i64 0),(.int .i64 0),(.int .i64 0),(.int .i64 0),(.int .i64 0),(.int .i64 0),(.int .i64 0),(.int .i64 0),(.int .i64 0),(.int .i64 0),(.int .i64 0)] [(0,(3,(t 35))),(3,(3,(t 38))),(6,(3,(t 41))),(9,(3,(t 44))),(12,(3,(t 47))),(15,(3,(t 50)))]),i 52 (.call .any (.func 31) [(t 51)]),i 53 (.un .not (t 52))]) (.cond (t 53) (.seq (.ops [i 2 (.mov (k (.bool false)))]) .ret) .skip))))) (.ops [i 54 (.bin .add (t 10) (zT 1)),mT 10 54]))))
def c26:zAc:=(.seq (.ops [i 2 (.mov (k (.bool false)))]) (.seq (.seq (.ops [mT 5 0,i 6 (.lenSlice (t 5)),i 7 (.bin .gtr (t 6) (zT 200))]) (.cond (t 7) (.seq (.ops [i 2 (.mov (k (.bool false)))]) .ret) .skip)) (.seq (.seq (.ops [mT 8 0,i 9 (.lenSlice (t 8)),i 10 (.mov (zT 0))]) (.block 0 (.loop l26_1))) (.seq (.ops [i 2 (.mov (k (.bool true)))]) .ret))))
def a26:zAf:=⟨55,[(.tmp 2)],c26⟩
theorem n26:a26.ntmps=55:=id rfl
theorem r26:a26.results=[(.tmp 2)]:=rfl
theorem b26:a26.body=c26:=rfl
def l27_1:zAc:=(.seq (.ops [i 15 (.bin .lss (t 14) (t 13))]) (.seq (.cond (t 15) .skip (.exit 0)) (.seq (.block 1 (.seq (.ops [xT 16 6 12 14,i 17 (.loadN 6 (t 16)),i 5 (.alloc [(.int .i64 0),(.int .u8 0),(.int .i64 0),(.int .i64 0),(.int .i64 0),(.int .i64 0)]),s (.store 6 (t 5) (t 17))]) (.seq (.seq (.ops [fT 18 1 5,lT 19 18,i 20 (.bin .lss (t 19) (k (.int .u8 1))),mT 21 20,q 22 21 (.mov (t 3)),q 23 21 (.fieldAddr 0 (t 5)),q 24 21 (.load1 (t 23)),q 25 21 (.lookup (.int .i64) (.bool false) false (t 22) (t 24)),i 26 (.pick (t 21) (k (.bool true)) (t 25))]) (.cond (t 26) (.seq (.ops [i 2 (.mov (k (.bool false)))]) .ret) .skip)) (.seq (.seq (.drawn 1 [fT 27 0 5,⟨(some 28),none,(.load1 (t 27)),none,[0]⟩,⟨(some 29),none,(.call .pure (.func 32) [(t 28)]),none,[0]⟩,fT 30 2 5,⟨(some 31),none,(.load1 (t 30)),none,[0]⟩,⟨(some 32),none,(.call .pure (.func 32) [(t 31)]),none,[0]⟩,fT 33 3 5,⟨(some 34),none,(.load1 (t 33)),none,[0]⟩,⟨(some 35),none,(.call .pure (.func 32) [(t 34)]),none,[0]⟩,fT 36 4 5,⟨(some 37),none,(.load1 (t 36)),none,[0]⟩,i 38 (.build [(.int .i64 0),(.int .i64 0),(.int .i64 0)] [(0,(1,(t 37))),(1,(1,(zT 0))),(2,(1,(zT 1051898399)))]),⟨(some 39),none,(.buildSlice 4 [(.int .i64 0),(.int .i64 0),(.int .i64 0),(.int .i64 0),(.int .i64 0),(.int .i64 0),(.int .i64 0),(.int .i64 0),(.int .i64 0),(.int .i64 0),(.int .i64 0),(.int .i64 0)] [(0,(3,(t 29))),(3,(3,(t 32))),(6,(3,(t 35))),(9,(3,(t 38)))]),(some 0),[]⟩,i 40 (.call .pure (.func 31) [(t 39)]),i 41 (.un .not (t 40))]) (.cond (t 41) (.seq (.ops [i 2 (.mov (k (.bool false)))]) .ret) .skip)) (.seq (.seq (.ops [fT 42 5 5,lT 43 42,i 44 (.bin .neq (t 43) (zT (-1))),mT 45 44,p 46 45 (.fieldAddr 5 (t 5)),p 47 45 (.load1 (t 46)),p 48 45 (.fieldAddr 4 (t 5)),p 49 45 (.load1 (t 48)),p 50 45 (.build [(.int .i64 0),(.int .i64 0),(.int .i64 0)] [(0,(1,(t 47))),(1,(1,(t 49))),(2,(1,(zT 1051898399)))]),p 51 45 (.buildSlice 1 [(.int .i64 0),(.int .i64 0),(.int .i64 0)] [(0,(3,(t 50)))]),p 52 45 (.call .any (.func 31) [(t 51)]),p 53 45 (.un .not (t 52)),i 54 (.pick (t 45) (t 53) (k (.bool false)))]) (.cond (t 54) (.seq (.ops [i 2 (.mov (k (.bool false)))]) .ret) .skip)) (.ops [mT 55 3,fT 56 0 5,lT 57 56,s (.mapUpdate (.int .i64) (t 55) (t 57) (k (.bool true)))])))))) (.ops [i 58 (.bin .add (t 14) (zT 1)),mT 14 58]))))
def c27:zAc:=(.seq (.ops [i 2 (.mov (k (.bool false)))]) (.seq (.seq (.ops [mT 6 0,i 7 (.lenSlice (t 6)),i 8 (.bin .gtr (t 7) (zT 2000))]) (.cond (t 8) (.seq (.ops [i 2 (.mov (k (.bool false)))]) .ret) .skip)) (.seq (.ops [mT 9 0,i 10 (.lenSlice (t 9)),i 11 (.makeMap (some (t 10))),mT 3 11]) (.seq (.seq (.ops [mT 12 0,i 13 (.lenSlice (t 12)),i 14 (.mov (zT 0))]) (.block 0 (.loop l27_1))) (.seq (.ops [i 2 (.mov (k (.bool true)))]) .ret)))))
def a27:zAf:=⟨59,[(.tmp 2)],c27⟩
theorem n27:a27.ntmps=59:=id rfl
theorem r27:a27.results=[(.tmp 2)]:=rfl
theorem b27:a27.body=c27:=rfl
def l28_1:zAc:=(.seq (.ops [i 15 (.bin .lss (t 14) (t 13))]) (.seq (.cond (t 15) .skip (.exit 0)) (.seq (.block 1 (.seq (.ops [xT 16 6 12 14,i 17 (.loadN 6 (t 16)),i 5 (.alloc [(.int .i64 0),(.int .i64 0),(.int .i64 0),(.int .u8 0),(.int .i64 0),(.int .i64 0)]),s (.store 6 (t 5) (t 17))]) (.seq (.seq (.ops [fT 18 3 5,lT 19 18,i 20 (.bin .neq (t 19) (k (.int .u8 1))),mT 21 20,p 22 21 (.fieldAddr 3 (t 5)),p 23 21 (.load1 (t 22)),p 24 21 (.bin .neq (t 23) (k (.int .u8 2))),i 25 (.pick (t 21) (t 24) (k (.bool false))),mT 26 25,q 27 26 (.mov (t 3)),q 28 26 (.fieldAddr 0 (t 5)),q 29 26 (.load1 (t 28)),q 30 26 (.lookup (.int .i64) (.bool false) false (t 27) (t 29)),i 31 (.pick (t 26) (k (.bool true)) (t 30))]) (.cond (t 31) (.seq (.ops [i 2 (.mov (k (.bool false)))]) .ret) .skip)) (.seq (.seq (.drawn 1 [fT 32 0 5,⟨(some 33),none,(.load1 (t 32)),none,[0]⟩,⟨(some 34),none,(.call .pure (.func 32) [(t 33)]),none,[0]⟩,fT 35 1 5,⟨(some 36),none,(.load1 (t 35)),none,[0]⟩,⟨(some 37),none,(.call .pure (.func 32) [(t 36)]),none,[0]⟩,fT 38 2 5,⟨(some 39),none,(.load1 (t 38)),none,[0]⟩,i 40 (.build [(.int .i64 0),(.int .i64 0),(.int .i64 0)] [(0,(1,(t 39))),(1,(1,(zT 0))),(2,(1,(zT 1051898399)))]),fT 41 4 5,⟨(some 42),none,(.load1 (t 41)),none,[0]⟩,i 43 (.build [(.int .i64 0),(.int .i64 0),(.int .i64 0)] [(0,(1,(t 42))),(1,(1,(zT 0))),(2,(1,(zT 250000000000000)))]),fT 44 5 5,⟨(some 45),none,(.load1 (t 44)),none,[0]⟩,i 46 (.build [(.int .i64 0),(.int .i64 0),(.int .i64 0)] [(0,(1,(t 45))),(1,(1,(zT 0))),(2,(1,(zT 250000000000000)))]),⟨(some 47),none,(.buildSlice 5 [(.int .i64 0),(.int .i64 0),(.int .i64 0),(.int .i64 0),(.int .i64 0),(.int .i64 0),(.int .i64 0),(.int .i64 0),(.int .i64 0),(.int .i64 0),(.int .i64 0),(.int .i64 0),(.int .i64 0),(.int .i64 0),(.int .i64 0)] [(0,(3,(t 34))),(3,(3,(t 37))),(6,(3,(t 40))),(9,(3,(t 43))),(12,(3,(t 46)))]),(some 0),[]⟩,i 48 (.call .pure (.func 31) [(t 47)]),i 49 (.un .not (t 48))]) (.cond (t 49) (.seq (.ops [i 2 (.mov (k (.bool false)))]) .ret) .skip)) (.ops [mT 50 3,fT 51 0 5,lT 52 51,s (.mapUpdate (.int .i64) (t 50) (t 52) (k (.bool true)))]))))) (.ops [i 53 (.bin .add (t 14) (zT 1)),mT 14 53]))))
def c28:zAc:=(.seq (.ops [i 2 (.mov (k (.bool false)))]) (.seq (.seq (.ops [mT 6 0,i 7 (.lenSlice (t 6)),i 8 (.bin .gtr (t 7) (zT 500))]) (.cond (t 8) (.seq (.ops [i 2 (.mov (k (.bool false)))]) .ret) .skip)) (.seq (.ops [mT 9 0,i 10 (.lenSlice (t 9)),i 11 (.makeMap (some (t 10))),mT 3 11]) (.seq (.seq (.ops [mT 12 0,i 13 (.lenSlice (t 12)),i 14 (.mov (zT 0))]) (.block 0 (.loop l28_1))) (.seq (.ops [i 2 (.mov (k (.bool true)))]) .ret)))))
def a28:zAf:=⟨54,[(.tmp 2)],c28⟩
theorem n28:a28.ntmps=54:=id rfl
theorem r28:a28.results=[(.tmp 2)]:=rfl
theorem b28:a28.body=c28:=rfl
def l31_1:zAc:=(.seq (.ops [i 8 (.bin .lss (t 7) (t 6))]) (.seq (.cond (t 8) .skip (.exit 0)) (.seq (.block 1 (.seq (.ops [xT 9 3 5 7,i 10 (.loadN 3 (t 9)),i 4 (.alloc [(.int .i64 0),(.int .i64 0),(.int .i64 0)]),s (.store 3 (t 4) (t 10))]) (.seq (.ops [fT 11 0 4,lT 12 11,fT 13 1 4,lT 14 13,i 15 (.bin .lss (t 12) (t 14)),mT 16 15,q 17 16 (.fieldAddr 0 (t 4)),q 18 16 (.load1 (t 17)),q 19 16 (.fieldAddr 2 (t 4)),q 20 16 (.load1 (t 19)),q 21 16 (.bin .gtr (t 18) (t 20)),i 22 (.pick (t 16) (k (.bool true)) (t 21))]) (.cond (t 22) (.seq (.ops [i 2 (.mov (k (.bool false)))]) .ret) .skip)))) (.ops [i 23 (.bin .add (t 7) (zT 1)),mT 7 23]))))
def c31:zAc:=(.seq (.ops [i 2 (.mov (k (.bool false)))]) (.seq (.seq (.ops [mT 5 0,i 6 (.lenSlice (t 5)),i 7 (.mov (zT 0))]) (.block 0 (.loop l31_1))) (.seq (.ops [i 2 (.mov (k (.bool true)))]) .ret)))
def a31:zAf:=⟨24,[(.tmp 2)],c31⟩
theorem n31:a31.ntmps=24:=id rfl
theorem r31:a31.results=[(.tmp 2)]:=rfl
theorem b31:a31.body=c31:=rfl
def c32:zAc:=(.seq (.ops [i 2 (.alloc [(.int .i64 0),(.int .i64 0),(.int .i64 0)])]) (.seq (.ops [mT 3 0,i 4 (.build [(.int .i64 0),(.int .i64 0),(.int .i64 0)] [(0,(1,(t 3))),(1,(1,(zT 1))),(2,(1,(zT 999999)))]),s (.store 3 (t 2) (t 4))]) .ret))
def a32:zAf:=⟨5,[(.cellN 3 2)],c32⟩
theorem n32:a32.ntmps=5:=id rfl
theorem r32:a32.results=[(.cellN 3 2)]:=rfl
theorem b32:a32.body=c32:=rfl
def c33:zAc:=(.seq (.ops [i 2 (.box (t 0)),i 3 (.box (t 1)),i 4 (.mov (zT 0))]) (.seq (.drawn 1 [fT 5 0 2,⟨(some 6),none,(.load1 (t 5)),none,[0]⟩,fT 7 0 3,⟨(some 8),none,(.load1 (t 7)),none,[0]⟩,⟨(some 9),none,(.call .pure (.func 54) [(t 6),(t 8)]),none,[0]⟩,fT 10 1 2,⟨(some 11),none,(.load1 (t 10)),none,[0]⟩,fT 12 1 3,⟨(some 13),none,(.load1 (t 12)),none,[0]⟩,⟨(some 14),none,(.call .pure (.func 53) [(t 11),(t 13)]),none,[0]⟩,fT 15 2 2,⟨(some 16),none,(.load1 (t 15)),none,[0]⟩,fT 17 2 3,⟨(some 18),none,(.load1 (t 17)),none,[0]⟩,⟨(some 19),none,(.call .pure (.func 53) [(t 16),(t 18)]),none,[0]⟩,⟨(some 20),none,(.buildSlice 3 [(.int .i64 0),(.int .i64 0),(.int .i64 0)] [(0,(1,(t 9))),(1,(1,(t 14))),(2,(1,(t 19)))]),(some 0),[]⟩,i 21 (.call .pure (.func 52) [(t 20)]),mT 4 21]) .ret))
def a33:zAf:=⟨22,[(.tmp 4)],c33⟩
theorem n33:a33.ntmps=22:=id rfl
theorem r33:a33.results=[(.tmp 4)]:=rfl
theorem b33:a33.body=c33:=rfl
def c34:zAc:=(.seq (.ops [i 6 (.mov (k (.bool false)))]) (.seq (.ops [mT 7 0,mT 8 1,i 9 (.bin .geq (t 7) (t 8)),mT 10 9,p 11 10 (.mov (t 0)),p 12 10 (.mov (t 2)),p 13 10 (.bin .leq (t 11) (t 12)),i 14 (.pick (t 10) (t 13) (k (.bool false))),mT 6 14]) .ret))
def a34:zAf:=⟨15,[(.tmp 6)],c34⟩
theorem n34:a34.ntmps=15:=id rfl
theorem r34:a34.results=[(.tmp 6)]:=rfl
theorem b34:a34.body=c34:=rfl
def c35:zAc:=(.seq (.ops [i 2 (.box (t 0)),i 3 (.box (t 1)),i 4 (.mov (k (.bool false)))]) (.seq (.seq (.ops [fT 5 0 2,lT 6 5,fT 7 0 3,lT 8 7,i 9 (.bin .neq (t 6) (t 8))]) (.cond (t 9) (.seq (.ops [fT 10 0 2,lT 11 10,fT 12 0 3,lT 13 12,i 14 (.bin .lss (t 11) (t 13)),mT 4 14]) .ret) .skip)) (.seq (.seq (.ops [fT 15 1 2,lT 16 15,fT 17 1 3,lT 18 17,i 19 (.bin .neq (t 16) (t 18))]) (.cond (t 19) (.seq (.ops [fT 20 1 2,lT 21 20,fT 22 1 3,lT 23 22,i 24 (.bin .lss (t 21) (t 23)),mT 4 24]) .ret) .skip)) (.seq (.ops [fT 25 2 2,lT 26 25,fT 27 2 3,lT 28 27,i 29 (.bin .lss (t 26) (t 28)),mT 4 29]) .ret))))
def a35:zAf:=⟨30,[(.tmp 4)],c35⟩
theorem n35:a35.ntmps=30:=id rfl
theorem r35:a35.results=[(.tmp 4)]:=rfl
theorem b35:a35.body=c35:=rfl
def l36_1:zAc:=(.seq (.seq (.ops [mT 21 12,mT 22 0,i 23 (.lenSlice (t 22)),i 24 (.bin .lss (t 21) (t 23))]) (.cond (t 24) .skip (.exit 0))) (.seq (.block 1 (.seq (.seq (.ops [mT 27 0,mT 28 12,xT 29 4 27 28,fT 30 0 29,lT 31 30,mT 32 1,i 33 (.bin .neq (t 31) (t 32)),mT 34 33,q 35 34 (.mov (t 0)),q 36 34 (.mov (t 12)),q 37 34 (.idxAddrS 4 (t 35) (t 36)),q 38 34 (.fieldAddr 1 (t 37)),q 39 34 (.load1 (t 38)),q 40 34 (.mov (t 2)),q 41 34 (.bin .neq (t 39) (t 40)),i 42 (.pick (t 34) (k (.bool true)) (t 41)),mT 43 42,q 44 43 (.mov (t 0)),q 45 43 (.mov (t 12)),q 46 43 (.idxAddrS 4 (t 44) (t 45)),q 47 43 (.fieldAddr 2 (t 46)),q 48 43 (.load1 (t 47)),q 49 43 (.mov (t 3)),q 50 43 (.bin .neq (t 48) (t 49)),i 51 (.pick (t 43) (k (.bool true)) (t 50))]) (.cond (t 51) (.exit 1) .skip)) (.seq (.seq (.ops [mT 52 4,i 53 (.bin .gtr (t 52) (zT 1051898399)),mT 54 53,q 55 54 (.mov (t 4)),q 56 54 (.mov (t 0)),q 57 54 (.mov (t 12)),q 58 54 (.idxAddrS 4 (t 56) (t 57)),q 59 54 (.fieldAddr 3 (t 58)),q 60 54 (.load1 (t 59)),q 61 54 (.bin .add (t 55) (t 60)),q 62 54 (.bin .gtr (t 61) (zT 1051898399)),i 63 (.pick (t 54) (k (.bool true)) (t 62))]) (.cond (t 63) (.seq (.ops [i 10 (.mov (zT 0)),i 11 (.mov (zT 3))]) .ret) .skip)) (.seq (.ops [mT 64 4,mT 65 0,mT 66 12,xT 67 4 65 66,fT 68 3 67,lT 69 68,i 70 (.bin .add (t 64) (t 69)),i 71 (.bin .quo (t 70) (zT 1440)),mT 13 71]) (.seq (.ops [mT 72 13,i 73 (.bin .mul (zT 1440) (t 72)),i 74 (.bin .add (t 73) (zT 1439)),mT 10 74,i 11 (.mov (zT 0))]) .ret))))) (.ops [mT 25 12,i 26 (.bin .add (t 25) (zT 1)),mT 12 26])))
def c36:zAc:=(.seq (.ops [i 10 (.mov (zT 0)),i 11 (.mov (zT 0))]) (.seq (.seq (.ops [mT 14 0,i 15 (.call .any (.func 12) [(t 14)]),i 16 (.un .not (t 15)),mT 17 16,q 18 17 (.mov (t 4)),q 19 17 (.bin .lss (t 18) (zT 0)),i 20 (.pick (t 17) (k (.bool true)) (t 19))]) (.cond (t 20) (.seq (.ops [i 10 (.mov (zT 0)),i 11 (.mov (zT 2))]) .ret) .skip)) (.seq (.seq (.ops [i 12 (.mov (zT 0))]) (.block 0 (.loop l36_1))) (.seq (.ops [i 10 (.mov (zT 0)),i 11 (.mov (zT 6))]) .ret))))
def a36:zAf:=⟨75,[(.tmp 10),(.tmp 11)],c36⟩
theorem n36:a36.ntmps=75:=id rfl
theorem r36:a36.results=[(.tmp 10),(.tmp 11)]:=rfl
theorem b36:a36.body=c36:=rfl
def c37:zAc:=(.seq (.ops [i 8 (.mov (zT 0))]) (.seq (.block 0 (.seq (.ops [mT 10 0,i 11 (.call .any (.func 11) [(t 10)]),i 12 (.un .not (t 11)),mT 9 12]) (.cond (t 9) (.seq (.ops [i 8 (.mov (zT 400))]) .ret) (.seq (.ops [mT 14 1,i 15 (.call .any (.func 26) [(t 14)]),i 16 (.un .not (t 15)),mT 13 16]) (.cond (t 13) (.seq (.ops [i 8 (.mov (zT 401))]) .ret) (.seq (.ops [mT 18 2,i 19 (.call .any (.func 27) [(t 18)]),i 20 (.un .not (t 19)),mT 17 20]) (.cond (t 17) (.seq (.ops [i 8 (.mov (zT 402))]) .ret) (.seq (.ops [mT 22 3,i 23 (.call .any (.func 28) [(t 22)]),i 24 (.un .not (t 23)),mT 21 24]) (.cond (t 21) (.seq (.ops [i 8 (.mov (zT 403))]) .ret) .skip))))))))) (.seq (.ops [i 8 (.mov (zT 0))]) .ret)))
def a37:zAf:=⟨25,[(.tmp 8)],c37⟩
theorem n37:a37.ntmps=25:=id rfl
theorem r37:a37.results=[(.tmp 8)]:=rfl
theorem b37:a37.body=c37:=rfl
def c38:zAc:=(.seq (.ops [i 7 (.box (t 3)),i 8 (.alloc [(.int .i64 0),(.int .i64 0),(.int .i64 0),(.int .u8 0),(.int .i64 0),(.int .i64 0),(.int .i64 0),(.int .u8 0),(.int .i64 0),(.int .i64 0),(.int .i64 0),(.int .i64 0),(.int .u8 0),(.int .i64 0),(.int .i64 0),(.int .i64 0),(.int .i64 0),(.int .i64 0),(.int .i64 0),(.int .i64 0),(.bool false),(.bool false),(.bool false),(.bool false),(.bool false)])]) (.seq (.ops [i 11 (.loadN 6 (t 7)),fT 12 3 7,lT 13 12,i 14 (.bin .eql (t 13) (k (.int .u8 1))),fT 15 3 7,lT 16 15,i 17 (.bin .eql (t 16) (k (.int .u8 2))),i 18 (.build [(.int .i64 0),(.int .i64 0),(.int .i64 0),(.int .u8 0),(.int .i64 0),(.int .i64 0),(.int .i64 0),(.int .u8 0),(.int .i64 0),(.int .i64 0),(.int .i64 0),(.int .i64 0),(.int .u8 0),(.int .i64 0),(.int .i64 0),(.int .i64 0),(.int .i64 0),(.int .i64 0),(.int .i64 0),(.int .i64 0),(.bool false),(.bool false),(.bool false),(.bool false),(.bool false)] [(0,(6,(t 11))),(22,(1,(t 14))),(23,(1,(t 17)))]),i 9 (.alloc [(.int .i64 0),(.int .i64 0),(.int .i64 0),(.int .u8 0),(.int .i64 0),(.int .i64 0),(.int .i64 0),(.int .u8 0),(.int .i64 0),(.int .i64 0),(.int .i64 0),(.int .i64 0),(.int .u8 0),(.int .i64 0),(.int .i64 0),(.int .i64 0),(.int .i64 0),(.int .i64 0),(.int .i64 0),(.int .i64 0),(.bool false),(.bool false),(.bool false),(.bool false),(.bool false)]),s (.store 25 (t 9) (t 18))]) (.seq (.ops [mT 20 2,i 21 (.makeFunc 56 [] [(t 7)]),i 22 (.call .any (.func 55) [(t 20),(t 21)]),mT 19 22,i 23 (.extract 0 (t 19)),i 24 (.extract 1 (t 19)),fT 25 6 9,s (.store 6 (t 25) (t 23)),fT 26 20 9,s (.store 1 (t 26) (t 24))]) (.seq (.seq (.ops [fT 27 20 9,lT 28 27,i 29 (.un .not (t 28))]) (.cond (t 29) (.seq (.ops [i 30 (.loadN 25 (t 9)),s (.store 25 (t 8) (t 30))]) .ret) .skip)) (.seq (.ops [fT 31 6 9,fT 32 5 31,lT 33 32,i 34 (.bin .neq (t 33) (zT (-1))),mT 35 34,p 36 35 (.fieldAddr 6 (t 9)),p 37 35 (.fieldAddr 5 (t 36)),p 38 35 (.load1 (t 37)),p 39 35 (.fieldAddr 2 (t 7)),p 40 35 (.load1 (t 39)),p 41 35 (.bin .leq (t 38) (t 40)),i 42 (.pick (t 35) (t 41) (k (.bool false))),fT 43 24 9,s (.store 1 (t 43) (t 42))]) (.seq (.ops [i 10 (.mov (k (.bool false)))]) (.seq (.ops [mT 45 0,fT 46 6 9,fT 47 1 46,lT 48 47,fT 49 6 9,fT 50 2 49,lT 51 50,fT 52 6 9,fT 53 3 52,lT 54 53,fT 55 6 9,fT 56 4 55,lT 57 56,i 58 (.call .any (.func 40) [(t 45),(t 48),(t 51),(t 54),(t 57)]),mT 44 58,i 59 (.extract 0 (t 44)),i 60 (.extract 1 (t 44)),i 61 (.extract 2 (t 44)),fT 62 19 9,s (.store 1 (t 62) (t 59)),mT 10 61]) (.seq (.ops [mT 64 1,i 65 (.makeFunc 58 [] [(t 9)]),i 66 (.call .any (.func 57) [(t 64),(t 65)]),mT 63 66,i 67 (.extract 0 (t 63)),i 68 (.extract 1 (t 63)),fT 69 12 9,s (.store 7 (t 69) (t 67)),fT 70 21 9,s (.store 1 (t 70) (t 68))]) (.seq (.ops [fT 71 21 9,lT 72 71,mT 73 72,p 74 73 (.mov (t 10)),i 75 (.pick (t 73) (t 74) (k (.bool false))),fT 76 21 9,s (.store 1 (t 76) (t 75))]) (.seq (.ops [i 77 (.loadN 25 (t 9)),s (.store 25 (t 8) (t 77))]) .ret))))))))))
def a38:zAf:=⟨78,[(.cellN 25 8)],c38⟩
theorem n38:a38.ntmps=78:=id rfl
theorem r38:a38.results=[(.cellN 25 8)]:=rfl
theorem b38:a38.body=c38:=rfl
def l39_1:zAc:=(.seq (.ops [i 7 (.bin .lss (t 6) (zT 7))]) (.seq (.cond (t 7) .skip (.exit 0)) (.seq (.block 1 (.seq (.ops [i 8 (.idxA 7 2 true (t 5) (t 6)),i 4 (.alloc [.nilFunc,(.int .u8 0)]),s (.store 2 (t 4) (t 8))]) (.seq (.ops [fT 9 0 4,lT 10 9,i 11 (.loadN 25 (t 1)),i 12 (.call .any (t 10) [(t 11)])]) (.cond (t 12) (.seq (.ops [fT 13 0 1,fT 14 0 13,lT 15 14,fT 16 1 4,lT 17 16,i 18 (.build [(.int .i64 0),(.int .i64 0),(.int .u8 0)] [(0,(1,(t 15))),(2,(1,(t 17)))]),s (.store 3 (t 2) (t 18))]) .ret) .skip)))) (.ops [i 19 (.bin .add (t 6) (zT 1)),mT 6 19]))))
def c39:zAc:=(.seq (.ops [i 1 (.box (t 0)),i 2 (.alloc [(.int .i64 0),(.int .i64 0),(.int .u8 0)])]) (.seq (.seq (.ops [i 5 (.call .any (.func 59) []),i 6 (.mov (zT 0))]) (.block 0 (.loop l39_1))) (.seq (.drawn 0 [fT 20 0 1,fT 21 0 20,lT 22 21,i 23 (.loadN 25 (t 1)),i 24 (.call .pure (.func 60) [(t 23)]),i 25 (.build [(.int .i64 0),(.int .i64 0),(.int .u8 0)] [(0,(1,(t 22))),(1,(1,(t 24))),(2,(1,(k (.int .u8 6))))]),s (.store 3 (t 2) (t 25))]) .ret)))
def a39:zAf:=⟨26,[(.cellN 3 2)],c39⟩
theorem n39:a39.ntmps=26:=id rfl
theorem r39:a39.results=[(.cellN 3 2)]:=rfl
theorem b39:a39.body=c39:=rfl
def c40:zAc:=(.seq (.ops [i 6 (.box (t 1)),i 7 (.box (t 2)),i 8 (.box (t 3)),i 10 (.mov (zT 0)),i 11 (.mov (k (.bool false))),i 12 (.mov (k (.bool false)))]) (.seq (.ops [mT 15 0,i 16 (.makeFunc 62 [] [(t 6),(t 7),(t 8)]),i 17 (.call .any (.func 61) [(t 15),(t 16)]),mT 14 17,i 18 (.extract 0 (t 14)),i 19 (.extract 1 (t 14)),i 13 (.alloc [(.int .u8 0),(.int .i64 0),(.int .i64 0),(.int .i64 0)]),s (.store 4 (t 13) (t 18)),mT 11 19]) (.seq (.seq (.ops [mT 20 11,i 21 (.un .not (t 20)),mT 22 21,q 23 22 (.mov (t 4)),q 24 22 (.bin .gtr (t 23) (zT 1051898399)),i 25 (.pick (t 22) (k (.bool true)) (t 24))]) (.cond (t 25) (.seq (.ops [mT 26 11,i 10 (.mov (zT 0)),mT 11 26,i 12 (.mov (k (.bool false)))]) .ret) .skip)) (.seq (.ops [mT 27 4,fT 28 3 13,lT 29 28,i 30 (.bin .add (t 27) (t 29)),i 31 (.bin .quo (t 30) (zT 1440)),i 32 (.bin .mul (t 31) (zT 1440)),i 33 (.bin .add (t 32) (zT 1440)),i 34 (.bin .sub (t 33) (zT 1)),mT 10 34]) (.seq (.seq (.ops [mT 35 10,i 36 (.bin .gtr (t 35) (zT 1051898399))]) (.cond (t 36) (.seq (.ops [i 10 (.mov (zT 0)),i 11 (.mov (k (.bool true))),i 12 (.mov (k (.bool false)))]) .ret) .skip)) (.seq (.ops [mT 37 10,mT 10 37,i 11 (.mov (k (.bool true))),i 12 (.mov (k (.bool true)))]) .ret))))))
def a40:zAf:=⟨38,[(.tmp 10),(.tmp 11),(.tmp 12)],c40⟩
theorem n40:a40.ntmps=38:=id rfl
theorem r40:a40.results=[(.tmp 10),(.tmp 11),(.tmp 12)]:=rfl
theorem b40:a40.body=c40:=rfl
def l41_1:zAc:=(.seq (.seq (.ops [mT 5 3,mT 6 0,i 7 (.lenSlice (t 6)),i 8 (.bin .lss (t 5) (t 7))]) (.cond (t 8) .skip (.exit 0))) (.seq (.block 1 (.seq (.ops [mT 11 0,mT 12 3,xT 13 7 11 12,i 14 (.loadN 7 (t 13)),i 4 (.alloc [(.int .u8 0),(.int .i64 0),(.int .i64 0),(.int .i64 0),(.int .i64 0),(.int .i64 0),(.int .i64 0)]),s (.store 7 (t 4) (t 14))]) (.seq (.drawn 0 [fT 15 0 4,lT 16 15,i 17 (.bin .eql (t 16) (k (.int .u8 0))),mT 18 17,q 19 18 (.mov (t 3)),q 20 18 (.bin .gtr (t 19) (zT 0)),q 21 18 (.mov (t 20)),p 22 21 (.mov (t 0)),p 23 21 (.mov (t 3)),p 24 21 (.bin .sub (t 23) (zT 1)),p 25 21 (.idxAddrS 7 (t 22) (t 24)),p 26 21 (.fieldAddr 0 (t 25)),p 27 21 (.load1 (t 26)),p 28 21 (.fieldAddr 0 (t 4)),p 29 21 (.load1 (t 28)),p 30 21 (.bin .geq (t 27) (t 29)),q 31 18 (.pick (t 21) (t 30) (k (.bool false))),i 32 (.pick (t 18) (k (.bool true)) (t 31)),mT 33 32,q 34 33 (.fieldAddr 1 (t 4)),q 35 33 (.load1 (t 34)),q 36 33 (.call .pure (.func 34) [(t 35),(zT 0),(zT 100000)]),q 37 33 (.un .not (t 36)),i 38 (.pick (t 33) (k (.bool true)) (t 37)),mT 39 38,q 40 39 (.fieldAddr 2 (t 4)),q 41 39 (.load1 (t 40)),q 42 39 (.call .pure (.func 34) [(t 41),(zT 0),(zT 10000)]),q 43 39 (.un .not (t 42)),i 44 (.pick (t 39) (k (.bool true)) (t 43)),mT 45 44,q 46 45 (.fieldAddr 3 (t 4)),q 47 45 (.load1 (t 46)),q 48 45 (.call .pure (.func 34) [(t 47),(zT 0),(zT 10000)]),q 49 45 (.un .not (t 48)),i 50 (.pick (t 45) (k (.bool true)) (t 49)),mT 51 50,q 52 51 (.fieldAddr 4 (t 4)),q 53 51 (.load1 (t 52)),q 54 51 (.call .pure (.func 34) [(t 53),(zT 0),(zT 1000000)]),q 55 51 (.un .not (t 54)),i 56 (.pick (t 51) (k (.bool true)) (t 55)),mT 57 56,q 58 57 (.fieldAddr 5 (t 4)),q 59 57 (.load1 (t 58)),q 60 57 (.call .pure (.func 34) [(t 59),(zT 0),(zT 250000000000000)]),q 61 57 (.un .not (t 60)),i 62 (.pick (t 57) (k (.bool true)) (t 61)),mT 63 62,q 64 63 (.fieldAddr 6 (t 4)),q 65 63 (.load1 (t 64)),q 66 63 (.call .pure (.func 34) [(t 65),(zT 0),(zT 3650)]),q 67 63 (.un .not (t 66)),i 68 (.pick (t 63) (k (.bool true)) (t 67))]) (.cond (t 68) (.seq (.ops [i 2 (.mov (k (.bool false)))]) .ret) .skip)))) (.ops [mT 9 3,i 10 (.bin .add (t 9) (zT 1)),mT 3 10])))
def c41:zAc:=(.seq (.ops [i 2 (.mov (k (.bool false)))]) (.seq (.seq (.ops [i 3 (.mov (zT 0))]) (.block 0 (.loop l41_1))) (.seq (.ops [mT 69 0,i 70 (.lenSlice (t 69)),i 71 (.bin .leq (t 70) (zT 200)),mT 2 71]) .ret)))
def a41:zAf:=⟨72,[(.tmp 2)],c41⟩
theorem n41:a41.ntmps=72:=id rfl
theorem r41:a41.results=[(.tmp 2)]:=rfl
theorem b41:a41.body=c41:=rfl
def l42_1:zAc:=(.seq (.seq (.ops [mT 6 4,mT 7 0,i 8 (.lenSlice (t 7)),i 9 (.bin .lss (t 6) (t 8))]) (.cond (t 9) .skip (.exit 0))) (.seq (.block 1 (.seq (.ops [mT 12 0,mT 13 4,xT 14 7 12 13,i 15 (.loadN 7 (t 14)),i 5 (.alloc [(.int .u8 0),(.int .i64 0),(.int .i64 0),(.int .i64 0),(.int .i64 0),(.int .i64 0),(.int .i64 0)]),s (.store 7 (t 5) (t 15))]) (.ops [mT 16 3,fT 17 0 5,lT 18 17,fT 19 1 5,lT 20 19,fT 21 2 5,lT 22 21,fT 23 3 5,lT 24 23,fT 25 4 5,lT 26 25,fT 27 5 5,lT 28 27,fT 29 6 5,lT 30 29,i 31 (.build [(.int .u8 0),(.int .i64 0),(.int .i64 0),(.int .i64 0),(.int .i64 0),(.int .i64 0),(.int .i64 0)] [(0,(1,(t 18))),(1,(1,(t 20))),(2,(1,(t 22))),(3,(1,(t 24))),(4,(1,(t 26))),(5,(1,(t 28))),(6,(1,(t 30)))]),i 32 (.buildSlice 1 [(.int .u8 0),(.int .i64 0),(.int .i64 0),(.int .i64 0),(.int .i64 0),(.int .i64 0),(.int .i64 0)] [(0,(7,(t 31)))]),i 33 (.append 7 56 false (t 16) (t 32)),mT 3 33]))) (.ops [mT 10 4,i 11 (.bin .add (t 10) (zT 1)),mT 4 11])))
def c42:zAc:=(.seq (.ops [i 2 (.mov (k (.slice none 0 0)))]) (.seq (.ops [i 3 (.mov (k (.slice none 0 0)))]) (.seq (.seq (.ops [i 4 (.mov (zT 0))]) (.block 0 (.loop l42_1))) (.seq (.ops [mT 34 3,mT 2 34]) .ret))))
def a42:zAf:=⟨35,[(.tmp 2)],c42⟩
theorem n42:a42.ntmps=35:=id rfl
theorem r42:a42.results=[(.tmp 2)]:=rfl
theorem b42:a42.body=c42:=rfl
def l43_1:zAc:=(.seq (.seq (.ops [mT 57 5,mT 58 3,i 59 (.bin .lss (t 57) (t 58))]) (.cond (t 59) .skip (.exit 2))) (.seq (.block 3 (.seq (.drawn 0 [mT 62 0,mT 63 5,xT 64 6 62 63,fT 65 0 64,lT 66 65,fT 67 0 4,lT 68 67,i 69 (.bin .eql (t 66) (t 68))]) (.cond (t 69) (.seq (.ops [i 2 (.mov (k (.bool false)))]) .ret) .skip))) (.ops [mT 60 5,i 61 (.bin .add (t 60) (zT 1)),mT 5 61])))
def l43_2:zAc:=(.seq (.seq (.ops [mT 9 3,mT 10 0,i 11 (.lenSlice (t 10)),i 12 (.bin .lss (t 9) (t 11))]) (.cond (t 12) .skip (.exit 0))) (.seq (.block 1 (.seq (.ops [mT 15 0,mT 16 3,xT 17 6 15 16,i 18 (.loadN 6 (t 17)),i 4 (.alloc [(.int .i64 0),(.int .u8 0),(.int .i64 0),(.int .i64 0),(.int .i64 0),(.int .i64 0)]),s (.store 6 (t 4) (t 18))]) (.seq (.seq (.ops [fT 19 1 4,lT 20 19,i 21 (.bin .eql (t 20) (k (.int .u8 0))),mT 22 21,q 23 22 (.fieldAddr 0 (t 4)),q 24 22 (.load1 (t 23)),q 25 22 (.call .any (.func 34) [(t 24),(zT 1),(zT 999999)]),q 26 22 (.un .not (t 25)),i 27 (.pick (t 22) (k (.bool true)) (t 26)),mT 28 27,q 29 28 (.fieldAddr 2 (t 4)),q 30 28 (.load1 (t 29)),q 31 28 (.call .any (.func 34) [(t 30),(zT 1),(zT 999999)]),q 32 28 (.un .not (t 31)),i 33 (.pick (t 28) (k (.bool true)) (t 32)),mT 34 33,q 35 34 (.fieldAddr 3 (t 4)),q 36 34 (.load1 (t 35)),q 37 34 (.call .any (.func 34) [(t 36),(zT 1),(zT 999999)]),q 38 34 (.un .not (t 37)),i 39 (.pick (t 34) (k (.bool true)) (t 38)),mT 40 39,q 41 40 (.fieldAddr 4 (t 4)),q 42 40 (.load1 (t 41)),q 43 40 (.call .any (.func 34) [(t 42),(zT 0),(zT 1051898399)]),q 44 40 (.un .not (t 43)),i 45 (.pick (t 40) (k (.bool true)) (t 44))]) (.cond (t 45) (.seq (.ops [i 2 (.mov (k (.bool false)))]) .ret) .skip)) (.seq (.seq (.ops [fT 46 5 4,lT 47 46,i 48 (.bin .neq (t 47) (zT (-1))),mT 49 48,p 50 49 (.fieldAddr 5 (t 4)),p 51 49 (.load1 (t 50)),p 52 49 (.fieldAddr 4 (t 4)),p 53 49 (.load1 (t 52)),p 54 49 (.call .any (.func 34) [(t 51),(t 53),(zT 1051898399)]),p 55 49 (.un .not (t 54)),i 56 (.pick (t 49) (t 55) (k (.bool false)))]) (.cond (t 56) (.seq (.ops [i 2 (.mov (k (.bool false)))]) .ret) .skip)) (.seq (.ops [i 5 (.mov (zT 0))]) (.block 2 (.loop l43_1))))))) (.ops [mT 13 3,i 14 (.bin .add (t 13) (zT 1)),mT 3 14])))
def c43:zAc:=(.seq (.ops [i 2 (.mov (k (.bool false)))]) (.seq (.seq (.ops [mT 6 0,i 7 (.lenSlice (t 6)),i 8 (.bin .gtr (t 7) (zT 2000))]) (.cond (t 8) (.seq (.ops [i 2 (.mov (k (.bool false)))]) .ret) .skip)) (.seq (.seq (.ops [i 3 (.mov (zT 0))]) (.block 0 (.loop l43_2))) (.seq (.ops [i 2 (.mov (k (.bool true)))]) .ret))))
def a43:zAf:=⟨70,[(.tmp 2)],c43⟩
theorem n43:a43.ntmps=70:=id rfl
theorem r43:a43.results=[(.tmp 2)]:=rfl
theorem b43:a43.body=c43:=rfl
def l44_1:zAc:=(.seq (.seq (.ops [mT 54 5,mT 55 3,i 56 (.bin .lss (t 54) (t 55))]) (.cond (t 56) .skip (.exit 2))) (.seq (.block 3 (.seq (.drawn 0 [mT 59 0,mT 60 5,xT 61 6 59 60,fT 62 0 61,lT 63 62,fT 64 0 4,lT 65 64,i 66 (.bin .eql (t 63) (t 65))]) (.cond (t 66) (.seq (.ops [i 2 (.mov (k (.bool false)))]) .ret) .skip))) (.ops [mT 57 5,i 58 (.bin .add (t 57) (zT 1)),mT 5 58])))
def l44_2:zAc:=(.seq (.seq (.ops [mT 9 3,mT 10 0,i 11 (.lenSlice (t 10)),i 12 (.bin .lss (t 9) (t 11))]) (.cond (t 12) .skip (.exit 0))) (.seq (.block 1 (.seq (.ops [mT 15 0,mT 16 3,xT 17 6 15 16,i 18 (.loadN 6 (t 17)),i 4 (.alloc [(.int .i64 0),(.int .i64 0),(.int .i64 0),(.int .u8 0),(.int .i64 0),(.int .i64 0)]),s (.store 6 (t 4) (t 18))]) (.seq (.seq (.ops [fT 19 0 4,lT 20 19,i 21 (.call .any (.func 34) [(t 20),(zT 1),(zT 999999)]),i 22 (.un .not (t 21)),mT 23 22,q 24 23 (.fieldAddr 1 (t 4)),q 25 23 (.load1 (t 24)),q 26 23 (.call .any (.func 34) [(t 25),(zT 1),(zT 999999)]),q 27 23 (.un .not (t 26)),i 28 (.pick (t 23) (k (.bool true)) (t 27)),mT 29 28,q 30 29 (.fieldAddr 2 (t 4)),q 31 29 (.load1 (t 30)),q 32 29 (.call .any (.func 34) [(t 31),(zT 0),(zT 1051898399)]),q 33 29 (.un .not (t 32)),i 34 (.pick (t 29) (k (.bool true)) (t 33)),mT 35 34,q 36 35 (.fieldAddr 3 (t 4)),q 37 35 (.load1 (t 36)),q 38 35 (.conv .i64 (t 37)),q 39 35 (.call .any (.func 34) [(t 38),(zT 1),(zT 2)]),q 40 35 (.un .not (t 39)),i 41 (.pick (t 35) (k (.bool true)) (t 40)),mT 42 41,q 43 42 (.fieldAddr 4 (t 4)),q 44 42 (.load1 (t 43)),q 45 42 (.call .any (.func 34) [(t 44),(zT 0),(zT 250000000000000)]),q 46 42 (.un .not (t 45)),i 47 (.pick (t 42) (k (.bool true)) (t 46)),mT 48 47,q 49 48 (.fieldAddr 5 (t 4)),q 50 48 (.load1 (t 49)),q 51 48 (.call .any (.func 34) [(t 50),(zT 0),(zT 250000000000000)]),q 52 48 (.un .not (t 51)),i 53 (.pick (t 48) (k (.bool true)) (t 52))]) (.cond (t 53) (.seq (.ops [i 2 (.mov (k (.bool false)))]) .ret) .skip)) (.seq (.ops [i 5 (.mov (zT 0))]) (.block 2 (.loop l44_1)))))) (.ops [mT 13 3,i 14 (.bin .add (t 13) (zT 1)),mT 3 14])))
def c44:zAc:=(.seq (.ops [i 2 (.mov (k (.bool false)))]) (.seq (.seq (.ops [mT 6 0,i 7 (.lenSlice (t 6)),i 8 (.bin .gtr (t 7) (zT 500))]) (.cond (t 8) (.seq (.ops [i 2 (.mov (k (.bool false)))]) .ret) .skip)) (.seq (.seq (.ops [i 3 (.mov (zT 0))]) (.block 0 (.loop l44_2))) (.seq (.ops [i 2 (.mov (k (.bool true)))]) .ret))))
def a44:zAf:=⟨67,[(.tmp 2)],c44⟩
theorem n44:a44.ntmps=67:=id rfl
theorem r44:a44.results=[(.tmp 2)]:=rfl
theorem b44:a44.body=c44:=rfl
def l45_1:zAc:=(.seq (.seq (.ops [mT 6 4,mT 7 0,i 8 (.lenSlice (t 7)),i 9 (.bin .lss (t 6) (t 8))]) (.cond (t 9) .skip (.exit 0))) (.seq (.block 1 (.seq (.ops [mT 12 0,mT 13 4,xT 14 6 12 13,i 15 (.loadN 6 (t 14)),i 5 (.alloc [(.int .i64 0),(.int .i64 0),(.int .i64 0),(.int .u8 0),(.int .i64 0),(.int .i64 0)]),s (.store 6 (t 5) (t 15))]) (.ops [mT 16 3,fT 17 0 5,lT 18 17,fT 19 1 5,lT 20 19,fT 21 2 5,lT 22 21,fT 23 3 5,lT 24 23,fT 25 4 5,lT 26 25,fT 27 5 5,lT 28 27,i 29 (.build [(.int .i64 0),(.int .i64 0),(.int .i64 0),(.int .u8 0),(.int .i64 0),(.int .i64 0)] [(0,(1,(t 18))),(1,(1,(t 20))),(2,(1,(t 22))),(3,(1,(t 24))),(4,(1,(t 26))),(5,(1,(t 28)))]),i 30 (.buildSlice 1 [(.int .i64 0),(.int .i64 0),(.int .i64 0),(.int .u8 0),(.int .i64 0),(.int .i64 0)] [(0,(6,(t 29)))]),i 31 (.append 6 48 false (t 16) (t 30)),mT 3 31]))) (.ops [mT 10 4,i 11 (.bin .add (t 10) (zT 1)),mT 4 11])))
def c45:zAc:=(.seq (.ops [i 2 (.mov (k (.slice none 0 0)))]) (.seq (.ops [i 3 (.mov (k (.slice none 0 0)))]) (.seq (.seq (.ops [i 4 (.mov (zT 0))]) (.block 0 (.loop l45_1))) (.seq (.ops [mT 32 3,mT 2 32]) .ret))))
def a45:zAf:=⟨33,[(.tmp 2)],c45⟩
theorem n45:a45.ntmps=33:=id rfl
theorem r45:a45.results=[(.tmp 2)]:=rfl
theorem b45:a45.body=c45:=rfl
def l46_1:zAc:=(.seq (.seq (.ops [mT 84 17,mT 85 13,i 86 (.lenSlice (t 85)),i 87 (.bin .lss (t 84) (t 86))]) (.cond (t 87) .skip (.exit 4))) (.seq (.block 5 (.seq (.drawn 0 [mT 90 13,mT 91 17,xT 92 1 90 91,lT 93 92,mT 94 11,mT 95 14,xT 96 6 94 95,fT 97 1 96,lT 98 97,i 99 (.bin .eql (t 93) (t 98)),mT 100 99,p 101 100 (.fieldAddr 2 (t 16)),p 102 100 (.load1 (t 101)),p 103 100 (.bin .neq (t 102) (k (.int .u8 1))),i 104 (.pick (t 100) (t 103) (k (.bool false)))]) (.cond (t 104) (.ops [mT 105 11,mT 106 14,xT 107 6 105 106,fT 108 0 107,lT 109 108,i 110 (.build [(.int .i64 0),(.int .i64 0),(.int .u8 0)] [(0,(1,(t 109))),(1,(1,(zT 0))),(2,(1,(k (.int .u8 7))))]),s (.store 3 (t 16) (t 110))]) .skip))) (.ops [mT 88 17,i 89 (.bin .add (t 88) (zT 1)),mT 17 89])))
def l46_2:zAc:=(.seq (.seq (.ops [mT 32 15,mT 33 11,i 34 (.lenSlice (t 33)),i 35 (.bin .lss (t 32) (t 34))]) (.cond (t 35) .skip (.exit 2))) (.seq (.block 3 (.seq (.drawn 0 [mT 38 11,mT 39 15,xT 40 6 38 39,fT 41 2 40,lT 42 41,mT 43 11,mT 44 14,xT 45 6 43 44,fT 46 2 45,lT 47 46,i 48 (.bin .lss (t 42) (t 47)),mT 49 48,q 50 49 (.mov (t 11)),q 51 49 (.mov (t 15)),q 52 49 (.idxAddrS 6 (t 50) (t 51)),q 53 49 (.fieldAddr 2 (t 52)),q 54 49 (.load1 (t 53)),q 55 49 (.mov (t 11)),q 56 49 (.mov (t 14)),q 57 49 (.idxAddrS 6 (t 55) (t 56)),q 58 49 (.fieldAddr 2 (t 57)),q 59 49 (.load1 (t 58)),q 60 49 (.bin .eql (t 54) (t 59)),q 61 49 (.mov (t 60)),p 62 61 (.mov (t 11)),p 63 61 (.mov (t 15)),p 64 61 (.idxAddrS 6 (t 62) (t 63)),p 65 61 (.fieldAddr 0 (t 64)),p 66 61 (.load1 (t 65)),p 67 61 (.mov (t 11)),p 68 61 (.mov (t 14)),p 69 61 (.idxAddrS 6 (t 67) (t 68)),p 70 61 (.fieldAddr 0 (t 69)),p 71 61 (.load1 (t 70)),p 72 61 (.bin .lss (t 66) (t 71)),q 73 49 (.pick (t 61) (t 72) (k (.bool false))),i 74 (.pick (t 49) (k (.bool true)) (t 73))]) (.cond (t 74) (.ops [mT 75 15,mT 14 75]) .skip))) (.ops [mT 36 15,i 37 (.bin .add (t 36) (zT 1)),mT 15 37])))
def l46_3:zAc:=(.seq (.seq (.ops [mT 29 11,i 30 (.lenSlice (t 29)),i 31 (.bin .gtr (t 30) (zT 0))]) (.cond (t 31) .skip (.exit 0))) (.block 1 (.seq (.ops [i 14 (.mov (zT 0))]) (.seq (.seq (.ops [i 15 (.mov (zT 1))]) (.block 2 (.loop l46_2))) (.seq (.ops [mT 76 0,mT 77 1,mT 78 2,mT 79 11,mT 80 14,xT 81 6 79 80,i 82 (.loadN 6 (t 81)),i 83 (.call .any (.func 64) [(t 76),(t 77),(t 78),(t 82)]),i 16 (.alloc [(.int .i64 0),(.int .i64 0),(.int .u8 0)]),s (.store 3 (t 16) (t 83))]) (.seq (.seq (.ops [i 17 (.mov (zT 0))]) (.block 4 (.loop l46_1))) (.seq (.seq (.ops [fT 111 2 16,lT 112 111,i 113 (.bin .eql (t 112) (k (.int .u8 6)))]) (.cond (t 113) (.ops [mT 114 13,mT 115 11,mT 116 14,xT 117 6 115 116,fT 118 1 117,lT 119 118,i 120 (.buildSlice 1 [(.int .i64 0)] [(0,(1,(t 119)))]),i 121 (.append 1 8 false (t 114) (t 120)),mT 13 121]) .skip)) (.seq (.ops [mT 122 12,i 123 (.loadN 3 (t 16)),i 124 (.buildSlice 1 [(.int .i64 0),(.int .i64 0),(.int .u8 0)] [(0,(3,(t 123)))]),i 125 (.append 3 24 false (t 122) (t 124)),mT 12 125]) (.drawn 1 [mT 126 11,mT 127 14,i 128 (.sliceS 6 (t 126) none (some (t 127)) none),mT 129 11,mT 130 14,i 131 (.bin .add (t 130) (zT 1)),i 132 (.sliceS 6 (t 129) (some (t 131)) none none),⟨(some 133),none,(.append 6 48 false (t 128) (t 132)),(some 0),[]⟩,mT 11 133])))))))))
def c46:zAc:=(.seq (.ops [i 8 (.mov (k (.slice none 0 0))),i 9 (.mov (zT 0))]) (.seq (.ops [mT 18 0,mT 19 1,mT 20 2,mT 21 3,i 22 (.call .any (.func 63) [(t 18),(t 19),(t 20),(t 21)]),mT 10 22]) (.seq (.seq (.ops [mT 23 10,i 24 (.bin .neq (t 23) (zT 0))]) (.cond (t 24) (.seq (.ops [mT 25 10,i 8 (.mov (k (.slice none 0 0))),mT 9 25]) .ret) .skip)) (.seq (.ops [i 26 (.buildSlice 0 [] []),mT 27 3,i 28 (.append 6 48 false (t 26) (t 27)),mT 11 28]) (.seq (.ops [i 12 (.mov (k (.slice none 0 0)))]) (.seq (.ops [i 13 (.mov (k (.slice none 0 0)))]) (.seq (.block 0 (.loop l46_3)) (.seq (.ops [mT 134 12,mT 8 134,i 9 (.mov (zT 0))]) .ret))))))))
def a46:zAf:=⟨135,[(.tmp 8),(.tmp 9)],c46⟩
theorem n46:a46.ntmps=135:=id rfl
theorem r46:a46.results=[(.tmp 8),(.tmp 9)]:=rfl
theorem b46:a46.body=c46:=rfl
def c47:zAc:=(.seq (.ops [i 2 (.box (t 0)),i 3 (.box (t 1)),i 4 (.mov (k (.bool false)))]) (.seq (.ops [fT 5 0 2,lT 6 5,fT 7 0 3,lT 8 7,i 9 (.bin .eql (t 6) (t 8)),mT 10 9,p 11 10 (.fieldAddr 1 (t 2)),p 12 10 (.load1 (t 11)),p 13 10 (.fieldAddr 1 (t 3)),p 14 10 (.load1 (t 13)),p 15 10 (.bin .eql (t 12) (t 14)),i 16 (.pick (t 10) (t 15) (k (.bool false))),mT 17 16,p 18 17 (.fieldAddr 2 (t 2)),p 19 17 (.load1 (t 18)),p 20 17 (.fieldAddr 2 (t 3)),p 21 17 (.load1 (t 20)),p 22 17 (.bin .eql (t 19) (t 21)),i 23 (.pick (t 17) (t 22) (k (.bool false))),mT 4 23]) .ret))
def a47:zAf:=⟨24,[(.tmp 4)],c47⟩
theorem n47:a47.ntmps=24:=id rfl
theorem r47:a47.results=[(.tmp 4)]:=rfl
theorem b47:a47.body=c47:=rfl
def c48:zAc:=(.seq (.ops [i 7 (.box (t 3)),i 8 (.alloc [(.int .i64 0),(.int .i64 0),(.int .u8 0)]),i 9 (.mov (zT 0))]) (.seq (.ops [mT 11 0,mT 12 1,mT 13 2,i 14 (.loadN 6 (t 7)),i 15 (.buildSlice 1 [(.int .i64 0),(.int .i64 0),(.int .i64 0),(.int .u8 0),(.int .i64 0),(.int .i64 0)] [(0,(6,(t 14)))]),i 16 (.call .any (.func 63) [(t 11),(t 12),(t 13),(t 15)]),mT 10 16]) (.seq (.seq (.ops [mT 17 10,i 18 (.bin .neq (t 17) (zT 0))]) (.cond (t 18) (.seq (.ops [i 19 (.build [(.int .i64 0),(.int .i64 0),(.int .u8 0)] []),mT 20 10,s (.store 3 (t 8) (t 19)),mT 9 20]) .ret) .skip)) (.seq (.ops [mT 21 0,mT 22 1,mT 23 2,i 24 (.loadN 6 (t 7)),i 25 (.call .any (.func 64) [(t 21),(t 22),(t 23),(t 24)]),s (.store 3 (t 8) (t 25)),i 9 (.mov (zT 0))]) .ret))))
def a48:zAf:=⟨26,[(.cellN 3 8),(.tmp 9)],c48⟩
theorem n48:a48.ntmps=26:=id rfl
theorem r48:a48.results=[(.cellN 3 8),(.tmp 9)]:=rfl
theorem b48:a48.body=c48:=rfl
def c49:zAc:=(.seq (.ops [i 2 (.mov (k (.slice none 0 0)))]) (.seq (.seq (.ops [mT 3 0,i 4 (.eqv false .slice (t 3) (k (.slice none 0 0)))]) (.cond (t 4) (.seq (.ops [i 2 (.mov (k (.slice none 0 0)))]) .ret) .skip)) (.seq (.ops [i 5 (.buildSlice 0 [] []),mT 6 0,i 7 (.append 6 48 false (t 5) (t 6)),mT 2 7]) .ret)))
def a49:zAf:=⟨8,[(.tmp 2)],c49⟩
theorem n49:a49.ntmps=8:=id rfl
theorem r49:a49.results=[(.tmp 2)]:=rfl
theorem b49:a49.body=c49:=rfl
def c51:zAc:=(.seq (.ops [i 2 (.box (t 0)),i 3 (.box (t 1)),i 4 (.mov (zT 0))]) (.seq (.drawn 1 [fT 5 2 2,⟨(some 6),none,(.load1 (t 5)),none,[0]⟩,fT 7 2 3,⟨(some 8),none,(.load1 (t 7)),none,[0]⟩,⟨(some 9),none,(.call .pure (.func 53) [(t 6),(t 8)]),none,[0]⟩,fT 10 0 2,⟨(some 11),none,(.load1 (t 10)),none,[0]⟩,fT 12 0 3,⟨(some 13),none,(.load1 (t 12)),none,[0]⟩,⟨(some 14),none,(.call .pure (.func 53) [(t 11),(t 13)]),none,[0]⟩,⟨(some 15),none,(.buildSlice 2 [(.int .i64 0),(.int .i64 0)] [(0,(1,(t 9))),(1,(1,(t 14)))]),(some 0),[]⟩,i 16 (.call .pure (.func 52) [(t 15)]),mT 4 16]) .ret))
def a51:zAf:=⟨17,[(.tmp 4)],c51⟩
theorem n51:a51.ntmps=17:=id rfl
theorem r51:a51.results=[(.tmp 4)]:=rfl
theorem b51:a51.body=c51:=rfl
def l52_1:zAc:=(.seq (.ops [i 9 (.bin .lss (t 8) (t 7))]) (.seq (.cond (t 9) .skip (.exit 0)) (.seq (.block 1 (.seq (.ops [xT 10 1 6 8,lT 11 10,mT 5 11]) (.seq (.ops [mT 12 5,mT 13 3,i 14 (.bin .neq (t 12) (t 13))]) (.cond (t 14) (.seq (.ops [mT 15 5,mT 2 15]) .ret) .skip)))) (.ops [i 16 (.bin .add (t 8) (zT 1)),mT 8 16]))))
def c52:zAc:=(.seq (.ops [i 2 (.mov (zT 0))]) (.seq (.ops [i 3 (.mov (zT 0))]) (.seq (.seq (.ops [mT 6 0,i 7 (.lenSlice (t 6)),i 8 (.mov (zT 0))]) (.block 0 (.loop l52_1))) (.seq (.ops [mT 17 3,mT 2 17]) .ret))))
def a52:zAf:=⟨18,[(.tmp 2)],c52⟩
theorem n52:a52.ntmps=18:=id rfl
theorem r52:a52.results=[(.tmp 2)]:=rfl
theorem b52:a52.body=c52:=rfl
def c53:zAc:=(.seq (.ops [i 4 (.mov (zT 0))]) (.seq (.ops [mT 7 0,i 8 (.call .any (.func 67) [(t 7)]),mT 5 8]) (.seq (.ops [mT 9 1,i 10 (.call .any (.func 67) [(t 9)]),mT 6 10]) (.seq (.seq (.ops [mT 11 5]) (.cond (t 11) (.seq (.seq (.ops [mT 12 6]) (.cond (t 12) (.seq (.ops [i 4 (.mov (zT 0))]) .ret) .skip)) (.seq (.ops [i 4 (.mov (zT (-1)))]) .ret)) .skip)) (.seq (.seq (.ops [mT 13 6]) (.cond (t 13) (.seq (.ops [i 4 (.mov (zT 1))]) .ret) .skip)) (.seq (.seq (.ops [mT 14 0,mT 15 1,i 16 (.bin .lss (t 14) (t 15))]) (.cond (t 16) (.seq (.ops [i 4 (.mov (zT (-1)))]) .ret) .skip)) (.seq (.seq (.ops [mT 17 0,mT 18 1,i 19 (.bin .gtr (t 17) (t 18))]) (.cond (t 19) (.seq (.ops [i 4 (.mov (zT 1))]) .ret) .skip)) (.seq (.ops [i 4 (.mov (zT 0))]) .ret))))))))
def a53:zAf:=⟨20,[(.tmp 4)],c53⟩
theorem n53:a53.ntmps=20:=id rfl
theorem r53:a53.results=[(.tmp 4)]:=rfl
theorem b53:a53.body=c53:=rfl
def c54:zAc:=(.seq (.ops [i 4 (.mov (zT 0))]) (.seq (.ops [mT 7 0,i 8 (.call .any (.func 68) [(t 7)]),mT 5 8]) (.seq (.ops [mT 9 1,i 10 (.call .any (.func 68) [(t 9)]),mT 6 10]) (.seq (.seq (.ops [mT 11 5]) (.cond (t 11) (.seq (.seq (.ops [mT 12 6]) (.cond (t 12) (.seq (.ops [i 4 (.mov (zT 0))]) .ret) .skip)) (.seq (.ops [i 4 (.mov (zT (-1)))]) .ret)) .skip)) (.seq (.seq (.ops [mT 13 6]) (.cond (t 13) (.seq (.ops [i 4 (.mov (zT 1))]) .ret) .skip)) (.seq (.seq (.ops [mT 14 0,mT 15 1,i 16 (.bin .lss (t 14) (t 15))]) (.cond (t 16) (.seq (.ops [i 4 (.mov (zT (-1)))]) .ret) .skip)) (.seq (.seq (.ops [mT 17 0,mT 18 1,i 19 (.bin .gtr (t 17) (t 18))]) (.cond (t 19) (.seq (.ops [i 4 (.mov (zT 1))]) .ret) .skip)) (.seq (.ops [i 4 (.mov (zT 0))]) .ret))))))))
def a54:zAf:=⟨20,[(.tmp 4)],c54⟩
theorem n54:a54.ntmps=20:=id rfl
theorem r54:a54.results=[(.tmp 4)]:=rfl
theorem b54:a54.body=c54:=rfl
def l55_1:zAc:=(.seq (.ops [i 12 (.bin .lss (t 11) (t 10))]) (.seq (.cond (t 12) .skip (.exit 0)) (.seq (.block 1 (.seq (.ops [xT 13 6 9 11,i 14 (.loadN 6 (t 13)),i 7 (.alloc [(.int .i64 0),(.int .u8 0),(.int .i64 0),(.int .i64 0),(.int .i64 0),(.int .i64 0)]),s (.store 6 (t 7) (t 14))]) (.seq (.ops [mT 15 1,i 16 (.loadN 6 (t 7)),i 17 (.call .any (t 15) [(t 16)])]) (.cond (t 17) (.seq (.ops [i 18 (.loadN 6 (t 7)),s (.store 6 (t 4) (t 18)),i 5 (.mov (k (.bool true)))]) .ret) .skip)))) (.ops [i 19 (.bin .add (t 11) (zT 1)),mT 11 19]))))
def c55:zAc:=(.seq (.ops [i 4 (.alloc [(.int .i64 0),(.int .u8 0),(.int .i64 0),(.int .i64 0),(.int .i64 0),(.int .i64 0)]),i 5 (.mov (k (.bool false)))]) (.seq (.seq (.ops [mT 9 0,i 10 (.lenSlice (t 9)),i 11 (.mov (zT 0))]) (.block 0 (.loop l55_1))) (.seq (.ops [i 8 (.alloc [(.int .i64 0),(.int .u8 0),(.int .i64 0),(.int .i64 0),(.int .i64 0),(.int .i64 0)])]) (.seq (.ops [i 20 (.loadN 6 (t 8)),s (.store 6 (t 4) (t 20)),i 5 (.mov (k (.bool false)))]) .ret))))
def a55:zAf:=⟨21,[(.cellN 6 4),(.tmp 5)],c55⟩
theorem n55:a55.ntmps=21:=id rfl
theorem r55:a55.results=[(.cellN 6 4),(.tmp 5)]:=rfl
theorem b55:a55.body=c55:=rfl
def c56:zAc:=(.seq (.ops [i 2 (.box (t 0)),i 3 (.mov (k (.bool false)))]) (.seq (.ops [fT 4 0 2,lT 5 4,fT 6 1 1,lT 7 6,i 8 (.bin .eql (t 5) (t 7)),mT 3 8]) .ret))
def a56:zAf:=⟨9,[(.tmp 3)],c56⟩
theorem n56:a56.ntmps=9:=id rfl
theorem r56:a56.results=[(.tmp 3)]:=rfl
theorem b56:a56.body=c56:=rfl
def l57_1:zAc:=(.seq (.ops [i 12 (.bin .lss (t 11) (t 10))]) (.seq (.cond (t 12) .skip (.exit 0)) (.seq (.block 1 (.seq (.ops [xT 13 7 9 11,i 14 (.loadN 7 (t 13)),i 7 (.alloc [(.int .u8 0),(.int .i64 0),(.int .i64 0),(.int .i64 0),(.int .i64 0),(.int .i64 0),(.int .i64 0)]),s (.store 7 (t 7) (t 14))]) (.seq (.ops [mT 15 1,i 16 (.loadN 7 (t 7)),i 17 (.call .any (t 15) [(t 16)])]) (.cond (t 17) (.seq (.ops [i 18 (.loadN 7 (t 7)),s (.store 7 (t 4) (t 18)),i 5 (.mov (k (.bool true)))]) .ret) .skip)))) (.ops [i 19 (.bin .add (t 11) (zT 1)),mT 11 19]))))
def c57:zAc:=(.seq (.ops [i 4 (.alloc [(.int .u8 0),(.int .i64 0),(.int .i64 0),(.int .i64 0),(.int .i64 0),(.int .i64 0),(.int .i64 0)]),i 5 (.mov (k (.bool false)))]) (.seq (.seq (.ops [mT 9 0,i 10 (.lenSlice (t 9)),i 11 (.mov (zT 0))]) (.block 0 (.loop l57_1))) (.seq (.ops [i 8 (.alloc [(.int .u8 0),(.int .i64 0),(.int .i64 0),(.int .i64 0),(.int .i64 0),(.int .i64 0),(.int .i64 0)])]) (.seq (.ops [i 20 (.loadN 7 (t 8)),s (.store 7 (t 4) (t 20)),i 5 (.mov (k (.bool false)))]) .ret))))
def a57:zAf:=⟨21,[(.cellN 7 4),(.tmp 5)],c57⟩
theorem n57:a57.ntmps=21:=id rfl
theorem r57:a57.results=[(.cellN 7 4),(.tmp 5)]:=rfl
theorem b57:a57.body=c57:=rfl
def c58:zAc:=(.seq (.ops [i 2 (.box (t 0)),i 3 (.mov (k (.bool false)))]) (.seq (.ops [fT 4 0 2,lT 5 4,fT 6 6 1,fT 7 1 6,lT 8 7,i 9 (.bin .eql (t 5) (t 8)),mT 3 9]) .ret))
def a58:zAf:=⟨10,[(.tmp 3)],c58⟩
theorem n58:a58.ntmps=10:=id rfl
theorem r58:a58.results=[(.tmp 3)]:=rfl
theorem b58:a58.body=c58:=rfl
def c59:zAc:=(.seq (.ops [i 0 (.alloc [.nilFunc,(.int .u8 0),.nilFunc,(.int .u8 0),.nilFunc,(.int .u8 0),.nilFunc,(.int .u8 0),.nilFunc,(.int .u8 0),.nilFunc,(.int .u8 0),.nilFunc,(.int .u8 0)])]) (.seq (.ops [i 1 (.build [.nilFunc,(.int .u8 0)] [(0,(1,(.func 69))),(1,(1,(k (.int .u8 1))))]),i 2 (.build [.nilFunc,(.int .u8 0)] [(0,(1,(.func 70))),(1,(1,(k (.int .u8 2))))]),i 3 (.build [.nilFunc,(.int .u8 0)] [(0,(1,(.func 71))),(1,(1,(k (.int .u8 3))))]),i 4 (.build [.nilFunc,(.int .u8 0)] [(0,(1,(.func 72))),(1,(1,(k (.int .u8 4))))]),i 5 (.build [.nilFunc,(.int .u8 0)] [(0,(1,(.func 73))),(1,(1,(k (.int .u8 5))))]),i 6 (.build [.nilFunc,(.int .u8 0)] [(0,(1,(.func 74))),(1,(1,(k (.int .u8 5))))]),i 7 (.build [.nilFunc,(.int .u8 0)] [(0,(1,(.func 75))),(1,(1,(k (.int .u8 4))))]),i 8 (.build [.nilFunc,(.int .u8 0),.nilFunc,(.int .u8 0),.nilFunc,(.int .u8 0),.nilFunc,(.int .u8 0),.nilFunc,(.int .u8 0),.nilFunc,(.int .u8 0),.nilFunc,(.int .u8 0)] [(0,(2,(t 1))),(2,(2,(t 2))),(4,(2,(t 3))),(6,(2,(t 4))),(8,(2,(t 5))),(10,(2,(t 6))),(12,(2,(t 7)))]),s (.store 14 (t 0) (t 8))]) .ret))
def a59:zAf:=⟨9,[(.cellN 14 0)],c59⟩
theorem n59:a59.ntmps=9:=id rfl
theorem r59:a59.results=[(.cellN 14 0)]:=rfl
theorem b59:a59.body=c59:=rfl
def c60:zAc:=(.seq (.ops [i 1 (.box (t 0)),i 2 (.mov (zT 0))]) (.seq (.seq (.ops [fT 7 23 1,lT 8 7]) (.cond (t 8) (.seq (.ops [fT 9 0 1,fT 10 5 9,lT 11 10,fT 12 12 1,fT 13 5 12,lT 14 13,i 15 (.minmax false [(t 11),(t 14)]),fT 16 0 1,fT 17 4 16,lT 18 17,i 19 (.bin .add (t 15) (t 18)),mT 2 19]) .ret) .skip)) (.seq (.ops [fT 20 6 1,fT 21 5 20,lT 22 21,fT 23 19 1,lT 24 23,i 25 (.bin .sub (t 22) (t 24)),fT 26 12 1,fT 27 1 26,lT 28 27,i 29 (.bin .sub (t 25) (t 28)),mT 3 29]) (.seq (.ops [mT 30 3,i 31 (.bin .add (t 30) (zT 1440)),i 32 (.bin .sub (t 31) (zT 1)),i 33 (.bin .quo (t 32) (zT 1440)),mT 4 33]) (.seq (.ops [fT 35 0 1,fT 36 4 35,lT 37 36,mT 38 4,fT 39 12 1,fT 40 2 39,lT 41 40,i 42 (.bin .mul (t 38) (t 41)),fT 43 12 1,fT 44 3 43,lT 45 44,i 46 (.minmax false [(t 42),(t 45)]),i 47 (.call .any (.func 76) [(t 37),(t 46),(k (.int .u8 1))]),mT 34 47,i 48 (.extract 0 (t 34)),i 49 (.extract 1 (t 34)),mT 5 48,mT 6 49]) (.seq (.ops [mT 50 5,mT 2 50]) .ret))))))
def a60:zAf:=⟨51,[(.tmp 2)],c60⟩
theorem n60:a60.ntmps=51:=id rfl
theorem r60:a60.results=[(.tmp 2)]:=rfl
theorem b60:a60.body=c60:=rfl
def l61_1:zAc:=(.seq (.ops [i 12 (.bin .lss (t 11) (t 10))]) (.seq (.cond (t 12) .skip (.exit 0)) (.seq (.block 1 (.seq (.ops [xT 13 4 9 11,i 14 (.loadN 4 (t 13)),i 7 (.alloc [(.int .u8 0),(.int .i64 0),(.int .i64 0),(.int .i64 0)]),s (.store 4 (t 7) (t 14))]) (.seq (.ops [mT 15 1,i 16 (.loadN 4 (t 7)),i 17 (.call .any (t 15) [(t 16)])]) (.cond (t 17) (.seq (.ops [i 18 (.loadN 4 (t 7)),s (.store 4 (t 4) (t 18)),i 5 (.mov (k (.bool true)))]) .ret) .skip)))) (.ops [i 19 (.bin .add (t 11) (zT 1)),mT 11 19]))))
def c61:zAc:=(.seq (.ops [i 4 (.alloc [(.int .u8 0),(.int .i64 0),(.int .i64 0),(.int .i64 0)]),i 5 (.mov (k (.bool false)))]) (.seq (.seq (.ops [mT 9 0,i 10 (.lenSlice (t 9)),i 11 (.mov (zT 0))]) (.block 0 (.loop l61_1))) (.seq (.ops [i 8 (.alloc [(.int .u8 0),(.int .i64 0),(.int .i64 0),(.int .i64 0)])]) (.seq (.ops [i 20 (.loadN 4 (t 8)),s (.store 4 (t 4) (t 20)),i 5 (.mov (k (.bool false)))]) .ret))))
def a61:zAf:=⟨21,[(.cellN 4 4),(.tmp 5)],c61⟩
theorem n61:a61.ntmps=21:=id rfl
theorem r61:a61.results=[(.cellN 4 4),(.tmp 5)]:=rfl
theorem b61:a61.body=c61:=rfl
def c62:zAc:=(.seq (.ops [i 4 (.box (t 0)),i 5 (.mov (k (.bool false)))]) (.seq (.ops [fT 6 0 4,lT 7 6,lT 8 1,i 9 (.bin .eql (t 7) (t 8)),mT 10 9,p 11 10 (.fieldAddr 1 (t 4)),p 12 10 (.load1 (t 11)),p 13 10 (.load1 (t 2)),p 14 10 (.bin .eql (t 12) (t 13)),i 15 (.pick (t 10) (t 14) (k (.bool false))),mT 16 15,p 17 16 (.fieldAddr 2 (t 4)),p 18 16 (.load1 (t 17)),p 19 16 (.load1 (t 3)),p 20 16 (.bin .eql (t 18) (t 19)),i 21 (.pick (t 16) (t 20) (k (.bool false))),mT 5 21]) .ret))
def a62:zAf:=⟨22,[(.tmp 5)],c62⟩
theorem n62:a62.ntmps=22:=id rfl
theorem r62:a62.results=[(.tmp 5)]:=rfl
theorem b62:a62.body=c62:=rfl
def c63:zAc:=(.seq (.ops [i 8 (.mov (zT 0))]) (.seq (.seq (.ops [mT 9 0,i 10 (.call .any (.func 12) [(t 9)]),i 11 (.un .not (t 10))]) (.cond (t 11) (.seq (.ops [i 8 (.mov (zT 400))]) .ret) .skip)) (.seq (.seq (.ops [mT 12 1,i 13 (.call .any (.func 41) [(t 12)]),i 14 (.un .not (t 13))]) (.cond (t 14) (.seq (.ops [i 8 (.mov (zT 401))]) .ret) .skip)) (.seq (.seq (.ops [mT 15 2,i 16 (.call .any (.func 43) [(t 15)]),i 17 (.un .not (t 16))]) (.cond (t 17) (.seq (.ops [i 8 (.mov (zT 402))]) .ret) .skip)) (.seq (.seq (.ops [mT 18 3,i 19 (.call .any (.func 44) [(t 18)]),i 20 (.un .not (t 19))]) (.cond (t 20) (.seq (.ops [i 8 (.mov (zT 403))]) .ret) .skip)) (.seq (.ops [i 8 (.mov (zT 0))]) .ret))))))
def a63:zAf:=⟨21,[(.tmp 8)],c63⟩
theorem n63:a63.ntmps=21:=id rfl
theorem r63:a63.results=[(.tmp 8)]:=rfl
theorem b63:a63.body=c63:=rfl
def l64_1:zAc:=(.seq (.seq (.ops [mT 124 11,fT 125 1 13,lT 126 125,i 127 (.bin .add (t 124) (t 126)),mT 128 16,i 129 (.bin .mul (zT 1440) (t 128)),i 130 (.bin .add (t 127) (t 129)),fT 131 5 9,lT 132 131,i 133 (.bin .lss (t 130) (t 132))]) (.cond (t 133) .skip (.exit 4))) (.block 5 (.ops [mT 134 16,i 135 (.bin .add (t 134) (zT 1)),mT 16 135])))
def l64_2:zAc:=(.seq (.seq (.ops [mT 57 14,mT 58 1,i 59 (.lenSlice (t 58)),i 60 (.bin .lss (t 57) (t 59))]) (.cond (t 60) .skip (.exit 2))) (.seq (.block 3 (.seq (.drawn 0 [mT 63 1,mT 64 14,xT 65 7 63 64,fT 66 0 65,lT 67 66,fT 68 1 9,lT 69 68,i 70 (.bin .eql (t 67) (t 69))]) (.cond (t 70) (.ops [mT 71 1,mT 72 14,xT 73 7 71 72,i 74 (.loadN 7 (t 73)),s (.store 7 (t 13) (t 74))]) .skip))) (.ops [mT 61 14,i 62 (.bin .add (t 61) (zT 1)),mT 14 62])))
def l64_3:zAc:=(.seq (.seq (.ops [mT 19 10,mT 20 2,i 21 (.lenSlice (t 20)),i 22 (.bin .lss (t 19) (t 21))]) (.cond (t 22) .skip (.exit 0))) (.seq (.block 1 (.seq (.drawn 0 [mT 25 2,mT 26 10,xT 27 6 25 26,fT 28 0 27,lT 29 28,fT 30 1 7,lT 31 30,i 32 (.bin .eql (t 29) (t 31))]) (.cond (t 32) (.ops [mT 33 2,mT 34 10,xT 35 6 33 34,i 36 (.loadN 6 (t 35)),s (.store 6 (t 9) (t 36))]) .skip))) (.ops [mT 23 10,i 24 (.bin .add (t 23) (zT 1)),mT 10 24])))
def c64:zAc:=(.seq (.ops [i 7 (.box (t 3)),i 8 (.alloc [(.int .i64 0),(.int .i64 0),(.int .u8 0)])]) (.seq (.ops [i 18 (.build [(.int .i64 0),(.int .u8 0),(.int .i64 0),(.int .i64 0),(.int .i64 0),(.int .i64 0)] []),i 9 (.alloc [(.int .i64 0),(.int .u8 0),(.int .i64 0),(.int .i64 0),(.int .i64 0),(.int .i64 0)]),s (.store 6 (t 9) (t 18))]) (.seq (.seq (.ops [i 10 (.mov (zT 0))]) (.block 0 (.loop l64_3))) (.seq (.seq (.ops [fT 37 0 9,lT 38 37,i 39 (.bin .eql (t 38) (zT 0))]) (.cond (t 39) (.seq (.ops [fT 40 0 7,lT 41 40,i 42 (.build [(.int .i64 0),(.int .i64 0),(.int .u8 0)] [(0,(1,(t 41))),(1,(1,(zT 0))),(2,(1,(k (.int .u8 1))))]),s (.store 3 (t 8) (t 42))]) .ret) .skip)) (.seq (.ops [mT 44 0,fT 45 1 9,lT 46 45,fT 47 2 9,lT 48 47,fT 49 3 9,lT 50 49,fT 51 4 9,lT 52 51,i 53 (.call .any (.func 36) [(t 44),(t 46),(t 48),(t 50),(t 52)]),mT 43 53,i 54 (.extract 0 (t 43)),i 55 (.extract 1 (t 43)),mT 11 54,mT 12 55]) (.seq (.ops [i 56 (.build [(.int .u8 0),(.int .i64 0),(.int .i64 0),(.int .i64 0),(.int .i64 0),(.int .i64 0),(.int .i64 0)] []),i 13 (.alloc [(.int .u8 0),(.int .i64 0),(.int .i64 0),(.int .i64 0),(.int .i64 0),(.int .i64 0),(.int .i64 0)]),s (.store 7 (t 13) (t 56))]) (.seq (.seq (.ops [i 14 (.mov (zT 0))]) (.block 2 (.loop l64_2))) (.seq (.seq (.ops [mT 75 12,i 76 (.bin .neq (t 75) (zT 0)),mT 77 76,q 78 77 (.fieldAddr 0 (t 13)),q 79 77 (.load1 (t 78)),q 80 77 (.bin .eql (t 79) (k (.int .u8 0))),i 81 (.pick (t 77) (k (.bool true)) (t 80))]) (.cond (t 81) (.seq (.ops [fT 82 0 7,lT 83 82,i 84 (.build [(.int .i64 0),(.int .i64 0),(.int .u8 0)] [(0,(1,(t 83))),(1,(1,(zT 0))),(2,(1,(k (.int .u8 2))))]),s (.store 3 (t 8) (t 84))]) .ret) .skip)) (.seq (.seq (.ops [fT 85 2 7,lT 86 85,mT 87 11,fT 88 6 13,lT 89 88,i 90 (.bin .mul (zT 1440) (t 89)),i 91 (.bin .add (t 87) (t 90)),i 92 (.bin .gtr (t 86) (t 91))]) (.cond (t 92) (.seq (.ops [fT 93 0 7,lT 94 93,i 95 (.build [(.int .i64 0),(.int .i64 0),(.int .u8 0)] [(0,(1,(t 94))),(1,(1,(zT 0))),(2,(1,(k (.int .u8 3))))]),s (.store 3 (t 8) (t 95))]) .ret) .skip)) (.seq (.ops [fT 96 5 9,lT 97 96,i 98 (.bin .geq (t 97) (zT 0)),mT 99 98,p 100 99 (.fieldAddr 5 (t 9)),p 101 99 (.load1 (t 100)),p 102 99 (.fieldAddr 2 (t 7)),p 103 99 (.load1 (t 102)),p 104 99 (.bin .leq (t 101) (t 103)),i 105 (.pick (t 99) (t 104) (k (.bool false))),mT 15 105]) (.seq (.seq (.ops [fT 106 3 7,lT 107 106,i 108 (.bin .eql (t 107) (k (.int .u8 1)))]) (.cond (t 108) (.seq (.seq (.ops [mT 109 15,i 110 (.un .not (t 109))]) (.cond (t 110) (.seq (.ops [fT 111 0 7,lT 112 111,i 113 (.build [(.int .i64 0),(.int .i64 0),(.int .u8 0)] [(0,(1,(t 112))),(1,(1,(zT 0))),(2,(1,(k (.int .u8 4))))]),s (.store 3 (t 8) (t 113))]) .ret) .skip)) (.seq (.seq (.ops [fT 114 5 9,lT 115 114,mT 116 11,fT 117 1 13,lT 118 117,i 119 (.bin .add (t 116) (t 118)),i 120 (.bin .leq (t 115) (t 119))]) (.cond (t 120) (.seq (.ops [fT 121 0 7,lT 122 121,i 123 (.build [(.int .i64 0),(.int .i64 0),(.int .u8 0)] [(0,(1,(t 122))),(1,(1,(zT 0))),(2,(1,(k (.int .u8 5))))]),s (.store 3 (t 8) (t 123))]) .ret) .skip)) (.seq (.ops [i 16 (.mov (zT 0))]) (.seq (.block 4 (.loop l64_1)) (.seq (.ops [mT 136 16,fT 137 2 13,lT 138 137,i 139 (.bin .mul (t 136) (t 138)),mT 17 139]) (.seq (.seq (.ops [mT 140 17,fT 141 3 13,lT 142 141,i 143 (.bin .gtr (t 140) (t 142))]) (.cond (t 143) (.ops [fT 144 3 13,lT 145 144,mT 17 145]) .skip)) (.seq (.drawn 0 [fT 146 0 7,lT 147 146,fT 148 4 7,lT 149 148,mT 150 17,i 151 (.call .pure (.func 77) [(t 149),(t 150)]),i 152 (.build [(.int .i64 0),(.int .i64 0),(.int .u8 0)] [(0,(1,(t 147))),(1,(1,(t 151))),(2,(1,(k (.int .u8 6))))]),s (.store 3 (t 8) (t 152))]) .ret))))))) .skip)) (.seq (.seq (.ops [mT 153 15]) (.cond (t 153) (.seq (.ops [fT 154 0 7,lT 155 154,i 156 (.build [(.int .i64 0),(.int .i64 0),(.int .u8 0)] [(0,(1,(t 155))),(1,(1,(zT 0))),(2,(1,(k (.int .u8 5))))]),s (.store 3 (t 8) (t 156))]) .ret) .skip)) (.seq (.seq (.ops [fT 157 2 7,lT 158 157,mT 159 11,fT 160 4 13,lT 161 160,i 162 (.bin .add (t 159) (t 161)),i 163 (.bin .leq (t 158) (t 162))]) (.cond (t 163) (.seq (.ops [fT 164 0 7,lT 165 164,i 166 (.build [(.int .i64 0),(.int .i64 0),(.int .u8 0)] [(0,(1,(t 165))),(1,(1,(zT 0))),(2,(1,(k (.int .u8 4))))]),s (.store 3 (t 8) (t 166))]) .ret) .skip)) (.seq (.seq (.ops [fT 167 5 7,lT 168 167,fT 169 5 13,lT 170 169,i 171 (.bin .lss (t 168) (t 170))]) (.cond (t 171) (.seq (.ops [fT 172 0 7,lT 173 172,fT 174 5 7,lT 175 174,fT 176 4 7,lT 177 176,i 178 (.bin .add (t 175) (t 177)),i 179 (.build [(.int .i64 0),(.int .i64 0),(.int .u8 0)] [(0,(1,(t 173))),(1,(1,(t 178))),(2,(1,(k (.int .u8 6))))]),s (.store 3 (t 8) (t 179))]) .ret) .skip)) (.seq (.ops [fT 180 0 7,lT 181 180,fT 182 5 13,lT 183 182,fT 184 4 7,lT 185 184,i 186 (.bin .add (t 183) (t 185)),i 187 (.build [(.int .i64 0),(.int .i64 0),(.int .u8 0)] [(0,(1,(t 181))),(1,(1,(t 186))),(2,(1,(k (.int .u8 6))))]),s (.store 3 (t 8) (t 187))]) .ret)))))))))))))))
def a64:zAf:=⟨188,[(.cellN 3 8)],c64⟩
theorem n64:a64.ntmps=188:=id rfl
theorem r64:a64.results=[(.cellN 3 8)]:=rfl
theorem b64:a64.body=c64:=rfl
def c67:zAc:=(.seq (.ops [i 2 (.mov (k (.bool false)))]) (.seq (.ops [mT 3 0,mT 4 0,i 5 (.bin .neq (t 3) (t 4)),mT 2 5]) .ret))
def a67:zAf:=⟨6,[(.tmp 2)],c67⟩
theorem n67:a67.ntmps=6:=id rfl
theorem r67:a67.results=[(.tmp 2)]:=rfl
theorem b67:a67.body=c67:=rfl
def c68:zAc:=(.seq (.ops [i 2 (.mov (k (.bool false)))]) (.seq (.ops [mT 3 0,mT 4 0,i 5 (.bin .neq (t 3) (t 4)),mT 2 5]) .ret))
def a68:zAf:=⟨6,[(.tmp 2)],c68⟩
theorem n68:a68.ntmps=6:=id rfl
theorem r68:a68.results=[(.tmp 2)]:=rfl
theorem b68:a68.body=c68:=rfl
def c69:zAc:=(.seq (.ops [i 1 (.box (t 0)),i 2 (.mov (k (.bool false)))]) (.seq (.ops [fT 3 20 1,lT 4 3,i 5 (.un .not (t 4)),mT 2 5]) .ret))
def a69:zAf:=⟨6,[(.tmp 2)],c69⟩
theorem n69:a69.ntmps=6:=id rfl
theorem r69:a69.results=[(.tmp 2)]:=rfl
theorem b69:a69.body=c69:=rfl
def c70:zAc:=(.seq (.ops [i 1 (.box (t 0)),i 2 (.mov (k (.bool false)))]) (.seq (.ops [fT 3 21 1,lT 4 3,i 5 (.un .not (t 4)),mT 2 5]) .ret))
def a70:zAf:=⟨6,[(.tmp 2)],c70⟩
theorem n70:a70.ntmps=6:=id rfl
theorem r70:a70.results=[(.tmp 2)]:=rfl
theorem b70:a70.body=c70:=rfl
def c71:zAc:=(.seq (.ops [i 1 (.box (t 0)),i 2 (.mov (k (.bool false)))]) (.seq (.ops [fT 3 0 1,fT 4 2 3,lT 5 4,fT 6 19 1,lT 7 6,fT 8 12 1,fT 9 6 8,lT 10 9,i 11 (.bin .mul (t 10) (zT 1440)),i 12 (.bin .add (t 7) (t 11)),i 13 (.bin .gtr (t 5) (t 12)),mT 2 13]) .ret))
def a71:zAf:=⟨14,[(.tmp 2)],c71⟩
theorem n71:a71.ntmps=14:=id rfl
theorem r71:a71.results=[(.tmp 2)]:=rfl
theorem b71:a71.body=c71:=rfl
def c72:zAc:=(.seq (.ops [i 1 (.box (t 0)),i 2 (.mov (k (.bool false)))]) (.seq (.ops [fT 3 22 1,lT 4 3,mT 5 4,p 6 5 (.fieldAddr 24 (t 1)),p 7 5 (.load1 (t 6)),p 8 5 (.un .not (t 7)),i 9 (.pick (t 5) (t 8) (k (.bool false))),mT 2 9]) .ret))
def a72:zAf:=⟨10,[(.tmp 2)],c72⟩
theorem n72:a72.ntmps=10:=id rfl
theorem r72:a72.results=[(.tmp 2)]:=rfl
theorem b72:a72.body=c72:=rfl
def c73:zAc:=(.seq (.ops [i 1 (.box (t 0)),i 2 (.mov (k (.bool false)))]) (.seq (.ops [fT 3 22 1,lT 4 3,mT 5 4,p 6 5 (.fieldAddr 6 (t 1)),p 7 5 (.fieldAddr 5 (t 6)),p 8 5 (.load1 (t 7)),p 9 5 (.fieldAddr 19 (t 1)),p 10 5 (.load1 (t 9)),p 11 5 (.fieldAddr 12 (t 1)),p 12 5 (.fieldAddr 1 (t 11)),p 13 5 (.load1 (t 12)),p 14 5 (.bin .add (t 10) (t 13)),p 15 5 (.bin .leq (t 8) (t 14)),i 16 (.pick (t 5) (t 15) (k (.bool false))),mT 2 16]) .ret))
def a73:zAf:=⟨17,[(.tmp 2)],c73⟩
theorem n73:a73.ntmps=17:=id rfl
theorem r73:a73.results=[(.tmp 2)]:=rfl
theorem b73:a73.body=c73:=rfl
def c74:zAc:=(.seq (.ops [i 1 (.box (t 0)),i 2 (.mov (k (.bool false)))]) (.seq (.ops [fT 3 23 1,lT 4 3,mT 5 4,p 6 5 (.fieldAddr 24 (t 1)),p 7 5 (.load1 (t 6)),i 8 (.pick (t 5) (t 7) (k (.bool false))),mT 2 8]) .ret))
def a74:zAf:=⟨9,[(.tmp 2)],c74⟩
theorem n74:a74.ntmps=9:=id rfl
theorem r74:a74.results=[(.tmp 2)]:=rfl
theorem b74:a74.body=c74:=rfl
def c75:zAc:=(.seq (.ops [i 1 (.box (t 0)),i 2 (.mov (k (.bool false)))]) (.seq (.ops [fT 3 23 1,lT 4 3,mT 5 4,p 6 5 (.fieldAddr 0 (t 1)),p 7 5 (.fieldAddr 2 (t 6)),p 8 5 (.load1 (t 7)),p 9 5 (.fieldAddr 19 (t 1)),p 10 5 (.load1 (t 9)),p 11 5 (.fieldAddr 12 (t 1)),p 12 5 (.fieldAddr 4 (t 11)),p 13 5 (.load1 (t 12)),p 14 5 (.bin .add (t 10) (t 13)),p 15 5 (.bin .leq (t 8) (t 14)),i 16 (.pick (t 5) (t 15) (k (.bool false))),mT 2 16]) .ret))
def a75:zAf:=⟨17,[(.tmp 2)],c75⟩
theorem n75:a75.ntmps=17:=id rfl
theorem r75:a75.results=[(.tmp 2)]:=rfl
theorem b75:a75.body=c75:=rfl
def c76:zAc:=(.seq (.ops [i 3 (.box (t 0)),i 6 (.mov (zT 0)),i 7 (.mov (zT 0))]) (.seq (.seq (.ops [lT 13 3,i 14 (.call .any (.func 88) [(t 13)]),i 15 (.un .not (t 14)),mT 16 15,q 17 16 (.mov (t 1)),q 18 16 (.bin .lss (t 17) (zT 0)),i 19 (.pick (t 16) (k (.bool true)) (t 18)),mT 20 19,q 21 20 (.mov (t 1)),q 22 20 (.bin .gtr (t 21) (zT 10000)),i 23 (.pick (t 20) (k (.bool true)) (t 22))]) (.cond (t 23) (.seq (.ops [i 6 (.mov (zT 0)),i 7 (.mov (zT 2))]) .ret) .skip)) (.seq (.ops [lT 25 3,mT 26 1,i 27 (.call .any (.func 89) [(t 25),(t 26),(zT 10000)]),mT 24 27,i 28 (.extract 0 (t 24)),i 29 (.extract 1 (t 24)),i 8 (.alloc [(.int .i64 0)]),i 9 (.alloc [(.int .i64 0)]),s (.store 1 (t 8) (t 28)),s (.store 1 (t 9) (t 29))]) (.seq (.ops [i 30 (.makeMap none),s (.mapUpdate (.int .u8) (t 30) (k (.int .u8 1)) (.func 90)),i 31 (.makeFunc 91 [] [(t 9)]),s (.mapUpdate (.int .u8) (t 30) (k (.int .u8 2)) (t 31)),i 32 (.makeFunc 93 [] [(t 9),(t 3)]),s (.mapUpdate (.int .u8) (t 30) (k (.int .u8 3)) (t 32)),i 33 (.makeFunc 94 [] [(t 9),(t 8)]),s (.mapUpdate (.int .u8) (t 30) (k (.int .u8 4)) (t 33)),mT 34 30,mT 10 34]) (.seq (.ops [mT 36 10,mT 37 2,i 38 (.lookup (.int .u8) .nilFunc true (t 36) (t 37)),mT 35 38,i 39 (.extract 0 (t 35)),i 40 (.extract 1 (t 35)),mT 11 39,mT 12 40]) (.seq (.seq (.ops [mT 41 12,i 42 (.un .not (t 41))]) (.cond (t 42) (.seq (.ops [i 6 (.mov (zT 0)),i 7 (.mov (zT 2))]) .ret) .skip)) (.seq (.drawn 0 [lT 43 8,mT 44 11,i 45 (.call .pure (t 44) []),i 46 (.bin .add (t 43) (t 45)),mT 6 46,i 7 (.mov (zT 0))]) .ret)))))))
def a76:zAf:=⟨47,[(.tmp 6),(.tmp 7)],c76⟩
theorem n76:a76.ntmps=47:=id rfl
theorem r76:a76.results=[(.tmp 6),(.tmp 7)]:=rfl
theorem b76:a76.body=c76:=rfl
def c77:zAc:=(.seq (.ops [i 4 (.mov (zT 0))]) (.seq (.ops [mT 5 0,i 6 (.bin .quo (t 5) (zT 10000)),mT 7 1,i 8 (.bin .mul (t 6) (t 7)),mT 9 0,i 10 (.bin .rem (t 9) (zT 10000)),mT 11 1,i 12 (.bin .mul (t 10) (t 11)),i 13 (.bin .quo (t 12) (zT 10000)),i 14 (.bin .add (t 8) (t 13)),mT 4 14]) .ret))
def a77:zAf:=⟨15,[(.tmp 4)],c77⟩
theorem n77:a77.ntmps=15:=id rfl
theorem r77:a77.results=[(.tmp 4)]:=rfl
theorem b77:a77.body=c77:=rfl
def c88:zAc:=(.seq (.ops [i 2 (.mov (k (.bool false)))]) (.seq (.ops [mT 3 0,i 4 (.bin .geq (t 3) (zT (-1000000000000000))),mT 5 4,p 6 5 (.mov (t 0)),p 7 5 (.bin .leq (t 6) (zT 1000000000000000)),i 8 (.pick (t 5) (t 7) (k (.bool false))),mT 2 8]) .ret))
def a88:zAf:=⟨9,[(.tmp 2)],c88⟩
theorem n88:a88.ntmps=9:=id rfl
theorem r88:a88.results=[(.tmp 2)]:=rfl
theorem b88:a88.body=c88:=rfl
def c89:zAc:=(.seq (.ops [i 6 (.mov (zT 0)),i 7 (.mov (zT 0))]) (.seq (.drawn 0 [mT 10 0,mT 11 2,i 12 (.bin .quo (t 10) (t 11)),mT 13 0,mT 14 2,i 15 (.bin .rem (t 13) (t 14)),mT 8 12,mT 9 15]) (.seq (.seq (.ops [mT 16 9,i 17 (.bin .lss (t 16) (zT 0))]) (.cond (t 17) (.seq (.ops [mT 18 8,i 19 (.bin .sub (t 18) (zT 1)),mT 8 19]) (.ops [mT 20 9,mT 21 2,i 22 (.bin .add (t 20) (t 21)),mT 9 22])) .skip)) (.seq (.drawn 0 [mT 23 8,mT 24 1,i 25 (.bin .mul (t 23) (t 24)),mT 26 9,mT 27 1,i 28 (.bin .mul (t 26) (t 27)),mT 29 2,i 30 (.bin .quo (t 28) (t 29)),i 31 (.bin .add (t 25) (t 30)),mT 32 9,mT 33 1,i 34 (.bin .mul (t 32) (t 33)),mT 35 2,i 36 (.bin .rem (t 34) (t 35)),mT 6 31,mT 7 36]) .ret))))
def a89:zAf:=⟨37,[(.tmp 6),(.tmp 7)],c89⟩
theorem n89:a89.ntmps=37:=id rfl
theorem r89:a89.results=[(.tmp 6),(.tmp 7)]:=rfl
theorem b89:a89.body=c89:=rfl
def c90:zAc:=(.seq (.ops [i 0 (.mov (zT 0))]) (.seq (.ops [i 0 (.mov (zT 0))]) .ret))
def a90:zAf:=⟨1,[(.tmp 0)],c90⟩
theorem n90:a90.ntmps=1:=id rfl
theorem r90:a90.results=[(.tmp 0)]:=rfl
theorem b90:a90.body=c90:=rfl
def c91:zAc:=(.seq (.ops [i 1 (.mov (zT 0))]) (.seq (.ops [lT 2 0,i 3 (.bin .gtr (t 2) (zT 0)),i 4 (.call .any (.func 92) [(t 3)]),mT 1 4]) .ret))
def a91:zAf:=⟨5,[(.tmp 1)],c91⟩
def c92:zAc:=(.seq (.ops [i 2 (.mov (zT 0))]) (.seq (.seq (.ops [mT 3 0]) (.cond (t 3) (.seq (.ops [i 2 (.mov (zT 1))]) .ret) .skip)) (.seq (.ops [i 2 (.mov (zT 0))]) .ret)))
def a92:zAf:=⟨4,[(.tmp 2)],c92⟩
def c93:zAc:=(.seq (.ops [i 2 (.mov (zT 0))]) (.seq (.ops [lT 3 0,i 4 (.bin .mul (zT 2) (t 3)),i 5 (.bin .gtr (t 4) (zT 10000)),mT 6 5,q 7 6 (.load1 (t 0)),q 8 6 (.bin .mul (zT 2) (t 7)),q 9 6 (.bin .eql (t 8) (zT 10000)),q 10 6 (.mov (t 9)),p 11 10 (.load1 (t 1)),p 12 10 (.bin .gtr (t 11) (zT 0)),q 13 6 (.pick (t 10) (t 12) (k (.bool false))),i 14 (.pick (t 6) (k (.bool true)) (t 13)),i 15 (.call .any (.func 92) [(t 14)]),mT 2 15]) .ret))
def a93:zAf:=⟨16,[(.tmp 2)],c93⟩
def c94:zAc:=(.seq (.ops [i 2 (.mov (zT 0))]) (.seq (.ops [lT 3 0,i 4 (.bin .mul (zT 2) (t 3)),i 5 (.bin .gtr (t 4) (zT 10000)),mT 6 5,q 7 6 (.load1 (t 0)),q 8 6 (.bin .mul (zT 2) (t 7)),q 9 6 (.bin .eql (t 8) (zT 10000)),q 10 6 (.mov (t 9)),p 11 10 (.load1 (t 1)),p 12 10 (.bin .rem (t 11) (zT 2)),p 13 10 (.bin .neq (t 12) (zT 0)),q 14 6 (.pick (t 10) (t 13) (k (.bool false))),i 15 (.pick (t 6) (k (.bool true)) (t 14)),i 16 (.call .any (.func 92) [(t 15)]),mT 2 16]) .ret))
def a94:zAf:=⟨17,[(.tmp 2)],c94⟩
def i1_:List FuncId:=[7,10,11,12,13,15,16,18,19,20,21,22]
def v1_:List zAf:=[a7,a10,a11,a12,a13,a15,a16,a18,a19,a20,a21,a22]
def i2_:List FuncId:=[23,24,25,26,27,28,31,32,33,34,35,36]
def v2_:List zAf:=[a23,a24,a25,a26,a27,a28,a31,a32,a33,a34,a35,a36]
def i3_:List FuncId:=[37,38,39,40,41,42,43,44,45,46,47,48]
def v3_:List zAf:=[a37,a38,a39,a40,a41,a42,a43,a44,a45,a46,a47,a48]
def i4_:List FuncId:=[49,51,52,53,54,55,56,57,58,59,60,61]
def v4_:List zAf:=[a49,a51,a52,a53,a54,a55,a56,a57,a58,a59,a60,a61]
def i5_:List FuncId:=[62,63,64,67,68,69,70,71,72,73,74,75]
def v5_:List zAf:=[a62,a63,a64,a67,a68,a69,a70,a71,a72,a73,a74,a75]
def i6_:List FuncId:=[76,77,88,89,90,91,92,93,94]
def v6_:List zAf:=[a76,a77,a88,a89,a90,a91,a92,a93,a94]
def ids:List FuncId:=i1_++i2_++i3_++i4_++i5_++i6_
def fns:List zAf:=v1_++v2_++v3_++v4_++v5_++v6_
def tr (g:FuncId):Option zAf:=(ids.zip fns).lookup g
theorem e7:tr 7=some a7:=rfl
theorem e11:tr 11=some a11:=rfl
theorem e12:tr 12=some a12:=rfl
theorem e13:tr 13=some a13:=rfl
theorem e15:tr 15=some a15:=rfl
theorem e16:tr 16=some a16:=rfl
theorem e18:tr 18=some a18:=rfl
theorem e19:tr 19=some a19:=rfl
theorem e20:tr 20=some a20:=rfl
theorem e21:tr 21=some a21:=rfl
theorem e22:tr 22=some a22:=rfl
theorem e23:tr 23=some a23:=rfl
theorem e24:tr 24=some a24:=rfl
theorem e25:tr 25=some a25:=rfl
theorem e26:tr 26=some a26:=rfl
theorem e27:tr 27=some a27:=rfl
theorem e28:tr 28=some a28:=rfl
theorem e31:tr 31=some a31:=rfl
theorem e32:tr 32=some a32:=rfl
theorem e33:tr 33=some a33:=rfl
theorem e34:tr 34=some a34:=rfl
theorem e35:tr 35=some a35:=rfl
theorem e36:tr 36=some a36:=rfl
theorem e37:tr 37=some a37:=rfl
theorem e38:tr 38=some a38:=rfl
theorem e39:tr 39=some a39:=rfl
theorem e40:tr 40=some a40:=rfl
theorem e41:tr 41=some a41:=rfl
theorem e42:tr 42=some a42:=rfl
theorem e43:tr 43=some a43:=rfl
theorem e44:tr 44=some a44:=rfl
theorem e45:tr 45=some a45:=rfl
theorem e46:tr 46=some a46:=rfl
theorem e47:tr 47=some a47:=rfl
theorem e48:tr 48=some a48:=rfl
theorem e49:tr 49=some a49:=rfl
theorem e51:tr 51=some a51:=rfl
theorem e52:tr 52=some a52:=rfl
theorem e53:tr 53=some a53:=rfl
theorem e54:tr 54=some a54:=rfl
theorem e55:tr 55=some a55:=rfl
theorem e56:tr 56=some a56:=rfl
theorem e57:tr 57=some a57:=rfl
theorem e58:tr 58=some a58:=rfl
theorem e59:tr 59=some a59:=rfl
theorem e60:tr 60=some a60:=rfl
theorem e61:tr 61=some a61:=rfl
theorem e62:tr 62=some a62:=rfl
theorem e63:tr 63=some a63:=rfl
theorem e64:tr 64=some a64:=rfl
theorem e67:tr 67=some a67:=rfl
theorem e68:tr 68=some a68:=rfl
theorem e69:tr 69=some a69:=rfl
theorem e70:tr 70=some a70:=rfl
theorem e71:tr 71=some a71:=rfl
theorem e72:tr 72=some a72:=rfl
theorem e73:tr 73=some a73:=rfl
theorem e74:tr 74=some a74:=rfl
theorem e75:tr 75=some a75:=rfl
theorem e76:tr 76=some a76:=rfl
theorem e77:tr 77=some a77:=rfl
theorem e88:tr 88=some a88:=rfl
theorem e89:tr 89=some a89:=rfl
theorem e90:tr 90=some a90:=rfl
end Go.Proofs.Ytlmoijifgbkapaa.Fn

namespace Go.AM
section
variable {α:Type}
def gt [Inhabited α] (l:List α) (i:Nat):α:=l.getD i default
theorem zGl [Inhabited α] {l:List α} {i:Nat} (h:i<l.length):gt l i=l[i]:=by simp [gt,List.getD_eq_getElem?_getD,List.getElem?_eq_getElem h]
theorem gt_cons_zero [Inhabited α] {x:α} {l:List α}:gt (x::l) 0=x:=rfl
theorem zGc [Inhabited α] {x:α} {l:List α} {i:Nat}:gt (x::l) (i+1)=gt l i:=by simp [gt]
theorem gt_mem [Inhabited α] {l:List α} {i:Nat} (h:i<l.length):gt l i∈l:=by rw [zGl h];exact List.getElem_mem h
def addrOf (p:Option Addr):Addr:=p.getD ⟨0,0,none⟩
def elt (p:Option Addr) (e i:Nat):Addr:=(addrOf p).add (i*e)
def Sl (H:zH) (enc:α→List Value) (e:Nat) (p:Option Addr) (l:List α):Prop:=
 match p with
 | none=>l=[]
 | some a=>a.spot=none∧(l≠[]→∃ro c,zG H a.block=.cells ro c∧a.off+l.length*e≤c.length∧(c.drop a.off).take (l.length*e)=l.flatMap enc)
theorem zHa {H:zH} {i:Nat} {ro:Bool} {c:List Value} (h:zG H i=.cells ro c):i<H.length:=by
 rcases Nat.lt_or_ge i H.length with h1 | h1
 ·exact h1
 ·unfold zG at h
  rw [List.getD_eq_getElem?_getD,List.getElem?_eq_none h1] at h
  cases h
def cellsOf:Blk→List Value | .cells _ c=>c | _=>[]
def isCells:Blk→Bool | .cells _ _=>true | _=>false
theorem cellsOf_cells {ro:Bool} {c:List Value}:cellsOf (.cells ro c)=c:=rfl
theorem isCells_cells {ro:Bool} {c:List Value}:isCells (.cells ro c)=true:=id rfl
theorem Sl.app {H:zH} {enc:α→List Value} {e:Nat} {p:Option Addr} {l:List α} (h:Sl H enc e p l) (X:zH):Sl (H++X) enc e p l:=by
 cases p with
 | none=>exact h
 | some a=>
   refine ⟨h.1,fun hn=>?_⟩
   obtain ⟨ro,c,h2,h3⟩:=h.2 hn
   exact ⟨ro,c,by rw [zHo (zHa h2)];exact h2,h3⟩
theorem Sl.sim {H G:zH} {enc:α→List Value} {e:Nat} {p:Option Addr} {l:List α} (h:Sl H enc e p l) (hG:∀b ro c,zG H b=.cells ro c→zG G b=.cells ro c):Sl G enc e p l:=by
 cases p with
 | none=>exact h
 | some a=>
   refine ⟨h.1,fun hn=>?_⟩
   obtain ⟨ro,c,h2,h3⟩:=h.2 hn
   exact ⟨ro,c,hG _ _ _ h2,h3⟩
theorem flat_len {enc:α→List Value} {e:Nat} (he:∀x,(enc x).length=e) (l:List α):(l.flatMap enc).length=l.length*e:=by
 induction l with
 | nil=>simp
 | cons x l ih=>simp [ih,he,Nat.add_mul,Nat.add_comm]
theorem flat_drop {enc:α→List Value} {e:Nat} (he:∀x,(enc x).length=e):∀(l:List α) (i:Nat),i<l.length→[Inhabited α]→((l.flatMap enc).drop (i*e)).take e=enc (gt l i)
 | [],i,h,_=>by simp at h
 | x::l,0,_,_=>by
   rw [List.flatMap_cons,Nat.zero_mul,List.drop_zero,List.take_append_of_le_length (by rw [he];exact Nat.le_refl _),List.take_of_length_le (by rw [he];exact Nat.le_refl _)]
   rfl
 | x::l,i+1,h,_=>by
   rw [List.flatMap_cons,List.drop_append,List.drop_eq_nil_of_le (by rw [he,Nat.add_mul];omega),List.nil_append,he,show (i+1)*e-e=i*e by rw [Nat.add_mul];omega]
   have:=flat_drop he l i (by simpa using h)
   rw [this,zGc]
variable [Inhabited α] {H:zH} {enc:α→List Value} {e:Nat} {p:Option Addr} {l:List α}
theorem Sl.loadCells (h:Sl H enc e p l) (he:∀x,(enc x).length=e) {i:Nat} (hi:i<l.length):AM.loadCells H (elt p e i) e=some (enc (gt l i)):=by
 cases p with
 | none=>simp only [Sl] at h;subst h;simp at hi
 | some a=>
   obtain ⟨b,o,s⟩:=a
   obtain ⟨ro,c,h2,h4,h3⟩:=h.2 (by rintro rfl;simp at hi)
   have h1:=h.1
   simp only at h1 h2 h3 h4;subst h1
   have hie:i*e+e≤l.length*e:=by
    have:=Nat.mul_le_mul_right e (Nat.succ_le_of_lt hi)
    rw [Nat.succ_mul] at this;exact this
   have hf:=flat_drop he l i hi
   rw [←h3,List.drop_take,List.take_take,List.drop_drop] at hf
   simp only [elt,addrOf,Option.getD_some,addr_add,AM.loadCells,h2]
   rw [if_pos (by omega),←hf,Nat.min_eq_left (by omega)]
theorem Sl.loadCell (h:Sl H enc e p l) (he:∀x,(enc x).length=e) {i j:Nat} (hi:i<l.length) (hj:j<e):AM.loadCell H ((elt p e i).add j)=(enc (gt l i))[j]?:=by
 have h0:=h.loadCells he hi
 cases p with
 | none=>simp only [Sl] at h;subst h;simp at hi
 | some a=>
   obtain ⟨b,o,s⟩:=a
   obtain ⟨ro,c,h2,h4,h3⟩:=h.2 (by rintro rfl;simp at hi)
   have h1:=h.1
   simp only at h1 h2 h3 h4;subst h1
   simp only [elt,addrOf,Option.getD_some,addr_add,AM.loadCells,h2] at h0
   split at h0
   ·simp only [Option.some.injEq] at h0
    rw [←h0]
    simp only [elt,addrOf,Option.getD_some,addr_add,AM.loadCell,h2,List.getElem?_take,List.getElem?_drop,if_pos hj,Nat.add_assoc]
   ·cases h0
theorem Sl.loadCell0 (h:Sl H enc e p l) (he:∀x,(enc x).length=e) {i:Nat} (hi:i<l.length) (hj:0<e):AM.loadCell H (elt p e i)=(enc (gt l i))[0]?:=by
 rw [←h.loadCell he hi hj]
 congr 1
omit [Inhabited α] in
theorem Sl.idx (h:Sl H enc e p l) {i c:Nat} {k:IntKind} {H1:zH} (hi:i<l.length):idxK e (.slice p l.length c) (.int k (i:Int)) H1=some (.pointer (some (elt p e i)),H1):=by
 cases p with
 | none=>simp only [Sl] at h;subst h;simp at hi
 | some a=>exact idxK_nat hi
end
theorem hget_set_eq {X:zH} {j:Nat} {b:Blk} (h:j<X.length):zG (X.set j b) j=b:=by
 unfold zG;rw [List.getD_eq_getElem?_getD,List.getElem?_set_self h];rfl
theorem zHs {X:zH} {i j:Nat} {b:Blk} (h:i≠j):zG (X.set j b) i=zG X i:=by
 unfold zG;rw [List.getD_eq_getElem?_getD,List.getD_eq_getElem?_getD,List.getElem?_set_ne (Ne.symm h)]
theorem find_drop {α:Type} [Inhabited α] {l:List α} {i:Nat} {w:α→Bool} (h:i<l.length):(l.drop i).find? w=if w (gt l i)=true then some (gt l i) else (l.drop (i+1)).find? w:=by
 rw [List.drop_eq_getElem_cons h,List.find?_cons,zGl h]
 split<;>simp_all
theorem idxK_zero {e len c:Nat} {p:Addr} {k:IntKind} {H:zH} (h:0<len):idxK e (.slice (some p) len c) (.int k 0) H=some (.pointer (some (p.add 0)),H):=by
 have:=idxK_nat (e:=e) (n:=0) (len:=len) (c:=c) (p:=p) (k:=k) (H:=H) h
 rw [Nat.zero_mul] at this
 exact this
theorem keyOk_int {k:IntKind} {n:Int}:keyOk (.int k) (.int k n)=true:=by simp [keyOk]
theorem keyOk_str {b:ByteArray}:keyOk .str (.string b)=true:=id rfl
theorem findKey_nil {v:Value} {i:Nat}:findKey v [] i=some none:=rfl
theorem findKey_int {k:IntKind} {a b:Int} {v:Value} {es:List (Value×Value)} {i:Nat}:findKey (.int k a) ((.int k b,v)::es) i=if a=b then some (some (i,v)) else findKey (.int k a) es (i+1):=by
 simp only [findKey,keyEq,if_true]
 by_cases h:a=b
 ·simp [h]
 ·have e:(a == b)=false:=by simpa using h
  simp [h,e]
theorem mapEntries_some {H:zH} {r:Nat}:mapEntries H (.map (some r))=(match zG H r with | .map es=>some es | _=>none):=rfl
theorem mapEntries_none {H:zH}:mapEntries H (.map none)=some []:=rfl
theorem findKey_no {α:Type} {k:IntKind} {a:Int} {f:α→Int} {g:α→Value}:∀{l:List α} {i:Nat},(∀x∈l,f x≠a)→findKey (.int k a) (l.map fun x=>(.int k (f x),g x)) i=some none
 | [],_,_=>rfl
 | x::l,i,h=>by
   rw [List.map_cons,findKey_int,if_neg (fun e=>h x (by simp) e.symm)]
   exact findKey_no fun y hy=>h y (by simp [hy])
theorem findKey_yes {α:Type} {k:IntKind} {a:Int} {f:α→Int} {g:α→Value} {v:Value}:∀{l:List α} {i:Nat},(∃x∈l,f x=a)→(∀x∈l,f x=a→g x=v)→∃j,findKey (.int k a) (l.map fun x=>(.int k (f x),g x)) i=some (some (j,v))
 | [],_,h,_=>by obtain ⟨x,hx,_⟩:=h;simp at hx
 | x::l,i,h,hv=>by
   rw [List.map_cons,findKey_int]
   by_cases e:a=f x
   ·exact ⟨i,by rw [if_pos e,hv x (by simp) e.symm]⟩
   ·rw [if_neg e]
    refine findKey_yes ?_ fun y hy=>hv y (by simp [hy])
    obtain ⟨y,hy,hy2⟩:=h
    rcases List.mem_cons.1 hy with rfl | hy
    ·exact absurd hy2.symm e
    ·exact ⟨y,hy,hy2⟩
def Ext (H G:zH):Prop:=∃X,G=H++X
section
variable {H G:zH}
theorem Ext.refl:Ext H H:=⟨[],by simp⟩
theorem Ext.app (h:Ext H G) {X:zH}:Ext H (G++X):=by
 obtain ⟨Y,rfl⟩:=h
 exact ⟨Y++X,by simp⟩
theorem Ext.trans {K:zH} (h:Ext H G) (k:Ext G K):Ext H K:=by
 obtain ⟨Y,rfl⟩:=k
 exact h.app
theorem Ext.len (h:Ext H G):H.length≤G.length:=by
 obtain ⟨Y,rfl⟩:=h
 simp
theorem Ext.sl {α:Type} {enc:α→List Value} {e:Nat} {p:Option Addr} {l:List α} (h:Ext H G) (hs:Sl H enc e p l):Sl G enc e p l:=by
 obtain ⟨Y,rfl⟩:=h
 exact hs.app Y
theorem Ext.cells (h:Ext H G) {b:Nat} {ro:Bool} {c:List Value} (hs:zG H b=.cells ro c):zG G b=.cells ro c:=by
 obtain ⟨Y,rfl⟩:=h
 rw [zHo (zHa hs)];exact hs
end
section
variable {E:Env} {af:zAf} {lim:Nat} {K:List zAi} {fr:Nat→Value} {H:zH} {R:Value→zH→Prop} {b:zAc}
theorem zRr {S:Type} (m:S→Nat) (I:S→(Nat→Value)→zH→Prop) (s:S) (h0:I s fr H)
  (step:∀s fr H,I s fr H→(∀s' fr' H',I s' fr' H'→m s'<m s→Ret E af lim (.inLoop b::K) fr' H' R)→Ret E af lim (.code b::.inLoop b::K) fr H R) :
  Ret E af lim (.code (.loop b)::K) fr H R:=by
 rw [Ret_loop,←Ret_inLoop]
 have key:∀n s fr H,m s≤n→I s fr H→Ret E af lim (.inLoop b::K) fr H R:=by
  intro n
  induction n with
  | zero=>
    intro s fr H hm hi
    rw [Ret_inLoop]
    exact step s fr H hi fun s' fr' H' _ hl=>absurd hl (by omega)
  | succ n ih=>
    intro s fr H hm hi
    rw [Ret_inLoop]
    exact step s fr H hi fun s' fr' H' hi' hl=>ih s' fr' H' (by omega) hi'
 exact key _ s fr H (Nat.le_refl _) h0
theorem CallR.mono {mp:Bool} {g:FuncId} {as:List Value} {Q Q':Value→zH→Prop} (h:CallR E mp lim g as H Q) (hq:∀v H',Q v H'→Q' v H'):CallR E mp lim g as H Q':=by
 obtain ⟨n,L,h1,h2⟩:=h
 exact ⟨n,L,h1,h2.mono hq⟩
theorem Ret.mono {k:List zAi} {R':Value→zH→Prop} (h:Ret E af lim k fr H R) (hq:∀v H',R v H'→R' v H'):Ret E af lim k fr H R':=by
 obtain ⟨n,L,h1,h2⟩:=h
 exact ⟨n,L,h1,h2.mono hq⟩
theorem zRp {k:List zAi} (h:Ret E af lim k fr (H++[]) R):Ret E af lim k fr H R:=by rwa [List.append_nil] at h
theorem Ret_exit_eq {k k':List zAi} {id:Nat} (h:aExit id k=aExit id k'):Ret E af lim (.code (.exit id)::k) fr H R=Ret E af lim (.code (.exit id)::k') fr H R:=by
 cases hk:aExit id k' with
 | some K'=>rw [Ret_exit (h.trans hk),Ret_exit hk]
 | none=>
   have key:∀{k:List zAi},aExit id k=none→¬Ret E af lim (.code (.exit id)::k) fr H R:=by
    rintro k hk ⟨n,L,hx,_⟩
    cases n with
    | zero=>simp [aRun] at hx
    | succ n=>rw [aRun.eq_def] at hx;simp only [hk] at hx;cases hx
   exact propext ⟨fun q=>absurd q (key (h.trans hk)),fun q=>absurd q (key hk)⟩
theorem Ret_exit_code {id:Nat} {c:zAc}:Ret E af lim (.code (.exit id)::.code c::K) fr H R=Ret E af lim (.code (.exit id)::K) fr H R:=Ret_exit_eq (by simp [aExit])
theorem Ret_exit_loop {id:Nat} {c:zAc}:Ret E af lim (.code (.exit id)::.inLoop c::K) fr H R=Ret E af lim (.code (.exit id)::K) fr H R:=Ret_exit_eq (by simp [aExit])
theorem Ret_exit_other {id id':Nat} (h:id'≠id):Ret E af lim (.code (.exit id)::.inBlock id'::K) fr H R=Ret E af lim (.code (.exit id)::K) fr H R:=Ret_exit_eq (by simp [aExit,h])
theorem Ret_exit_here {id:Nat}:Ret E af lim (.code (.exit id)::.inBlock id::K) fr H R=Ret E af lim K fr H R:=Ret_exit (by simp [aExit])
def shutK (r:Option zH) (f:zH→Prop) (_:Bx f:=⟨⟩):Prop:=match r with | some H'=>f H' | none=>False
theorem shutK_some {f:zH→Prop}:shutK (some H) f=f H:=rfl
theorem Ret_retM:Ret E af lim (.code .retM::K) fr H R=shutK (shut lim (marks K) H) fun H'=>opK ((result fr H' af.results).map (·,H')) R:=by
 rw [Ret_first (r:=match shut lim (marks K) H with | some H'=>(result fr H' af.results).map (·,H') | none=>none) fun n=>by rw [aRun.eq_def];simp only;cases shut lim (marks K) H<;>rfl]
 cases shut lim (marks K) H<;>rfl
theorem marks_nil:marks []=[]:=rfl
theorem marks_code {c:zAc}:marks (.code c::K)=marks K:=rfl
theorem marks_loop {c:zAc}:marks (.inLoop c::K)=marks K:=rfl
theorem marks_block {id:Nat}:marks (.inBlock id::K)=marks K:=rfl
theorem marks_mark {i:Nat}:marks (.mark i::K)=marks K++[i]:=rfl
theorem shut_nil:shut lim [] H=some H:=rfl
theorem shut_cons {i:Nat} {l:List Nat} (h:zG H i=.dfr) (hl:lim≤i):shut lim (i::l) H=shut lim l (H.set i .dead):=by simp only [shut,h,if_pos hl]
def endB (i:Nat) (j:Option zAc) (H:zH) (b:Blk):Option (Value×zH):=match b with | .loop x=>some (.bool j.isNone,H.set i (.loop { x with st:=if j.isNone then 0 else 2,pend:=j })) | _=>none
theorem endB_on {i st N:Nat} {p:Option zAc} {g:Nat→Value} {ps:List Nat} {a b:zAc}:endB i none H (.loop ⟨st,p,g,N,ps,a,b⟩)=some (.bool true,H.set i (.loop ⟨0,none,g,N,ps,a,b⟩)):=rfl
theorem endB_off {i st N:Nat} {p:Option zAc} {g:Nat→Value} {ps:List Nat} {a b c:zAc}:endB i (some c) H (.loop ⟨st,p,g,N,ps,a,b⟩)=some (.bool false,H.set i (.loop ⟨2,some c,g,N,ps,a,b⟩)):=rfl
theorem endRound_get {i:Nat} {j:Option zAc}:endRound i j H=endB i j H (zG H i):=by unfold endRound endB;cases zG H i<;>rfl
theorem Ret_round {i:Nat} (hl:lim≤i):Ret E af lim (.round i::K) fr H R=opK (endB i none H (zG H i)) R:=by
 rw [←endRound_get];exact Ret_first fun n=>by rw [aRun.eq_def];simp only [if_pos hl]
def begK (b:Blk) (f:LoopB→Prop) (_:Bx f:=⟨⟩):Prop:=match b with | .loop x=>if x.st=0 then f x else False | _=>False
theorem begK_loop {N:Nat} {p:Option zAc} {g:Nat→Value} {ps:List Nat} {a b:zAc} {f:LoopB→Prop}:begK (.loop ⟨0,p,g,N,ps,a,b⟩) f=f ⟨0,p,g,N,ps,a,b⟩:=by simp [begK]
theorem Ret_begin {i:Nat} (hl:lim≤i):Ret E af lim (.begin i::K) fr H R=begK (zG H i) fun x=>Ret E af lim K fr (H.set i (.loop { x with st:=1 })) R:=by
 unfold begK
 have never:(∀n,aRun E (n+1) af lim (.begin i::K) fr H=none)→Ret E af lim (.begin i::K) fr H R=False:=fun h=>by rw [Ret_first (r:=none) fun n=>(h n).trans rfl];rfl
 cases hb:zG H i with
 | loop x=>
   simp only
   split
   ·rename_i hs
    exact Ret.succ fun n=>by rw [aRun.eq_def];simp only [hb,if_pos (And.intro hs hl)]
   ·rename_i hs
    exact never fun n=>by rw [aRun.eq_def];simp only [hb,hs,false_and,if_false]
 | _=>exact never fun n=>by rw [aRun.eq_def];simp only [hb]
theorem Ret_never {k:List zAi} (h:∀n,aRun E (n+1) af lim k fr H=none):Ret E af lim k fr H R=False:=by rw [Ret_first (r:=none) fun n=>(h n).trans rfl];rfl
theorem Ret_retR_eq {k k':List zAi} (h:roundOf k=roundOf k'):Ret E af lim (.code .retR::k) fr H R=Ret E af lim (.code .retR::k') fr H R:=by
 rw [Ret_first (r:=match roundOf k with | some i=>if lim≤i then endRound i (some .retM) H else none | none=>none) fun n=>by rw [aRun.eq_def];simp only;cases roundOf k with | none=>rfl | some i=>simp only;split<;>rfl,
  Ret_first (k:=.code .retR::k') (r:=match roundOf k' with | some i=>if lim≤i then endRound i (some .retM) H else none | none=>none) fun n=>by rw [aRun.eq_def];simp only;cases roundOf k' with | none=>rfl | some i=>simp only;split<;>rfl,h]
theorem Ret_retR_code {c:zAc}:Ret E af lim (.code .retR::.code c::K) fr H R=Ret E af lim (.code .retR::K) fr H R:=Ret_retR_eq rfl
theorem Ret_retR_loop {c:zAc}:Ret E af lim (.code .retR::.inLoop c::K) fr H R=Ret E af lim (.code .retR::K) fr H R:=Ret_retR_eq rfl
theorem Ret_retR_block {id:Nat}:Ret E af lim (.code .retR::.inBlock id::K) fr H R=Ret E af lim (.code .retR::K) fr H R:=Ret_retR_eq rfl
theorem Ret_retR_round {i:Nat} (hl:lim≤i):Ret E af lim (.code .retR::.round i::K) fr H R=opK (endB i (some .retM) H (zG H i)) R:=by
 rw [←endRound_get];exact Ret_first fun n=>by rw [aRun.eq_def];simp only [roundOf,if_pos hl]
theorem Ret_exitR_eq {k k':List zAi} {id:Nat} (h:aExit id k=aExit id k') (h2:roundOf k=roundOf k'):Ret E af lim (.code (.exitR id)::k) fr H R=Ret E af lim (.code (.exitR id)::k') fr H R:=by
 cases hk:aExit id k' with
 | some K'=>
   exact (Ret.succ (k1:=K') (fr1:=fr) (H1:=H) fun n=>by rw [aRun.eq_def];simp only [h.trans hk]).trans (Ret.succ fun n=>by rw [aRun.eq_def];simp only [hk]).symm
 | none=>
   rw [Ret_first (r:=match roundOf k with | some i=>if lim≤i then endRound i (some (.exit id)) H else none | none=>none) fun n=>by rw [aRun.eq_def];simp only [h.trans hk];cases roundOf k with | none=>rfl | some i=>simp only;split<;>rfl,
    Ret_first (k:=.code (.exitR id)::k') (r:=match roundOf k' with | some i=>if lim≤i then endRound i (some (.exit id)) H else none | none=>none) fun n=>by rw [aRun.eq_def];simp only [hk];cases roundOf k' with | none=>rfl | some i=>simp only;split<;>rfl,h2]
theorem Ret_exitR_code {id:Nat} {c:zAc}:Ret E af lim (.code (.exitR id)::.code c::K) fr H R=Ret E af lim (.code (.exitR id)::K) fr H R:=Ret_exitR_eq (by simp [aExit]) rfl
theorem Ret_exitR_loop {id:Nat} {c:zAc}:Ret E af lim (.code (.exitR id)::.inLoop c::K) fr H R=Ret E af lim (.code (.exitR id)::K) fr H R:=Ret_exitR_eq (by simp [aExit]) rfl
theorem Ret_exitR_other {id id':Nat} (h:id'≠id):Ret E af lim (.code (.exitR id)::.inBlock id'::K) fr H R=Ret E af lim (.code (.exitR id)::K) fr H R:=Ret_exitR_eq (by simp [aExit,h]) rfl
theorem Ret_exitR_here {id:Nat}:Ret E af lim (.code (.exitR id)::.inBlock id::K) fr H R=Ret E af lim K fr H R:=Ret.succ fun n=>by rw [aRun.eq_def];simp [aExit]
theorem Ret_exitR_round {id i:Nat} (hl:lim≤i):Ret E af lim (.code (.exitR id)::.round i::[]) fr H R=opK (endB i (some (.exit id)) H (zG H i)) R:=by
 rw [←endRound_get];exact Ret_first fun n=>by rw [aRun.eq_def];simp only [aExit,roundOf,if_pos hl]
def pendI (x:LoopB):List zAi:=match x.pend with | none=>[] | some c=>[.code c]
theorem pendI_none {st N:Nat} {g:Nat→Value} {ps:List Nat} {a b:zAc}:pendI ⟨st,none,g,N,ps,a,b⟩=[]:=rfl
theorem pendI_some {st N:Nat} {g:Nat→Value} {ps:List Nat} {a b c:zAc}:pendI ⟨st,some c,g,N,ps,a,b⟩=[.code c]:=rfl
def calL (c:Option ((FuncId ⊕ Nat)×List Value)) (f:FuncId→List Value→Prop) (_:Bx f:=⟨⟩):Prop:=match c with | some (.inl g,as)=>f g as | _=>False
theorem calL_some {g:FuncId} {as:List Value} {f:FuncId→List Value→Prop}:calL (some (.inl g,as)) f=f g as:=rfl
def endK (b:Blk) (f:LoopB→Prop) (_:Bx f:=⟨⟩):Prop:=match b with | .loop x=>if x.st=1 then False else f x | _=>False
theorem endK_0 {N:Nat} {p:Option zAc} {g:Nat→Value} {ps:List Nat} {a b:zAc} {f:LoopB→Prop}:endK (.loop ⟨0,p,g,N,ps,a,b⟩) f=f ⟨0,p,g,N,ps,a,b⟩:=by simp [endK]
theorem endK_2 {N:Nat} {p:Option zAc} {g:Nat→Value} {ps:List Nat} {a b:zAc} {f:LoopB→Prop}:endK (.loop ⟨2,p,g,N,ps,a,b⟩) f=f ⟨2,p,g,N,ps,a,b⟩:=by simp [endK]
theorem endK_loop {x:LoopB} {f:LoopB→Prop} (h:x.st≠1):endK (.loop x) f=f x:=by simp [endK,h]
theorem Ret_rangeF0 {f:Operand} {ps:List Nat} {a b:zAc} {g:FuncId} {as:List Value} (hc:zCa (ev fr f) [.func (.yield (H.length+1)) #[] #[]] = some (.inl g,as)) :
  Ret E af lim (.code (.rangeF f ps a b)::K) fr H R=CallR E false lim g as (H++[.dfr,.loop ⟨0,none,fr,af.ntmps,ps,a,b⟩]) fun _ H2=>
   endK (zG H2 (H.length+1)) fun x=>Ret E af lim (pendI x++(K++[.mark H.length])) fr (H2.set (H.length+1) .dead) R:=by
 let F:=fun (n:Nat) (r:Value×zH)=>match zG r.2 (H.length+1) with
  | .loop x=>if x.st=1 then none else aRun E n af lim ((match x.pend with | none=>[] | some c=>[zAi.code c])++(K++[zAi.mark H.length])) fr (r.2.set (H.length+1) .dead)
  | _=>none
 have hF:∀n r s,F n r=some s→∃x,zG r.2 (H.length+1)=.loop x∧x.st≠1∧aRun E n af lim (pendI x++(K++[.mark H.length])) fr (r.2.set (H.length+1) .dead)=some s:=fun n r s h=>by
  simp only [F] at h
  split at h
  case h_2=>cases h
  rename_i x hb
  split at h
  ·cases h
  rename_i hst
  exact ⟨x,hb,hst,h⟩
 have hF':∀n r x s,zG r.2 (H.length+1)=.loop x→x.st≠1→aRun E n af lim (pendI x++(K++[.mark H.length])) fr (r.2.set (H.length+1) .dead)=some s→F n r=some s:=fun n r x s hb hst h=>by
  simp only [F,hb,if_neg hst]
  exact h
 have hne:∀n r s,F n r=some s→s≠[]:=fun n r s h=>by
  obtain ⟨x,_,_,h⟩:=hF n r s h
  exact aRun_ne E _ _ _ _ _ _ _ h
 have hmono:∀{n m r s},n≤m→F n r=some s→F m r=some s:=fun {n m r s} hnm h=>by
  obtain ⟨x,h1,h2,h3⟩:=hF n r s h
  exact hF' m r x s h1 h2 (aRun_le E hnm h3)
 have hrun:∀n,aRun E (n+1) af lim (.code (.rangeF f ps a b)::K) fr H=match zCw E (aRun E n) false lim (.inl g) as (H++[.dfr,.loop ⟨0,none,fr,af.ntmps,ps,a,b⟩]) with
   | some L=>bindL (F n) L
   | none=>none:=fun n=>by rw [aRun.eq_def];simp only [hc];rfl
 apply propext
 constructor
 ·rintro ⟨n,L,hx,hr⟩
  cases n with
  | zero=>simp [aRun] at hx
  | succ n=>
  rw [hrun] at hx
  split at hx
  case h_2=>cases hx
  rename_i L0 hcall
  refine ⟨n,L0,hcall,fun hd=>?_,fun r hr'=>?_⟩
  ·obtain ⟨y,hy⟩:=hr.1 hd
   exact bindL_one hx (fun x _ s hs=>hne n x s hs) hy
  ·obtain ⟨s,hs,hsub⟩:=bindL_fwd hx r hr'
   obtain ⟨x,h1,h2,h3⟩:=hF n r s hs
   rw [h1,endK_loop h2]
   refine ⟨n,s,h3,fun hd=>?_,fun q hq=>hr.2 q (hsub q hq)⟩
   obtain ⟨y,hy⟩:=hr.1 hd
   obtain ⟨z,hz⟩:=bindL_one hx (fun x _ s hs=>hne n x s hs) hy
   subst hz
   rw [List.mem_singleton] at hr'
   subst hr'
   simp only [bindL,hs,Option.some.injEq,List.append_nil] at hx
   exact ⟨y,hx.trans hy⟩
 ·rintro ⟨n,L0,hcall,hd,h2⟩
  have hall:∃N,∀r∈L0,∃s,F N r=some s∧Outs E.dt s R:=by
   clear hd hcall
   induction L0 with
   | nil=>exact ⟨0,fun r hr=>by cases hr⟩
   | cons y L0 ih=>
     obtain ⟨N,hN⟩:=ih fun r hr=>h2 r (by simp [hr])
     have hk:=h2 y (by simp)
     simp only [endK] at hk
     split at hk
     case h_2=>exact hk.elim
     rename_i x hb
     split at hk
     ·exact hk.elim
     rename_i hst
     obtain ⟨m,s,hx,hr⟩:=hk
     refine ⟨max N m,fun r hr'=>?_⟩
     rcases List.mem_cons.1 hr' with rfl | hr'
     ·exact ⟨s,hmono (Nat.le_max_right N m) (hF' m r x s hb hst hx),hr⟩
     ·obtain ⟨s',g1,g2⟩:=hN r hr'
      exact ⟨s',hmono (Nat.le_max_left N m) g1,g2⟩
  obtain ⟨N,hN⟩:=hall
  have e:zCw E (aRun E (max n N)) false lim (.inl g) as (H++[.dfr,.loop ⟨0,none,fr,af.ntmps,ps,a,b⟩])=some L0:=aCall_le E (Nat.le_max_left n N) _ _ _ _ _ _ hcall
  obtain ⟨L,hL⟩:=bindL_some (f:=F (max n N)) (l:=L0) fun r hr=>by
   obtain ⟨s,hs,_⟩:=hN r hr
   exact ⟨s,hmono (Nat.le_max_right n N) hs⟩
  refine ⟨max n N+1,L,by rw [hrun,e];exact hL,fun hdt=>?_,fun q hq=>?_⟩
  ·obtain ⟨y,rfl⟩:=hd hdt
   obtain ⟨s,hs,ho⟩:=hN y (by simp)
   have hs':=hmono (Nat.le_max_right n N) hs
   simp only [bindL,hs',Option.some.injEq,List.append_nil] at hL
   obtain ⟨z,hz⟩:=ho.1 hdt
   exact ⟨z,by rw [←hL,hz]⟩
  ·obtain ⟨r,hr,s,hs,hqs⟩:=bindL_back hL q hq
   obtain ⟨s',hs',ho⟩:=hN r hr
   have:=hmono (Nat.le_max_right n N) hs'
   rw [hs] at this
   cases this
   exact ho.2 q hqs
theorem Ret_rangeF {f:Operand} {ps:List Nat} {a b:zAc} :
  Ret E af lim (.code (.rangeF f ps a b)::K) fr H R=calL (zCa (ev fr f) [.func (.yield (H.length+1)) #[] #[]]) fun g as=>CallR E false lim g as (H++[.dfr,.loop ⟨0,none,fr,af.ntmps,ps,a,b⟩]) fun _ H2=>
   endK (zG H2 (H.length+1)) fun x=>Ret E af lim (pendI x++(K++[.mark H.length])) fr (H2.set (H.length+1) .dead) R:=by
 unfold calL
 split
 ·rename_i g as hc;exact Ret_rangeF0 hc
 ·rename_i hc
  refine Ret_never fun n=>?_
  rw [aRun.eq_def]
  simp only
theorem CallY.det {mp:Bool} {i:Nat} {as:List Value} {Q:Value→zH→Prop} {n:Nat} {v:Value} {H':zH} (h:aCall E n mp lim (.inr i) as H=some [(v,H')]):CallY E mp lim i as H Q=Q v H':=by
 rw [←CallT_inr,CallT.all h,Outs_one]
theorem CallY.mono {mp:Bool} {i:Nat} {as:List Value} {Q Q':Value→zH→Prop} (h:CallY E mp lim i as H Q) (hq:∀v H',Q v H'→Q' v H'):CallY E mp lim i as H Q':=by
 obtain ⟨n,L,h1,h2⟩:=h
 exact ⟨n,L,h1,h2.mono hq⟩
theorem zRc {c c':zAc} (h:c=c'):Ret E af lim (.code c::K) fr H R=Ret E af lim (.code c'::K) fr H R:=by rw [h]
theorem loadCell_lit {b o:Nat} {s:Option Nat}:AM.loadCell H ⟨b,o,s⟩=(match zG H b with | .cells _ c=>c[o]? | _=>none):=rfl
theorem loadCells_lit {b o n:Nat} {s:Option Nat}:AM.loadCells H ⟨b,o,s⟩ n=(match zG H b with | .cells _ c=>if o+n≤c.length then some ((c.drop o).take n) else none | _=>none):=rfl
theorem storeAt_lit {b o:Nat} {s:Option Nat} {vs:List Value}:AM.storeAt lim H ⟨b,o,s⟩ vs=(match zG H b with | .cells false c=>if lim≤b∧o+vs.length≤c.length then some (H.set b (.cells false (setAll c o vs))) else none | _=>none):=rfl
theorem CallR.eq {mp:Bool} {g:FuncId} {as:List Value} {Q:Value→zH→Prop} {v:Value} {H':zH} (h:CallR E mp lim g as H fun v' H1=>v'=v∧H1=H'):CallR E mp lim g as H Q=Q v H':=by
 obtain ⟨n,L,h1,h2⟩:=h
 rw [←CallT_inl,CallT.all h1]
 have hne:=aCall_ne E h1
 obtain ⟨x,hx⟩:=List.exists_mem_of_ne_nil _ hne
 have e:∀r∈L,r=(v,H'):=fun r hr=>by
  obtain ⟨a,b⟩:=h2.2 r hr
  exact Prod.ext a b
 apply propext
 constructor
 ·intro h
  have:=h.2 x hx
  rw [e x hx] at this
  exact this
 ·exact fun hq=>⟨h2.1,fun r hr=>by rw [e r hr];exact hq⟩
end
section
variable {p q:Prop} {t b:Bool}
theorem wantK_undef:wantK undef b p q=q:=by unfold undef wantK;rfl
theorem wantK_not:wantK (.bool (!t)) b p q=wantK (.bool t) (!b) p q:=by cases t<;>cases b<;>simp [wantK]
theorem condK_not:condK (.bool (!t)) p q=condK (.bool t) q p:=by cases t<;>rfl
end
theorem int_lt_cast {a b:Nat}:((a:Int)<(b:Int))=(a<b):=by simp
theorem int_le_cast {a b:Nat}:((a:Int)≤(b:Int))=(a≤b):=by simp
theorem int_zero_lt {a:Nat}:((0:Int)<(a:Int))=(0<a):=by simp
theorem zWi {n:Int} (h1:-2 ^ 63≤n) (h2:n<2 ^ 63):IntKind.i64.wrap n=n:=by
 by_cases h:0≤n
 ·have h1:n % 2 ^ 64=n:=Int.emod_eq_of_lt h (by omega)
  simp only [IntKind.wrap,IntKind.bits,IntKind.signed,h1]
  rw [if_neg (by simp;omega)]
 ·have h1:n % 2 ^ 64=n+2 ^ 64:=by
   rw [←Int.add_emod_right,Int.emod_eq_of_lt (by omega) (by omega)]
  simp only [IntKind.wrap,IntKind.bits,IntKind.signed,h1]
  rw [if_pos (by simp;omega)]
  omega
theorem wrap_pred {n:Nat} (h:0<n) (h2:n<2 ^ 63):IntKind.i64.wrap ((n:Int)-1)=((n-1:Nat):Int):=by rw [zWi (by omega) (by omega)];omega
theorem hget_cells {H:zH} {b:Nat} (h:isCells (zG H b)=true):∃ro,zG H b=.cells ro (cellsOf (zG H b)):=by
 cases hb:zG H b with
 | cells ro c=>exact ⟨ro,by simp [cellsOf]⟩
 | _=>rw [hb] at h;simp [isCells] at h
theorem Sl.lit {α:Type} {H:zH} {enc:α→List Value} {e b:Nat} {l:List α} (he:∀x,(enc x).length=e) (h:isCells (zG H b)=true) (hc:cellsOf (zG H b)=l.flatMap enc):Sl H enc e (some ⟨b,0,none⟩) l:=by
 obtain ⟨ro,h1⟩:=hget_cells h
 refine ⟨rfl,fun _=>⟨ro,_,h1, ?_, ?_⟩⟩
 ·rw [hc,flat_len he];simp
 ·rw [hc,List.drop_zero,List.take_of_length_le (by rw [flat_len he];exact Nat.le_refl _)]
def allFrom (P:Nat→Bool) (n i:Nat):Bool:=(List.range' i (n-i)).all P
theorem allFrom_step {P:Nat→Bool} {n i:Nat} (h:i<n):allFrom P n i=(P i&&allFrom P n (i+1)):=by
 unfold allFrom
 rw [show n-i=(n-(i+1))+1 by omega,List.range'_succ,List.all_cons]
theorem allFrom_end {P:Nat→Bool} {n:Nat}:allFrom P n n=true:=by simp [allFrom]
theorem allFrom_iff {P:Nat→Bool} {n i:Nat}:allFrom P n i=true↔∀j,i≤j→j<n→P j=true:=by
 unfold allFrom
 simp only [List.all_eq_true,List.mem_range'_1]
 exact ⟨fun h j h1 h2=>h j ⟨h1,by omega⟩,fun h j hj=>h j hj.1 (by omega)⟩
theorem cells_slice {a:Option Addr} {n c:Nat}:(Value.slice a n c).cells=#[.slice a n c]:=rfl
theorem cells_ptr {a:Option Addr}:(Value.pointer a).cells=#[.pointer a]:=rfl
theorem cells_str {s:ByteArray}:(Value.string s).cells=#[.string s]:=rfl
theorem arr1 {v:Value}:(#[v]:Array Value).toList=[v]:=rfl
theorem size1 {v:Value}:(#[v]:Array Value).size=1:=rfl
theorem cells_map {a:Option Nat}:(Value.map a).cells=#[.map a]:=rfl
theorem cells_func {f:Fn} {a b:Array Value}:(Value.func f a b).cells=#[.func f a b]:=rfl
theorem fillV_slice {off:Nat} {a:Option Addr} {n m:Nat} {c:List Value} (h:off<c.length):fillV off 1 (.slice a n m) c=some (c.set off (.slice a n m)):=fillV_one rfl rfl h
theorem fillV_ptr {off:Nat} {a:Option Addr} {c:List Value} (h:off<c.length):fillV off 1 (.pointer a) c=some (c.set off (.pointer a)):=fillV_one rfl rfl h
theorem fillV_str {off:Nat} {a:ByteArray} {c:List Value} (h:off<c.length):fillV off 1 (.string a) c=some (c.set off (.string a)):=fillV_one rfl rfl h
theorem fillV_map {off:Nat} {a:Option Nat} {c:List Value} (h:off<c.length):fillV off 1 (.map a) c=some (c.set off (.map a)):=fillV_one rfl rfl h
theorem pad_4:List.replicate 4 Blk.dead=[.dead,.dead,.dead,.dead]:=rfl
theorem pad_5:List.replicate 5 Blk.dead=[.dead,.dead,.dead,.dead,.dead]:=rfl
theorem pad_6:List.replicate 6 Blk.dead=[.dead,.dead,.dead,.dead,.dead,.dead]:=rfl
theorem pad_7:List.replicate 7 Blk.dead=[.dead,.dead,.dead,.dead,.dead,.dead,.dead]:=rfl
theorem pad_8:List.replicate 8 Blk.dead=[.dead,.dead,.dead,.dead,.dead,.dead,.dead,.dead]:=rfl
theorem pad_9:List.replicate 9 Blk.dead=[.dead,.dead,.dead,.dead,.dead,.dead,.dead,.dead,.dead]:=rfl
theorem pad_10:List.replicate 10 Blk.dead=[.dead,.dead,.dead,.dead,.dead,.dead,.dead,.dead,.dead,.dead]:=rfl
theorem pad_11:List.replicate 11 Blk.dead=[.dead,.dead,.dead,.dead,.dead,.dead,.dead,.dead,.dead,.dead,.dead]:=rfl
theorem pad_12:List.replicate 12 Blk.dead=[.dead,.dead,.dead,.dead,.dead,.dead,.dead,.dead,.dead,.dead,.dead,.dead]:=rfl
theorem bytesOf_nil:bytesOf []=some []:=rfl
theorem bytesOf_cons {n:Int} {l:List Value}:bytesOf (.int .u8 n::l)=(bytesOf l).map (UInt8.ofNat n.toNat::·):=by
 simp only [bytesOf];cases bytesOf l<;>rfl
theorem int_eq_cast {a b:Nat}:((a:Int)=(b:Int))=(a=b):=propext Int.ofNat_inj
theorem setAll_skip {v:Value} {c vs:List Value}:∀{o:Nat},setAll (v::c) (o+1) vs=v::setAll c o vs:=by
 induction vs generalizing c with
 | nil=>intro o;rfl
 | cons u vs ih=>intro o;rw [setAll_cons,setAll_cons,List.set_cons_succ];exact ih
theorem zTa {l:List Value} {n:Nat} (h:l.length=n):l.take n=l:=by subst h;exact List.take_length
theorem nat_not_neg {n:Nat}:((n:Int)<0)=False:=by simp
theorem zSa {c vs:List Value} (h:vs.length=c.length):setAll c 0 vs=vs:=by
 have key:∀(vs c pre:List Value),vs.length=c.length→setAll (pre++c) pre.length vs=pre++vs:=by
  intro vs
  induction vs with
  | nil=>intro c pre h;have:c=[]:=List.length_eq_zero_iff.1 h.symm;subst this;rfl
  | cons v vs ih=>
    intro c pre h
    match c,h with
    | x::c,h=>
      rw [setAll_cons]
      have e1:(pre++x::c).set pre.length v=(pre++[v])++c:=by simp
      rw [e1]
      have:=ih c (pre++[v]) (by simpa using h)
      rw [List.length_append] at this
      simp only [List.length_cons,List.length_nil,Nat.zero_add] at this
      rw [this];simp
 exact key vs c [] h
def b2sV (v:Value) (H:zH):Option (Value×zH):=match v with
 | .slice none n _=>if n=0 then some (.string .empty,H) else none
 | .slice (some a) n _=>match loadCells H a n with
   | some cs=>match bytesOf cs with
     | some bs=>some (.string ⟨bs.toArray⟩,H)
     | none=>none
   | none=>none
 | _=>none
theorem b2sV_some {a:Addr} {n c:Nat} {H:zH}:b2sV (.slice (some a) n c) H=(match AM.loadCells H a n with
  | some cs=>match bytesOf cs with
    | some bs=>some (.string ⟨bs.toArray⟩,H)
    | none=>none
  | none=>none):=rfl
theorem on_b2sV {E:Env} {lim:Nat} {mask:List Nat} {fr:Nat→Value} {H:zH} {Q:Value→zH→Prop} {qx:Operand}:oK E lim none none mask (.b2s qx) fr H Q=opK (b2sV (ev fr qx) H) Q:=zOn rfl
theorem ob_b2sV {E:Env} {lim b:Nat} {dest:Option Nat} {mask:List Nat} {fr:Nat→Value} {H:zH} {Q:Value→zH→Prop} {qx:Operand}:oK E lim (some b) dest mask (.b2s qx) fr H Q=opK (b2sV (ev fr qx) (zMh b mask H)) fun v H'=>Q v (zUm b mask H H'):=zOk rfl
def unV:Operand→Value
 | .const v=>v
 | _=>undef
def sliceV (e:Nat) (v:Value) (lo hi mx:Option Value):Option Value:=aSliceS e unV v (lo.map .const) (hi.map .const) (mx.map .const)
theorem aSliceS_V {e:Nat} {ρ:Operand→Value} {v:Value} {lo hi mx:Option Operand}:aSliceS e ρ v lo hi mx=sliceV e v (lo.map ρ) (hi.map ρ) (mx.map ρ):=by
 unfold sliceV aSliceS
 cases v with
 | slice a n c=>cases lo<;>cases hi<;>cases mx<;>rfl
 | _=>rfl
def copyV (lim esz:Nat) (d x:Value) (H:zH):Option (Value×zH):=match d,lenOf x with
    | .slice base dl _,some sl=>match copyCells H esz (min sl dl) x with
      | some cs=>match base with
        | some a=>if min sl dl=0 then some (.int .i64 0,H) else (storeAt lim H a cs).map (.int .i64 (min sl dl:Nat),·)
        | none=>if dl=0 then some (.int .i64 0,H) else none
      | none=>none
    | _,_=>none
theorem on_copyV {E:Env} {lim e:Nat} {mask:List Nat} {fr:Nat→Value} {H:zH} {Q:Value→zH→Prop} {d x:Operand}:oK E lim none none mask (.copy e d x) fr H Q=opK (copyV lim e (ev fr d) (ev fr x) H) Q:=zOn rfl
theorem ob_copyV {E:Env} {lim b e:Nat} {dest:Option Nat} {mask:List Nat} {fr:Nat→Value} {H:zH} {Q:Value→zH→Prop} {d x:Operand}:oK E lim (some b) dest mask (.copy e d x) fr H Q=opK (copyV lim e (ev fr d) (ev fr x) (zMh b mask H)) fun v H'=>Q v (zUm b mask H H'):=zOk rfl
def sliceAV (n e:Nat) (v:Value) (lo hi mx:Option Value):Option Value:=match v with
 | .pointer (some a)=>match bounds unV n n (lo.map .const) (hi.map .const) (mx.map .const) with
   | some (l,h,m)=>if m<2 ^ 62 then some (.slice (some (if m=l then a else a.add (l*e))) (h-l) (m-l)) else none
   | none=>none
 | _=>none
theorem sliceA_V {lim n e:Nat} {dest:Option Nat} {ρ:Operand→Value} {x:Operand} {lo hi mx:Option Operand} {H:zH}:aOp lim dest (.sliceA n e x lo hi mx) ρ H=(sliceAV n e (ρ x) (lo.map ρ) (hi.map ρ) (mx.map ρ)).map (·,H):=by
 have hb:bounds unV n n ((lo.map ρ).map .const) ((hi.map ρ).map .const) ((mx.map ρ).map .const)=bounds ρ n n lo hi mx:=by
  cases lo<;>cases hi<;>cases mx<;>rfl
 simp only [aOp,sliceAV,hb]
 cases ρ x with
 | pointer a=>
   cases a with
   | none=>rfl
   | some a=>
     simp only
     cases bounds ρ n n lo hi mx with
     | none=>rfl
     | some p=>
       obtain ⟨l,h,m⟩:=p
       simp only
       split<;>rfl
 | _=>rfl
theorem on_sliceAV {E:Env} {lim n e:Nat} {mask:List Nat} {fr:Nat→Value} {H:zH} {Q:Value→zH→Prop} {x:Operand} {lo hi mx:Option Operand}:oK E lim none none mask (.sliceA n e x lo hi mx) fr H Q=opK ((sliceAV n e (ev fr x) (lo.map (ev fr)) (hi.map (ev fr)) (mx.map (ev fr))).map (·,H)) Q:=by
 rw [zOn rfl,sliceA_V]
theorem ob_sliceAV {E:Env} {lim b n e:Nat} {dest:Option Nat} {mask:List Nat} {fr:Nat→Value} {H:zH} {Q:Value→zH→Prop} {x:Operand} {lo hi mx:Option Operand}:oK E lim (some b) dest mask (.sliceA n e x lo hi mx) fr H Q=opK ((sliceAV n e (ev fr x) (lo.map (ev fr)) (hi.map (ev fr)) (mx.map (ev fr))).map (·,zMh b mask H)) fun v H'=>Q v (zUm b mask H H'):=by
 rw [zOk rfl,sliceA_V]
def appendLV (lim:Nat) (dest:Option Nat) (esz bytes:Nat) (str:Bool) (s x:Value) (H:zH):Option (Value×zH):=match s with
    | .slice none n c=>zAa lim dest esz bytes str (.slice none n c) x H
    | .slice (some a) n c=>if c=loose esz∨c=n then zAa lim dest esz bytes str (.slice (some a) n c) x H else none
    | _=>none
theorem on_appendLV {E:Env} {lim e b:Nat} {str:Bool} {mask:List Nat} {fr:Nat→Value} {H:zH} {Q:Value→zH→Prop} {s x:Operand}:oK E lim none none mask (.appendL e b str s x) fr H Q=opK (appendLV lim none e b str (ev fr s) (ev fr x) H) Q:=zOn rfl
theorem ob_appendLV {E:Env} {lim e b' b:Nat} {str:Bool} {dest:Option Nat} {mask:List Nat} {fr:Nat→Value} {H:zH} {Q:Value→zH→Prop} {s x:Operand}:oK E lim (some b) dest mask (.appendL e b' str s x) fr H Q=opK (appendLV lim (dest.map (b+·)) e b' str (ev fr s) (ev fr x) (zMh b mask H)) fun v H'=>Q v (zUm b mask H H'):=zOk rfl
theorem appendLV_none {lim e b n c:Nat} {str:Bool} {dest:Option Nat} {x:Value} {H:zH}:appendLV lim dest e b str (.slice none n c) x H=zAa lim dest e b str (.slice none n c) x H:=rfl
theorem appendLV_some {lim e b n c:Nat} {str:Bool} {dest:Option Nat} {x:Value} {H:zH} {a:Addr}:appendLV lim dest e b str (.slice (some a) n c) x H=if c=loose e∨c=n then zAa lim dest e b str (.slice (some a) n c) x H else none:=rfl
section
variable {α:Type}
variable [Inhabited α] {enc:α→List Value} {G X:zH} {B e i:Nat} {d:Array α} {p:Option Addr} {lim:Nat}
omit [Inhabited α] in
theorem flat_set (he:∀x,(enc x).length=e) (y:α):∀(l:List α) (i:Nat),i<l.length→setAll (l.flatMap enc) (i*e) (enc y)=(l.set i y).flatMap enc:=by
 have key:∀(vs a b c:List Value) ,vs.length=b.length→setAll (a++b++c) a.length vs=a++vs++c:=by
  intro vs
  induction vs with
  | nil=>intro a b c h;simp at h;have:b=[]:=List.length_eq_zero_iff.1 h.symm;subst this;rfl
  | cons v vs ih=>
    intro a b c h
    match b,h with
    | x::b,h=>
      rw [setAll_cons]
      have e1:(a++x::b++c).set a.length v=(a++[v])++b++c:=by simp
      rw [e1]
      have:=ih (a++[v]) b c (by simpa using h)
      rw [List.length_append] at this
      simp only [List.length_cons,List.length_nil,Nat.zero_add] at this
      rw [this];simp
 intro l i hi
 have e1:l.flatMap enc=(l.take i).flatMap enc++enc l[i]++(l.drop (i+1)).flatMap enc:=by
  have e0:l=l.take i++l[i]::l.drop (i+1):=by rw [←List.drop_eq_getElem_cons hi,List.take_append_drop]
  have:=congrArg (List.flatMap enc) e0
  rw [List.flatMap_append,List.flatMap_cons] at this
  rw [this,List.append_assoc]
 have e2:(l.set i y).flatMap enc=(l.take i).flatMap enc++enc y++(l.drop (i+1)).flatMap enc:=by
  rw [List.set_eq_take_append_cons_drop,if_pos hi];simp
 have e3:i*e=((l.take i).flatMap enc).length:=by rw [flat_len he,List.length_take,Nat.min_eq_left (by omega)]
 rw [e1,e2,e3]
 exact key _ _ _ _ (by rw [he,he])
end
def SB:=And.intro @ne_eq.{1} (And.intro @if_true.{1} (And.intro @if_false.{1} (And.intro @dite_true.{1} (And.intro @dite_false.{1} (And.intro @Ret_seq (And.intro @wantK_tt (And.intro @wantK_ff (And.intro @wantK_tf (And.intro @wantK_ft (And.intro @condK_tt (And.intro @condK_ff (And.intro @int_beq (And.intro @int_bne (And.intro @not_dec (And.intro @fillParts_cons (And.intro @fillParts_nil (And.intro @fillK_some (And.intro @fillV_int (And.intro @fillV_bool (And.intro @fillV_agg (And.intro @setAll_nil (And.intro @setAll_cons (And.intro @Ret_cops (And.intro @Ret_exit_code (And.intro @Ret_exit_loop (And.intro @Ret_exit_other (And.intro @Ret_exit_here (And.intro @Ret_skip (And.intro @Ret_block (And.intro @Ret_inBlock (And.intro @Ret_cond (And.intro @Ret_is (And.intro @Ret_in (And.intro @false_and (And.intro @and_false (And.intro @Ret_ops_nil (And.intro @Ret_ret (And.intro @decide_true (And.intro @gK_none (And.intro @gK_some (And.intro @on_mov (And.intro @on_pick (And.intro @on_bin (And.intro @on_eqv (And.intro @on_un (And.intro @on_conv (And.intro @on_alloc (And.intro @on_box (And.intro @on_build (And.intro @on_buildSlice (And.intro @on_load1 (And.intro @on_loadN (And.intro @on_store (And.intro @on_nilCheck (And.intro @on_fieldAddr (And.intro @on_field1 (And.intro @on_fieldN (And.intro @on_idxAddrA (And.intro @on_idxAddrS (And.intro @on_idxA (And.intro @on_idxStr (And.intro @on_sliceS (And.intro @on_sliceStr (And.intro @on_lenStr (And.intro @on_lenSlice (And.intro @on_lenMap (And.intro @on_lenK (And.intro @on_append (And.intro @on_append0 (And.intro @on_minmax (And.intro @on_makeSlice (And.intro @on_makeMap (And.intro @on_lookup (And.intro @on_mapEntry (And.intro @on_entryStore (And.intro @on_mapUpdate (And.intro @on_delete (And.intro @on_clear (And.intro @on_makeFunc (And.intro @on_extract (And.intro @on_strId (And.intro @on_rowMark (And.intro @ob_mov (And.intro @ob_pick (And.intro @ob_bin (And.intro @ob_eqv (And.intro @ob_un (And.intro @ob_conv (And.intro @ob_alloc (And.intro @ob_box (And.intro @ob_build (And.intro @ob_buildSlice (And.intro @ob_load1 (And.intro @ob_loadN (And.intro @ob_loadR (And.intro @ob_loadO (And.intro @ob_storeN (And.intro @ob_storeO (And.intro @ob_store (And.intro @ob_storeD (And.intro @ob_nilCheck (And.intro @ob_fieldAddr (And.intro @ob_field1 (And.intro @ob_fieldN (And.intro @ob_idxAddrA (And.intro @ob_idxAddrS (And.intro @ob_idxA (And.intro @ob_idxStr (And.intro @ob_sliceS (And.intro @ob_sliceStr (And.intro @ob_lenStr (And.intro @ob_lenSlice (And.intro @ob_lenMap (And.intro @ob_lenK (And.intro @ob_append (And.intro @ob_append0 (And.intro @ob_minmax (And.intro @ob_makeSlice (And.intro @ob_makeMap (And.intro @ob_lookup (And.intro @ob_mapEntry (And.intro @ob_entryStore (And.intro @ob_mapUpdate (And.intro @ob_delete (And.intro @ob_clear (And.intro @ob_makeFunc (And.intro @ob_extract (And.intro @ob_strId (And.intro @ob_rowMark (And.intro @oK_call (And.intro @oK_callB (And.intro @oK_mapsB (And.intro @oK_recsB (And.intro @oK_range (And.intro @oK_next (And.intro @oK_entry (And.intro @on_capSlice (And.intro @ob_capSlice (And.intro @on_growNil (And.intro @ob_growNil (And.intro @calK_some (And.intro @pure_any (And.intro @free_any (And.intro @free_pure (And.intro @free_mk (And.intro @loadX_none (And.intro @loadX_some (And.intro @isRecB_ptr (And.intro @isRecB_slice (And.intro @isRecB_int (And.intro @pure_pure (And.intro @pure_mk (And.intro @lim_any (And.intro @lim_pure (And.intro @lim_mk (And.intro @CallT_inl (And.intro @CallT_inr (And.intro @Ret_retM (And.intro @marks_nil (And.intro @marks_code (And.intro @marks_loop (And.intro @marks_block (And.intro @marks_mark (And.intro @shut_nil (And.intro @shut_cons (And.intro @shutK_some (And.intro @Ret_round (And.intro @Ret_begin (And.intro @begK_loop (And.intro @endB_on (And.intro @endB_off (And.intro @Ret_retR_code (And.intro @Ret_retR_loop (And.intro @Ret_retR_block (And.intro @Ret_retR_round (And.intro @Ret_exitR_code (And.intro @Ret_exitR_loop (And.intro @Ret_exitR_other (And.intro @Ret_exitR_here (And.intro @Ret_exitR_round (And.intro @calL_some (And.intro @endK_0 (And.intro @endK_2 (And.intro @pendI_none (And.intro @pendI_some (And.intro @Ret_rangeF (And.intro @List.map_cons.{0,0} (And.intro @List.map_nil.{0,0} (And.intro @Option.map_none.{0,0} (And.intro @mask_nil (And.intro @mask_cons (And.intro @unmask_cons (And.intro @pad_one (And.intro @pad_zero (And.intro @pad_two (And.intro @pad_three (And.intro @Ret_drawn (And.intro @Nat.add_assoc (And.intro @unmask_nil (And.intro @unmask_mask (And.intro @ev_tmp (And.intro @ev_const (And.intro @ev_func (And.intro @upd_same (And.intro @upd_ne (And.intro @not_false_eq_true (And.intro @opK_some (And.intro @Option.map_some.{0,0} (And.intro @List.getD_cons_zero.{0} (And.intro @List.getD_cons_succ.{0} (And.intro @decide_false (And.intro @Bool.false_eq_true (And.intro @not_true_eq_false (And.intro @and_true (And.intro @true_and (And.intro @zHw (And.intro @zHn (And.intro @zHo (And.intro @set_new (And.intro @set_new0 (And.intro @List.set_cons_zero.{0} (And.intro @List.set_cons_succ.{0} (And.intro @List.append_assoc.{0} (And.intro @List.cons_append.{0} (And.intro @List.nil_append.{0} (And.intro @storeAt_lit (And.intro @loadCell_lit (And.intro @loadCells_lit (And.intro @idxK_nat (And.intro @List.length_cons.{0} (And.intro @List.length_nil.{0} (And.intro @addr_add (And.intro @List.drop_zero.{0} (And.intro @List.drop_succ_cons.{0} (And.intro @List.take_succ_cons.{0} (And.intro @List.take_zero.{0} (And.intro @Nat.le_refl (And.intro @Nat.le_add_right (And.intro @Nat.zero_add (And.intro @Nat.add_zero (And.intro @result_fin (And.intro @resAll_nil (And.intro @resAll_cons (And.intro @consK_some (And.intro @finK_one (And.intro @finK_more (And.intro @finK_nil (And.intro @cells_agg (And.intro @cells_int (And.intro @cells_bool (And.intro @arr_list (And.intro @arr_size (And.intro @Option.some.injEq.{0} (And.intro @Prod.mk.injEq.{0,0} (And.intro @List.length_append.{0} (And.intro @List.getElem?_cons_zero.{0} (And.intro @List.getElem?_cons_succ.{0} (And.intro @Nat.lt_irrefl (And.intro @and_self (And.intro @int_lt_cast (And.intro @int_le_cast (And.intro @wantK_not (And.intro @condK_not (And.intro @Bool.not_true (And.intro @Bool.not_false (And.intro @Nat.le_add_right_of_le (And.intro @int_zero_lt (And.intro @wantK_undef (And.intro @keyOk_int (And.intro @keyOk_str (And.intro @findKey_nil (And.intro @findKey_int (And.intro @mapEntries_some (And.intro @mapEntries_none (And.intro @Int.cast_ofNat_Int (And.intro @idxK_zero (And.intro @Ret_nil (And.intro @cells_slice (And.intro @cells_ptr (And.intro @cells_str (And.intro @cells_map (And.intro @cells_func (And.intro @arr1 (And.intro @size1 (And.intro @fillV_slice (And.intro @fillV_ptr (And.intro @fillV_str (And.intro @fillV_map (And.intro @nat_not_neg (And.intro @zSa (And.intro @Option.isNone_none.{0} (And.intro @Option.isNone_some.{0} (And.intro @Int.toNat_natCast (And.intro @zTa (And.intro @setAll_skip (And.intro @pad_4 (And.intro @pad_5 (And.intro @pad_6 (And.intro @pad_7 (And.intro @pad_8 (And.intro @pad_9 (And.intro @pad_10 (And.intro @pad_11 (And.intro @pad_12 (And.intro @bytesOf_cons (And.intro @bytesOf_nil (And.intro @int_eq_cast (And.intro @on_b2sV (And.intro @ob_b2sV (And.intro @b2sV_some (And.intro @aSliceS_V (And.intro @on_copyV (And.intro @ob_copyV (And.intro @on_sliceAV (And.intro @ob_sliceAV (And.intro @on_appendLV (And.intro @ob_appendLV (And.intro @appendLV_none (@appendLV_some)))))))))))))))))))))))))))))))))))))))))))))))))))))))))))))))))))))))))))))))))))))))))))))))))))))))))))))))))))))))))))))))))))))))))))))))))))))))))))))))))))))))))))))))))))))))))))))))))))))))))))))))))))))))))))))))))))))))))))))))))))))))))))))))))))))))))))))))))))))))))))))))))))))))))))))))))))))))))))))))
theorem frame0_at {args:List Value} {t:Nat}:zFr args t=args.getD t undef:=id rfl
def FB:=And.intro @upd_same (And.intro @upd_ne (And.intro @ne_eq.{1} (And.intro @not_false_eq_true (And.intro @frame0_at (And.intro @List.getD_cons_zero.{0} @List.getD_cons_succ.{0})))))
section
variable {G G' K:zH} {R:Nat} {b:Blk}
structure Mut (G G':zH) (R:Nat):Prop where
 len:G'.length=G.length
 other:∀j,j≠R→zG G' j=zG G j
theorem Mut.ext {H:zH} (h:Mut G G' R) (hE:Ext H G) (hR:H.length≤R):Ext H G':=by
 obtain ⟨Y,rfl⟩:=hE
 refine ⟨G'.drop H.length, ?_⟩
 apply List.ext_getElem
 ·have:=h.len;simp at this⊢;omega
 intro i h1 h2
 have hl:=h.len
 simp at hl
 by_cases hi:i<H.length
 ·rw [List.getElem_append_left hi]
  have:=h.other i (by omega)
  unfold zG at this
  rw [List.getD_eq_getElem?_getD,List.getD_eq_getElem?_getD,List.getElem?_eq_getElem h1,List.getElem?_eq_getElem (by simp;omega)] at this
  simp only [Option.getD_some] at this
  rw [this,List.getElem_append_left hi]
 ·rw [List.getElem_append_right (by omega),List.getElem_drop]
  congr 1
  omega
theorem Mut.cells (h:Mut G G' R) {j:Nat} {ro:Bool} {c:List Value} (hj:zG G j=.cells ro c) (hne:j≠R):zG G' j=.cells ro c:=by rw [h.other j hne];exact hj
theorem Mut.alive (h:Mut G G' R) {j:Nat} {B:Blk} (hj:zG G j=B) (hne:j≠R):zG G' j=B:=by rw [h.other j hne];exact hj
theorem Mut.sl {α:Type} {enc:α→List Value} {e:Nat} {p:Option Addr} {l:List α} (h:Mut G G' R) (hs:Sl G enc e p l) (hp:∀a,p=some a→l≠[]→a.block≠R):Sl G' enc e p l:=by
 cases p with
 | none=>exact hs
 | some a=>
   refine ⟨hs.1,fun hn=>?_⟩
   obtain ⟨ro,c,h2,h3⟩:=hs.2 hn
   exact ⟨ro,c,h.cells h2 (hp a rfl hn),h3⟩
theorem len_rules (h:G'.length=G.length):(G'.length=G.length)∧(∀(X:zH) (j:Nat),zG (G'++X) (G.length+j)=X.getD j .dead)∧(∀X:zH,zG (G'++X) G.length=X.getD 0 .dead)∧
  (∀(X:zH) (j:Nat) b,(G'++X).set (G.length+j) b=G'++X.set j b)∧(∀(X:zH) b,(G'++X).set G.length b=G'++X.set 0 b):=by
 refine ⟨h,fun X j=>by rw [←h];exact zHw,fun X=>by rw [←h];exact zHn,fun X j b=>?_,fun X b=>?_⟩
 ·rw [←h,List.set_append_right _ _ (by omega)];simp
 ·rw [←h,List.set_append_right _ _ (by omega)];simp
theorem mut_set (hR:R<G.length) (b:Blk):∃G',(∀X:zH,(G++X).set R b=G'++X)∧zG G' R=b∧Mut G G' R:=
 ⟨G.set R b,fun X=>List.set_append_left _ _ hR,hget_set_eq hR,by simp,fun j hj=>zHs hj⟩
end
def Own {α:Type} (lim:Nat) (G:zH) (enc:α→List Value) (e:Nat) (p:Option Addr) (cap:Nat) (l:List α):Prop:=
 (l=[]∧p=none∧cap=0)∨∃R,p=some ⟨R,0,none⟩∧cap=loose e∧zG G R=.cells false (l.flatMap enc)∧lim≤R
section
variable {α:Type} {lim e bytes cap:Nat} {G:zH} {enc:α→List Value} {p:Option Addr} {l m:List α}
theorem Own.nil:Own lim G enc e none 0 []:=.inl ⟨rfl,rfl,rfl⟩
theorem Own.app (h:Own lim G enc e p cap l) (X:zH):Own lim (G++X) enc e p cap l:=by
 rcases h with h | ⟨R,h1,h2,h3,h4⟩
 ·exact .inl h
 ·exact .inr ⟨R,h1,h2,by rw [zHo (zHa h3)];exact h3,h4⟩
theorem Own.mut {G':zH} {R:Nat} (h:Own lim G enc e p cap l) (hm:Mut G G' R) (hp:∀a,p=some a→a.block≠R):Own lim G' enc e p cap l:=by
 rcases h with h | ⟨R',h1,h2,h3,h4⟩
 ·exact .inl h
 ·exact .inr ⟨R',h1,h2,hm.cells h3 (hp _ h1),h4⟩
theorem Own.new {R:Nat} (hR:zG G R=.cells false (l.flatMap enc)) (hl:lim≤R):Own lim G enc e (some ⟨R,0,none⟩) (loose e) l:=.inr ⟨R,rfl,rfl,hR,hl⟩
theorem Own.sl (h:Own lim G enc e p cap l) (he:∀x,(enc x).length=e):Sl G enc e p l:=by
 rcases h with ⟨h1,h2,_⟩ | ⟨R,h1,h2,h3,h4⟩
 ·subst h1 h2;rfl
 ·subst h1;exact Sl.lit he (by rw [h3];rfl) (by rw [h3];rfl)
theorem Own.le (h:Own lim G enc e p cap l) {lim':Nat} (hl:lim'≤lim):Own lim' G enc e p cap l:=by
 rcases h with h | ⟨R,h1,h2,h3,h4⟩
 ·exact .inl h
 ·exact .inr ⟨R,h1,h2,h3,by omega⟩
theorem Own.block (h:Own lim G enc e p cap l) {a:Addr} (ha:p=some a):lim≤a.block∧a.block<G.length:=by
 rcases h with ⟨h1,h2,h3⟩ | ⟨R,h1,h2,h3,h4⟩
 ·rw [h2] at ha;cases ha
 ·rw [h1] at ha;cases ha;exact ⟨h4,zHa h3⟩
theorem Sl.cells (hs:Sl G enc e p m) (hm:m≠[]):∃a,p=some a∧AM.loadCells G a (m.length*e)=some (m.flatMap enc):=by
 cases p with
 | none=>exact absurd hs hm
 | some a=>
   obtain ⟨k1,k2⟩:=hs
   obtain ⟨ro,cs,k3,k4,k5⟩:=k2 hm
   refine ⟨a,rfl, ?_⟩
   obtain ⟨ab,ao,as'⟩:=a
   simp only [loadCells_lit]
   simp only at k3 k4 k5
   simp only [k3]
   rw [if_pos k4,k5]
theorem Own.push {lim':Nat} (h:Own lim G enc e p cap l) (hll:lim'≤lim) (he:∀x,(enc x).length=e) (he0:e≠0) (m:List α) (hm:m≠[]) (hb:(l.length+m.length)*bytes≤maxBytes) (hn:l.length+m.length<2 ^ 61) :
  ∃(G':zH) (R:Nat),(p=none→R=G.length)∧(∀a,p=some a→R=a.block)∧Mut G G' R∧(∀j,j≠R→zG G' j=zG G j)∧(∀H0:zH,Ext H0 G→H0.length≤lim→Ext H0 G')∧
   (∀(X:zH) (px:Option Addr) (k:Nat),Sl (G++X) enc e px m→zAa lim' none e bytes false (.slice p l.length cap) (.slice px m.length k) (G++X)=some (.slice (some ⟨G.length+X.length,0,none⟩) (l.length+m.length) (loose e),G'++(X++[.cells false ((l++m).flatMap enc)]))):=by
 have hm0:¬m.length=0:=by intro q;exact hm (List.length_eq_zero_iff.1 q)
 rcases h with ⟨h1,h2,h3⟩ | ⟨R,h1,h2,h3,h4⟩
 ·subst h1 h2 h3
  refine ⟨G,G.length,fun _=>rfl,fun a h=>(by cases h),⟨rfl,fun j _=>rfl⟩,fun j _=>rfl,fun H0 h _=>h,fun X px k hx=>?_⟩
  obtain ⟨a,rfl,hl⟩:=hx.cells hm
  simp only [List.length_nil,Nat.zero_add] at hb hn
  simp only [zAa,firstCells,lenOf,hl,hm0,if_false,Bool.false_eq_true,List.length_nil,Nat.zero_add]
  rw [if_neg (by omega)]
  simp [place]
 ·subst h1 h2
  have hRl:=zHa h3
  refine ⟨G.set R .dead,R,fun h=>(by cases h),fun a h=>(by cases h;rfl),⟨by simp,fun j hj=>zHs hj⟩,fun j hj=>zHs hj,fun H0 h hl=>Mut.ext (R:=R) ⟨by simp,fun j hj=>zHs hj⟩ h (by omega),fun X px k hx=>?_⟩
  obtain ⟨a,rfl,hl⟩:=hx.cells hm
  have hR':zG (G++X) R=.cells false (l.flatMap enc):=by rw [zHo hRl];exact h3
  have hold:AM.loadCells (G++X) ⟨R,0,none⟩ (l.length*e)=some (l.flatMap enc):=by
   simp only [loadCells_lit,hR',Nat.zero_add,flat_len he,Nat.le_refl,if_true,List.drop_zero]
   rw [List.take_of_length_le (by rw [flat_len he];exact Nat.le_refl _)]
  simp only [zAa,firstCells,lenOf,hl,hold,hR',hm0,if_false,Bool.false_eq_true,if_true]
  rw [if_neg (by unfold loose;omega)]
  simp [show lim'≤R by omega,place,List.set_append_left _ _ hRl,List.append_assoc]
theorem Own.push1 {lim':Nat} (h:Own lim G enc e p cap l) (hll:lim'≤lim) (he:∀x,(enc x).length=e) (he0:e≠0) (x:α) (hb:(l.length+1)*bytes≤maxBytes) (hn:l.length+1<2 ^ 61) :
  ∃(G':zH) (R:Nat),(p=none→R=G.length)∧(∀a,p=some a→R=a.block)∧Mut G G' R∧(∀H0:zH,Ext H0 G→H0.length≤lim→Ext H0 G')∧
   (∀(X:zH) (b k:Nat),zG (G++X) b=.cells false (enc x)→zAa lim' none e bytes false (.slice p l.length cap) (.slice (some ⟨b,0,none⟩) 1 k) (G++X)=some (.slice (some ⟨G.length+X.length,0,none⟩) (l.length+1) (loose e),G'++(X++[.cells false ((l++[x]).flatMap enc)]))):=by
 obtain ⟨G',R,h1,h2,h3,_,h4,h5⟩:=h.push hll he he0 [x] (by simp) (by simpa using hb) (by simpa using hn)
 refine ⟨G',R,h1,h2,h3,h4,fun X b k hx=>?_⟩
 exact h5 X (some ⟨b,0,none⟩) k (Sl.lit he (by rw [hx];rfl) (by rw [hx];simp [cellsOf]))
theorem append_none {lim e bytes n cap c:Nat} {dest:Option Nat} {p px:Option Addr} {H:zH} (he0:e≠0) (hp:n=0∨∃a,p=some a) (hb:n*bytes≤maxBytes) (hn:n<2 ^ 62) (hc:n≤cap) (hx:px=none∨∃a,px=some a):zAa lim dest e bytes false (.slice p n cap) (.slice px 0 c) H=some (.slice p n cap,H):=by
 rcases hx with rfl | ⟨a,rfl⟩
 ·simp only [zAa,firstCells,lenOf,Bool.false_eq_true,ne_eq,not_true_eq_false,or_self,if_false,Nat.add_zero]
  rw [if_neg (by omega)];rfl
 ·simp only [zAa,firstCells,lenOf,Bool.false_eq_true,if_false,if_true,Nat.add_zero]
  rw [if_neg (by omega)]
def boundsV (len cap:Nat) (lo hi mx:Option Value):Option (Nat×Nat×Nat):=bounds (fun o=>match o with | .const v=>v | _=>undef) len cap (lo.map .const) (hi.map .const) (mx.map .const)
theorem bounds_V {ρ:Operand→Value} {len cap:Nat} {lo hi mx:Option Operand}:bounds ρ len cap lo hi mx=boundsV len cap (lo.map ρ) (hi.map ρ) (mx.map ρ):=by
 unfold boundsV
 cases lo<;>cases hi<;>cases mx<;>rfl
theorem bound_int {n:Int} {m:Nat} {kk:IntKind} (h0:0≤n) (h:n≤(m:Int)):bound (.int kk n) m=some n.toNat:=by
 simp only [bound];rw [if_pos ⟨h0,h⟩]
section
variable {len:Nat} {k1 k2 k3:IntKind} {l h x:Int}
theorem bv_010 (h0:0≤h) (h1:h≤(cap:Int)):boundsV len cap none (some (.int k1 h)) none=some (0,h.toNat,cap):=by
 delta boundsV bounds;simp only [Option.map_some,Option.map_none,bound_int h0 h1]
theorem bv_100 (l0:0≤l) (l1:l≤(len:Int)):boundsV len cap (some (.int k1 l)) none none=some (l.toNat,len,cap):=by
 delta boundsV bounds;simp only [Option.map_some,Option.map_none,bound_int l0 l1]
end
theorem nat_nn {n:Nat}:(0:Int)≤(n:Int):=by omega
theorem append_cut {lim n o m R c:Nat} {dest:Option Nat} {H:zH} {cs:List Value} (hR:zG H R=.cells false cs) (hl:lim≤R) (he0:e≠0) (hm:m≠0) (h1:n*e≤cs.length) (h2:o+m*e≤cs.length) (hb:(n+m)*bytes≤maxBytes) (hn:n+m<2 ^ 61) :
  zAa lim dest e bytes false (.slice (some ⟨R,0,none⟩) n (loose e)) (.slice (some ⟨R,o,none⟩) m c) H=some (.slice (some ⟨(place dest (.cells false (cs.take (n*e)++(cs.drop o).take (m*e))) (H.set R .dead)).1,0,none⟩) (n+m) (loose e),(place dest (.cells false (cs.take (n*e)++(cs.drop o).take (m*e))) (H.set R .dead)).2):=by
 have hx:AM.loadCells H ⟨R,o,none⟩ (m*e)=some ((cs.drop o).take (m*e)):=by
  simp only [loadCells_lit,hR];rw [if_pos h2]
 have hy:AM.loadCells H ⟨R,0,none⟩ (n*e)=some (cs.take (n*e)):=by
  simp only [loadCells_lit,hR,Nat.zero_add,List.drop_zero];rw [if_pos h1]
 simp only [zAa,firstCells,lenOf,hx,hy,hR,hm,hl,if_false,if_true,Bool.false_eq_true]
 rw [if_neg (by unfold loose;omega)]
end
def hdC:zAc→zAc
 | .seq a _=>a
 | c=>c
def tlC:zAc→zAc
 | .seq _ b=>b
 | _=>.skip
end Go.AM

