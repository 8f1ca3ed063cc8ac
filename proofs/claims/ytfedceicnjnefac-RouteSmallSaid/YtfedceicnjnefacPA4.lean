/-
  Joined texts, 4 of 10. A part of the claim that the last text states.
-/
import Derived.Sort.AssemblyPlain
import Derived.Test.YtfedceicnjnefacPA3
namespace Go.Proofs.Ytfedceicnjnefac.Fn
open Go.AM Go.AM.Sym
set_option maxRecDepth 100000
abbrev p (d n:Nat) (o:AOp):AIns:=⟨some d,some (n,true),o,none,[]⟩
abbrev q (d n:Nat) (o:AOp):AIns:=⟨some d,some (n,false),o,none,[]⟩
abbrev s (o:AOp):AIns:=⟨none,none,o,none,[]⟩
def pure:List FuncId:=[3,4,5,6,7,8,11,18,22,25,27,28,29,30,34,35,36,37,38,39,40,41,42,46,47,49,53,54,56,57,58,60,61,64,73,74,76]
def pf:FuncId→Bool:=fun f=>pure.contains f
def l3_1:ACode:=(.seq (.ops [i 63 (.bin .lss (t 62) (t 61))]) (.seq (.cond (t 63) .skip (.exit 6)) (.seq (.block 7 (.seq (.ops [i 64 (.idxAddrS 1 (t 60) (t 62)),i 65 (.load1 (t 64)),i 7 (.mov (t 65))]) (.seq (.ops [i 66 (.loadN 2 (t 5)),i 67 (.mov (t 2)),i 68 (.bin .rem (t 67) (k (.int .i64 3))),i 69 (.bin .add (k (.int .i64 1)) (t 68)),i 70 (.mov (t 2)),i 71 (.mov (t 3)),i 72 (.bin .add (t 70) (t 71)),i 73 (.mov (t 4)),i 74 (.bin .add (t 72) (t 73)),i 75 (.bin .rem (t 74) (k (.int .i64 3))),i 76 (.bin .add (k (.int .i64 1)) (t 75)),i 77 (.mov (t 7)),i 78 (.call .any (.func 5) [(t 66),(t 69),(t 76),(t 77)]),i 79 (.un .not (t 78))]) (.cond (t 79) (.seq (.ops [i 0 (.mov (k (.bool false)))]) .ret) .skip)))) (.ops [i 80 (.bin .add (t 62) (k (.int .i64 1))),i 62 (.mov (t 80))]))))
def l3_2:ACode:=(.seq (.seq (.ops [i 37 (.mov (t 4)),i 38 (.mov (t 3)),i 39 (.bin .lss (t 37) (t 38))]) (.cond (t 39) .skip (.exit 4))) (.seq (.block 5 (.seq (.drawn 3 [⟨(some 42),none,(.buildSlice 3 [(.int .i64 0),(.int .i64 0),(.int .i64 0)] [(0,(1,(k (.int .i64 2)))),(1,(1,(k (.int .i64 3)))),(2,(1,(k (.int .i64 1))))]),(some 0),[]⟩,i 43 (.mov (t 1)),i 44 (.mov (t 2)),i 45 (.idxAddrS 8 (t 43) (t 44)),⟨(some 46),none,(.loadN 8 (t 45)),none,[0,1,2]⟩,i 47 (.mov (t 1)),i 48 (.mov (t 4)),i 49 (.idxAddrS 8 (t 47) (t 48)),⟨(some 50),none,(.loadN 8 (t 49)),none,[0,1,2]⟩,i 51 (.mov (t 1)),i 52 (.mov (t 3)),i 53 (.idxAddrS 8 (t 51) (t 52)),⟨(some 54),none,(.loadN 8 (t 53)),none,[0,1,2]⟩,⟨(some 55),none,(.buildSlice 3 [(.int .i64 0),(.int .i64 0),(.int .i64 0),(.int .i64 0),(.int .i64 0),(.int .i64 0),(.int .i64 0),(.int .u8 0),(.int .i64 0),(.int .i64 0),(.int .i64 0),(.int .i64 0),(.int .i64 0),(.int .i64 0),(.int .i64 0),(.int .u8 0),(.int .i64 0),(.int .i64 0),(.int .i64 0),(.int .i64 0),(.int .i64 0),(.int .i64 0),(.int .i64 0),(.int .u8 0)] [(0,(8,(t 46))),(8,(8,(t 50))),(16,(8,(t 54)))]),(some 1),[]⟩,i 56 (.build [(.slice none 0 0),(.slice none 0 0)] [(0,(1,(t 42))),(1,(1,(t 55)))]),⟨(some 5),none,(.alloc [(.slice none 0 0),(.slice none 0 0)]),(some 2),[]⟩,s (.store 2 (t 5) (t 56))]) (.seq (.ops [i 57 (.mov (t 4)),i 58 (.bin .mul (k (.int .i64 60)) (t 57)),i 59 (.bin .sub (k (.int .i64 1051893399)) (t 58)),i 60 (.buildSlice 6 [(.int .i64 0),(.int .i64 0),(.int .i64 0),(.int .i64 0),(.int .i64 0),(.int .i64 0)] [(0,(1,(k (.int .i64 0)))),(1,(1,(k (.int .i64 540)))),(2,(1,(k (.int .i64 601)))),(3,(1,(k (.int .i64 780)))),(4,(1,(k (.int .i64 10140)))),(5,(1,(t 59)))]),i 61 (.lenSlice (t 60)),i 62 (.mov (k (.int .i64 0)))]) (.block 6 (.loop l3_1))))) (.ops [i 40 (.mov (t 4)),i 41 (.bin .add (t 40) (k (.int .i64 1))),i 4 (.mov (t 41))])))
def l3_3:ACode:=(.seq (.seq (.ops [i 32 (.mov (t 3)),i 33 (.mov (t 2)),i 34 (.bin .lss (t 32) (t 33))]) (.cond (t 34) .skip (.exit 2))) (.seq (.block 3 (.seq (.ops [i 4 (.mov (k (.int .i64 0)))]) (.block 4 (.loop l3_2)))) (.ops [i 35 (.mov (t 3)),i 36 (.bin .add (t 35) (k (.int .i64 1))),i 3 (.mov (t 36))])))
def l3_4:ACode:=(.seq (.seq (.ops [i 19 (.mov (t 2)),i 20 (.bin .lss (t 19) (k (.int .i64 10)))]) (.cond (t 20) .skip (.exit 0))) (.seq (.block 1 (.seq (.ops [i 23 (.mov (t 1)),i 24 (.mov (t 2)),i 25 (.buildSlice 5 [(.int .u8 0),(.int .u8 0),(.int .u8 0),(.int .u8 0),(.int .u8 0)] [(0,(1,(k (.int .u8 127)))),(1,(1,(k (.int .u8 127)))),(2,(1,(k (.int .u8 127)))),(3,(1,(k (.int .u8 1)))),(4,(1,(k (.int .u8 85))))]),i 26 (.mov (t 2)),i 27 (.bin .rem (t 26) (k (.int .i64 5))),i 28 (.idxAddrS 1 (t 25) (t 27)),i 29 (.load1 (t 28)),i 30 (.idxAddrS 8 (t 23) (t 24)),i 31 (.fieldAddr 7 (t 30)),s (.store 1 (t 31) (t 29))]) (.seq (.ops [i 3 (.mov (k (.int .i64 0)))]) (.block 2 (.loop l3_3))))) (.ops [i 21 (.mov (t 2)),i 22 (.bin .add (t 21) (k (.int .i64 1))),i 2 (.mov (t 22))])))
def c3:ACode:=(.seq (.ops [i 0 (.mov (k (.bool false)))]) (.seq (.ops [i 8 (.call .any (.func 4) [(k (.int .i64 1)),(k (.int .i64 1)),(k (.int .i64 2)),(k (.int .i64 600)),(k (.int .i64 60)),(k (.int .i64 0))]),i 9 (.call .any (.func 4) [(k (.int .i64 5)),(k (.int .i64 1)),(k (.int .i64 2)),(k (.int .i64 540)),(k (.int .i64 120)),(k (.int .i64 30))]),i 10 (.call .any (.func 4) [(k (.int .i64 2)),(k (.int .i64 2)),(k (.int .i64 3)),(k (.int .i64 720)),(k (.int .i64 60)),(k (.int .i64 60))]),i 11 (.call .any (.func 4) [(k (.int .i64 9)),(k (.int .i64 2)),(k (.int .i64 3)),(k (.int .i64 660)),(k (.int .i64 60)),(k (.int .i64 0))]),i 12 (.call .any (.func 4) [(k (.int .i64 3)),(k (.int .i64 1)),(k (.int .i64 3)),(k (.int .i64 540)),(k (.int .i64 180)),(k (.int .i64 0))]),i 13 (.call .any (.func 4) [(k (.int .i64 4)),(k (.int .i64 3)),(k (.int .i64 1)),(k (.int .i64 0)),(k (.int .i64 1440)),(k (.int .i64 1440))]),i 14 (.call .any (.func 4) [(k (.int .i64 6)),(k (.int .i64 3)),(k (.int .i64 2)),(k (.int .i64 1439)),(k (.int .i64 1)),(k (.int .i64 0))]),i 15 (.call .any (.func 4) [(k (.int .i64 7)),(k (.int .i64 2)),(k (.int .i64 1)),(k (.int .i64 100)),(k (.int .i64 3000)),(k (.int .i64 0))]),i 16 (.call .any (.func 4) [(k (.int .i64 8)),(k (.int .i64 3)),(k (.int .i64 1)),(k (.int .i64 700)),(k (.int .i64 20160)),(k (.int .i64 10080))]),i 17 (.call .any (.func 4) [(k (.int .i64 10)),(k (.int .i64 1)),(k (.int .i64 3)),(k (.int .i64 600)),(k (.int .i64 60)),(k (.int .i64 1500))]),i 18 (.buildSlice 10 [(.int .i64 0),(.int .i64 0),(.int .i64 0),(.int .i64 0),(.int .i64 0),(.int .i64 0),(.int .i64 0),(.int .u8 0),(.int .i64 0),(.int .i64 0),(.int .i64 0),(.int .i64 0),(.int .i64 0),(.int .i64 0),(.int .i64 0),(.int .u8 0),(.int .i64 0),(.int .i64 0),(.int .i64 0),(.int .i64 0),(.int .i64 0),(.int .i64 0),(.int .i64 0),(.int .u8 0),(.int .i64 0),(.int .i64 0),(.int .i64 0),(.int .i64 0),(.int .i64 0),(.int .i64 0),(.int .i64 0),(.int .u8 0),(.int .i64 0),(.int .i64 0),(.int .i64 0),(.int .i64 0),(.int .i64 0),(.int .i64 0),(.int .i64 0),(.int .u8 0),(.int .i64 0),(.int .i64 0),(.int .i64 0),(.int .i64 0),(.int .i64 0),(.int .i64 0),(.int .i64 0),(.int .u8 0),(.int .i64 0),(.int .i64 0),(.int .i64 0),(.int .i64 0),(.int .i64 0),(.int .i64 0),(.int .i64 0),(.int .u8 0),(.int .i64 0),(.int .i64 0),(.int .i64 0),(.int .i64 0),(.int .i64 0),(.int .i64 0),(.int .i64 0),(.int .u8 0),(.int .i64 0),(.int .i64 0),(.int .i64 0),(.int .i64 0),(.int .i64 0),(.int .i64 0),(.int .i64 0),(.int .u8 0),(.int .i64 0),(.int .i64 0),(.int .i64 0),(.int .i64 0),(.int .i64 0),(.int .i64 0),(.int .i64 0),(.int .u8 0)] [(0,(8,(t 8))),(8,(8,(t 9))),(16,(8,(t 10))),(24,(8,(t 11))),(32,(8,(t 12))),(40,(8,(t 13))),(48,(8,(t 14))),(56,(8,(t 15))),(64,(8,(t 16))),(72,(8,(t 17)))]),i 1 (.mov (t 18))]) (.seq (.seq (.ops [i 2 (.mov (k (.int .i64 0)))]) (.block 0 (.loop l3_4))) (.seq (.ops [i 81 (.call .any (.func 6) []),i 82 (.mov (t 81)),p 83 82 (.call .any (.func 7) []),i 84 (.pick (t 82) (t 83) (k (.bool false))),i 85 (.mov (t 84)),p 86 85 (.call .any (.func 8) []),i 87 (.pick (t 85) (t 86) (k (.bool false))),i 0 (.mov (t 87))]) .ret))))
def a3:AFunc:=⟨88,[(.tmp 0)],c3⟩
theorem n3:a3.ntmps=88:=id rfl
theorem r3:a3.results=[(.tmp 0)]:=rfl
theorem b3:a3.body=c3:=rfl
def c4:ACode:=(.seq (.ops [i 12 (.alloc [(.int .i64 0),(.int .i64 0),(.int .i64 0),(.int .i64 0),(.int .i64 0),(.int .i64 0),(.int .i64 0),(.int .u8 0)])]) (.seq (.ops [i 13 (.mov (t 0)),i 14 (.mov (t 1)),i 15 (.mov (t 2)),i 16 (.mov (t 3)),i 17 (.mov (t 4)),i 18 (.mov (t 5)),i 19 (.build [(.int .i64 0),(.int .i64 0),(.int .i64 0),(.int .i64 0),(.int .i64 0),(.int .i64 0),(.int .i64 0),(.int .u8 0)] [(0,(1,(t 13))),(1,(1,(t 14))),(2,(1,(t 15))),(3,(1,(t 16))),(4,(1,(t 17))),(5,(1,(t 18))),(7,(1,(k (.int .u8 127))))]),s (.store 8 (t 12) (t 19))]) .ret))
def a4:AFunc:=⟨20,[(.cellN 8 12)],c4⟩
theorem n4:a4.ntmps=20:=id rfl
theorem r4:a4.results=[(.cellN 8 12)]:=rfl
theorem b4:a4.body=c4:=rfl
def l5_1:ACode:=(.seq (.seq (.ops [i 88 (.mov (t 15)),i 89 (.mov (t 13)),i 90 (.lenSlice (t 89)),i 91 (.bin .lss (t 88) (t 90))]) (.cond (t 91) .skip (.exit 0))) (.seq (.block 1 (.seq (.drawn 0 [i 94 (.mov (t 13)),i 95 (.mov (t 15)),i 96 (.idxAddrS 3 (t 94) (t 95)),i 97 (.fieldAddr 0 (t 96)),i 98 (.load1 (t 97)),i 99 (.mov (t 14)),i 100 (.mov (t 15)),i 101 (.idxAddrS 3 (t 99) (t 100)),i 102 (.fieldAddr 0 (t 101)),i 103 (.load1 (t 102)),i 104 (.bin .neq (t 98) (t 103)),i 105 (.mov (t 104)),q 106 105 (.mov (t 13)),q 107 105 (.mov (t 15)),q 108 105 (.idxAddrS 3 (t 106) (t 107)),q 109 105 (.fieldAddr 1 (t 108)),q 110 105 (.load1 (t 109)),q 111 105 (.mov (t 14)),q 112 105 (.mov (t 15)),q 113 105 (.idxAddrS 3 (t 111) (t 112)),q 114 105 (.fieldAddr 1 (t 113)),q 115 105 (.load1 (t 114)),q 116 105 (.bin .neq (t 110) (t 115)),i 117 (.pick (t 105) (k (.bool true)) (t 116)),i 118 (.mov (t 117)),q 119 118 (.mov (t 13)),q 120 118 (.mov (t 15)),q 121 118 (.idxAddrS 3 (t 119) (t 120)),q 122 118 (.fieldAddr 2 (t 121)),q 123 118 (.load1 (t 122)),q 124 118 (.mov (t 14)),q 125 118 (.mov (t 15)),q 126 118 (.idxAddrS 3 (t 124) (t 125)),q 127 118 (.fieldAddr 2 (t 126)),q 128 118 (.load1 (t 127)),q 129 118 (.bin .neq (t 123) (t 128)),i 130 (.pick (t 118) (k (.bool true)) (t 129))]) (.cond (t 130) (.seq (.ops [i 8 (.mov (k (.bool false)))]) .ret) .skip))) (.ops [i 92 (.mov (t 15)),i 93 (.bin .add (t 92) (k (.int .i64 1))),i 15 (.mov (t 93))])))
def c5:ACode:=(.seq (.ops [i 4 (.box (t 0)),i 8 (.mov (k (.bool false)))]) (.seq (.ops [i 17 (.loadN 2 (t 4)),i 18 (.mov (t 1)),i 19 (.mov (t 3)),i 20 (.call .any (.func 9) [(t 17),(t 18),(t 19)]),i 16 (.mov (t 20)),i 21 (.extract 0 (t 16)),i 22 (.extract 1 (t 16)),i 9 (.mov (t 21)),i 10 (.mov (t 22))]) (.seq (.ops [i 24 (.loadN 2 (t 4)),i 25 (.mov (t 1)),i 26 (.mov (t 3)),i 27 (.call .any (.func 10) [(t 24),(t 25),(t 26)]),i 23 (.mov (t 27)),i 28 (.extract 0 (t 23)),i 29 (.extract 1 (t 23)),i 11 (.mov (t 28)),i 12 (.mov (t 29))]) (.seq (.seq (.ops [i 30 (.mov (t 10)),i 31 (.mov (t 12)),i 32 (.bin .neq (t 30) (t 31)),i 33 (.mov (t 32)),q 34 33 (.mov (t 9)),q 35 33 (.mov (t 11)),q 36 33 (.call .any (.func 11) [(t 34),(t 35)]),q 37 33 (.un .not (t 36)),i 38 (.pick (t 33) (k (.bool true)) (t 37))]) (.cond (t 38) (.seq (.ops [i 8 (.mov (k (.bool false)))]) .ret) .skip)) (.seq (.ops [i 40 (.loadN 2 (t 4)),i 41 (.mov (t 2)),i 42 (.mov (t 3)),i 43 (.call .any (.func 12) [(t 40),(t 41),(t 42)]),i 39 (.mov (t 43)),i 44 (.extract 0 (t 39)),i 45 (.extract 1 (t 39)),i 9 (.mov (t 44)),i 10 (.mov (t 45))]) (.seq (.ops [i 47 (.loadN 2 (t 4)),i 48 (.mov (t 2)),i 49 (.mov (t 3)),i 50 (.call .any (.func 13) [(t 47),(t 48),(t 49)]),i 46 (.mov (t 50)),i 51 (.extract 0 (t 46)),i 52 (.extract 1 (t 46)),i 11 (.mov (t 51)),i 12 (.mov (t 52))]) (.seq (.seq (.ops [i 53 (.mov (t 10)),i 54 (.mov (t 12)),i 55 (.bin .neq (t 53) (t 54)),i 56 (.mov (t 55)),q 57 56 (.mov (t 9)),q 58 56 (.mov (t 11)),q 59 56 (.call .any (.func 11) [(t 57),(t 58)]),q 60 56 (.un .not (t 59)),i 61 (.pick (t 56) (k (.bool true)) (t 60))]) (.cond (t 61) (.seq (.ops [i 8 (.mov (k (.bool false)))]) .ret) .skip)) (.seq (.ops [i 63 (.loadN 2 (t 4)),i 64 (.mov (t 1)),i 65 (.mov (t 2)),i 66 (.mov (t 3)),i 67 (.call .any (.func 14) [(t 63),(t 64),(t 65),(t 66)]),i 62 (.mov (t 67)),i 68 (.extract 0 (t 62)),i 69 (.extract 1 (t 62)),i 13 (.mov (t 68)),i 10 (.mov (t 69))]) (.seq (.ops [i 71 (.loadN 2 (t 4)),i 72 (.mov (t 1)),i 73 (.mov (t 2)),i 74 (.mov (t 3)),i 75 (.call .any (.func 15) [(t 71),(t 72),(t 73),(t 74)]),i 70 (.mov (t 75)),i 76 (.extract 0 (t 70)),i 77 (.extract 1 (t 70)),i 14 (.mov (t 76)),i 12 (.mov (t 77))]) (.seq (.seq (.ops [i 78 (.mov (t 10)),i 79 (.mov (t 12)),i 80 (.bin .neq (t 78) (t 79)),i 81 (.mov (t 80)),q 82 81 (.mov (t 13)),q 83 81 (.lenSlice (t 82)),q 84 81 (.mov (t 14)),q 85 81 (.lenSlice (t 84)),q 86 81 (.bin .neq (t 83) (t 85)),i 87 (.pick (t 81) (k (.bool true)) (t 86))]) (.cond (t 87) (.seq (.ops [i 8 (.mov (k (.bool false)))]) .ret) .skip)) (.seq (.seq (.ops [i 15 (.mov (k (.int .i64 0)))]) (.block 0 (.loop l5_1))) (.seq (.ops [i 8 (.mov (k (.bool true)))]) .ret))))))))))))
def a5:AFunc:=⟨131,[(.tmp 8)],c5⟩
theorem n5:a5.ntmps=131:=id rfl
theorem r5:a5.results=[(.tmp 8)]:=rfl
theorem b5:a5.body=c5:=rfl
def l6_1:ACode:=(.seq (.seq (.ops [i 61 (.mov (t 7)),i 62 (.bin .lss (t 61) (k (.int .i64 4)))]) (.cond (t 62) .skip (.exit 6))) (.seq (.block 7 (.seq (.ops [i 65 (.loadN 2 (t 6)),i 66 (.mov (t 7)),i 67 (.call .any (.func 5) [(t 65),(k (.int .i64 1)),(k (.int .i64 6)),(t 66)]),i 68 (.un .not (t 67)),i 69 (.mov (t 68)),q 70 69 (.loadN 2 (t 6)),q 71 69 (.mov (t 7)),q 72 69 (.bin .add (k (.int .i64 86395)) (t 71)),q 73 69 (.mov (t 5)),q 74 69 (.bin .rem (t 73) (k (.int .i64 12))),q 75 69 (.bin .add (t 72) (t 74)),q 76 69 (.call .any (.func 5) [(t 70),(k (.int .i64 1)),(k (.int .i64 6)),(t 75)]),q 77 69 (.un .not (t 76)),i 78 (.pick (t 69) (k (.bool true)) (t 77)),i 79 (.mov (t 78)),q 80 79 (.loadN 2 (t 6)),q 81 79 (.mov (t 7)),q 82 79 (.bin .add (k (.int .i64 87835)) (t 81)),q 83 79 (.mov (t 5)),q 84 79 (.bin .rem (t 83) (k (.int .i64 12))),q 85 79 (.bin .add (t 82) (t 84)),q 86 79 (.call .any (.func 5) [(t 80),(k (.int .i64 1)),(k (.int .i64 6)),(t 85)]),q 87 79 (.un .not (t 86)),i 88 (.pick (t 79) (k (.bool true)) (t 87)),i 89 (.mov (t 88)),q 90 89 (.loadN 2 (t 6)),q 91 89 (.mov (t 7)),q 92 89 (.bin .sub (k (.int .i64 1440)) (t 91)),q 93 89 (.call .any (.func 5) [(t 90),(k (.int .i64 2)),(k (.int .i64 6)),(t 92)]),q 94 89 (.un .not (t 93)),i 95 (.pick (t 89) (k (.bool true)) (t 94)),i 96 (.mov (t 95)),q 97 96 (.loadN 2 (t 6)),q 98 96 (.mov (t 7)),q 99 96 (.bin .add (k (.int .i64 1438)) (t 98)),q 100 96 (.call .any (.func 5) [(t 97),(k (.int .i64 1)),(k (.int .i64 5)),(t 99)]),q 101 96 (.un .not (t 100)),i 102 (.pick (t 96) (k (.bool true)) (t 101))]) (.cond (t 102) (.seq (.ops [i 0 (.mov (k (.bool false)))]) .ret) .skip))) (.ops [i 63 (.mov (t 7)),i 64 (.bin .add (t 63) (k (.int .i64 1))),i 7 (.mov (t 64))])))
def l6_2:ACode:=(.seq (.seq (.ops [i 41 (.mov (t 5)),i 42 (.bin .lss (t 41) (k (.int .i64 24)))]) (.cond (t 42) .skip (.exit 4))) (.seq (.block 5 (.seq (.ops [i 45 (.buildSlice 6 [(.int .i64 0),(.int .i64 0),(.int .i64 0),(.int .i64 0),(.int .i64 0),(.int .i64 0)] [(0,(1,(k (.int .i64 1)))),(1,(1,(k (.int .i64 2)))),(2,(1,(k (.int .i64 3)))),(3,(1,(k (.int .i64 4)))),(4,(1,(k (.int .i64 5)))),(5,(1,(k (.int .i64 6))))]),i 46 (.mov (t 5)),i 47 (.bin .quo (t 46) (k (.int .i64 12))),i 48 (.mov (t 5)),i 49 (.bin .rem (t 48) (k (.int .i64 4))),i 50 (.bin .mul (t 47) (t 49)),i 51 (.call .any (.func 4) [(k (.int .i64 1)),(k (.int .i64 1)),(k (.int .i64 2)),(k (.int .i64 0)),(k (.int .i64 20160)),(t 50)]),i 52 (.call .any (.func 4) [(k (.int .i64 2)),(k (.int .i64 2)),(k (.int .i64 3)),(k (.int .i64 0)),(k (.int .i64 20160)),(k (.int .i64 0))]),i 53 (.call .any (.func 4) [(k (.int .i64 3)),(k (.int .i64 3)),(k (.int .i64 4)),(k (.int .i64 0)),(k (.int .i64 20160)),(k (.int .i64 0))]),i 54 (.call .any (.func 4) [(k (.int .i64 4)),(k (.int .i64 4)),(k (.int .i64 5)),(k (.int .i64 0)),(k (.int .i64 20160)),(k (.int .i64 0))]),i 55 (.mov (t 5)),i 56 (.bin .rem (t 55) (k (.int .i64 12))),i 57 (.bin .add (k (.int .i64 5755)) (t 56)),i 58 (.call .any (.func 4) [(k (.int .i64 5)),(k (.int .i64 5)),(k (.int .i64 6)),(k (.int .i64 0)),(t 57),(k (.int .i64 0))]),i 59 (.buildSlice 5 [(.int .i64 0),(.int .i64 0),(.int .i64 0),(.int .i64 0),(.int .i64 0),(.int .i64 0),(.int .i64 0),(.int .u8 0),(.int .i64 0),(.int .i64 0),(.int .i64 0),(.int .i64 0),(.int .i64 0),(.int .i64 0),(.int .i64 0),(.int .u8 0),(.int .i64 0),(.int .i64 0),(.int .i64 0),(.int .i64 0),(.int .i64 0),(.int .i64 0),(.int .i64 0),(.int .u8 0),(.int .i64 0),(.int .i64 0),(.int .i64 0),(.int .i64 0),(.int .i64 0),(.int .i64 0),(.int .i64 0),(.int .u8 0),(.int .i64 0),(.int .i64 0),(.int .i64 0),(.int .i64 0),(.int .i64 0),(.int .i64 0),(.int .i64 0),(.int .u8 0)] [(0,(8,(t 51))),(8,(8,(t 52))),(16,(8,(t 53))),(24,(8,(t 54))),(32,(8,(t 58)))]),i 60 (.build [(.slice none 0 0),(.slice none 0 0)] [(0,(1,(t 45))),(1,(1,(t 59)))]),i 6 (.alloc [(.slice none 0 0),(.slice none 0 0)]),s (.store 2 (t 6) (t 60))]) (.seq (.ops [i 7 (.mov (k (.int .i64 0)))]) (.block 6 (.loop l6_1))))) (.ops [i 43 (.mov (t 5)),i 44 (.bin .add (t 43) (k (.int .i64 1))),i 5 (.mov (t 44))])))
def l6_3:ACode:=(.seq (.seq (.ops [i 16 (.mov (t 4)),i 17 (.bin .lss (t 16) (k (.int .i64 5)))]) (.cond (t 17) .skip (.exit 2))) (.seq (.block 3 (.seq (.ops [i 20 (.loadN 2 (t 1)),i 21 (.mov (t 4)),i 22 (.mov (t 3)),i 23 (.call .any (.func 5) [(t 20),(t 21),(k (.int .i64 3)),(t 22)]),i 24 (.un .not (t 23)),i 25 (.mov (t 24)),q 26 25 (.loadN 2 (t 1)),q 27 25 (.mov (t 4)),q 28 25 (.mov (t 3)),q 29 25 (.call .any (.func 5) [(t 26),(k (.int .i64 1)),(t 27),(t 28)]),q 30 25 (.un .not (t 29)),i 31 (.pick (t 25) (k (.bool true)) (t 30)),i 32 (.mov (t 31)),q 33 32 (.loadN 2 (t 1)),q 34 32 (.mov (t 4)),q 35 32 (.mov (t 4)),q 36 32 (.mov (t 3)),q 37 32 (.call .any (.func 5) [(t 33),(t 34),(t 35),(t 36)]),q 38 32 (.un .not (t 37)),i 39 (.pick (t 32) (k (.bool true)) (t 38))]) (.cond (t 39) (.seq (.ops [i 0 (.mov (k (.bool false)))]) .ret) .skip))) (.ops [i 18 (.mov (t 4)),i 19 (.bin .add (t 18) (k (.int .i64 1))),i 4 (.mov (t 19))])))
def l6_4:ACode:=(.seq (.ops [i 13 (.bin .lss (t 12) (t 11))]) (.seq (.cond (t 13) .skip (.exit 0)) (.seq (.block 1 (.seq (.ops [i 14 (.idxAddrS 1 (t 10) (t 12)),i 15 (.load1 (t 14)),i 3 (.mov (t 15))]) (.seq (.ops [i 4 (.mov (k (.int .i64 0)))]) (.block 2 (.loop l6_3))))) (.ops [i 40 (.bin .add (t 12) (k (.int .i64 1))),i 12 (.mov (t 40))]))))
def c6:ACode:=(.seq (.ops [i 0 (.mov (k (.bool false)))]) (.seq (.ops [i 9 (.call .any (.func 16) []),i 1 (.alloc [(.slice none 0 0),(.slice none 0 0)]),s (.store 2 (t 1) (t 9))]) (.seq (.seq (.ops [i 10 (.buildSlice 8 [(.int .i64 0),(.int .i64 0),(.int .i64 0),(.int .i64 0),(.int .i64 0),(.int .i64 0),(.int .i64 0),(.int .i64 0)] [(0,(1,(k (.int .i64 (-1))))),(1,(1,(k (.int .i64 0)))),(2,(1,(k (.int .i64 1)))),(3,(1,(k (.int .i64 1051896959)))),(4,(1,(k (.int .i64 1051898299)))),(5,(1,(k (.int .i64 1051898398)))),(6,(1,(k (.int .i64 1051898399)))),(7,(1,(k (.int .i64 1051898400))))]),i 11 (.lenSlice (t 10)),i 12 (.mov (k (.int .i64 0)))]) (.block 0 (.loop l6_4))) (.seq (.seq (.ops [i 5 (.mov (k (.int .i64 0)))]) (.block 4 (.loop l6_2))) (.seq (.ops [i 103 (.call .any (.func 16) []),i 8 (.alloc [(.slice none 0 0),(.slice none 0 0)]),s (.store 2 (t 8) (t 103))]) (.seq (.ops [i 104 (.fieldAddr 1 (t 8)),i 105 (.load1 (t 104)),i 106 (.idxAddrS 8 (t 105) (k (.int .i64 1))),i 107 (.fieldAddr 0 (t 106)),s (.store 1 (t 107) (k (.int .i64 1)))]) (.seq (.ops [i 108 (.loadN 2 (t 8)),i 109 (.call .any (.func 5) [(t 108),(k (.int .i64 1)),(k (.int .i64 2)),(k (.int .i64 (-1)))]),i 110 (.mov (t 109)),p 111 110 (.build [(.slice none 0 0),(.slice none 0 0)] []),p 112 110 (.call .any (.func 5) [(t 111),(k (.int .i64 0)),(k (.int .i64 0)),(k (.int .i64 0))]),i 113 (.pick (t 110) (t 112) (k (.bool false))),i 114 (.mov (t 113)),p 115 114 (.buildSlice 1 [(.int .i64 0)] [(0,(1,(k (.int .i64 5))))]),p 116 114 (.build [(.slice none 0 0),(.slice none 0 0)] [(0,(1,(t 115)))]),p 117 114 (.call .any (.func 5) [(t 116),(k (.int .i64 5)),(k (.int .i64 5)),(k (.int .i64 7))]),i 118 (.pick (t 114) (t 117) (k (.bool false))),i 0 (.mov (t 118))]) .ret)))))))
def a6:AFunc:=⟨119,[(.tmp 0)],c6⟩
theorem n6:a6.ntmps=119:=id rfl
theorem r6:a6.results=[(.tmp 0)]:=rfl
theorem b6:a6.body=c6:=rfl
def l7_1:ACode:=(.seq (.seq (.ops [i 102 (.mov (t 14)),i 103 (.mov (t 10)),i 104 (.lenSlice (t 103)),i 105 (.bin .lss (t 102) (t 104))]) (.cond (t 105) .skip (.exit 6))) (.seq (.block 7 (.seq (.drawn 0 [i 108 (.mov (t 10)),i 109 (.mov (t 14)),i 110 (.idxAddrS 3 (t 108) (t 109)),i 111 (.fieldAddr 0 (t 110)),i 112 (.load1 (t 111)),i 113 (.mov (t 12)),i 114 (.mov (t 14)),i 115 (.idxAddrS 3 (t 113) (t 114)),i 116 (.fieldAddr 0 (t 115)),i 117 (.load1 (t 116)),i 118 (.bin .neq (t 112) (t 117)),i 119 (.mov (t 118)),q 120 119 (.mov (t 10)),q 121 119 (.mov (t 14)),q 122 119 (.idxAddrS 3 (t 120) (t 121)),q 123 119 (.fieldAddr 1 (t 122)),q 124 119 (.load1 (t 123)),q 125 119 (.mov (t 12)),q 126 119 (.mov (t 14)),q 127 119 (.idxAddrS 3 (t 125) (t 126)),q 128 119 (.fieldAddr 1 (t 127)),q 129 119 (.load1 (t 128)),q 130 119 (.bin .neq (t 124) (t 129)),i 131 (.pick (t 119) (k (.bool true)) (t 130)),i 132 (.mov (t 131)),q 133 132 (.mov (t 10)),q 134 132 (.mov (t 14)),q 135 132 (.idxAddrS 3 (t 133) (t 134)),q 136 132 (.fieldAddr 2 (t 135)),q 137 132 (.load1 (t 136)),q 138 132 (.mov (t 12)),q 139 132 (.mov (t 14)),q 140 132 (.idxAddrS 3 (t 138) (t 139)),q 141 132 (.fieldAddr 2 (t 140)),q 142 132 (.load1 (t 141)),q 143 132 (.bin .neq (t 137) (t 142)),i 144 (.pick (t 132) (k (.bool true)) (t 143))]) (.cond (t 144) (.seq (.ops [i 0 (.mov (k (.bool false)))]) .ret) .skip))) (.ops [i 106 (.mov (t 14)),i 107 (.bin .add (t 106) (k (.int .i64 1))),i 14 (.mov (t 107))])))
def l7_2:ACode:=(.seq (.seq (.ops [i 32 (.mov (t 5)),i 33 (.mov (t 2)),i 34 (.bin .lss (t 32) (t 33))]) (.cond (t 34) .skip (.exit 4))) (.seq (.block 5 (.drawn 2 [i 37 (.fieldAddr 1 (t 3)),⟨(some 38),none,(.load1 (t 37)),none,[0,1]⟩,i 39 (.mov (t 5)),i 40 (.mov (t 5)),i 41 (.mov (t 5)),i 42 (.bin .add (t 41) (k (.int .i64 1))),i 43 (.mov (t 5)),i 44 (.bin .mul (t 43) (k (.int .i64 20))),i 45 (.bin .rem (t 44) (k (.int .i64 1440))),i 46 (.mov (t 5)),i 47 (.bin .rem (t 46) (k (.int .i64 3))),⟨(some 48),none,(.call .pure (.func 4) [(t 39),(t 40),(t 42),(t 45),(k (.int .i64 10)),(t 47)]),none,[0,1]⟩,⟨(some 49),none,(.buildSlice 1 [(.int .i64 0),(.int .i64 0),(.int .i64 0),(.int .i64 0),(.int .i64 0),(.int .i64 0),(.int .i64 0),(.int .u8 0)] [(0,(8,(t 48)))]),(some 0),[]⟩,⟨(some 50),none,(.append 8 64 false (t 38) (t 49)),(some 1),[]⟩,i 51 (.fieldAddr 1 (t 3)),s (.store 1 (t 51) (t 50))])) (.ops [i 35 (.mov (t 5)),i 36 (.bin .add (t 35) (k (.int .i64 1))),i 5 (.mov (t 36))])))
def l7_3:ACode:=(.seq (.seq (.ops [i 21 (.mov (t 4)),i 22 (.mov (t 2)),i 23 (.bin .leq (t 21) (t 22))]) (.cond (t 23) .skip (.exit 2))) (.seq (.block 3 (.ops [i 26 (.fieldAddr 0 (t 3)),i 27 (.load1 (t 26)),i 28 (.mov (t 4)),i 29 (.buildSlice 1 [(.int .i64 0)] [(0,(1,(t 28)))]),i 30 (.append 1 8 false (t 27) (t 29)),i 31 (.fieldAddr 0 (t 3)),s (.store 1 (t 31) (t 30))])) (.ops [i 24 (.mov (t 4)),i 25 (.bin .add (t 24) (k (.int .i64 1))),i 4 (.mov (t 25))])))
def l7_4:ACode:=(.seq (.ops [i 18 (.bin .lss (t 17) (t 16))]) (.seq (.cond (t 18) .skip (.exit 0)) (.seq (.block 1 (.seq (.ops [i 19 (.idxAddrS 1 (t 15) (t 17)),i 20 (.load1 (t 19)),i 2 (.mov (t 20))]) (.seq (.ops [i 3 (.alloc [(.slice none 0 0),(.slice none 0 0)])]) (.seq (.seq (.ops [i 4 (.mov (k (.int .i64 1)))]) (.block 2 (.loop l7_3))) (.seq (.seq (.ops [i 5 (.mov (k (.int .i64 1)))]) (.block 4 (.loop l7_2))) (.seq (.drawn 2 [i 52 (.fieldAddr 1 (t 3)),⟨(some 53),none,(.load1 (t 52)),none,[0,1]⟩,i 54 (.mov (t 2)),⟨(some 55),none,(.call .pure (.func 4) [(k (.int .i64 900)),(t 54),(k (.int .i64 1)),(k (.int .i64 5)),(k (.int .i64 5)),(k (.int .i64 5))]),none,[0,1]⟩,⟨(some 56),none,(.buildSlice 1 [(.int .i64 0),(.int .i64 0),(.int .i64 0),(.int .i64 0),(.int .i64 0),(.int .i64 0),(.int .i64 0),(.int .u8 0)] [(0,(8,(t 55)))]),(some 0),[]⟩,⟨(some 57),none,(.append 8 64 false (t 53) (t 56)),(some 1),[]⟩,i 58 (.fieldAddr 1 (t 3)),s (.store 1 (t 58) (t 57))]) (.seq (.ops [i 60 (.loadN 2 (t 3)),i 61 (.call .any (.func 9) [(t 60),(k (.int .i64 1)),(k (.int .i64 0))]),i 59 (.mov (t 61)),i 62 (.extract 0 (t 59)),i 63 (.extract 1 (t 59)),i 6 (.mov (t 62)),i 7 (.mov (t 63))]) (.seq (.ops [i 65 (.loadN 2 (t 3)),i 66 (.call .any (.func 10) [(t 65),(k (.int .i64 1)),(k (.int .i64 0))]),i 64 (.mov (t 66)),i 67 (.extract 0 (t 64)),i 68 (.extract 1 (t 64)),i 8 (.mov (t 67)),i 9 (.mov (t 68))]) (.seq (.ops [i 70 (.loadN 2 (t 3)),i 71 (.mov (t 2)),i 72 (.call .any (.func 14) [(t 70),(k (.int .i64 1)),(t 71),(k (.int .i64 3))]),i 69 (.mov (t 72)),i 73 (.extract 0 (t 69)),i 74 (.extract 1 (t 69)),i 10 (.mov (t 73)),i 11 (.mov (t 74))]) (.seq (.ops [i 76 (.loadN 2 (t 3)),i 77 (.mov (t 2)),i 78 (.call .any (.func 15) [(t 76),(k (.int .i64 1)),(t 77),(k (.int .i64 3))]),i 75 (.mov (t 78)),i 79 (.extract 0 (t 75)),i 80 (.extract 1 (t 75)),i 12 (.mov (t 79)),i 13 (.mov (t 80))]) (.seq (.seq (.ops [i 81 (.mov (t 7)),i 82 (.mov (t 9)),i 83 (.bin .neq (t 81) (t 82)),i 84 (.mov (t 83)),q 85 84 (.mov (t 6)),q 86 84 (.mov (t 8)),q 87 84 (.call .any (.func 11) [(t 85),(t 86)]),q 88 84 (.un .not (t 87)),i 89 (.pick (t 84) (k (.bool true)) (t 88)),i 90 (.mov (t 89)),q 91 90 (.mov (t 11)),q 92 90 (.mov (t 13)),q 93 90 (.bin .neq (t 91) (t 92)),i 94 (.pick (t 90) (k (.bool true)) (t 93)),i 95 (.mov (t 94)),q 96 95 (.mov (t 10)),q 97 95 (.lenSlice (t 96)),q 98 95 (.mov (t 12)),q 99 95 (.lenSlice (t 98)),q 100 95 (.bin .neq (t 97) (t 99)),i 101 (.pick (t 95) (k (.bool true)) (t 100))]) (.cond (t 101) (.seq (.ops [i 0 (.mov (k (.bool false)))]) .ret) .skip)) (.seq (.ops [i 14 (.mov (k (.int .i64 0)))]) (.block 6 (.loop l7_1)))))))))))))) (.ops [i 145 (.bin .add (t 17) (k (.int .i64 1))),i 17 (.mov (t 145))]))))
def c7:ACode:=(.seq (.ops [i 0 (.mov (k (.bool false)))]) (.seq (.seq (.ops [i 15 (.buildSlice 3 [(.int .i64 0),(.int .i64 0),(.int .i64 0)] [(0,(1,(k (.int .i64 49)))),(1,(1,(k (.int .i64 50)))),(2,(1,(k (.int .i64 51))))]),i 16 (.lenSlice (t 15)),i 17 (.mov (k (.int .i64 0)))]) (.block 0 (.loop l7_4))) (.seq (.ops [i 0 (.mov (k (.bool true)))]) .ret)))
def a7:AFunc:=⟨146,[(.tmp 0)],c7⟩
theorem n7:a7.ntmps=146:=id rfl
theorem r7:a7.results=[(.tmp 0)]:=rfl
theorem b7:a7.body=c7:=rfl
def c8:ACode:=(.seq (.ops [i 0 (.mov (k (.bool false)))]) (.seq (.ops [i 16 (.call .any (.func 16) []),i 1 (.alloc [(.slice none 0 0),(.slice none 0 0)]),s (.store 2 (t 1) (t 16))]) (.seq (.ops [i 18 (.loadN 2 (t 1)),i 19 (.call .any (.func 9) [(t 18),(k (.int .i64 1)),(k (.int .i64 0))]),i 17 (.mov (t 19)),i 20 (.extract 0 (t 17)),i 21 (.extract 1 (t 17)),i 2 (.mov (t 20)),i 3 (.mov (t 21))]) (.seq (.ops [i 23 (.loadN 2 (t 1)),i 24 (.call .any (.func 14) [(t 23),(k (.int .i64 1)),(k (.int .i64 3)),(k (.int .i64 0))]),i 22 (.mov (t 24)),i 25 (.extract 0 (t 22)),i 26 (.extract 1 (t 22)),i 4 (.mov (t 25)),i 5 (.mov (t 26))]) (.seq (.ops [i 28 (.loadN 2 (t 1)),i 29 (.call .any (.func 9) [(t 28),(k (.int .i64 1)),(k (.int .i64 601))]),i 27 (.mov (t 29)),i 30 (.extract 0 (t 27)),i 31 (.extract 1 (t 27)),i 6 (.mov (t 30)),i 7 (.mov (t 31))]) (.seq (.ops [i 33 (.loadN 2 (t 1)),i 34 (.call .any (.func 12) [(t 33),(k (.int .i64 3)),(k (.int .i64 780))]),i 32 (.mov (t 34)),i 35 (.extract 0 (t 32)),i 36 (.extract 1 (t 32)),i 8 (.mov (t 35)),i 9 (.mov (t 36))]) (.seq (.ops [i 38 (.loadN 2 (t 1)),i 39 (.call .any (.func 17) [(t 38),(k (.int .i64 2))]),i 37 (.mov (t 39)),i 40 (.extract 0 (t 37)),i 41 (.extract 1 (t 37)),i 10 (.alloc [(.slice none 0 0),(.slice none 0 0)]),s (.store 2 (t 10) (t 40)),i 11 (.mov (t 41))]) (.seq (.ops [i 43 (.loadN 2 (t 10)),i 44 (.call .any (.func 9) [(t 43),(k (.int .i64 1)),(k (.int .i64 0))]),i 42 (.mov (t 44)),i 45 (.extract 0 (t 42)),i 46 (.extract 1 (t 42)),i 12 (.mov (t 45)),i 13 (.mov (t 46))]) (.seq (.ops [i 48 (.loadN 2 (t 1)),i 49 (.call .any (.func 14) [(t 48),(k (.int .i64 3)),(k (.int .i64 1)),(k (.int .i64 0))]),i 47 (.mov (t 49)),i 50 (.extract 0 (t 47)),i 51 (.extract 1 (t 47)),i 14 (.mov (t 50)),i 15 (.mov (t 51))]) (.seq (.seq (.ops [i 52 (.mov (t 3)),i 53 (.bin .neq (t 52) (k (.int .i64 0))),i 54 (.mov (t 53)),q 55 54 (.mov (t 5)),q 56 54 (.bin .neq (t 55) (k (.int .i64 0))),i 57 (.pick (t 54) (k (.bool true)) (t 56)),i 58 (.mov (t 57)),q 59 58 (.mov (t 7)),q 60 58 (.bin .neq (t 59) (k (.int .i64 0))),i 61 (.pick (t 58) (k (.bool true)) (t 60)),i 62 (.mov (t 61)),q 63 62 (.mov (t 9)),q 64 62 (.bin .neq (t 63) (k (.int .i64 0))),i 65 (.pick (t 62) (k (.bool true)) (t 64)),i 66 (.mov (t 65)),q 67 66 (.mov (t 11)),q 68 66 (.bin .neq (t 67) (k (.int .i64 0))),i 69 (.pick (t 66) (k (.bool true)) (t 68)),i 70 (.mov (t 69)),q 71 70 (.mov (t 13)),q 72 70 (.bin .neq (t 71) (k (.int .i64 0))),i 73 (.pick (t 70) (k (.bool true)) (t 72)),i 74 (.mov (t 73)),q 75 74 (.mov (t 15)),q 76 74 (.bin .neq (t 75) (k (.int .i64 6))),i 77 (.pick (t 74) (k (.bool true)) (t 76))]) (.cond (t 77) (.seq (.ops [i 0 (.mov (k (.bool false)))]) .ret) .skip)) (.seq (.ops [i 78 (.mov (t 2)),i 79 (.buildSlice 3 [(.int .i64 0),(.int .i64 0),(.int .i64 0)] [(0,(1,(k (.int .i64 0)))),(1,(1,(k (.int .i64 660)))),(2,(1,(k (.int .i64 780))))]),i 80 (.call .any (.func 11) [(t 78),(t 79)]),i 81 (.mov (t 80)),p 82 81 (.mov (t 4)),p 83 81 (.build [(.int .i64 0),(.int .i64 0),(.int .i64 0)] [(0,(1,(k (.int .i64 1)))),(1,(1,(k (.int .i64 600)))),(2,(1,(k (.int .i64 660))))]),p 84 81 (.build [(.int .i64 0),(.int .i64 0),(.int .i64 0)] [(0,(1,(k (.int .i64 2)))),(1,(1,(k (.int .i64 720)))),(2,(1,(k (.int .i64 780))))]),p 85 81 (.buildSlice 2 [(.int .i64 0),(.int .i64 0),(.int .i64 0),(.int .i64 0),(.int .i64 0),(.int .i64 0)] [(0,(3,(t 83))),(3,(3,(t 84)))]),p 86 81 (.call .any (.func 18) [(t 82),(t 85)]),i 87 (.pick (t 81) (t 86) (k (.bool false))),i 88 (.mov (t 87)),p 89 88 (.mov (t 6)),p 90 88 (.buildSlice 3 [(.int .i64 0),(.int .i64 0),(.int .i64 0)] [(0,(1,(k (.int .i64 601)))),(1,(1,(k (.int .i64 2100)))),(2,(1,(k (.int .i64 2220))))]),p 91 88 (.call .any (.func 11) [(t 89),(t 90)]),i 92 (.pick (t 88) (t 91) (k (.bool false))),i 93 (.mov (t 92)),p 94 93 (.mov (t 8)),p 95 93 (.buildSlice 3 [(.int .i64 0),(.int .i64 0),(.int .i64 0)] [(0,(1,(k (.int .i64 600)))),(1,(1,(k (.int .i64 660)))),(2,(1,(k (.int .i64 780))))]),p 96 93 (.call .any (.func 11) [(t 94),(t 95)]),i 97 (.pick (t 93) (t 96) (k (.bool false))),i 98 (.mov (t 97)),p 99 98 (.mov (t 12)),p 100 98 (.buildSlice 3 [(.int .i64 0),(.int .i64 0),(.int .i64 0)] [(0,(1,(k (.int .i64 0)))),(1,(1,(k (.int .i64 660)))),(2,(1,(k (.int .i64 840))))]),p 101 98 (.call .any (.func 11) [(t 99),(t 100)]),i 102 (.pick (t 98) (t 101) (k (.bool false))),i 0 (.mov (t 102))]) .ret)))))))))))
def a8:AFunc:=⟨103,[(.tmp 0)],c8⟩
theorem n8:a8.ntmps=103:=id rfl
theorem r8:a8.results=[(.tmp 0)]:=rfl
theorem b8:a8.body=c8:=rfl
def c9:ACode:=(.seq (.ops [i 3 (.box (t 0)),i 6 (.mov (k (.slice none 0 0))),i 7 (.mov (k (.int .i64 0)))]) (.seq (.ops [i 13 (.loadN 2 (t 3)),i 14 (.mov (t 1)),i 15 (.mov (t 1)),i 16 (.mov (t 2)),i 17 (.call .any (.func 19) [(t 13),(t 14),(t 15),(t 16)]),i 12 (.mov (t 17)),i 18 (.extract 0 (t 12)),i 19 (.extract 1 (t 12)),i 8 (.mov (t 18)),i 9 (.mov (t 19))]) (.seq (.seq (.ops [i 20 (.mov (t 9)),i 21 (.bin .neq (t 20) (k (.int .i64 0)))]) (.cond (t 21) (.seq (.ops [i 22 (.mov (t 9)),i 6 (.mov (k (.slice none 0 0))),i 7 (.mov (t 22))]) .ret) .skip)) (.seq (.ops [i 23 (.loadN 2 (t 3)),i 24 (.mov (t 8)),i 25 (.mov (t 1)),i 26 (.mov (t 2)),i 27 (.call .any (.func 20) [(t 23),(t 24),(t 25),(t 26)]),i 10 (.mov (t 27))]) (.seq (.ops [i 28 (.mov (t 10)),i 29 (.mov (t 10)),i 30 (.lenSlice (t 29)),i 31 (.bin .sub (t 30) (k (.int .i64 1))),i 32 (.idxAddrS 50 (t 28) (t 31)),i 33 (.loadN 50 (t 32)),i 11 (.alloc [(.int .i64 0),(.int .i64 0),(.int .i64 0),(.int .i64 0),(.int .i64 0),(.int .i64 0),(.int .i64 0),(.int .i64 0),(.int .i64 0),(.int .i64 0),(.int .i64 0),(.int .i64 0),(.int .i64 0),(.int .i64 0),(.int .i64 0),(.int .i64 0),(.int .i64 0),(.int .i64 0),(.int .i64 0),(.int .i64 0),(.int .i64 0),(.int .i64 0),(.int .i64 0),(.int .i64 0),(.int .i64 0),(.int .i64 0),(.int .i64 0),(.int .i64 0),(.int .i64 0),(.int .i64 0),(.int .i64 0),(.int .i64 0),(.int .i64 0),(.int .i64 0),(.int .i64 0),(.int .i64 0),(.int .i64 0),(.int .i64 0),(.int .i64 0),(.int .i64 0),(.int .i64 0),(.int .i64 0),(.int .i64 0),(.int .i64 0),(.int .i64 0),(.int .i64 0),(.int .i64 0),(.int .i64 0),(.int .i64 0),(.int .i64 0)]),s (.store 50 (t 11) (t 33))]) (.seq (.ops [i 34 (.fieldAddr 0 (t 3)),i 35 (.load1 (t 34)),i 36 (.lenSlice (t 35)),i 37 (.sliceA 50 1 (t 11) none (some (t 36)) none),i 38 (.call .any (.func 21) [(t 37)]),i 6 (.mov (t 38)),i 7 (.mov (k (.int .i64 0)))]) .ret))))))
def a9:AFunc:=⟨39,[(.tmp 6),(.tmp 7)],c9⟩
theorem n9:a9.ntmps=39:=id rfl
theorem r9:a9.results=[(.tmp 6),(.tmp 7)]:=rfl
theorem b9:a9.body=c9:=rfl
def c10:ACode:=(.seq (.ops [i 3 (.box (t 0)),i 6 (.mov (k (.slice none 0 0))),i 7 (.mov (k (.int .i64 0)))]) (.seq (.ops [i 9 (.loadN 2 (t 3)),i 10 (.mov (t 1)),i 11 (.mov (t 1)),i 12 (.mov (t 2)),i 13 (.call .any (.func 22) [(t 9),(t 10),(t 11),(t 12)]),i 8 (.mov (t 13))]) (.seq (.seq (.ops [i 14 (.mov (t 8)),i 15 (.bin .neq (t 14) (k (.int .i64 0)))]) (.cond (t 15) (.seq (.ops [i 16 (.mov (t 8)),i 6 (.mov (k (.slice none 0 0))),i 7 (.mov (t 16))]) .ret) .skip)) (.seq (.ops [i 17 (.loadN 2 (t 3)),i 18 (.mov (t 1)),i 19 (.mov (t 2)),i 20 (.mov (t 2)),i 21 (.bin .add (t 20) (k (.int .i64 86400))),i 22 (.fieldAddr 0 (t 3)),i 23 (.load1 (t 22)),i 24 (.lenSlice (t 23)),i 25 (.call .any (.func 23) [(t 17),(t 18),(t 19),(t 21),(t 24)]),i 6 (.mov (t 25)),i 7 (.mov (k (.int .i64 0)))]) .ret))))
def a10:AFunc:=⟨26,[(.tmp 6),(.tmp 7)],c10⟩
theorem n10:a10.ntmps=26:=id rfl
theorem r10:a10.results=[(.tmp 6),(.tmp 7)]:=rfl
theorem b10:a10.body=c10:=rfl
def l11_1:ACode:=(.seq (.seq (.ops [i 11 (.mov (t 5)),i 12 (.mov (t 0)),i 13 (.lenSlice (t 12)),i 14 (.bin .lss (t 11) (t 13))]) (.cond (t 14) .skip (.exit 0))) (.seq (.block 1 (.seq (.drawn 0 [i 17 (.mov (t 0)),i 18 (.mov (t 5)),i 19 (.idxAddrS 1 (t 17) (t 18)),i 20 (.load1 (t 19)),i 21 (.mov (t 1)),i 22 (.mov (t 5)),i 23 (.idxAddrS 1 (t 21) (t 22)),i 24 (.load1 (t 23)),i 25 (.bin .neq (t 20) (t 24))]) (.cond (t 25) (.seq (.ops [i 4 (.mov (k (.bool false)))]) .ret) .skip))) (.ops [i 15 (.mov (t 5)),i 16 (.bin .add (t 15) (k (.int .i64 1))),i 5 (.mov (t 16))])))
def c11:ACode:=(.seq (.ops [i 4 (.mov (k (.bool false)))]) (.seq (.seq (.ops [i 6 (.mov (t 0)),i 7 (.lenSlice (t 6)),i 8 (.mov (t 1)),i 9 (.lenSlice (t 8)),i 10 (.bin .neq (t 7) (t 9))]) (.cond (t 10) (.seq (.ops [i 4 (.mov (k (.bool false)))]) .ret) .skip)) (.seq (.seq (.ops [i 5 (.mov (k (.int .i64 0)))]) (.block 0 (.loop l11_1))) (.seq (.ops [i 4 (.mov (k (.bool true)))]) .ret))))
def a11:AFunc:=⟨26,[(.tmp 4)],c11⟩
theorem n11:a11.ntmps=26:=id rfl
theorem r11:a11.results=[(.tmp 4)]:=rfl
theorem b11:a11.body=c11:=rfl
def c12:ACode:=(.seq (.ops [i 3 (.box (t 0)),i 5 (.box (t 2)),i 6 (.mov (k (.slice none 0 0))),i 7 (.mov (k (.int .i64 0)))]) (.seq (.ops [i 14 (.loadN 2 (t 3)),i 15 (.mov (t 1)),i 16 (.mov (t 1)),i 17 (.load1 (t 5)),i 18 (.call .any (.func 19) [(t 14),(t 15),(t 16),(t 17)]),i 13 (.mov (t 18)),i 19 (.extract 0 (t 13)),i 20 (.extract 1 (t 13)),i 8 (.alloc [(.map none)]),s (.store 1 (t 8) (t 19)),i 9 (.mov (t 20))]) (.seq (.seq (.ops [i 21 (.mov (t 9)),i 22 (.bin .neq (t 21) (k (.int .i64 0)))]) (.cond (t 22) (.seq (.ops [i 23 (.mov (t 9)),i 6 (.mov (k (.slice none 0 0))),i 7 (.mov (t 23))]) .ret) .skip)) (.seq (.ops [i 24 (.makeFunc 24 [] [(t 8),(t 5)]),i 10 (.mov (t 24))]) (.seq (.drawn 0 [i 25 (.load1 (t 8)),i 26 (.mov (t 1)),i 27 (.lookup (.int .i64) (.int .i64 0) false (t 25) (t 26)),i 28 (.load1 (t 5)),i 29 (.call .pure (.func 27) [(t 27),(t 28)]),i 30 (.fieldAddr 1 (t 3)),i 31 (.load1 (t 30)),i 32 (.mov (t 10)),i 33 (.call .any (.func 26) [(t 29),(t 31),(t 32)]),i 11 (.mov (t 33))]) (.seq (.ops [i 34 (.mov (t 11)),i 35 (.mov (t 11)),i 36 (.lenSlice (t 35)),i 37 (.bin .sub (t 36) (k (.int .i64 1))),i 38 (.idxAddrS 50 (t 34) (t 37)),i 39 (.loadN 50 (t 38)),i 12 (.alloc [(.int .i64 0),(.int .i64 0),(.int .i64 0),(.int .i64 0),(.int .i64 0),(.int .i64 0),(.int .i64 0),(.int .i64 0),(.int .i64 0),(.int .i64 0),(.int .i64 0),(.int .i64 0),(.int .i64 0),(.int .i64 0),(.int .i64 0),(.int .i64 0),(.int .i64 0),(.int .i64 0),(.int .i64 0),(.int .i64 0),(.int .i64 0),(.int .i64 0),(.int .i64 0),(.int .i64 0),(.int .i64 0),(.int .i64 0),(.int .i64 0),(.int .i64 0),(.int .i64 0),(.int .i64 0),(.int .i64 0),(.int .i64 0),(.int .i64 0),(.int .i64 0),(.int .i64 0),(.int .i64 0),(.int .i64 0),(.int .i64 0),(.int .i64 0),(.int .i64 0),(.int .i64 0),(.int .i64 0),(.int .i64 0),(.int .i64 0),(.int .i64 0),(.int .i64 0),(.int .i64 0),(.int .i64 0),(.int .i64 0),(.int .i64 0)]),s (.store 50 (t 12) (t 39))]) (.seq (.ops [i 40 (.fieldAddr 0 (t 3)),i 41 (.load1 (t 40)),i 42 (.lenSlice (t 41)),i 43 (.sliceA 50 1 (t 12) none (some (t 42)) none),i 44 (.call .any (.func 21) [(t 43)]),i 6 (.mov (t 44)),i 7 (.mov (k (.int .i64 0)))]) .ret)))))))
def a12:AFunc:=⟨45,[(.tmp 6),(.tmp 7)],c12⟩
theorem n12:a12.ntmps=45:=id rfl
theorem r12:a12.results=[(.tmp 6),(.tmp 7)]:=rfl
theorem b12:a12.body=c12:=rfl
def l13_1:ACode:=(.seq (.seq (.ops [i 19 (.mov (t 10)),i 20 (.fieldAddr 0 (t 3)),i 21 (.load1 (t 20)),i 22 (.lenSlice (t 21)),i 23 (.bin .lss (t 19) (t 22))]) (.cond (t 23) .skip (.exit 0))) (.seq (.block 1 (.drawn 2 [i 26 (.mov (t 9)),⟨(some 27),none,(.loadN 2 (t 3)),none,[0,1]⟩,i 28 (.fieldAddr 0 (t 3)),⟨(some 29),none,(.load1 (t 28)),none,[0,1]⟩,i 30 (.mov (t 10)),i 31 (.idxAddrS 1 (t 29) (t 30)),⟨(some 32),none,(.load1 (t 31)),none,[0,1]⟩,i 33 (.mov (t 1)),i 34 (.mov (t 2)),⟨(some 35),none,(.call .pure (.func 28) [(t 27),(t 32),(t 33),(t 34)]),none,[0,1]⟩,⟨(some 36),none,(.buildSlice 1 [(.int .i64 0)] [(0,(1,(t 35)))]),(some 0),[]⟩,⟨(some 37),none,(.append 1 8 false (t 26) (t 36)),(some 1),[]⟩,i 9 (.mov (t 37))])) (.ops [i 24 (.mov (t 10)),i 25 (.bin .add (t 24) (k (.int .i64 1))),i 10 (.mov (t 25))])))
def c13:ACode:=(.seq (.ops [i 3 (.box (t 0)),i 6 (.mov (k (.slice none 0 0))),i 7 (.mov (k (.int .i64 0)))]) (.seq (.ops [i 11 (.loadN 2 (t 3)),i 12 (.mov (t 1)),i 13 (.mov (t 1)),i 14 (.mov (t 2)),i 15 (.call .any (.func 22) [(t 11),(t 12),(t 13),(t 14)]),i 8 (.mov (t 15))]) (.seq (.seq (.ops [i 16 (.mov (t 8)),i 17 (.bin .neq (t 16) (k (.int .i64 0)))]) (.cond (t 17) (.seq (.ops [i 18 (.mov (t 8)),i 6 (.mov (k (.slice none 0 0))),i 7 (.mov (t 18))]) .ret) .skip)) (.seq (.ops [i 9 (.mov (k (.slice none 0 0)))]) (.seq (.seq (.ops [i 10 (.mov (k (.int .i64 0)))]) (.block 0 (.loop l13_1))) (.seq (.ops [i 38 (.mov (t 9)),i 6 (.mov (t 38)),i 7 (.mov (k (.int .i64 0)))]) .ret))))))
def a13:AFunc:=⟨39,[(.tmp 6),(.tmp 7)],c13⟩
theorem n13:a13.ntmps=39:=id rfl
theorem r13:a13.results=[(.tmp 6),(.tmp 7)]:=rfl
theorem b13:a13.body=c13:=rfl
def l14_1:ACode:=(.seq (.ops [i 80 (.bin .lss (t 79) (t 78))]) (.seq (.cond (t 80) .skip (.exit 2)) (.seq (.block 3 (.seq (.ops [i 81 (.idxAddrS 8 (t 77) (t 79)),i 82 (.loadN 8 (t 81)),i 23 (.alloc [(.int .i64 0),(.int .i64 0),(.int .i64 0),(.int .i64 0),(.int .i64 0),(.int .i64 0),(.int .i64 0),(.int .u8 0)]),s (.store 8 (t 23) (t 82))]) (.seq (.seq (.ops [i 83 (.fieldAddr 1 (t 23)),i 84 (.load1 (t 83)),i 85 (.mov (t 19)),i 86 (.bin .neq (t 84) (t 85))]) (.cond (t 86) (.exit 3) .skip)) (.seq (.ops [i 88 (.loadN 8 (t 23)),i 89 (.mov (t 20)),i 90 (.call .any (.func 36) [(t 88),(t 89)]),i 87 (.mov (t 90)),i 91 (.extract 0 (t 87)),i 92 (.extract 1 (t 87)),i 24 (.alloc [(.int .i64 0),(.int .i64 0)]),s (.store 2 (t 24) (t 91)),i 25 (.mov (t 92))]) (.seq (.drawn 0 [i 93 (.mov (t 25)),i 94 (.mov (t 93)),p 95 94 (.fieldAddr 1 (t 24)),p 96 94 (.load1 (t 95)),p 97 94 (.mov (t 16)),p 98 94 (.mov (t 21)),p 99 94 (.mov (t 10)),p 100 94 (.fieldAddr 2 (t 23)),p 101 94 (.load1 (t 100)),p 102 94 (.lookup (.int .i64) (.int .i64 0) false (t 99) (t 101)),p 103 94 (.idxAddrS 50 (t 97) (t 98)),p 104 94 (.idxAddrA 50 1 (t 103) (t 102)),p 105 94 (.load1 (t 104)),p 106 94 (.bin .leq (t 96) (t 105)),i 107 (.pick (t 94) (t 106) (k (.bool false)))]) (.cond (t 107) (.seq (.ops [i 108 (.mov (t 18)),i 109 (.fieldAddr 0 (t 23)),i 110 (.load1 (t 109)),i 111 (.fieldAddr 0 (t 24)),i 112 (.load1 (t 111)),i 113 (.fieldAddr 1 (t 24)),i 114 (.load1 (t 113)),i 115 (.build [(.int .i64 0),(.int .i64 0),(.int .i64 0)] [(0,(1,(t 110))),(1,(1,(t 112))),(2,(1,(t 114)))]),i 116 (.buildSlice 1 [(.int .i64 0),(.int .i64 0),(.int .i64 0)] [(0,(3,(t 115)))]),i 117 (.append 3 24 false (t 108) (t 116)),i 18 (.mov (t 117))]) (.seq (.drawn 0 [i 118 (.fieldAddr 2 (t 23)),i 119 (.load1 (t 118)),i 120 (.fieldAddr 1 (t 24)),i 121 (.load1 (t 120)),i 19 (.mov (t 119)),i 20 (.mov (t 121))]) (.exit 2))) .skip)))))) (.ops [i 122 (.bin .add (t 79) (k (.int .i64 1))),i 79 (.mov (t 122))]))))
def l14_2:ACode:=(.seq (.seq (.ops [i 73 (.mov (t 21)),i 74 (.bin .geq (t 73) (k (.int .i64 0)))]) (.cond (t 74) .skip (.exit 0))) (.seq (.block 1 (.seq (.ops [i 77 (.mov (t 17)),i 78 (.lenSlice (t 77)),i 79 (.mov (k (.int .i64 0)))]) (.block 2 (.loop l14_1)))) (.ops [i 75 (.mov (t 21)),i 76 (.bin .sub (t 75) (k (.int .i64 1))),i 21 (.mov (t 76))])))
def c14:ACode:=(.seq (.ops [i 4 (.box (t 0)),i 8 (.mov (k (.slice none 0 0))),i 9 (.mov (k (.int .i64 0)))]) (.seq (.ops [i 27 (.loadN 2 (t 4)),i 28 (.mov (t 1)),i 29 (.mov (t 2)),i 30 (.mov (t 3)),i 31 (.call .any (.func 19) [(t 27),(t 28),(t 29),(t 30)]),i 26 (.mov (t 31)),i 32 (.extract 0 (t 26)),i 33 (.extract 1 (t 26)),i 10 (.mov (t 32)),i 11 (.mov (t 33))]) (.seq (.seq (.ops [i 34 (.mov (t 11)),i 35 (.bin .neq (t 34) (k (.int .i64 0)))]) (.cond (t 35) (.seq (.ops [i 36 (.mov (t 11)),i 8 (.mov (k (.slice none 0 0))),i 9 (.mov (t 36))]) .ret) .skip)) (.seq (.ops [i 37 (.mov (t 10)),i 38 (.mov (t 2)),i 39 (.lookup (.int .i64) (.int .i64 0) false (t 37) (t 38)),i 12 (.alloc [(.int .i64 0)]),s (.store 1 (t 12) (t 39))]) (.seq (.ops [i 40 (.loadN 2 (t 4)),i 41 (.mov (t 10)),i 42 (.mov (t 1)),i 43 (.mov (t 3)),i 44 (.call .any (.func 20) [(t 40),(t 41),(t 42),(t 43)]),i 13 (.mov (t 44))]) (.seq (.drawn 1 [i 45 (.mov (t 13)),i 46 (.mov (t 13)),i 47 (.lenSlice (t 46)),i 48 (.bin .sub (t 47) (k (.int .i64 1))),⟨(some 49),none,(.load1 (t 12)),none,[0]⟩,i 50 (.idxAddrS 50 (t 45) (t 48)),i 51 (.idxAddrA 50 1 (t 50) (t 49)),⟨(some 52),none,(.load1 (t 51)),none,[0]⟩,⟨(some 14),none,(.alloc [(.int .i64 0)]),(some 0),[]⟩,s (.store 1 (t 14) (t 52))]) (.seq (.seq (.ops [i 53 (.load1 (t 14)),i 54 (.bin .lss (t 53) (k (.int .i64 0)))]) (.cond (t 54) (.seq (.ops [i 8 (.mov (k (.slice none 0 0))),i 9 (.mov (k (.int .i64 6)))]) .ret) .skip)) (.seq (.ops [i 55 (.mov (t 13)),i 56 (.makeFunc 30 [] [(t 12),(t 14)]),i 57 (.call .any (.func 29) [(t 55),(t 56)]),i 15 (.mov (t 57))]) (.seq (.drawn 0 [i 58 (.loadN 2 (t 4)),i 59 (.mov (t 10)),i 60 (.load1 (t 12)),i 61 (.load1 (t 14)),i 62 (.call .pure (.func 27) [(t 60),(t 61)]),i 63 (.mov (t 15)),i 64 (.call .any (.func 31) [(t 58),(t 59),(t 62),(t 63)]),i 16 (.mov (t 64))]) (.seq (.ops [i 65 (.fieldAddr 1 (t 4)),i 66 (.load1 (t 65)),i 67 (.call .any (.func 33) [(t 66)]),i 68 (.call .any (.func 32) [(t 67),(.func 34)]),i 17 (.mov (t 68))]) (.seq (.ops [i 18 (.mov (k (.slice none 0 0)))]) (.seq (.ops [i 69 (.mov (t 1)),i 70 (.mov (t 3)),i 19 (.mov (t 69)),i 20 (.mov (t 70))]) (.seq (.seq (.ops [i 71 (.mov (t 15)),i 72 (.bin .sub (t 71) (k (.int .i64 1))),i 21 (.mov (t 72))]) (.block 0 (.loop l14_2))) (.seq (.ops [i 123 (.mov (t 18)),i 8 (.mov (t 123)),i 9 (.mov (k (.int .i64 0)))]) .ret))))))))))))))
def a14:AFunc:=⟨124,[(.tmp 8),(.tmp 9)],c14⟩
theorem n14:a14.ntmps=124:=id rfl
theorem r14:a14.results=[(.tmp 8),(.tmp 9)]:=rfl
theorem b14:a14.body=c14:=rfl
def l15_1:ACode:=(.seq (.seq (.ops [i 72 (.mov (t 19)),i 73 (.fieldAddr 1 (t 4)),i 74 (.load1 (t 73)),i 75 (.lenSlice (t 74)),i 76 (.bin .lss (t 72) (t 75))]) (.cond (t 76) .skip (.exit 4))) (.seq (.block 5 (.seq (.ops [i 79 (.fieldAddr 1 (t 4)),i 80 (.load1 (t 79)),i 81 (.mov (t 19)),i 82 (.idxAddrS 8 (t 80) (t 81)),i 83 (.loadN 8 (t 82)),i 20 (.alloc [(.int .i64 0),(.int .i64 0),(.int .i64 0),(.int .i64 0),(.int .i64 0),(.int .i64 0),(.int .i64 0),(.int .u8 0)]),s (.store 8 (t 20) (t 83))]) (.seq (.ops [i 85 (.loadN 8 (t 20)),i 86 (.mov (t 16)),i 87 (.call .any (.func 38) [(t 85),(t 86)]),i 84 (.mov (t 87)),i 88 (.extract 0 (t 84)),i 89 (.extract 1 (t 84)),i 21 (.alloc [(.int .i64 0),(.int .i64 0)]),s (.store 2 (t 21) (t 88)),i 22 (.mov (t 89))]) (.seq (.seq (.ops [i 90 (.fieldAddr 1 (t 20)),i 91 (.load1 (t 90)),i 92 (.mov (t 15)),i 93 (.bin .neq (t 91) (t 92)),i 94 (.mov (t 93)),q 95 94 (.mov (t 22)),q 96 94 (.un .not (t 95)),i 97 (.pick (t 94) (k (.bool true)) (t 96)),i 98 (.mov (t 97)),q 99 98 (.fieldAddr 1 (t 21)),q 100 98 (.load1 (t 99)),q 101 98 (.mov (t 12)),q 102 98 (.bin .gtr (t 100) (t 101)),i 103 (.pick (t 98) (k (.bool true)) (t 102)),i 104 (.mov (t 103)),q 105 104 (.fieldAddr 0 (t 18)),q 106 104 (.load1 (t 105)),q 107 104 (.bin .gtr (t 106) (k (.int .i64 0))),q 108 104 (.mov (t 107)),p 109 108 (.fieldAddr 0 (t 18)),p 110 108 (.load1 (t 109)),p 111 108 (.fieldAddr 0 (t 20)),p 112 108 (.load1 (t 111)),p 113 108 (.bin .lss (t 110) (t 112)),q 114 104 (.pick (t 108) (t 113) (k (.bool false))),i 115 (.pick (t 104) (k (.bool true)) (t 114))]) (.cond (t 115) (.exit 5) .skip)) (.seq (.ops [i 116 (.loadN 2 (t 4)),i 117 (.fieldAddr 2 (t 20)),i 118 (.load1 (t 117)),i 119 (.fieldAddr 1 (t 21)),i 120 (.load1 (t 119)),i 121 (.mov (t 12)),i 122 (.mov (t 17)),i 123 (.call .any (.func 23) [(t 116),(t 118),(t 120),(t 121),(t 122)]),i 124 (.mov (t 11)),i 125 (.idxAddrS 1 (t 123) (t 124)),i 126 (.load1 (t 125)),i 127 (.bin .geq (t 126) (k (.int .i64 0)))]) (.cond (t 127) (.ops [i 128 (.fieldAddr 0 (t 20)),i 129 (.load1 (t 128)),i 130 (.fieldAddr 0 (t 21)),i 131 (.load1 (t 130)),i 132 (.fieldAddr 1 (t 21)),i 133 (.load1 (t 132)),i 134 (.build [(.int .i64 0),(.int .i64 0),(.int .i64 0)] [(0,(1,(t 129))),(1,(1,(t 131))),(2,(1,(t 133)))]),s (.store 3 (t 18) (t 134))]) .skip)))))) (.ops [i 77 (.mov (t 19)),i 78 (.bin .add (t 77) (k (.int .i64 1))),i 19 (.mov (t 78))])))
def l15_2:ACode:=(.seq (.seq (.ops [i 67 (.mov (t 17)),i 68 (.bin .geq (t 67) (k (.int .i64 0)))]) (.cond (t 68) .skip (.exit 2))) (.seq (.block 3 (.seq (.ops [i 71 (.build [(.int .i64 0),(.int .i64 0),(.int .i64 0)] []),i 18 (.alloc [(.int .i64 0),(.int .i64 0),(.int .i64 0)]),s (.store 3 (t 18) (t 71))]) (.seq (.seq (.ops [i 19 (.mov (k (.int .i64 0)))]) (.block 4 (.loop l15_1))) (.seq (.ops [i 135 (.mov (t 14)),i 136 (.loadN 3 (t 18)),i 137 (.buildSlice 1 [(.int .i64 0),(.int .i64 0),(.int .i64 0)] [(0,(3,(t 136)))]),i 138 (.append 3 24 false (t 135) (t 137)),i 14 (.mov (t 138))]) (.seq (.ops [i 140 (.loadN 2 (t 4)),i 141 (.fieldAddr 0 (t 18)),i 142 (.load1 (t 141)),i 143 (.call .any (.func 39) [(t 140),(t 142)]),i 139 (.mov (t 143)),i 144 (.extract 0 (t 139)),i 145 (.extract 1 (t 139)),i 23 (.alloc [(.int .i64 0),(.int .i64 0),(.int .i64 0),(.int .i64 0),(.int .i64 0),(.int .i64 0),(.int .i64 0),(.int .u8 0)]),s (.store 8 (t 23) (t 144)),i 24 (.mov (t 145))]) (.seq (.ops [i 146 (.fieldAddr 2 (t 23)),i 147 (.load1 (t 146)),i 15 (.mov (t 147))]) (.ops [i 148 (.fieldAddr 2 (t 18)),i 149 (.load1 (t 148)),i 16 (.mov (t 149))]))))))) (.ops [i 69 (.mov (t 17)),i 70 (.bin .sub (t 69) (k (.int .i64 1))),i 17 (.mov (t 70))])))
def l15_3:ACode:=(.seq (.seq (.ops [i 50 (.loadN 2 (t 4)),i 51 (.mov (t 1)),i 52 (.mov (t 3)),i 53 (.mov (t 12)),i 54 (.mov (t 13)),i 55 (.call .any (.func 23) [(t 50),(t 51),(t 52),(t 53),(t 54)]),i 56 (.mov (t 11)),i 57 (.idxAddrS 1 (t 55) (t 56)),i 58 (.load1 (t 57)),i 59 (.mov (t 12)),i 60 (.bin .neq (t 58) (t 59))]) (.cond (t 60) .skip (.exit 0))) (.block 1 (.ops [i 61 (.mov (t 13)),i 62 (.bin .add (t 61) (k (.int .i64 1))),i 13 (.mov (t 62))])))
def c15:ACode:=(.seq (.ops [i 4 (.box (t 0)),i 8 (.mov (k (.slice none 0 0))),i 9 (.mov (k (.int .i64 0)))]) (.seq (.ops [i 25 (.loadN 2 (t 4)),i 26 (.mov (t 1)),i 27 (.mov (t 2)),i 28 (.mov (t 3)),i 29 (.call .any (.func 22) [(t 25),(t 26),(t 27),(t 28)]),i 10 (.mov (t 29))]) (.seq (.seq (.ops [i 30 (.mov (t 10)),i 31 (.bin .neq (t 30) (k (.int .i64 0)))]) (.cond (t 31) (.seq (.ops [i 32 (.mov (t 10)),i 8 (.mov (k (.slice none 0 0))),i 9 (.mov (t 32))]) .ret) .skip)) (.seq (.ops [i 33 (.loadN 2 (t 4)),i 34 (.mov (t 2)),i 35 (.call .any (.func 37) [(t 33),(t 34)]),i 11 (.mov (t 35))]) (.seq (.ops [i 36 (.loadN 2 (t 4)),i 37 (.mov (t 1)),i 38 (.mov (t 3)),i 39 (.mov (t 3)),i 40 (.bin .add (t 39) (k (.int .i64 86400))),i 41 (.fieldAddr 0 (t 4)),i 42 (.load1 (t 41)),i 43 (.lenSlice (t 42)),i 44 (.call .any (.func 23) [(t 36),(t 37),(t 38),(t 40),(t 43)]),i 45 (.mov (t 11)),i 46 (.idxAddrS 1 (t 44) (t 45)),i 47 (.load1 (t 46)),i 12 (.mov (t 47))]) (.seq (.seq (.ops [i 48 (.mov (t 12)),i 49 (.bin .lss (t 48) (k (.int .i64 0)))]) (.cond (t 49) (.seq (.ops [i 8 (.mov (k (.slice none 0 0))),i 9 (.mov (k (.int .i64 6)))]) .ret) .skip)) (.seq (.ops [i 13 (.mov (k (.int .i64 0)))]) (.seq (.block 0 (.loop l15_3)) (.seq (.ops [i 14 (.mov (k (.slice none 0 0)))]) (.seq (.ops [i 63 (.mov (t 1)),i 15 (.mov (t 63))]) (.seq (.ops [i 64 (.mov (t 3)),i 16 (.mov (t 64))]) (.seq (.seq (.ops [i 65 (.mov (t 13)),i 66 (.bin .sub (t 65) (k (.int .i64 1))),i 17 (.mov (t 66))]) (.block 2 (.loop l15_2))) (.seq (.ops [i 150 (.mov (t 14)),i 8 (.mov (t 150)),i 9 (.mov (k (.int .i64 0)))]) .ret)))))))))))))
def a15:AFunc:=⟨151,[(.tmp 8),(.tmp 9)],c15⟩
theorem n15:a15.ntmps=151:=id rfl
theorem r15:a15.results=[(.tmp 8),(.tmp 9)]:=rfl
theorem b15:a15.body=c15:=rfl
def c16:ACode:=(.seq (.ops [i 0 (.alloc [(.slice none 0 0),(.slice none 0 0)])]) (.seq (.ops [i 1 (.buildSlice 3 [(.int .i64 0),(.int .i64 0),(.int .i64 0)] [(0,(1,(k (.int .i64 1)))),(1,(1,(k (.int .i64 2)))),(2,(1,(k (.int .i64 3))))]),i 2 (.call .any (.func 4) [(k (.int .i64 1)),(k (.int .i64 1)),(k (.int .i64 2)),(k (.int .i64 600)),(k (.int .i64 60)),(k (.int .i64 0))]),i 3 (.call .any (.func 4) [(k (.int .i64 2)),(k (.int .i64 2)),(k (.int .i64 3)),(k (.int .i64 720)),(k (.int .i64 60)),(k (.int .i64 60))]),i 4 (.call .any (.func 4) [(k (.int .i64 3)),(k (.int .i64 1)),(k (.int .i64 3)),(k (.int .i64 540)),(k (.int .i64 300)),(k (.int .i64 0))]),i 5 (.buildSlice 3 [(.int .i64 0),(.int .i64 0),(.int .i64 0),(.int .i64 0),(.int .i64 0),(.int .i64 0),(.int .i64 0),(.int .u8 0),(.int .i64 0),(.int .i64 0),(.int .i64 0),(.int .i64 0),(.int .i64 0),(.int .i64 0),(.int .i64 0),(.int .u8 0),(.int .i64 0),(.int .i64 0),(.int .i64 0),(.int .i64 0),(.int .i64 0),(.int .i64 0),(.int .i64 0),(.int .u8 0)] [(0,(8,(t 2))),(8,(8,(t 3))),(16,(8,(t 4)))]),i 6 (.build [(.slice none 0 0),(.slice none 0 0)] [(0,(1,(t 1))),(1,(1,(t 5)))]),s (.store 2 (t 0) (t 6))]) .ret))
def a16:AFunc:=⟨7,[(.cellN 2 0)],c16⟩
theorem n16:a16.ntmps=7:=id rfl
theorem r16:a16.results=[(.cellN 2 0)]:=rfl
theorem b16:a16.body=c16:=rfl
def c17:ACode:=(.seq (.ops [i 2 (.box (t 0)),i 3 (.box (t 1)),i 4 (.alloc [(.slice none 0 0),(.slice none 0 0)]),i 5 (.mov (k (.int .i64 0)))]) (.seq (.seq (.ops [i 8 (.loadN 2 (t 2)),i 9 (.call .any (.func 40) [(t 8)]),i 6 (.mov (t 9))]) (.seq (.ops [i 10 (.mov (t 6)),i 11 (.bin .neq (t 10) (k (.int .i64 0)))]) (.cond (t 11) (.seq (.ops [i 12 (.build [(.slice none 0 0),(.slice none 0 0)] []),i 13 (.mov (t 6)),s (.store 2 (t 4) (t 12)),i 5 (.mov (t 13))]) .ret) .skip))) (.seq (.ops [i 14 (.fieldAddr 1 (t 2)),i 15 (.load1 (t 14)),i 16 (.makeFunc 42 [] [(t 3)]),i 17 (.call .any (.func 41) [(t 15),(t 16)]),i 7 (.mov (t 17))]) (.seq (.seq (.ops [i 18 (.mov (t 7)),i 19 (.bin .lss (t 18) (k (.int .i64 0)))]) (.cond (t 19) (.seq (.ops [i 20 (.build [(.slice none 0 0),(.slice none 0 0)] []),s (.store 2 (t 4) (t 20)),i 5 (.mov (k (.int .i64 6)))]) .ret) .skip)) (.seq (.drawn 1 [i 21 (.fieldAddr 0 (t 2)),⟨(some 22),none,(.load1 (t 21)),none,[0]⟩,i 24 (.fieldAddr 1 (t 2)),⟨(some 25),none,(.load1 (t 24)),none,[0]⟩,i 26 (.mov (t 7)),i 27 (.sliceS 8 (t 25) none (some (t 26)) none),i 28 (.fieldAddr 1 (t 2)),⟨(some 29),none,(.load1 (t 28)),none,[0]⟩,i 30 (.mov (t 7)),i 31 (.bin .add (t 30) (k (.int .i64 1))),i 32 (.sliceS 8 (t 29) (some (t 31)) none none),⟨(some 33),none,(.buildSlice 2 [(.slice none 0 0),(.slice none 0 0)] [(0,(1,(t 27))),(1,(1,(t 32)))]),(some 0),[]⟩,⟨(some 23),none,(.call .mk (.func 21) [(t 22)]),none,[0]⟩,i 34 (.call .any (.func 43) [(t 33)]),i 35 (.build [(.slice none 0 0),(.slice none 0 0)] [(0,(1,(t 23))),(1,(1,(t 34)))]),s (.store 2 (t 4) (t 35)),i 5 (.mov (k (.int .i64 0)))]) .ret)))))
def a17:AFunc:=⟨36,[(.cellN 2 4),(.tmp 5)],c17⟩
theorem n17:a17.ntmps=36:=id rfl
theorem r17:a17.results=[(.cellN 2 4),(.tmp 5)]:=rfl
theorem b17:a17.body=c17:=rfl
def l18_1:ACode:=(.seq (.seq (.ops [i 11 (.mov (t 5)),i 12 (.mov (t 0)),i 13 (.lenSlice (t 12)),i 14 (.bin .lss (t 11) (t 13))]) (.cond (t 14) .skip (.exit 0))) (.seq (.block 1 (.seq (.drawn 0 [i 17 (.mov (t 0)),i 18 (.mov (t 5)),i 19 (.idxAddrS 3 (t 17) (t 18)),i 20 (.loadN 3 (t 19)),i 21 (.mov (t 1)),i 22 (.mov (t 5)),i 23 (.idxAddrS 3 (t 21) (t 22)),i 24 (.loadN 3 (t 23)),i 25 (.eqv true (.agg [(.int .i64),(.int .i64),(.int .i64)]) (t 20) (t 24))]) (.cond (t 25) (.seq (.ops [i 4 (.mov (k (.bool false)))]) .ret) .skip))) (.ops [i 15 (.mov (t 5)),i 16 (.bin .add (t 15) (k (.int .i64 1))),i 5 (.mov (t 16))])))
def c18:ACode:=(.seq (.ops [i 4 (.mov (k (.bool false)))]) (.seq (.seq (.ops [i 6 (.mov (t 0)),i 7 (.lenSlice (t 6)),i 8 (.mov (t 1)),i 9 (.lenSlice (t 8)),i 10 (.bin .neq (t 7) (t 9))]) (.cond (t 10) (.seq (.ops [i 4 (.mov (k (.bool false)))]) .ret) .skip)) (.seq (.seq (.ops [i 5 (.mov (k (.int .i64 0)))]) (.block 0 (.loop l18_1))) (.seq (.ops [i 4 (.mov (k (.bool true)))]) .ret))))
def a18:AFunc:=⟨26,[(.tmp 4)],c18⟩
theorem n18:a18.ntmps=26:=id rfl
theorem r18:a18.results=[(.tmp 4)]:=rfl
theorem b18:a18.body=c18:=rfl
def c19:ACode:=(.seq (.ops [i 4 (.box (t 0)),i 8 (.mov (k (.map none))),i 9 (.mov (k (.int .i64 0)))]) (.seq (.seq (.ops [i 16 (.loadN 2 (t 4)),i 17 (.call .any (.func 40) [(t 16)]),i 10 (.mov (t 17))]) (.seq (.ops [i 18 (.mov (t 10)),i 19 (.bin .neq (t 18) (k (.int .i64 0)))]) (.cond (t 19) (.seq (.ops [i 20 (.mov (t 10)),i 8 (.mov (k (.map none))),i 9 (.mov (t 20))]) .ret) .skip))) (.seq (.ops [i 21 (.loadN 2 (t 4)),i 22 (.call .any (.func 44) [(t 21)]),i 11 (.mov (t 22))]) (.seq (.ops [i 24 (.mov (t 11)),i 25 (.mov (t 1)),i 26 (.lookup (.int .i64) (.int .i64 0) true (t 24) (t 25)),i 23 (.mov (t 26)),i 27 (.extract 0 (t 23)),i 28 (.extract 1 (t 23)),i 12 (.mov (t 27)),i 13 (.mov (t 28))]) (.seq (.ops [i 30 (.mov (t 11)),i 31 (.mov (t 2)),i 32 (.lookup (.int .i64) (.int .i64 0) true (t 30) (t 31)),i 29 (.mov (t 32)),i 33 (.extract 0 (t 29)),i 34 (.extract 1 (t 29)),i 14 (.mov (t 33)),i 15 (.mov (t 34))]) (.seq (.seq (.ops [i 35 (.mov (t 13)),i 36 (.un .not (t 35)),i 37 (.mov (t 36)),q 38 37 (.mov (t 15)),q 39 37 (.un .not (t 38)),i 40 (.pick (t 37) (k (.bool true)) (t 39)),i 41 (.mov (t 40)),q 42 41 (.mov (t 3)),q 43 41 (.bin .lss (t 42) (k (.int .i64 0))),i 44 (.pick (t 41) (k (.bool true)) (t 43)),i 45 (.mov (t 44)),q 46 45 (.mov (t 3)),q 47 45 (.bin .gtr (t 46) (k (.int .i64 1051898399))),i 48 (.pick (t 45) (k (.bool true)) (t 47))]) (.cond (t 48) (.seq (.ops [i 8 (.mov (k (.map none))),i 9 (.mov (k (.int .i64 2)))]) .ret) .skip)) (.seq (.ops [i 49 (.mov (t 11)),i 8 (.mov (t 49)),i 9 (.mov (k (.int .i64 0)))]) .ret)))))))
def a19:AFunc:=⟨50,[(.tmp 8),(.tmp 9)],c19⟩
theorem n19:a19.ntmps=50:=id rfl
theorem r19:a19.results=[(.tmp 8),(.tmp 9)]:=rfl
theorem b19:a19.body=c19:=rfl
def c20:ACode:=(.seq (.ops [i 4 (.box (t 0)),i 5 (.box (t 1)),i 7 (.box (t 3)),i 8 (.mov (k (.slice none 0 0)))]) (.seq (.ops [i 10 (.makeFunc 45 [] [(t 5),(t 7)]),i 9 (.mov (t 10))]) (.seq (.drawn 0 [i 11 (.load1 (t 5)),i 12 (.mov (t 2)),i 13 (.lookup (.int .i64) (.int .i64 0) false (t 11) (t 12)),i 14 (.load1 (t 7)),i 15 (.call .pure (.func 27) [(t 13),(t 14)]),i 16 (.fieldAddr 1 (t 4)),i 17 (.load1 (t 16)),i 18 (.mov (t 9)),i 19 (.call .any (.func 26) [(t 15),(t 17),(t 18)]),i 8 (.mov (t 19))]) .ret)))
def a20:AFunc:=⟨20,[(.tmp 8)],c20⟩
theorem n20:a20.ntmps=20:=id rfl
theorem r20:a20.results=[(.tmp 8)]:=rfl
theorem b20:a20.body=c20:=rfl
def c21:ACode:=(.seq (.ops [i 2 (.mov (k (.slice none 0 0)))]) (.seq (.seq (.ops [i 3 (.mov (t 0)),i 4 (.eqv false .slice (t 3) (k (.slice none 0 0)))]) (.cond (t 4) (.seq (.ops [i 2 (.mov (k (.slice none 0 0)))]) .ret) .skip)) (.seq (.ops [i 5 (.buildSlice 0 [] []),i 6 (.mov (t 0)),i 7 (.append 1 8 false (t 5) (t 6)),i 2 (.mov (t 7))]) .ret)))
def a21:AFunc:=⟨8,[(.tmp 2)],c21⟩
theorem n21:a21.ntmps=8:=id rfl
theorem r21:a21.results=[(.tmp 2)]:=rfl
theorem b21:a21.body=c21:=rfl
def c22:ACode:=(.seq (.ops [i 4 (.box (t 0)),i 8 (.mov (k (.int .i64 0)))]) (.seq (.ops [i 10 (.loadN 2 (t 4)),i 11 (.call .any (.func 46) [(t 10)]),i 9 (.mov (t 11))]) (.seq (.seq (.ops [i 12 (.mov (t 9)),i 13 (.bin .neq (t 12) (k (.int .i64 0)))]) (.cond (t 13) (.seq (.ops [i 14 (.mov (t 9)),i 8 (.mov (t 14))]) .ret) .skip)) (.seq (.seq (.ops [i 15 (.loadN 2 (t 4)),i 16 (.mov (t 1)),i 17 (.call .any (.func 37) [(t 15),(t 16)]),i 18 (.bin .lss (t 17) (k (.int .i64 0))),i 19 (.mov (t 18)),q 20 19 (.loadN 2 (t 4)),q 21 19 (.mov (t 2)),q 22 19 (.call .any (.func 37) [(t 20),(t 21)]),q 23 19 (.bin .lss (t 22) (k (.int .i64 0))),i 24 (.pick (t 19) (k (.bool true)) (t 23)),i 25 (.mov (t 24)),q 26 25 (.mov (t 3)),q 27 25 (.bin .lss (t 26) (k (.int .i64 0))),i 28 (.pick (t 25) (k (.bool true)) (t 27)),i 29 (.mov (t 28)),q 30 29 (.mov (t 3)),q 31 29 (.bin .gtr (t 30) (k (.int .i64 1051898399))),i 32 (.pick (t 29) (k (.bool true)) (t 31))]) (.cond (t 32) (.seq (.ops [i 8 (.mov (k (.int .i64 2)))]) .ret) .skip)) (.seq (.ops [i 8 (.mov (k (.int .i64 0)))]) .ret)))))
def a22:AFunc:=⟨33,[(.tmp 8)],c22⟩
theorem n22:a22.ntmps=33:=id rfl
theorem r22:a22.results=[(.tmp 8)]:=rfl
theorem b22:a22.body=c22:=rfl
def l23_1:ACode:=(.seq (.seq (.ops [i 45 (.mov (t 15)),i 46 (.fieldAddr 1 (t 5)),i 47 (.load1 (t 46)),i 48 (.lenSlice (t 47)),i 49 (.bin .lss (t 45) (t 48))]) (.cond (t 49) .skip (.exit 4))) (.seq (.block 5 (.seq (.ops [i 52 (.fieldAddr 1 (t 5)),i 53 (.load1 (t 52)),i 54 (.mov (t 15)),i 55 (.idxAddrS 8 (t 53) (t 54)),i 56 (.loadN 8 (t 55)),i 16 (.alloc [(.int .i64 0),(.int .i64 0),(.int .i64 0),(.int .i64 0),(.int .i64 0),(.int .i64 0),(.int .i64 0),(.int .u8 0)]),s (.store 8 (t 16) (t 56))]) (.seq (.ops [i 57 (.loadN 2 (t 5)),i 58 (.fieldAddr 1 (t 16)),i 59 (.load1 (t 58)),i 60 (.call .any (.func 37) [(t 57),(t 59)]),i 17 (.mov (t 60))]) (.seq (.ops [i 61 (.loadN 2 (t 5)),i 62 (.fieldAddr 2 (t 16)),i 63 (.load1 (t 62)),i 64 (.call .any (.func 37) [(t 61),(t 63)]),i 18 (.mov (t 64))]) (.seq (.seq (.ops [i 65 (.mov (t 11)),i 66 (.mov (t 17)),i 67 (.idxAddrS 1 (t 65) (t 66)),i 68 (.load1 (t 67)),i 69 (.bin .lss (t 68) (k (.int .i64 0)))]) (.cond (t 69) (.exit 5) .skip)) (.seq (.drawn 1 [⟨(some 71),none,(.loadN 8 (t 16)),none,[0]⟩,i 72 (.mov (t 11)),i 73 (.mov (t 17)),i 74 (.idxAddrS 1 (t 72) (t 73)),⟨(some 75),none,(.load1 (t 74)),none,[0]⟩,⟨(some 76),none,(.call .pure (.func 38) [(t 71),(t 75)]),none,[0]⟩,i 70 (.mov (t 76)),i 77 (.extract 0 (t 70)),i 78 (.extract 1 (t 70)),⟨(some 19),none,(.alloc [(.int .i64 0),(.int .i64 0)]),(some 0),[]⟩,s (.store 2 (t 19) (t 77)),i 20 (.mov (t 78))]) (.seq (.drawn 0 [i 79 (.mov (t 20)),i 80 (.mov (t 79)),p 81 80 (.fieldAddr 1 (t 19)),p 82 80 (.load1 (t 81)),p 83 80 (.mov (t 3)),p 84 80 (.bin .leq (t 82) (t 83)),i 85 (.pick (t 80) (t 84) (k (.bool false))),i 86 (.mov (t 85)),p 87 86 (.mov (t 14)),p 88 86 (.mov (t 18)),p 89 86 (.idxAddrS 1 (t 87) (t 88)),p 90 86 (.load1 (t 89)),p 91 86 (.bin .lss (t 90) (k (.int .i64 0))),p 92 86 (.mov (t 91)),q 93 92 (.fieldAddr 1 (t 19)),q 94 92 (.load1 (t 93)),q 95 92 (.mov (t 14)),q 96 92 (.mov (t 18)),q 97 92 (.idxAddrS 1 (t 95) (t 96)),q 98 92 (.load1 (t 97)),q 99 92 (.bin .lss (t 94) (t 98)),p 100 86 (.pick (t 92) (k (.bool true)) (t 99)),i 101 (.pick (t 86) (t 100) (k (.bool false)))]) (.cond (t 101) (.ops [i 102 (.mov (t 14)),i 103 (.mov (t 18)),i 104 (.fieldAddr 1 (t 19)),i 105 (.load1 (t 104)),i 106 (.idxAddrS 1 (t 102) (t 103)),s (.store 1 (t 106) (t 105))]) .skip)))))))) (.ops [i 50 (.mov (t 15)),i 51 (.bin .add (t 50) (k (.int .i64 1))),i 15 (.mov (t 51))])))
def l23_2:ACode:=(.seq (.seq (.ops [i 37 (.mov (t 13)),i 38 (.mov (t 4)),i 39 (.bin .lss (t 37) (t 38))]) (.cond (t 39) .skip (.exit 2))) (.seq (.block 3 (.seq (.ops [i 42 (.buildSlice 0 [] []),i 43 (.mov (t 11)),i 44 (.append 1 8 false (t 42) (t 43)),i 14 (.mov (t 44))]) (.seq (.seq (.ops [i 15 (.mov (k (.int .i64 0)))]) (.block 4 (.loop l23_1))) (.ops [i 107 (.mov (t 14)),i 11 (.mov (t 107))])))) (.ops [i 40 (.mov (t 13)),i 41 (.bin .add (t 40) (k (.int .i64 1))),i 13 (.mov (t 41))])))
def l23_3:ACode:=(.seq (.seq (.ops [i 21 (.mov (t 12)),i 22 (.fieldAddr 0 (t 5)),i 23 (.load1 (t 22)),i 24 (.lenSlice (t 23)),i 25 (.bin .lss (t 21) (t 24))]) (.cond (t 25) .skip (.exit 0))) (.seq (.block 1 (.ops [i 28 (.mov (t 11)),i 29 (.buildSlice 1 [(.int .i64 0)] [(0,(1,(k (.int .i64 (-1)))))]),i 30 (.append 1 8 false (t 28) (t 29)),i 11 (.mov (t 30))])) (.ops [i 26 (.mov (t 12)),i 27 (.bin .add (t 26) (k (.int .i64 1))),i 12 (.mov (t 27))])))
def c23:ACode:=(.seq (.ops [i 5 (.box (t 0)),i 10 (.mov (k (.slice none 0 0)))]) (.seq (.ops [i 11 (.mov (k (.slice none 0 0)))]) (.seq (.seq (.ops [i 12 (.mov (k (.int .i64 0)))]) (.block 0 (.loop l23_3))) (.seq (.ops [i 31 (.mov (t 11)),i 32 (.loadN 2 (t 5)),i 33 (.mov (t 1)),i 34 (.call .any (.func 37) [(t 32),(t 33)]),i 35 (.mov (t 2)),i 36 (.idxAddrS 1 (t 31) (t 34)),s (.store 1 (t 36) (t 35))]) (.seq (.seq (.ops [i 13 (.mov (k (.int .i64 0)))]) (.block 2 (.loop l23_2))) (.seq (.ops [i 108 (.mov (t 11)),i 10 (.mov (t 108))]) .ret))))))
def a23:AFunc:=⟨109,[(.tmp 10)],c23⟩
theorem n23:a23.ntmps=109:=id rfl
theorem r23:a23.results=[(.tmp 10)]:=rfl
theorem b23:a23.body=c23:=rfl
def c24:ACode:=(.seq (.ops [i 5 (.box (t 0)),i 6 (.box (t 1))]) (.seq (.drawn 0 [i 13 (.load1 (t 3)),i 14 (.fieldAddr 1 (t 5)),i 15 (.load1 (t 14)),i 16 (.lookup (.int .i64) (.int .i64 0) false (t 13) (t 15)),i 17 (.load1 (t 3)),i 18 (.fieldAddr 2 (t 5)),i 19 (.load1 (t 18)),i 20 (.lookup (.int .i64) (.int .i64 0) false (t 17) (t 19)),i 21 (.idxAddrA 50 1 (t 6) (t 20)),i 22 (.load1 (t 21)),i 8 (.mov (t 16)),i 9 (.mov (t 22))]) (.seq (.seq (.ops [i 23 (.mov (t 9)),i 24 (.bin .lss (t 23) (k (.int .i64 0)))]) (.cond (t 24) .ret .skip)) (.seq (.ops [i 26 (.loadN 8 (t 5)),i 27 (.mov (t 9)),i 28 (.call .any (.func 25) [(t 26),(t 27)]),i 25 (.mov (t 28)),i 29 (.extract 0 (t 25)),i 30 (.extract 1 (t 25)),i 10 (.alloc [(.int .i64 0),(.int .i64 0)]),s (.store 2 (t 10) (t 29)),i 11 (.mov (t 30))]) (.seq (.ops [i 31 (.fieldAddr 0 (t 10)),i 32 (.load1 (t 31)),i 33 (.fieldAddr 5 (t 5)),i 34 (.load1 (t 33)),i 35 (.bin .sub (t 32) (t 34)),i 12 (.mov (t 35))]) (.seq (.ops [i 36 (.mov (t 11)),i 37 (.mov (t 36)),p 38 37 (.mov (t 12)),p 39 37 (.load1 (t 4)),p 40 37 (.bin .sub (t 39) (k (.int .i64 86400))),p 41 37 (.bin .geq (t 38) (t 40)),i 42 (.pick (t 37) (t 41) (k (.bool false))),i 43 (.mov (t 42)),p 44 43 (.mov (t 12)),p 45 43 (.mov (t 2)),p 46 43 (.mov (t 8)),p 47 43 (.nilCheck (t 45)),p 48 43 (.idxAddrA 50 1 (t 47) (t 46)),p 49 43 (.load1 (t 48)),p 50 43 (.bin .gtr (t 44) (t 49)),i 51 (.pick (t 43) (t 50) (k (.bool false)))]) (.cond (t 51) (.ops [i 52 (.mov (t 2)),i 53 (.mov (t 8)),i 54 (.mov (t 12)),i 55 (.nilCheck (t 52)),i 56 (.idxAddrA 50 1 (t 55) (t 53)),s (.store 1 (t 56) (t 54))]) .skip)))))))
def a24:AFunc:=⟨57,[],c24⟩
theorem n24:a24.ntmps=57:=id rfl
theorem r24:a24.results=[]:=rfl
theorem b24:a24.body=c24:=rfl
def ga25_1:ACode:=(.ops [i 7 (.alloc [(.int .i64 0),(.int .i64 0)]),s (.store 2 (t 7) (t 31))])
def gb25_1:ACode:=(.block 1 (.seq (.ops [i 32 (.fieldAddr 1 (t 7)),i 33 (.load1 (t 32)),i 34 (.load1 (t 3)),i 35 (.bin .leq (t 33) (t 34))]) (.cond (t 35) (.seq (.ops [i 36 (.loadN 2 (t 7)),s (.store 2 (t 4) (t 36)),s (.store 1 (t 5) (k (.bool true)))]) .retR) .skip)))
def c25:ACode:=(.seq (.seq (.ops [i 2 (.box (t 0)),i 3 (.box (t 1)),i 4 (.alloc [(.int .i64 0),(.int .i64 0)]),i 5 (.alloc [(.bool false)])]) (.seq (.seq (.ops [i 8 (.loadN 8 (t 2)),i 9 (.call .any (.func 47) [(t 8)]),i 10 (.un .not (t 9)),i 11 (.mov (t 10)),q 12 11 (.load1 (t 3)),q 13 11 (.fieldAddr 3 (t 2)),q 14 11 (.load1 (t 13)),q 15 11 (.fieldAddr 4 (t 2)),q 16 11 (.load1 (t 15)),q 17 11 (.bin .add (t 14) (t 16)),q 18 11 (.bin .lss (t 12) (t 17)),i 19 (.pick (t 11) (k (.bool true)) (t 18))]) (.cond (t 19) (.seq (.ops [i 20 (.build [(.int .i64 0),(.int .i64 0)] []),s (.store 2 (t 4) (t 20)),s (.store 1 (t 5) (k (.bool false)))]) .retM) .skip)) (.seq (.ops [i 21 (.load1 (t 3)),i 22 (.minmax false [(t 21),(k (.int .i64 1051898399))]),s (.store 1 (t 3) (t 22))]) (.seq (.ops [i 23 (.load1 (t 3)),i 24 (.fieldAddr 4 (t 2)),i 25 (.load1 (t 24)),i 26 (.bin .sub (t 23) (t 25)),i 27 (.bin .quo (t 26) (k (.int .i64 1440))),i 6 (.mov (t 27))]) (.seq (.seq (.ops [i 28 (.loadN 8 (t 2)),i 29 (.mov (t 6)),i 30 (.call .any (.func 48) [(t 28),(t 29),(k (.int .i64 (-1)))])]) (.block 0 (.rangeF (t 30) [31] ga25_1 gb25_1))) (.seq (.ops [i 37 (.build [(.int .i64 0),(.int .i64 0)] []),s (.store 2 (t 4) (t 37)),s (.store 1 (t 5) (k (.bool false)))]) .retM)))))) .retM)
def a25:AFunc:=⟨38,[(.cellN 2 4),(.cell1 5)],c25⟩
theorem n25:a25.ntmps=38:=id rfl
theorem r25:a25.results=[(.cellN 2 4),(.cell1 5)]:=rfl
theorem b25:a25.body=c25:=rfl
def l26_1:ACode:=(.seq (.ops [i 24 (.bin .lss (t 23) (t 22))]) (.seq (.cond (t 24) .skip (.exit 2)) (.seq (.block 3 (.seq (.ops [i 25 (.idxAddrS 8 (t 21) (t 23)),i 26 (.loadN 8 (t 25)),i 11 (.alloc [(.int .i64 0),(.int .i64 0),(.int .i64 0),(.int .i64 0),(.int .i64 0),(.int .i64 0),(.int .i64 0),(.int .u8 0)]),s (.store 8 (t 11) (t 26))]) (.ops [i 27 (.mov (t 2)),i 28 (.loadN 8 (t 11)),i 29 (.loadN 50 (t 8)),i 30 (.call .any (t 27) [(t 28),(t 29),(t 9)])]))) (.ops [i 31 (.bin .add (t 23) (k (.int .i64 1))),i 23 (.mov (t 31))]))))
def l26_2:ACode:=(.block 1 (.seq (.ops [i 14 (.mov (t 7)),i 15 (.mov (t 7)),i 16 (.lenSlice (t 15)),i 17 (.bin .sub (t 16) (k (.int .i64 1))),i 18 (.idxAddrS 50 (t 14) (t 17)),i 19 (.loadN 50 (t 18)),i 8 (.alloc [(.int .i64 0),(.int .i64 0),(.int .i64 0),(.int .i64 0),(.int .i64 0),(.int .i64 0),(.int .i64 0),(.int .i64 0),(.int .i64 0),(.int .i64 0),(.int .i64 0),(.int .i64 0),(.int .i64 0),(.int .i64 0),(.int .i64 0),(.int .i64 0),(.int .i64 0),(.int .i64 0),(.int .i64 0),(.int .i64 0),(.int .i64 0),(.int .i64 0),(.int .i64 0),(.int .i64 0),(.int .i64 0),(.int .i64 0),(.int .i64 0),(.int .i64 0),(.int .i64 0),(.int .i64 0),(.int .i64 0),(.int .i64 0),(.int .i64 0),(.int .i64 0),(.int .i64 0),(.int .i64 0),(.int .i64 0),(.int .i64 0),(.int .i64 0),(.int .i64 0),(.int .i64 0),(.int .i64 0),(.int .i64 0),(.int .i64 0),(.int .i64 0),(.int .i64 0),(.int .i64 0),(.int .i64 0),(.int .i64 0),(.int .i64 0)]),s (.store 50 (t 8) (t 19))]) (.seq (.ops [i 20 (.loadN 50 (t 8)),i 9 (.alloc [(.int .i64 0),(.int .i64 0),(.int .i64 0),(.int .i64 0),(.int .i64 0),(.int .i64 0),(.int .i64 0),(.int .i64 0),(.int .i64 0),(.int .i64 0),(.int .i64 0),(.int .i64 0),(.int .i64 0),(.int .i64 0),(.int .i64 0),(.int .i64 0),(.int .i64 0),(.int .i64 0),(.int .i64 0),(.int .i64 0),(.int .i64 0),(.int .i64 0),(.int .i64 0),(.int .i64 0),(.int .i64 0),(.int .i64 0),(.int .i64 0),(.int .i64 0),(.int .i64 0),(.int .i64 0),(.int .i64 0),(.int .i64 0),(.int .i64 0),(.int .i64 0),(.int .i64 0),(.int .i64 0),(.int .i64 0),(.int .i64 0),(.int .i64 0),(.int .i64 0),(.int .i64 0),(.int .i64 0),(.int .i64 0),(.int .i64 0),(.int .i64 0),(.int .i64 0),(.int .i64 0),(.int .i64 0),(.int .i64 0),(.int .i64 0)]),s (.store 50 (t 9) (t 20))]) (.seq (.seq (.ops [i 21 (.mov (t 1)),i 22 (.lenSlice (t 21)),i 23 (.mov (k (.int .i64 0)))]) (.block 2 (.loop l26_1))) (.seq (.seq (.ops [i 32 (.loadN 50 (t 9)),i 33 (.loadN 50 (t 8)),i 34 (.eqv false (.agg [(.int .i64),(.int .i64),(.int .i64),(.int .i64),(.int .i64),(.int .i64),(.int .i64),(.int .i64),(.int .i64),(.int .i64),(.int .i64),(.int .i64),(.int .i64),(.int .i64),(.int .i64),(.int .i64),(.int .i64),(.int .i64),(.int .i64),(.int .i64),(.int .i64),(.int .i64),(.int .i64),(.int .i64),(.int .i64),(.int .i64),(.int .i64),(.int .i64),(.int .i64),(.int .i64),(.int .i64),(.int .i64),(.int .i64),(.int .i64),(.int .i64),(.int .i64),(.int .i64),(.int .i64),(.int .i64),(.int .i64),(.int .i64),(.int .i64),(.int .i64),(.int .i64),(.int .i64),(.int .i64),(.int .i64),(.int .i64),(.int .i64),(.int .i64)]) (t 32) (t 33))]) (.cond (t 34) (.seq (.ops [i 35 (.mov (t 7)),i 6 (.mov (t 35))]) .ret) .skip)) (.ops [i 36 (.mov (t 7)),i 37 (.loadN 50 (t 9)),i 38 (.buildSlice 1 [(.int .i64 0),(.int .i64 0),(.int .i64 0),(.int .i64 0),(.int .i64 0),(.int .i64 0),(.int .i64 0),(.int .i64 0),(.int .i64 0),(.int .i64 0),(.int .i64 0),(.int .i64 0),(.int .i64 0),(.int .i64 0),(.int .i64 0),(.int .i64 0),(.int .i64 0),(.int .i64 0),(.int .i64 0),(.int .i64 0),(.int .i64 0),(.int .i64 0),(.int .i64 0),(.int .i64 0),(.int .i64 0),(.int .i64 0),(.int .i64 0),(.int .i64 0),(.int .i64 0),(.int .i64 0),(.int .i64 0),(.int .i64 0),(.int .i64 0),(.int .i64 0),(.int .i64 0),(.int .i64 0),(.int .i64 0),(.int .i64 0),(.int .i64 0),(.int .i64 0),(.int .i64 0),(.int .i64 0),(.int .i64 0),(.int .i64 0),(.int .i64 0),(.int .i64 0),(.int .i64 0),(.int .i64 0),(.int .i64 0),(.int .i64 0)] [(0,(50,(t 37)))]),i 39 (.append 50 400 false (t 36) (t 38)),i 7 (.mov (t 39))]))))))
def c26:ACode:=(.seq (.ops [i 3 (.box (t 0)),i 6 (.mov (k (.slice none 0 0)))]) (.seq (.ops [i 12 (.loadN 50 (t 3)),i 13 (.buildSlice 1 [(.int .i64 0),(.int .i64 0),(.int .i64 0),(.int .i64 0),(.int .i64 0),(.int .i64 0),(.int .i64 0),(.int .i64 0),(.int .i64 0),(.int .i64 0),(.int .i64 0),(.int .i64 0),(.int .i64 0),(.int .i64 0),(.int .i64 0),(.int .i64 0),(.int .i64 0),(.int .i64 0),(.int .i64 0),(.int .i64 0),(.int .i64 0),(.int .i64 0),(.int .i64 0),(.int .i64 0),(.int .i64 0),(.int .i64 0),(.int .i64 0),(.int .i64 0),(.int .i64 0),(.int .i64 0),(.int .i64 0),(.int .i64 0),(.int .i64 0),(.int .i64 0),(.int .i64 0),(.int .i64 0),(.int .i64 0),(.int .i64 0),(.int .i64 0),(.int .i64 0),(.int .i64 0),(.int .i64 0),(.int .i64 0),(.int .i64 0),(.int .i64 0),(.int .i64 0),(.int .i64 0),(.int .i64 0),(.int .i64 0),(.int .i64 0)] [(0,(50,(t 12)))]),i 7 (.mov (t 13))]) (.block 0 (.loop l26_2))))
def a26:AFunc:=⟨40,[(.tmp 6)],c26⟩
theorem n26:a26.ntmps=40:=id rfl
theorem r26:a26.results=[(.tmp 6)]:=rfl
theorem b26:a26.body=c26:=rfl
def l27_1:ACode:=(.seq (.ops [i 8 (.bin .lss (t 7) (k (.int .i64 50)))]) (.seq (.cond (t 8) .skip (.exit 0)) (.seq (.block 1 (.seq (.ops [i 9 (.mov (t 7)),i 6 (.mov (t 9))]) (.ops [i 10 (.mov (t 6)),i 11 (.idxAddrA 50 1 (t 5) (t 10)),s (.store 1 (t 11) (k (.int .i64 (-1))))]))) (.ops [i 12 (.bin .add (t 7) (k (.int .i64 1))),i 7 (.mov (t 12))]))))
def c27:ACode:=(.seq (.ops [i 4 (.alloc [(.int .i64 0),(.int .i64 0),(.int .i64 0),(.int .i64 0),(.int .i64 0),(.int .i64 0),(.int .i64 0),(.int .i64 0),(.int .i64 0),(.int .i64 0),(.int .i64 0),(.int .i64 0),(.int .i64 0),(.int .i64 0),(.int .i64 0),(.int .i64 0),(.int .i64 0),(.int .i64 0),(.int .i64 0),(.int .i64 0),(.int .i64 0),(.int .i64 0),(.int .i64 0),(.int .i64 0),(.int .i64 0),(.int .i64 0),(.int .i64 0),(.int .i64 0),(.int .i64 0),(.int .i64 0),(.int .i64 0),(.int .i64 0),(.int .i64 0),(.int .i64 0),(.int .i64 0),(.int .i64 0),(.int .i64 0),(.int .i64 0),(.int .i64 0),(.int .i64 0),(.int .i64 0),(.int .i64 0),(.int .i64 0),(.int .i64 0),(.int .i64 0),(.int .i64 0),(.int .i64 0),(.int .i64 0),(.int .i64 0),(.int .i64 0)])]) (.seq (.ops [i 5 (.alloc [(.int .i64 0),(.int .i64 0),(.int .i64 0),(.int .i64 0),(.int .i64 0),(.int .i64 0),(.int .i64 0),(.int .i64 0),(.int .i64 0),(.int .i64 0),(.int .i64 0),(.int .i64 0),(.int .i64 0),(.int .i64 0),(.int .i64 0),(.int .i64 0),(.int .i64 0),(.int .i64 0),(.int .i64 0),(.int .i64 0),(.int .i64 0),(.int .i64 0),(.int .i64 0),(.int .i64 0),(.int .i64 0),(.int .i64 0),(.int .i64 0),(.int .i64 0),(.int .i64 0),(.int .i64 0),(.int .i64 0),(.int .i64 0),(.int .i64 0),(.int .i64 0),(.int .i64 0),(.int .i64 0),(.int .i64 0),(.int .i64 0),(.int .i64 0),(.int .i64 0),(.int .i64 0),(.int .i64 0),(.int .i64 0),(.int .i64 0),(.int .i64 0),(.int .i64 0),(.int .i64 0),(.int .i64 0),(.int .i64 0),(.int .i64 0)])]) (.seq (.seq (.ops [i 7 (.mov (k (.int .i64 0)))]) (.block 0 (.loop l27_1))) (.seq (.ops [i 13 (.mov (t 0)),i 14 (.mov (t 1)),i 15 (.idxAddrA 50 1 (t 5) (t 13)),s (.store 1 (t 15) (t 14))]) (.seq (.ops [i 16 (.loadN 50 (t 5)),s (.store 50 (t 4) (t 16))]) .ret)))))
def a27:AFunc:=⟨17,[(.cellN 50 4)],c27⟩
theorem n27:a27.ntmps=17:=id rfl
theorem r27:a27.results=[(.cellN 50 4)]:=rfl
theorem b27:a27.body=c27:=rfl
def l28_1:ACode:=(.seq (.seq (.ops [i 38 (.mov (t 12)),i 39 (.bin .geq (t 38) (k (.int .i64 0))),i 40 (.mov (t 39)),p 41 40 (.mov (t 12)),p 42 40 (.bin .mul (t 41) (k (.int .i64 1440))),p 43 40 (.fieldAddr 3 (t 11)),p 44 40 (.load1 (t 43)),p 45 40 (.bin .add (t 42) (t 44)),p 46 40 (.fieldAddr 5 (t 11)),p 47 40 (.load1 (t 46)),p 48 40 (.bin .sub (t 45) (t 47)),p 49 40 (.mov (t 9)),p 50 40 (.bin .gtr (t 48) (t 49)),i 51 (.pick (t 40) (t 50) (k (.bool false))),i 52 (.mov (t 51)),p 53 52 (.mov (t 3)),p 54 52 (.mov (t 12)),p 55 52 (.bin .mul (t 54) (k (.int .i64 1440))),p 56 52 (.fieldAddr 3 (t 11)),p 57 52 (.load1 (t 56)),p 58 52 (.bin .add (t 55) (t 57)),p 59 52 (.fieldAddr 5 (t 11)),p 60 52 (.load1 (t 59)),p 61 52 (.bin .sub (t 58) (t 60)),p 62 52 (.bin .sub (t 53) (t 61)),p 63 52 (.bin .leq (t 62) (k (.int .i64 86400))),i 64 (.pick (t 52) (t 63) (k (.bool false)))]) (.cond (t 64) .skip (.exit 2))) (.block 3 (.seq (.ops [i 66 (.loadN 8 (t 11)),i 67 (.mov (t 12)),i 68 (.call .any (.func 49) [(t 66),(t 67)]),i 65 (.mov (t 68)),i 69 (.extract 0 (t 65)),i 70 (.extract 1 (t 65)),i 13 (.alloc [(.int .i64 0),(.int .i64 0)]),s (.store 2 (t 13) (t 69)),i 14 (.mov (t 70))]) (.seq (.seq (.ops [i 71 (.mov (t 14)),i 72 (.mov (t 71)),p 73 72 (.fieldAddr 1 (t 13)),p 74 72 (.load1 (t 73)),p 75 72 (.mov (t 3)),p 76 72 (.bin .leq (t 74) (t 75)),i 77 (.pick (t 72) (t 76) (k (.bool false)))]) (.cond (t 77) (.seq (.drawn 0 [i 78 (.loadN 2 (t 4)),i 79 (.fieldAddr 2 (t 11)),i 80 (.load1 (t 79)),i 81 (.fieldAddr 1 (t 13)),i 82 (.load1 (t 81)),i 83 (.mov (t 3)),i 84 (.fieldAddr 0 (t 4)),i 85 (.load1 (t 84)),i 86 (.lenSlice (t 85)),i 88 (.loadN 2 (t 4)),i 89 (.mov (t 2)),i 87 (.call .mk (.func 23) [(t 78),(t 80),(t 82),(t 83),(t 86)]),i 90 (.call .pure (.func 37) [(t 88),(t 89)]),i 91 (.idxAddrS 1 (t 87) (t 90)),i 92 (.load1 (t 91)),i 15 (.mov (t 92))]) (.seq (.ops [i 93 (.mov (t 15)),i 94 (.bin .geq (t 93) (k (.int .i64 0)))]) (.cond (t 94) (.ops [i 95 (.fieldAddr 0 (t 13)),i 96 (.load1 (t 95)),i 97 (.fieldAddr 5 (t 11)),i 98 (.load1 (t 97)),i 99 (.bin .sub (t 96) (t 98)),i 9 (.mov (t 99))]) .skip))) .skip)) (.ops [i 100 (.mov (t 12)),i 101 (.bin .sub (t 100) (k (.int .i64 1))),i 12 (.mov (t 101))])))))
def l28_2:ACode:=(.seq (.seq (.ops [i 20 (.mov (t 10)),i 21 (.fieldAddr 1 (t 4)),i 22 (.load1 (t 21)),i 23 (.lenSlice (t 22)),i 24 (.bin .lss (t 20) (t 23))]) (.cond (t 24) .skip (.exit 0))) (.seq (.block 1 (.seq (.ops [i 27 (.fieldAddr 1 (t 4)),i 28 (.load1 (t 27)),i 29 (.mov (t 10)),i 30 (.idxAddrS 8 (t 28) (t 29)),i 31 (.loadN 8 (t 30)),i 11 (.alloc [(.int .i64 0),(.int .i64 0),(.int .i64 0),(.int .i64 0),(.int .i64 0),(.int .i64 0),(.int .i64 0),(.int .u8 0)]),s (.store 8 (t 11) (t 31))]) (.seq (.seq (.ops [i 32 (.fieldAddr 1 (t 11)),i 33 (.load1 (t 32)),i 34 (.mov (t 1)),i 35 (.bin .neq (t 33) (t 34))]) (.cond (t 35) (.exit 1) .skip)) (.seq (.ops [i 36 (.mov (t 3)),i 37 (.bin .quo (t 36) (k (.int .i64 1440))),i 12 (.mov (t 37))]) (.block 2 (.loop l28_1)))))) (.ops [i 25 (.mov (t 10)),i 26 (.bin .add (t 25) (k (.int .i64 1))),i 10 (.mov (t 26))])))
def c28:ACode:=(.seq (.ops [i 4 (.box (t 0)),i 8 (.mov (k (.int .i64 0)))]) (.seq (.seq (.ops [i 16 (.mov (t 1)),i 17 (.mov (t 2)),i 18 (.bin .eql (t 16) (t 17))]) (.cond (t 18) (.seq (.ops [i 19 (.mov (t 3)),i 8 (.mov (t 19))]) .ret) .skip)) (.seq (.ops [i 9 (.mov (k (.int .i64 (-1))))]) (.seq (.seq (.ops [i 10 (.mov (k (.int .i64 0)))]) (.block 0 (.loop l28_2))) (.seq (.ops [i 102 (.mov (t 9)),i 8 (.mov (t 102))]) .ret)))))
def a28:AFunc:=⟨103,[(.tmp 8)],c28⟩
theorem n28:a28.ntmps=103:=id rfl
theorem r28:a28.results=[(.tmp 8)]:=rfl
theorem b28:a28.body=c28:=rfl
def l29_1:ACode:=(.seq (.ops [i 9 (.bin .lss (t 8) (t 7))]) (.seq (.cond (t 9) .skip (.exit 0)) (.seq (.block 1 (.seq (.ops [i 10 (.mov (t 8)),i 5 (.mov (t 10))]) (.seq (.ops [i 11 (.mov (t 1)),i 12 (.mov (t 0)),i 13 (.mov (t 5)),i 14 (.idxAddrS 50 (t 12) (t 13)),i 15 (.loadN 50 (t 14)),i 16 (.call .any (t 11) [(t 15)])]) (.cond (t 16) (.seq (.ops [i 17 (.mov (t 5)),i 4 (.mov (t 17))]) .ret) .skip)))) (.ops [i 18 (.bin .add (t 8) (k (.int .i64 1))),i 8 (.mov (t 18))]))))
def c29:ACode:=(.seq (.ops [i 4 (.mov (k (.int .i64 0)))]) (.seq (.seq (.ops [i 6 (.mov (t 0)),i 7 (.lenSlice (t 6)),i 8 (.mov (k (.int .i64 0)))]) (.block 0 (.loop l29_1))) (.seq (.ops [i 4 (.mov (k (.int .i64 (-1))))]) .ret)))
def a29:AFunc:=⟨19,[(.tmp 4)],c29⟩
theorem n29:a29.ntmps=19:=id rfl
theorem r29:a29.results=[(.tmp 4)]:=rfl
theorem b29:a29.body=c29:=rfl
def c30:ACode:=(.seq (.ops [i 3 (.box (t 0)),i 4 (.mov (k (.bool false)))]) (.seq (.drawn 0 [i 5 (.load1 (t 1)),i 6 (.idxAddrA 50 1 (t 3) (t 5)),i 7 (.load1 (t 6)),i 8 (.load1 (t 2)),i 9 (.bin .eql (t 7) (t 8)),i 4 (.mov (t 9))]) .ret))
def a30:AFunc:=⟨10,[(.tmp 4)],c30⟩
theorem n30:a30.ntmps=10:=id rfl
theorem r30:a30.results=[(.tmp 4)]:=rfl
theorem b30:a30.body=c30:=rfl
def l31_1:ACode:=(.seq (.ops [i 33 (.bin .lss (t 32) (t 31))]) (.seq (.cond (t 33) .skip (.exit 2)) (.seq (.block 3 (.seq (.ops [i 34 (.idxAddrS 8 (t 30) (t 32)),i 35 (.loadN 8 (t 34)),i 13 (.alloc [(.int .i64 0),(.int .i64 0),(.int .i64 0),(.int .i64 0),(.int .i64 0),(.int .i64 0),(.int .i64 0),(.int .u8 0)]),s (.store 8 (t 13) (t 35))]) (.seq (.ops [i 36 (.mov (t 1)),i 37 (.fieldAddr 2 (t 13)),i 38 (.load1 (t 37)),i 39 (.lookup (.int .i64) (.int .i64 0) false (t 36) (t 38)),i 40 (.idxAddrA 50 1 (t 10) (t 39)),i 41 (.load1 (t 40)),i 14 (.mov (t 41))]) (.seq (.seq (.ops [i 42 (.mov (t 14)),i 43 (.bin .lss (t 42) (k (.int .i64 0)))]) (.cond (t 43) (.exit 3) .skip)) (.seq (.ops [i 45 (.loadN 8 (t 13)),i 46 (.mov (t 14)),i 47 (.call .any (.func 25) [(t 45),(t 46)]),i 44 (.mov (t 47)),i 48 (.extract 0 (t 44)),i 49 (.extract 1 (t 44)),i 15 (.alloc [(.int .i64 0),(.int .i64 0)]),s (.store 2 (t 15) (t 48)),i 16 (.mov (t 49))]) (.seq (.ops [i 50 (.mov (t 16))]) (.cond (t 50) (.drawn 0 [i 51 (.mov (t 1)),i 52 (.fieldAddr 1 (t 13)),i 53 (.load1 (t 52)),i 54 (.lookup (.int .i64) (.int .i64 0) false (t 51) (t 53)),i 55 (.mov (t 1)),i 56 (.fieldAddr 1 (t 13)),i 57 (.load1 (t 56)),i 58 (.lookup (.int .i64) (.int .i64 0) false (t 55) (t 57)),i 59 (.idxAddrA 50 1 (t 11) (t 58)),i 60 (.load1 (t 59)),i 61 (.fieldAddr 0 (t 15)),i 62 (.load1 (t 61)),i 63 (.fieldAddr 5 (t 13)),i 64 (.load1 (t 63)),i 65 (.bin .sub (t 62) (t 64)),i 66 (.minmax true [(t 60),(t 65)]),i 67 (.idxAddrA 50 1 (t 11) (t 54)),s (.store 1 (t 67) (t 66))]) .skip))))))) (.ops [i 68 (.bin .add (t 32) (k (.int .i64 1))),i 32 (.mov (t 68))]))))
def l31_2:ACode:=(.seq (.ops [i 21 (.bin .lss (t 20) (t 19))]) (.seq (.cond (t 21) .skip (.exit 0)) (.seq (.block 1 (.seq (.drawn 2 [i 22 (.mov (t 9)),i 23 (.mov (t 9)),i 24 (.lenSlice (t 23)),i 25 (.bin .sub (t 24) (k (.int .i64 1))),i 26 (.idxAddrS 50 (t 22) (t 25)),⟨(some 27),none,(.loadN 50 (t 26)),none,[0,1]⟩,⟨(some 28),none,(.call .pure (.func 27) [(k (.int .i64 0)),(k (.int .i64 (-1)))]),none,[0,1]⟩,⟨(some 10),none,(.alloc [(.int .i64 0),(.int .i64 0),(.int .i64 0),(.int .i64 0),(.int .i64 0),(.int .i64 0),(.int .i64 0),(.int .i64 0),(.int .i64 0),(.int .i64 0),(.int .i64 0),(.int .i64 0),(.int .i64 0),(.int .i64 0),(.int .i64 0),(.int .i64 0),(.int .i64 0),(.int .i64 0),(.int .i64 0),(.int .i64 0),(.int .i64 0),(.int .i64 0),(.int .i64 0),(.int .i64 0),(.int .i64 0),(.int .i64 0),(.int .i64 0),(.int .i64 0),(.int .i64 0),(.int .i64 0),(.int .i64 0),(.int .i64 0),(.int .i64 0),(.int .i64 0),(.int .i64 0),(.int .i64 0),(.int .i64 0),(.int .i64 0),(.int .i64 0),(.int .i64 0),(.int .i64 0),(.int .i64 0),(.int .i64 0),(.int .i64 0),(.int .i64 0),(.int .i64 0),(.int .i64 0),(.int .i64 0),(.int .i64 0),(.int .i64 0)]),(some 0),[]⟩,⟨(some 11),none,(.alloc [(.int .i64 0),(.int .i64 0),(.int .i64 0),(.int .i64 0),(.int .i64 0),(.int .i64 0),(.int .i64 0),(.int .i64 0),(.int .i64 0),(.int .i64 0),(.int .i64 0),(.int .i64 0),(.int .i64 0),(.int .i64 0),(.int .i64 0),(.int .i64 0),(.int .i64 0),(.int .i64 0),(.int .i64 0),(.int .i64 0),(.int .i64 0),(.int .i64 0),(.int .i64 0),(.int .i64 0),(.int .i64 0),(.int .i64 0),(.int .i64 0),(.int .i64 0),(.int .i64 0),(.int .i64 0),(.int .i64 0),(.int .i64 0),(.int .i64 0),(.int .i64 0),(.int .i64 0),(.int .i64 0),(.int .i64 0),(.int .i64 0),(.int .i64 0),(.int .i64 0),(.int .i64 0),(.int .i64 0),(.int .i64 0),(.int .i64 0),(.int .i64 0),(.int .i64 0),(.int .i64 0),(.int .i64 0),(.int .i64 0),(.int .i64 0)]),(some 1),[]⟩,s (.store 50 (t 10) (t 27)),s (.store 50 (t 11) (t 28))]) (.seq (.seq (.ops [i 29 (.fieldAddr 1 (t 4)),i 30 (.load1 (t 29)),i 31 (.lenSlice (t 30)),i 32 (.mov (k (.int .i64 0)))]) (.block 2 (.loop l31_1))) (.ops [i 69 (.mov (t 9)),i 70 (.loadN 50 (t 11)),i 71 (.buildSlice 1 [(.int .i64 0),(.int .i64 0),(.int .i64 0),(.int .i64 0),(.int .i64 0),(.int .i64 0),(.int .i64 0),(.int .i64 0),(.int .i64 0),(.int .i64 0),(.int .i64 0),(.int .i64 0),(.int .i64 0),(.int .i64 0),(.int .i64 0),(.int .i64 0),(.int .i64 0),(.int .i64 0),(.int .i64 0),(.int .i64 0),(.int .i64 0),(.int .i64 0),(.int .i64 0),(.int .i64 0),(.int .i64 0),(.int .i64 0),(.int .i64 0),(.int .i64 0),(.int .i64 0),(.int .i64 0),(.int .i64 0),(.int .i64 0),(.int .i64 0),(.int .i64 0),(.int .i64 0),(.int .i64 0),(.int .i64 0),(.int .i64 0),(.int .i64 0),(.int .i64 0),(.int .i64 0),(.int .i64 0),(.int .i64 0),(.int .i64 0),(.int .i64 0),(.int .i64 0),(.int .i64 0),(.int .i64 0),(.int .i64 0),(.int .i64 0)] [(0,(50,(t 70)))]),i 72 (.append 50 400 false (t 69) (t 71)),i 9 (.mov (t 72))])))) (.ops [i 73 (.bin .add (t 20) (k (.int .i64 1))),i 20 (.mov (t 73))]))))
def c31:ACode:=(.seq (.ops [i 4 (.box (t 0)),i 6 (.box (t 2)),i 8 (.mov (k (.slice none 0 0)))]) (.seq (.ops [i 17 (.loadN 50 (t 6)),i 18 (.buildSlice 1 [(.int .i64 0),(.int .i64 0),(.int .i64 0),(.int .i64 0),(.int .i64 0),(.int .i64 0),(.int .i64 0),(.int .i64 0),(.int .i64 0),(.int .i64 0),(.int .i64 0),(.int .i64 0),(.int .i64 0),(.int .i64 0),(.int .i64 0),(.int .i64 0),(.int .i64 0),(.int .i64 0),(.int .i64 0),(.int .i64 0),(.int .i64 0),(.int .i64 0),(.int .i64 0),(.int .i64 0),(.int .i64 0),(.int .i64 0),(.int .i64 0),(.int .i64 0),(.int .i64 0),(.int .i64 0),(.int .i64 0),(.int .i64 0),(.int .i64 0),(.int .i64 0),(.int .i64 0),(.int .i64 0),(.int .i64 0),(.int .i64 0),(.int .i64 0),(.int .i64 0),(.int .i64 0),(.int .i64 0),(.int .i64 0),(.int .i64 0),(.int .i64 0),(.int .i64 0),(.int .i64 0),(.int .i64 0),(.int .i64 0),(.int .i64 0)] [(0,(50,(t 17)))]),i 9 (.mov (t 18))]) (.seq (.seq (.ops [i 19 (.mov (t 3)),i 20 (.mov (k (.int .i64 0)))]) (.block 0 (.loop l31_2))) (.seq (.ops [i 74 (.mov (t 9)),i 8 (.mov (t 74))]) .ret))))
def a31:AFunc:=⟨75,[(.tmp 8)],c31⟩
theorem n31:a31.ntmps=75:=id rfl
theorem r31:a31.results=[(.tmp 8)]:=rfl
theorem b31:a31.body=c31:=rfl
def c32:ACode:=(.seq (.ops [i 4 (.mov (k (.slice none 0 0)))]) (.seq (.ops [i 6 (.mov (t 0)),i 7 (.call .any (.func 50) [(t 6)]),i 5 (.mov (t 7))]) (.seq (.ops [i 8 (.mov (t 5)),i 9 (.mov (t 1)),i 10 (.call .any (.func 51) [(t 8),(t 9)])]) (.seq (.ops [i 11 (.mov (t 5)),i 4 (.mov (t 11))]) .ret))))
def a32:AFunc:=⟨12,[(.tmp 4)],c32⟩
theorem n32:a32.ntmps=12:=id rfl
theorem r32:a32.results=[(.tmp 4)]:=rfl
theorem b32:a32.body=c32:=rfl
def c33:ACode:=(.seq (.ops [i 1 (.box (t 0)),i 2 (.mov (k .nilFunc))]) (.seq (.ops [i 3 (.makeFunc 52 [] [(t 1)]),i 2 (.mov (t 3))]) .ret))
def a33:AFunc:=⟨4,[(.tmp 2)],c33⟩
theorem n33:a33.ntmps=4:=id rfl
theorem r33:a33.results=[(.tmp 2)]:=rfl
theorem b33:a33.body=c33:=rfl
def c34:ACode:=(.seq (.ops [i 2 (.box (t 0)),i 3 (.box (t 1)),i 4 (.mov (k (.int .i64 0)))]) (.seq (.ops [i 5 (.fieldAddr 0 (t 2)),i 6 (.load1 (t 5)),i 7 (.fieldAddr 0 (t 3)),i 8 (.load1 (t 7)),i 9 (.call .any (.func 35) [(t 6),(t 8)]),i 4 (.mov (t 9))]) .ret))
def a34:AFunc:=⟨10,[(.tmp 4)],c34⟩
theorem n34:a34.ntmps=10:=id rfl
theorem r34:a34.results=[(.tmp 4)]:=rfl
theorem b34:a34.body=c34:=rfl
def c35:ACode:=(.seq (.ops [i 4 (.mov (k (.int .i64 0)))]) (.seq (.ops [i 7 (.mov (t 0)),i 8 (.call .any (.func 53) [(t 7)]),i 5 (.mov (t 8))]) (.seq (.ops [i 9 (.mov (t 1)),i 10 (.call .any (.func 53) [(t 9)]),i 6 (.mov (t 10))]) (.seq (.seq (.ops [i 11 (.mov (t 5))]) (.cond (t 11) (.seq (.seq (.ops [i 12 (.mov (t 6))]) (.cond (t 12) (.seq (.ops [i 4 (.mov (k (.int .i64 0)))]) .ret) .skip)) (.seq (.ops [i 4 (.mov (k (.int .i64 (-1))))]) .ret)) .skip)) (.seq (.seq (.ops [i 13 (.mov (t 6))]) (.cond (t 13) (.seq (.ops [i 4 (.mov (k (.int .i64 1)))]) .ret) .skip)) (.seq (.seq (.ops [i 14 (.mov (t 0)),i 15 (.mov (t 1)),i 16 (.bin .lss (t 14) (t 15))]) (.cond (t 16) (.seq (.ops [i 4 (.mov (k (.int .i64 (-1))))]) .ret) .skip)) (.seq (.seq (.ops [i 17 (.mov (t 0)),i 18 (.mov (t 1)),i 19 (.bin .gtr (t 17) (t 18))]) (.cond (t 19) (.seq (.ops [i 4 (.mov (k (.int .i64 1)))]) .ret) .skip)) (.seq (.ops [i 4 (.mov (k (.int .i64 0)))]) .ret))))))))
def a35:AFunc:=⟨20,[(.tmp 4)],c35⟩
theorem n35:a35.ntmps=20:=id rfl
theorem r35:a35.results=[(.tmp 4)]:=rfl
theorem b35:a35.body=c35:=rfl
def ga36_1:ACode:=(.ops [i 7 (.alloc [(.int .i64 0),(.int .i64 0)]),s (.store 2 (t 7) (t 26))])
def gb36_1:ACode:=(.block 1 (.seq (.ops [i 27 (.fieldAddr 0 (t 7)),i 28 (.load1 (t 27)),i 29 (.fieldAddr 5 (t 2)),i 30 (.load1 (t 29)),i 31 (.bin .sub (t 28) (t 30)),i 32 (.load1 (t 3)),i 33 (.bin .geq (t 31) (t 32))]) (.cond (t 33) (.seq (.ops [i 34 (.loadN 2 (t 7)),s (.store 2 (t 4) (t 34)),s (.store 1 (t 5) (k (.bool true)))]) .retR) .skip)))
def c36:ACode:=(.seq (.seq (.ops [i 2 (.box (t 0)),i 3 (.box (t 1)),i 4 (.alloc [(.int .i64 0),(.int .i64 0)]),i 5 (.alloc [(.bool false)])]) (.seq (.seq (.ops [i 8 (.loadN 8 (t 2)),i 9 (.call .any (.func 47) [(t 8)]),i 10 (.un .not (t 9)),i 11 (.mov (t 10)),q 12 11 (.load1 (t 3)),q 13 11 (.bin .gtr (t 12) (k (.int .i64 1051898399))),i 14 (.pick (t 11) (k (.bool true)) (t 13))]) (.cond (t 14) (.seq (.ops [i 15 (.build [(.int .i64 0),(.int .i64 0)] []),s (.store 2 (t 4) (t 15)),s (.store 1 (t 5) (k (.bool false)))]) .retM) .skip)) (.seq (.ops [i 16 (.load1 (t 3)),i 17 (.minmax true [(t 16),(k (.int .i64 0))]),s (.store 1 (t 3) (t 17))]) (.seq (.ops [i 18 (.load1 (t 3)),i 19 (.fieldAddr 5 (t 2)),i 20 (.load1 (t 19)),i 21 (.bin .add (t 18) (t 20)),i 22 (.bin .quo (t 21) (k (.int .i64 1440))),i 6 (.mov (t 22))]) (.seq (.seq (.ops [i 23 (.loadN 8 (t 2)),i 24 (.mov (t 6)),i 25 (.call .any (.func 48) [(t 23),(t 24),(k (.int .i64 1))])]) (.block 0 (.rangeF (t 25) [26] ga36_1 gb36_1))) (.seq (.ops [i 35 (.build [(.int .i64 0),(.int .i64 0)] []),s (.store 2 (t 4) (t 35)),s (.store 1 (t 5) (k (.bool false)))]) .retM)))))) .retM)
def a36:AFunc:=⟨36,[(.cellN 2 4),(.cell1 5)],c36⟩
theorem n36:a36.ntmps=36:=id rfl
theorem r36:a36.results=[(.cellN 2 4),(.cell1 5)]:=rfl
theorem b36:a36.body=c36:=rfl
def l37_1:ACode:=(.seq (.seq (.ops [i 6 (.mov (t 5)),i 7 (.fieldAddr 0 (t 2)),i 8 (.load1 (t 7)),i 9 (.lenSlice (t 8)),i 10 (.bin .lss (t 6) (t 9))]) (.cond (t 10) .skip (.exit 0))) (.seq (.block 1 (.seq (.ops [i 13 (.fieldAddr 0 (t 2)),i 14 (.load1 (t 13)),i 15 (.mov (t 5)),i 16 (.idxAddrS 1 (t 14) (t 15)),i 17 (.load1 (t 16)),i 18 (.mov (t 1)),i 19 (.bin .eql (t 17) (t 18))]) (.cond (t 19) (.seq (.ops [i 20 (.mov (t 5)),i 4 (.mov (t 20))]) .ret) .skip))) (.ops [i 11 (.mov (t 5)),i 12 (.bin .add (t 11) (k (.int .i64 1))),i 5 (.mov (t 12))])))
def c37:ACode:=(.seq (.ops [i 2 (.box (t 0)),i 4 (.mov (k (.int .i64 0)))]) (.seq (.seq (.ops [i 5 (.mov (k (.int .i64 0)))]) (.block 0 (.loop l37_1))) (.seq (.ops [i 4 (.mov (k (.int .i64 (-1))))]) .ret)))
def a37:AFunc:=⟨21,[(.tmp 4)],c37⟩
theorem n37:a37.ntmps=21:=id rfl
theorem r37:a37.results=[(.tmp 4)]:=rfl
theorem b37:a37.body=c37:=rfl
def l38_1:ACode:=(.seq (.seq (.ops [i 13 (.mov (t 7)),i 14 (.mov (t 6)),i 15 (.bin .add (t 14) (k (.int .i64 30))),i 16 (.bin .lss (t 13) (t 15))]) (.cond (t 16) .skip (.exit 0))) (.seq (.block 1 (.seq (.ops [i 20 (.loadN 8 (t 2)),i 21 (.mov (t 7)),i 22 (.call .any (.func 49) [(t 20),(t 21)]),i 19 (.mov (t 22)),i 23 (.extract 0 (t 19)),i 24 (.extract 1 (t 19)),i 8 (.alloc [(.int .i64 0),(.int .i64 0)]),s (.store 2 (t 8) (t 23)),i 9 (.mov (t 24))]) (.seq (.ops [i 25 (.mov (t 9)),i 26 (.mov (t 25)),p 27 26 (.mov (t 1)),p 28 26 (.bin .lss (t 27) (k (.int .i64 0))),p 29 26 (.mov (t 28)),q 30 29 (.fieldAddr 0 (t 8)),q 31 29 (.load1 (t 30)),q 32 29 (.fieldAddr 5 (t 2)),q 33 29 (.load1 (t 32)),q 34 29 (.bin .sub (t 31) (t 33)),q 35 29 (.mov (t 1)),q 36 29 (.bin .geq (t 34) (t 35)),p 37 26 (.pick (t 29) (k (.bool true)) (t 36)),i 38 (.pick (t 26) (t 37) (k (.bool false)))]) (.cond (t 38) (.seq (.ops [i 39 (.loadN 2 (t 8)),s (.store 2 (t 4) (t 39)),i 5 (.mov (k (.bool true)))]) .ret) .skip)))) (.ops [i 17 (.mov (t 7)),i 18 (.bin .add (t 17) (k (.int .i64 1))),i 7 (.mov (t 18))])))
def c38:ACode:=(.seq (.ops [i 2 (.box (t 0)),i 4 (.alloc [(.int .i64 0),(.int .i64 0)]),i 5 (.mov (k (.bool false)))]) (.seq (.ops [i 10 (.mov (t 1)),i 11 (.call .any (.func 54) [(t 10)]),i 6 (.mov (t 11))]) (.seq (.seq (.ops [i 12 (.mov (t 6)),i 7 (.mov (t 12))]) (.block 0 (.loop l38_1))) (.seq (.ops [i 40 (.build [(.int .i64 0),(.int .i64 0)] []),s (.store 2 (t 4) (t 40)),i 5 (.mov (k (.bool false)))]) .ret))))
def a38:AFunc:=⟨41,[(.cellN 2 4),(.tmp 5)],c38⟩
theorem n38:a38.ntmps=41:=id rfl
theorem r38:a38.results=[(.cellN 2 4),(.tmp 5)]:=rfl
theorem b38:a38.body=c38:=rfl
def l39_1:ACode:=(.seq (.seq (.ops [i 7 (.mov (t 6)),i 8 (.fieldAddr 1 (t 2)),i 9 (.load1 (t 8)),i 10 (.lenSlice (t 9)),i 11 (.bin .lss (t 7) (t 10))]) (.cond (t 11) .skip (.exit 0))) (.seq (.block 1 (.seq (.ops [i 14 (.fieldAddr 1 (t 2)),i 15 (.load1 (t 14)),i 16 (.mov (t 6)),i 17 (.idxAddrS 8 (t 15) (t 16)),i 18 (.fieldAddr 0 (t 17)),i 19 (.load1 (t 18)),i 20 (.mov (t 1)),i 21 (.bin .eql (t 19) (t 20))]) (.cond (t 21) (.seq (.ops [i 22 (.fieldAddr 1 (t 2)),i 23 (.load1 (t 22)),i 24 (.mov (t 6)),i 25 (.idxAddrS 8 (t 23) (t 24)),i 26 (.loadN 8 (t 25)),s (.store 8 (t 4) (t 26)),i 5 (.mov (k (.bool true)))]) .ret) .skip))) (.ops [i 12 (.mov (t 6)),i 13 (.bin .add (t 12) (k (.int .i64 1))),i 6 (.mov (t 13))])))
def c39:ACode:=(.seq (.ops [i 2 (.box (t 0)),i 4 (.alloc [(.int .i64 0),(.int .i64 0),(.int .i64 0),(.int .i64 0),(.int .i64 0),(.int .i64 0),(.int .i64 0),(.int .u8 0)]),i 5 (.mov (k (.bool false)))]) (.seq (.seq (.ops [i 6 (.mov (k (.int .i64 0)))]) (.block 0 (.loop l39_1))) (.seq (.ops [i 27 (.build [(.int .i64 0),(.int .i64 0),(.int .i64 0),(.int .i64 0),(.int .i64 0),(.int .i64 0),(.int .i64 0),(.int .u8 0)] []),s (.store 8 (t 4) (t 27)),i 5 (.mov (k (.bool false)))]) .ret)))
def a39:AFunc:=⟨28,[(.cellN 8 4),(.tmp 5)],c39⟩
theorem n39:a39.ntmps=28:=id rfl
theorem r39:a39.results=[(.cellN 8 4),(.tmp 5)]:=rfl
theorem b39:a39.body=c39:=rfl
def l40_1:ACode:=(.seq (.ops [i 52 (.bin .lss (t 51) (t 50))]) (.seq (.cond (t 52) .skip (.exit 2)) (.seq (.block 3 (.seq (.ops [i 53 (.idxAddrS 8 (t 49) (t 51)),i 54 (.loadN 8 (t 53)),i 8 (.alloc [(.int .i64 0),(.int .i64 0),(.int .i64 0),(.int .i64 0),(.int .i64 0),(.int .i64 0),(.int .i64 0),(.int .u8 0)]),s (.store 8 (t 8) (t 54))]) (.seq (.seq (.ops [i 55 (.loadN 8 (t 8)),i 56 (.call .any (.func 47) [(t 55)]),i 57 (.un .not (t 56)),i 58 (.mov (t 57)),q 59 58 (.mov (t 6)),q 60 58 (.fieldAddr 0 (t 8)),q 61 58 (.load1 (t 60)),q 62 58 (.lookup (.int .i64) (.bool false) false (t 59) (t 61)),i 63 (.pick (t 58) (k (.bool true)) (t 62)),i 64 (.mov (t 63)),q 65 64 (.mov (t 3)),q 66 64 (.fieldAddr 1 (t 8)),q 67 64 (.load1 (t 66)),q 68 64 (.lookup (.int .i64) (.bool false) false (t 65) (t 67)),q 69 64 (.un .not (t 68)),i 70 (.pick (t 64) (k (.bool true)) (t 69)),i 71 (.mov (t 70)),q 72 71 (.mov (t 3)),q 73 71 (.fieldAddr 2 (t 8)),q 74 71 (.load1 (t 73)),q 75 71 (.lookup (.int .i64) (.bool false) false (t 72) (t 74)),q 76 71 (.un .not (t 75)),i 77 (.pick (t 71) (k (.bool true)) (t 76))]) (.cond (t 77) (.seq (.ops [i 2 (.mov (k (.int .i64 321)))]) .ret) .skip)) (.ops [i 78 (.mov (t 6)),i 79 (.fieldAddr 0 (t 8)),i 80 (.load1 (t 79)),s (.mapUpdate (.int .i64) (t 78) (t 80) (k (.bool true)))])))) (.ops [i 81 (.bin .add (t 51) (k (.int .i64 1))),i 51 (.mov (t 81))]))))
def l40_2:ACode:=(.seq (.ops [i 27 (.bin .lss (t 26) (t 25))]) (.seq (.cond (t 27) .skip (.exit 0)) (.seq (.block 1 (.seq (.ops [i 28 (.idxAddrS 1 (t 24) (t 26)),i 29 (.load1 (t 28)),i 5 (.mov (t 29))]) (.seq (.seq (.ops [i 30 (.mov (t 5)),i 31 (.bin .lss (t 30) (k (.int .i64 1))),i 32 (.mov (t 31)),q 33 32 (.mov (t 5)),q 34 32 (.bin .gtr (t 33) (k (.int .i64 999999))),i 35 (.pick (t 32) (k (.bool true)) (t 34)),i 36 (.mov (t 35)),q 37 36 (.mov (t 3)),q 38 36 (.mov (t 5)),q 39 36 (.lookup (.int .i64) (.bool false) false (t 37) (t 38)),i 40 (.pick (t 36) (k (.bool true)) (t 39))]) (.cond (t 40) (.seq (.ops [i 2 (.mov (k (.int .i64 320)))]) .ret) .skip)) (.ops [i 41 (.mov (t 3)),i 42 (.mov (t 5)),s (.mapUpdate (.int .i64) (t 41) (t 42) (k (.bool true)))])))) (.ops [i 43 (.bin .add (t 26) (k (.int .i64 1))),i 26 (.mov (t 43))]))))
def c40:ACode:=(.seq (.ops [i 1 (.box (t 0)),i 2 (.mov (k (.int .i64 0)))]) (.seq (.seq (.ops [i 9 (.fieldAddr 0 (t 1)),i 10 (.load1 (t 9)),i 11 (.lenSlice (t 10)),i 12 (.bin .gtr (t 11) (k (.int .i64 50))),i 13 (.mov (t 12)),q 14 13 (.fieldAddr 1 (t 1)),q 15 13 (.load1 (t 14)),q 16 13 (.lenSlice (t 15)),q 17 13 (.bin .gtr (t 16) (k (.int .i64 200))),i 18 (.pick (t 13) (k (.bool true)) (t 17))]) (.cond (t 18) (.seq (.ops [i 2 (.mov (k (.int .i64 5)))]) .ret) .skip)) (.seq (.ops [i 19 (.fieldAddr 0 (t 1)),i 20 (.load1 (t 19)),i 21 (.lenSlice (t 20)),i 22 (.makeMap (some (t 21))),i 3 (.mov (t 22))]) (.seq (.seq (.ops [i 23 (.fieldAddr 0 (t 1)),i 24 (.load1 (t 23)),i 25 (.lenSlice (t 24)),i 26 (.mov (k (.int .i64 0)))]) (.block 0 (.loop l40_2))) (.seq (.ops [i 44 (.fieldAddr 1 (t 1)),i 45 (.load1 (t 44)),i 46 (.lenSlice (t 45)),i 47 (.makeMap (some (t 46))),i 6 (.mov (t 47))]) (.seq (.seq (.ops [i 48 (.fieldAddr 1 (t 1)),i 49 (.load1 (t 48)),i 50 (.lenSlice (t 49)),i 51 (.mov (k (.int .i64 0)))]) (.block 2 (.loop l40_1))) (.seq (.ops [i 2 (.mov (k (.int .i64 0)))]) .ret)))))))
def a40:AFunc:=⟨82,[(.tmp 2)],c40⟩
theorem n40:a40.ntmps=82:=id rfl
theorem r40:a40.results=[(.tmp 2)]:=rfl
theorem b40:a40.body=c40:=rfl
def l41_1:ACode:=(.seq (.ops [i 9 (.bin .lss (t 8) (t 7))]) (.seq (.cond (t 9) .skip (.exit 0)) (.seq (.block 1 (.seq (.ops [i 10 (.mov (t 8)),i 5 (.mov (t 10))]) (.seq (.ops [i 11 (.mov (t 1)),i 12 (.mov (t 0)),i 13 (.mov (t 5)),i 14 (.idxAddrS 8 (t 12) (t 13)),i 15 (.loadN 8 (t 14)),i 16 (.call .any (t 11) [(t 15)])]) (.cond (t 16) (.seq (.ops [i 17 (.mov (t 5)),i 4 (.mov (t 17))]) .ret) .skip)))) (.ops [i 18 (.bin .add (t 8) (k (.int .i64 1))),i 8 (.mov (t 18))]))))
def c41:ACode:=(.seq (.ops [i 4 (.mov (k (.int .i64 0)))]) (.seq (.seq (.ops [i 6 (.mov (t 0)),i 7 (.lenSlice (t 6)),i 8 (.mov (k (.int .i64 0)))]) (.block 0 (.loop l41_1))) (.seq (.ops [i 4 (.mov (k (.int .i64 (-1))))]) .ret)))
def a41:AFunc:=⟨19,[(.tmp 4)],c41⟩
theorem n41:a41.ntmps=19:=id rfl
theorem r41:a41.results=[(.tmp 4)]:=rfl
theorem b41:a41.body=c41:=rfl
def c42:ACode:=(.seq (.ops [i 2 (.box (t 0)),i 3 (.mov (k (.bool false)))]) (.seq (.ops [i 4 (.fieldAddr 0 (t 2)),i 5 (.load1 (t 4)),i 6 (.load1 (t 1)),i 7 (.bin .eql (t 5) (t 6)),i 3 (.mov (t 7))]) .ret))
def a42:AFunc:=⟨8,[(.tmp 3)],c42⟩
theorem n42:a42.ntmps=8:=id rfl
theorem r42:a42.results=[(.tmp 3)]:=rfl
theorem b42:a42.body=c42:=rfl
def l43_1:ACode:=(.seq (.ops [i 28 (.bin .lss (t 27) (t 26))]) (.seq (.cond (t 28) .skip (.exit 2)) (.seq (.block 3 (.seq (.ops [i 29 (.idxAddrS 1 (t 25) (t 27)),i 30 (.load1 (t 29)),i 8 (.mov (t 30))]) (.ops [i 31 (.mov (t 6)),i 32 (.mov (t 8)),i 33 (.append 8 64 false (t 31) (t 32)),i 6 (.mov (t 33))]))) (.ops [i 34 (.bin .add (t 27) (k (.int .i64 1))),i 27 (.mov (t 34))]))))
def l43_2:ACode:=(.seq (.ops [i 12 (.bin .lss (t 11) (t 10))]) (.seq (.cond (t 12) .skip (.exit 0)) (.seq (.block 1 (.seq (.ops [i 13 (.idxAddrS 1 (t 9) (t 11)),i 14 (.load1 (t 13)),i 5 (.mov (t 14))]) (.seq (.ops [i 15 (.mov (t 3)),i 16 (.mov (t 5)),i 17 (.lenSlice (t 16)),i 18 (.bin .add (t 15) (t 17)),i 3 (.mov (t 18))]) (.seq (.ops [i 19 (.mov (t 3)),i 20 (.bin .lss (t 19) (k (.int .i64 0)))]) (.cond (t 20) (.ops [i 21 (.die (k (.string ⟨#[108,101,110,32,111,117,116,32,111,102,32,114,97,110,103,101]⟩))),s (.die (t 21))]) .skip))))) (.ops [i 22 (.bin .add (t 11) (k (.int .i64 1))),i 11 (.mov (t 22))]))))
def c43:ACode:=(.seq (.ops [i 2 (.mov (k (.slice none 0 0)))]) (.seq (.ops [i 3 (.mov (k (.int .i64 0)))]) (.seq (.seq (.ops [i 9 (.mov (t 0)),i 10 (.lenSlice (t 9)),i 11 (.mov (k (.int .i64 0)))]) (.block 0 (.loop l43_2))) (.seq (.ops [i 23 (.mov (t 3)),i 24 (.call .any (.func 55) [(k (.slice none 0 0)),(t 23)]),i 6 (.mov (t 24))]) (.seq (.seq (.ops [i 25 (.mov (t 0)),i 26 (.lenSlice (t 25)),i 27 (.mov (k (.int .i64 0)))]) (.block 2 (.loop l43_1))) (.seq (.ops [i 35 (.mov (t 6)),i 2 (.mov (t 35))]) .ret))))))
def a43:AFunc:=⟨36,[(.tmp 2)],c43⟩
theorem n43:a43.ntmps=36:=id rfl
theorem r43:a43.results=[(.tmp 2)]:=rfl
theorem b43:a43.body=c43:=rfl
def l44_1:ACode:=(.seq (.ops [i 14 (.bin .lss (t 13) (t 12))]) (.seq (.cond (t 14) .skip (.exit 0)) (.seq (.block 1 (.seq (.ops [i 15 (.mov (t 13)),i 16 (.idxAddrS 1 (t 11) (t 13)),i 17 (.load1 (t 16)),i 4 (.mov (t 15)),i 5 (.mov (t 17))]) (.ops [i 18 (.mov (t 3)),i 19 (.mov (t 5)),i 20 (.mov (t 4)),s (.mapUpdate (.int .i64) (t 18) (t 19) (t 20))]))) (.ops [i 21 (.bin .add (t 13) (k (.int .i64 1))),i 13 (.mov (t 21))]))))
def c44:ACode:=(.seq (.ops [i 1 (.box (t 0)),i 2 (.mov (k (.map none)))]) (.seq (.ops [i 6 (.fieldAddr 0 (t 1)),i 7 (.load1 (t 6)),i 8 (.lenSlice (t 7)),i 9 (.makeMap (some (t 8))),i 3 (.mov (t 9))]) (.seq (.seq (.ops [i 10 (.fieldAddr 0 (t 1)),i 11 (.load1 (t 10)),i 12 (.lenSlice (t 11)),i 13 (.mov (k (.int .i64 0)))]) (.block 0 (.loop l44_1))) (.seq (.ops [i 22 (.mov (t 3)),i 2 (.mov (t 22))]) .ret))))
def a44:AFunc:=⟨23,[(.tmp 2)],c44⟩
theorem n44:a44.ntmps=23:=id rfl
theorem r44:a44.results=[(.tmp 2)]:=rfl
theorem b44:a44.body=c44:=rfl
def c45:ACode:=(.seq (.ops [i 5 (.box (t 0)),i 6 (.box (t 1))]) (.seq (.drawn 0 [i 12 (.load1 (t 3)),i 13 (.fieldAddr 1 (t 5)),i 14 (.load1 (t 13)),i 15 (.lookup (.int .i64) (.int .i64 0) false (t 12) (t 14)),i 16 (.idxAddrA 50 1 (t 6) (t 15)),i 17 (.load1 (t 16)),i 18 (.load1 (t 3)),i 19 (.fieldAddr 2 (t 5)),i 20 (.load1 (t 19)),i 21 (.lookup (.int .i64) (.int .i64 0) false (t 18) (t 20)),i 8 (.mov (t 17)),i 9 (.mov (t 21))]) (.seq (.seq (.ops [i 22 (.mov (t 8)),i 23 (.bin .lss (t 22) (k (.int .i64 0)))]) (.cond (t 23) .ret .skip)) (.seq (.ops [i 25 (.loadN 8 (t 5)),i 26 (.mov (t 8)),i 27 (.call .any (.func 36) [(t 25),(t 26)]),i 24 (.mov (t 27)),i 28 (.extract 0 (t 24)),i 29 (.extract 1 (t 24)),i 10 (.alloc [(.int .i64 0),(.int .i64 0)]),s (.store 2 (t 10) (t 28)),i 11 (.mov (t 29))]) (.seq (.drawn 0 [i 30 (.mov (t 11)),i 31 (.mov (t 30)),p 32 31 (.fieldAddr 1 (t 10)),p 33 31 (.load1 (t 32)),p 34 31 (.load1 (t 4)),p 35 31 (.bin .add (t 34) (k (.int .i64 86400))),p 36 31 (.bin .leq (t 33) (t 35)),i 37 (.pick (t 31) (t 36) (k (.bool false))),i 38 (.mov (t 37)),p 39 38 (.mov (t 2)),p 40 38 (.mov (t 9)),p 41 38 (.nilCheck (t 39)),p 42 38 (.idxAddrA 50 1 (t 41) (t 40)),p 43 38 (.load1 (t 42)),p 44 38 (.bin .lss (t 43) (k (.int .i64 0))),p 45 38 (.mov (t 44)),q 46 45 (.fieldAddr 1 (t 10)),q 47 45 (.load1 (t 46)),q 48 45 (.mov (t 2)),q 49 45 (.mov (t 9)),q 50 45 (.nilCheck (t 48)),q 51 45 (.idxAddrA 50 1 (t 50) (t 49)),q 52 45 (.load1 (t 51)),q 53 45 (.bin .lss (t 47) (t 52)),p 54 38 (.pick (t 45) (k (.bool true)) (t 53)),i 55 (.pick (t 38) (t 54) (k (.bool false)))]) (.cond (t 55) (.drawn 0 [i 56 (.mov (t 2)),i 57 (.mov (t 9)),i 58 (.fieldAddr 1 (t 10)),i 59 (.load1 (t 58)),i 60 (.nilCheck (t 56)),i 61 (.idxAddrA 50 1 (t 60) (t 57)),s (.store 1 (t 61) (t 59))]) .skip))))))
def a45:AFunc:=⟨62,[],c45⟩
theorem n45:a45.ntmps=62:=id rfl
theorem r45:a45.results=[]:=rfl
theorem b45:a45.body=c45:=rfl
def l46_1:ACode:=(.seq (.seq (.ops [i 73 (.mov (t 6)),i 74 (.mov (t 4)),i 75 (.bin .lss (t 73) (t 74))]) (.cond (t 75) .skip (.exit 4))) (.seq (.block 5 (.seq (.drawn 0 [i 78 (.fieldAddr 1 (t 1)),i 79 (.load1 (t 78)),i 80 (.mov (t 6)),i 81 (.idxAddrS 8 (t 79) (t 80)),i 82 (.fieldAddr 0 (t 81)),i 83 (.load1 (t 82)),i 84 (.fieldAddr 0 (t 5)),i 85 (.load1 (t 84)),i 86 (.bin .eql (t 83) (t 85))]) (.cond (t 86) (.seq (.ops [i 2 (.mov (k (.int .i64 321)))]) .ret) .skip))) (.ops [i 76 (.mov (t 6)),i 77 (.bin .add (t 76) (k (.int .i64 1))),i 6 (.mov (t 77))])))
def l46_2:ACode:=(.seq (.seq (.ops [i 42 (.mov (t 4)),i 43 (.fieldAddr 1 (t 1)),i 44 (.load1 (t 43)),i 45 (.lenSlice (t 44)),i 46 (.bin .lss (t 42) (t 45))]) (.cond (t 46) .skip (.exit 2))) (.seq (.block 3 (.seq (.ops [i 49 (.fieldAddr 1 (t 1)),i 50 (.load1 (t 49)),i 51 (.mov (t 4)),i 52 (.idxAddrS 8 (t 50) (t 51)),i 53 (.loadN 8 (t 52)),i 5 (.alloc [(.int .i64 0),(.int .i64 0),(.int .i64 0),(.int .i64 0),(.int .i64 0),(.int .i64 0),(.int .i64 0),(.int .u8 0)]),s (.store 8 (t 5) (t 53))]) (.seq (.seq (.ops [i 54 (.loadN 8 (t 5)),i 55 (.call .any (.func 58) [(t 54)]),i 56 (.un .not (t 55)),i 57 (.mov (t 56)),q 58 57 (.fieldAddr 0 (t 1)),q 59 57 (.load1 (t 58)),q 60 57 (.fieldAddr 1 (t 5)),q 61 57 (.load1 (t 60)),q 62 57 (.call .any (.func 57) [(t 59),(t 61)]),q 63 57 (.bin .eql (t 62) (k (.int .i64 0))),i 64 (.pick (t 57) (k (.bool true)) (t 63)),i 65 (.mov (t 64)),q 66 65 (.fieldAddr 0 (t 1)),q 67 65 (.load1 (t 66)),q 68 65 (.fieldAddr 2 (t 5)),q 69 65 (.load1 (t 68)),q 70 65 (.call .any (.func 57) [(t 67),(t 69)]),q 71 65 (.bin .eql (t 70) (k (.int .i64 0))),i 72 (.pick (t 65) (k (.bool true)) (t 71))]) (.cond (t 72) (.seq (.ops [i 2 (.mov (k (.int .i64 321)))]) .ret) .skip)) (.seq (.ops [i 6 (.mov (k (.int .i64 0)))]) (.block 4 (.loop l46_1)))))) (.ops [i 47 (.mov (t 4)),i 48 (.bin .add (t 47) (k (.int .i64 1))),i 4 (.mov (t 48))])))
def l46_3:ACode:=(.seq (.seq (.ops [i 17 (.mov (t 3)),i 18 (.fieldAddr 0 (t 1)),i 19 (.load1 (t 18)),i 20 (.lenSlice (t 19)),i 21 (.bin .lss (t 17) (t 20))]) (.cond (t 21) .skip (.exit 0))) (.seq (.block 1 (.seq (.drawn 0 [i 24 (.fieldAddr 0 (t 1)),i 25 (.load1 (t 24)),i 26 (.mov (t 3)),i 27 (.idxAddrS 1 (t 25) (t 26)),i 28 (.load1 (t 27)),i 29 (.call .pure (.func 56) [(t 28),(k (.int .i64 1)),(k (.int .i64 999999))]),i 30 (.un .not (t 29)),i 31 (.mov (t 30)),q 32 31 (.fieldAddr 0 (t 1)),q 33 31 (.load1 (t 32)),q 34 31 (.fieldAddr 0 (t 1)),q 35 31 (.load1 (t 34)),q 36 31 (.mov (t 3)),q 37 31 (.idxAddrS 1 (t 35) (t 36)),q 38 31 (.load1 (t 37)),q 39 31 (.call .pure (.func 57) [(t 33),(t 38)]),q 40 31 (.bin .gtr (t 39) (k (.int .i64 1))),i 41 (.pick (t 31) (k (.bool true)) (t 40))]) (.cond (t 41) (.seq (.ops [i 2 (.mov (k (.int .i64 320)))]) .ret) .skip))) (.ops [i 22 (.mov (t 3)),i 23 (.bin .add (t 22) (k (.int .i64 1))),i 3 (.mov (t 23))])))
def c46:ACode:=(.seq (.ops [i 1 (.box (t 0)),i 2 (.mov (k (.int .i64 0)))]) (.seq (.seq (.ops [i 7 (.fieldAddr 0 (t 1)),i 8 (.load1 (t 7)),i 9 (.lenSlice (t 8)),i 10 (.bin .gtr (t 9) (k (.int .i64 50))),i 11 (.mov (t 10)),q 12 11 (.fieldAddr 1 (t 1)),q 13 11 (.load1 (t 12)),q 14 11 (.lenSlice (t 13)),q 15 11 (.bin .gtr (t 14) (k (.int .i64 200))),i 16 (.pick (t 11) (k (.bool true)) (t 15))]) (.cond (t 16) (.seq (.ops [i 2 (.mov (k (.int .i64 5)))]) .ret) .skip)) (.seq (.seq (.ops [i 3 (.mov (k (.int .i64 0)))]) (.block 0 (.loop l46_3))) (.seq (.seq (.ops [i 4 (.mov (k (.int .i64 0)))]) (.block 2 (.loop l46_2))) (.seq (.ops [i 2 (.mov (k (.int .i64 0)))]) .ret)))))
def a46:AFunc:=⟨87,[(.tmp 2)],c46⟩
theorem n46:a46.ntmps=87:=id rfl
theorem r46:a46.results=[(.tmp 2)]:=rfl
theorem b46:a46.body=c46:=rfl
def l47_1:ACode:=(.seq (.ops [i 34 (.bin .lss (t 33) (k (.int .i64 8)))]) (.seq (.cond (t 34) .skip (.exit 0)) (.seq (.block 1 (.seq (.ops [i 35 (.idxA 8 3 true (t 32) (t 33)),i 5 (.alloc [(.int .i64 0),(.int .i64 0),(.int .i64 0)]),s (.store 3 (t 5) (t 35))]) (.seq (.ops [i 36 (.fieldAddr 0 (t 5)),i 37 (.load1 (t 36)),i 38 (.fieldAddr 1 (t 5)),i 39 (.load1 (t 38)),i 40 (.bin .lss (t 37) (t 39)),i 41 (.mov (t 40)),q 42 41 (.fieldAddr 0 (t 5)),q 43 41 (.load1 (t 42)),q 44 41 (.fieldAddr 2 (t 5)),q 45 41 (.load1 (t 44)),q 46 41 (.bin .gtr (t 43) (t 45)),i 47 (.pick (t 41) (k (.bool true)) (t 46))]) (.cond (t 47) (.seq (.ops [i 2 (.mov (k (.bool false)))]) .ret) .skip)))) (.ops [i 48 (.bin .add (t 33) (k (.int .i64 1))),i 33 (.mov (t 48))]))))
def c47:ACode:=(.seq (.ops [i 1 (.box (t 0)),i 2 (.mov (k (.bool false)))]) (.seq (.ops [i 6 (.fieldAddr 0 (t 1)),i 7 (.load1 (t 6)),i 8 (.build [(.int .i64 0),(.int .i64 0),(.int .i64 0)] [(0,(1,(t 7))),(1,(1,(k (.int .i64 1)))),(2,(1,(k (.int .i64 999999))))]),i 9 (.fieldAddr 1 (t 1)),i 10 (.load1 (t 9)),i 11 (.build [(.int .i64 0),(.int .i64 0),(.int .i64 0)] [(0,(1,(t 10))),(1,(1,(k (.int .i64 1)))),(2,(1,(k (.int .i64 999999))))]),i 12 (.fieldAddr 2 (t 1)),i 13 (.load1 (t 12)),i 14 (.build [(.int .i64 0),(.int .i64 0),(.int .i64 0)] [(0,(1,(t 13))),(1,(1,(k (.int .i64 1)))),(2,(1,(k (.int .i64 999999))))]),i 15 (.fieldAddr 3 (t 1)),i 16 (.load1 (t 15)),i 17 (.build [(.int .i64 0),(.int .i64 0),(.int .i64 0)] [(0,(1,(t 16))),(1,(1,(k (.int .i64 0)))),(2,(1,(k (.int .i64 1439))))]),i 18 (.fieldAddr 4 (t 1)),i 19 (.load1 (t 18)),i 20 (.build [(.int .i64 0),(.int .i64 0),(.int .i64 0)] [(0,(1,(t 19))),(1,(1,(k (.int .i64 1)))),(2,(1,(k (.int .i64 20160))))]),i 21 (.fieldAddr 5 (t 1)),i 22 (.load1 (t 21)),i 23 (.build [(.int .i64 0),(.int .i64 0),(.int .i64 0)] [(0,(1,(t 22))),(1,(1,(k (.int .i64 0)))),(2,(1,(k (.int .i64 10080))))]),i 24 (.fieldAddr 6 (t 1)),i 25 (.load1 (t 24)),i 26 (.build [(.int .i64 0),(.int .i64 0),(.int .i64 0)] [(0,(1,(t 25))),(1,(1,(k (.int .i64 0)))),(2,(1,(k (.int .i64 1000000000))))]),i 27 (.fieldAddr 7 (t 1)),i 28 (.load1 (t 27)),i 29 (.conv .i64 (t 28)),i 30 (.build [(.int .i64 0),(.int .i64 0),(.int .i64 0)] [(0,(1,(t 29))),(1,(1,(k (.int .i64 1)))),(2,(1,(k (.int .i64 127))))]),i 31 (.build [(.int .i64 0),(.int .i64 0),(.int .i64 0),(.int .i64 0),(.int .i64 0),(.int .i64 0),(.int .i64 0),(.int .i64 0),(.int .i64 0),(.int .i64 0),(.int .i64 0),(.int .i64 0),(.int .i64 0),(.int .i64 0),(.int .i64 0),(.int .i64 0),(.int .i64 0),(.int .i64 0),(.int .i64 0),(.int .i64 0),(.int .i64 0),(.int .i64 0),(.int .i64 0),(.int .i64 0)] [(0,(3,(t 8))),(3,(3,(t 11))),(6,(3,(t 14))),(9,(3,(t 17))),(12,(3,(t 20))),(15,(3,(t 23))),(18,(3,(t 26))),(21,(3,(t 30)))]),i 3 (.alloc [(.int .i64 0),(.int .i64 0),(.int .i64 0),(.int .i64 0),(.int .i64 0),(.int .i64 0),(.int .i64 0),(.int .i64 0),(.int .i64 0),(.int .i64 0),(.int .i64 0),(.int .i64 0),(.int .i64 0),(.int .i64 0),(.int .i64 0),(.int .i64 0),(.int .i64 0),(.int .i64 0),(.int .i64 0),(.int .i64 0),(.int .i64 0),(.int .i64 0),(.int .i64 0),(.int .i64 0)]),s (.store 24 (t 3) (t 31))]) (.seq (.seq (.ops [i 32 (.loadN 24 (t 3)),i 33 (.mov (k (.int .i64 0)))]) (.block 0 (.loop l47_1))) (.seq (.ops [i 49 (.fieldAddr 1 (t 1)),i 50 (.load1 (t 49)),i 51 (.fieldAddr 2 (t 1)),i 52 (.load1 (t 51)),i 53 (.bin .neq (t 50) (t 52)),i 2 (.mov (t 53))]) .ret))))
def a47:AFunc:=⟨54,[(.tmp 2)],c47⟩
theorem n47:a47.ntmps=54:=id rfl
theorem r47:a47.results=[(.tmp 2)]:=rfl
theorem b47:a47.body=c47:=rfl
def c48:ACode:=(.seq (.ops [i 3 (.box (t 0)),i 4 (.box (t 1)),i 5 (.box (t 2)),i 6 (.mov (k .nilFunc))]) (.seq (.ops [i 7 (.makeFunc 59 [] [(t 4),(t 5),(t 3)]),i 6 (.mov (t 7))]) .ret))
def a48:AFunc:=⟨8,[(.tmp 6)],c48⟩
theorem n48:a48.ntmps=8:=id rfl
theorem r48:a48.results=[(.tmp 6)]:=rfl
theorem b48:a48.body=c48:=rfl
def c49:ACode:=(.seq (.ops [i 2 (.box (t 0)),i 4 (.alloc [(.int .i64 0),(.int .i64 0)]),i 5 (.mov (k (.bool false)))]) (.seq (.seq (.ops [i 7 (.loadN 8 (t 2)),i 8 (.call .any (.func 58) [(t 7)]),i 9 (.un .not (t 8)),i 10 (.mov (t 9)),q 11 10 (.mov (t 1)),q 12 10 (.call .any (.func 56) [(t 11),(k (.int .i64 0)),(k (.int .i64 730484))]),q 13 10 (.un .not (t 12)),i 14 (.pick (t 10) (k (.bool true)) (t 13)),i 15 (.mov (t 14)),q 16 15 (.loadN 8 (t 2)),q 17 15 (.mov (t 1)),q 18 15 (.bin .rem (t 17) (k (.int .i64 7))),q 19 15 (.call .any (.func 61) [(t 16),(t 18)]),q 20 15 (.un .not (t 19)),i 21 (.pick (t 15) (k (.bool true)) (t 20))]) (.cond (t 21) (.seq (.ops [i 22 (.build [(.int .i64 0),(.int .i64 0)] []),s (.store 2 (t 4) (t 22)),i 5 (.mov (k (.bool false)))]) .ret) .skip)) (.seq (.ops [i 23 (.mov (t 1)),i 24 (.bin .mul (t 23) (k (.int .i64 1440))),i 25 (.fieldAddr 3 (t 2)),i 26 (.load1 (t 25)),i 27 (.bin .add (t 24) (t 26)),i 6 (.mov (t 27))]) (.seq (.seq (.ops [i 28 (.mov (t 6)),i 29 (.fieldAddr 5 (t 2)),i 30 (.load1 (t 29)),i 31 (.bin .sub (t 28) (t 30)),i 32 (.bin .lss (t 31) (k (.int .i64 0))),i 33 (.mov (t 32)),q 34 33 (.mov (t 6)),q 35 33 (.fieldAddr 4 (t 2)),q 36 33 (.load1 (t 35)),q 37 33 (.bin .add (t 34) (t 36)),q 38 33 (.bin .gtr (t 37) (k (.int .i64 1051898399))),i 39 (.pick (t 33) (k (.bool true)) (t 38))]) (.cond (t 39) (.seq (.ops [i 40 (.build [(.int .i64 0),(.int .i64 0)] []),s (.store 2 (t 4) (t 40)),i 5 (.mov (k (.bool false)))]) .ret) .skip)) (.seq (.ops [i 41 (.mov (t 6)),i 42 (.mov (t 6)),i 43 (.fieldAddr 4 (t 2)),i 44 (.load1 (t 43)),i 45 (.bin .add (t 42) (t 44)),i 46 (.build [(.int .i64 0),(.int .i64 0)] [(0,(1,(t 41))),(1,(1,(t 45)))]),s (.store 2 (t 4) (t 46)),i 5 (.mov (k (.bool true)))]) .ret)))))
def a49:AFunc:=⟨47,[(.cellN 2 4),(.tmp 5)],c49⟩
theorem n49:a49.ntmps=47:=id rfl
theorem r49:a49.results=[(.cellN 2 4),(.tmp 5)]:=rfl
theorem b49:a49.body=c49:=rfl
def c50:ACode:=(.seq (.ops [i 2 (.mov (k (.slice none 0 0)))]) (.seq (.ops [i 3 (.mov (t 0)),i 4 (.call .any (.func 62) [(k (.slice none 0 0)),(t 3)]),i 2 (.mov (t 4))]) .ret))
def a50:AFunc:=⟨5,[(.tmp 2)],c50⟩
theorem n50:a50.ntmps=5:=id rfl
theorem r50:a50.results=[(.tmp 2)]:=rfl
theorem b50:a50.body=c50:=rfl
def c51:ACode:=(.seq (.ops [i 5 (.mov (t 0)),i 6 (.lenSlice (t 5)),i 4 (.mov (t 6))]) (.ops [i 7 (.mov (t 0)),i 8 (.mov (t 4)),i 9 (.mov (t 4)),i 10 (.conv .u64 (t 9)),i 11 (.call .any (.func 64) [(t 10)]),i 12 (.mov (t 1)),i 13 (.call .any (.func 63) [(t 7),(k (.int .i64 0)),(t 8),(t 11),(t 12)])]))
def a51:AFunc:=⟨14,[],c51⟩
theorem n51:a51.ntmps=14:=id rfl
theorem r51:a51.results=[]:=rfl
theorem b51:a51.body=c51:=rfl
def l52_1:ACode:=(.seq (.ops [i 8 (.bin .lss (t 7) (t 6))]) (.seq (.cond (t 8) .skip (.exit 0)) (.seq (.block 1 (.seq (.ops [i 9 (.idxAddrS 8 (t 5) (t 7)),i 10 (.loadN 8 (t 9)),i 4 (.alloc [(.int .i64 0),(.int .i64 0),(.int .i64 0),(.int .i64 0),(.int .i64 0),(.int .i64 0),(.int .i64 0),(.int .u8 0)]),s (.store 8 (t 4) (t 10))]) (.seq (.ops [i 11 (.mov (t 0)),i 12 (.loadN 8 (t 4)),i 13 (.call .any (t 11) [(t 12)]),i 14 (.un .not (t 13))]) (.cond (t 14) .ret .skip)))) (.ops [i 15 (.bin .add (t 7) (k (.int .i64 1))),i 7 (.mov (t 15))]))))
def c52:ACode:=(.seq (.ops [i 5 (.load1 (t 1)),i 6 (.lenSlice (t 5)),i 7 (.mov (k (.int .i64 0)))]) (.block 0 (.loop l52_1)))
def a52:AFunc:=⟨16,[],c52⟩
theorem n52:a52.ntmps=16:=id rfl
theorem r52:a52.results=[]:=rfl
theorem b52:a52.body=c52:=rfl
def c53:ACode:=(.seq (.ops [i 2 (.mov (k (.bool false)))]) (.seq (.ops [i 3 (.mov (t 0)),i 4 (.mov (t 0)),i 5 (.bin .neq (t 3) (t 4)),i 2 (.mov (t 5))]) .ret))
def a53:AFunc:=⟨6,[(.tmp 2)],c53⟩
theorem n53:a53.ntmps=6:=id rfl
theorem r53:a53.results=[(.tmp 2)]:=rfl
theorem b53:a53.body=c53:=rfl
def c54:ACode:=(.seq (.ops [i 2 (.mov (k (.int .i64 0)))]) (.seq (.seq (.ops [i 3 (.mov (t 0)),i 4 (.bin .lss (t 3) (k (.int .i64 0)))]) (.cond (t 4) (.seq (.ops [i 2 (.mov (k (.int .i64 0)))]) .ret) .skip)) (.seq (.seq (.ops [i 5 (.mov (t 0)),i 6 (.bin .gtr (t 5) (k (.int .i64 1051898399)))]) (.cond (t 6) (.seq (.ops [i 2 (.mov (k (.int .i64 730485)))]) .ret) .skip)) (.seq (.ops [i 7 (.mov (t 0)),i 8 (.bin .quo (t 7) (k (.int .i64 1440))),i 2 (.mov (t 8))]) .ret))))
def a54:AFunc:=⟨9,[(.tmp 2)],c54⟩
theorem n54:a54.ntmps=9:=id rfl
theorem r54:a54.results=[(.tmp 2)]:=rfl
theorem b54:a54.body=c54:=rfl
def c55:ACode:=(.seq (.ops [i 4 (.mov (k (.slice none 0 0)))]) (.seq (.seq (.ops [i 5 (.mov (t 1)),i 6 (.bin .lss (t 5) (k (.int .i64 0)))]) (.cond (t 6) (.ops [i 7 (.die (k (.string ⟨#[99,97,110,110,111,116,32,98,101,32,110,101,103,97,116,105,118,101]⟩))),s (.die (t 7))]) .skip)) (.seq (.seq (.ops [i 8 (.mov (t 1)),i 9 (.mov (t 0)),i 10 (.capSlice (t 9)),i 11 (.mov (t 0)),i 12 (.lenSlice (t 11)),i 13 (.bin .sub (t 10) (t 12)),i 14 (.bin .sub (t 8) (t 13)),i 1 (.mov (t 14))]) (.seq (.ops [i 15 (.mov (t 1)),i 16 (.bin .gtr (t 15) (k (.int .i64 0)))]) (.cond (t 16) (.ops [i 17 (.mov (t 0)),i 18 (.mov (t 0)),i 19 (.capSlice (t 18)),i 20 (.sliceS 8 (t 17) none (some (t 19)) none),i 21 (.mov (t 1)),i 22 (.growNil 8 64 [(.int .i64 0),(.int .i64 0),(.int .i64 0),(.int .i64 0),(.int .i64 0),(.int .i64 0),(.int .i64 0),(.int .u8 0)] (t 20) (t 21)),i 23 (.mov (t 0)),i 24 (.lenSlice (t 23)),i 25 (.sliceS 8 (t 22) none (some (t 24)) none),i 0 (.mov (t 25))]) .skip))) (.seq (.ops [i 26 (.mov (t 0)),i 4 (.mov (t 26))]) .ret))))
def a55:AFunc:=⟨27,[(.tmp 4)],c55⟩
theorem n55:a55.ntmps=27:=id rfl
theorem r55:a55.results=[(.tmp 4)]:=rfl
theorem b55:a55.body=c55:=rfl
def c56:ACode:=(.seq (.ops [i 6 (.mov (k (.bool false)))]) (.seq (.ops [i 7 (.mov (t 0)),i 8 (.mov (t 1)),i 9 (.bin .geq (t 7) (t 8)),i 10 (.mov (t 9)),p 11 10 (.mov (t 0)),p 12 10 (.mov (t 2)),p 13 10 (.bin .leq (t 11) (t 12)),i 14 (.pick (t 10) (t 13) (k (.bool false))),i 6 (.mov (t 14))]) .ret))
def a56:AFunc:=⟨15,[(.tmp 6)],c56⟩
theorem n56:a56.ntmps=15:=id rfl
theorem r56:a56.results=[(.tmp 6)]:=rfl
theorem b56:a56.body=c56:=rfl
def l57_1:ACode:=(.seq (.seq (.ops [i 7 (.mov (t 6)),i 8 (.mov (t 0)),i 9 (.lenSlice (t 8)),i 10 (.bin .lss (t 7) (t 9))]) (.cond (t 10) .skip (.exit 0))) (.seq (.block 1 (.seq (.ops [i 13 (.mov (t 0)),i 14 (.mov (t 6)),i 15 (.idxAddrS 1 (t 13) (t 14)),i 16 (.load1 (t 15)),i 17 (.mov (t 1)),i 18 (.bin .eql (t 16) (t 17))]) (.cond (t 18) (.ops [i 19 (.mov (t 5)),i 20 (.bin .add (t 19) (k (.int .i64 1))),i 5 (.mov (t 20))]) .skip))) (.ops [i 11 (.mov (t 6)),i 12 (.bin .add (t 11) (k (.int .i64 1))),i 6 (.mov (t 12))])))
def c57:ACode:=(.seq (.ops [i 4 (.mov (k (.int .i64 0)))]) (.seq (.ops [i 5 (.mov (k (.int .i64 0)))]) (.seq (.seq (.ops [i 6 (.mov (k (.int .i64 0)))]) (.block 0 (.loop l57_1))) (.seq (.ops [i 21 (.mov (t 5)),i 4 (.mov (t 21))]) .ret))))
def a57:AFunc:=⟨22,[(.tmp 4)],c57⟩
theorem n57:a57.ntmps=22:=id rfl
theorem r57:a57.results=[(.tmp 4)]:=rfl
theorem b57:a57.body=c57:=rfl
def c58:ACode:=(.seq (.ops [i 1 (.box (t 0)),i 2 (.mov (k (.bool false)))]) (.seq (.ops [i 3 (.fieldAddr 0 (t 1)),i 4 (.load1 (t 3)),i 5 (.call .any (.func 56) [(t 4),(k (.int .i64 1)),(k (.int .i64 999999))]),i 6 (.mov (t 5)),p 7 6 (.fieldAddr 1 (t 1)),p 8 6 (.load1 (t 7)),p 9 6 (.call .any (.func 56) [(t 8),(k (.int .i64 1)),(k (.int .i64 999999))]),i 10 (.pick (t 6) (t 9) (k (.bool false))),i 11 (.mov (t 10)),p 12 11 (.fieldAddr 2 (t 1)),p 13 11 (.load1 (t 12)),p 14 11 (.call .any (.func 56) [(t 13),(k (.int .i64 1)),(k (.int .i64 999999))]),i 15 (.pick (t 11) (t 14) (k (.bool false))),i 16 (.mov (t 15)),p 17 16 (.fieldAddr 1 (t 1)),p 18 16 (.load1 (t 17)),p 19 16 (.fieldAddr 2 (t 1)),p 20 16 (.load1 (t 19)),p 21 16 (.bin .neq (t 18) (t 20)),i 22 (.pick (t 16) (t 21) (k (.bool false))),i 23 (.mov (t 22)),p 24 23 (.fieldAddr 3 (t 1)),p 25 23 (.load1 (t 24)),p 26 23 (.call .any (.func 56) [(t 25),(k (.int .i64 0)),(k (.int .i64 1439))]),i 27 (.pick (t 23) (t 26) (k (.bool false))),i 28 (.mov (t 27)),p 29 28 (.fieldAddr 4 (t 1)),p 30 28 (.load1 (t 29)),p 31 28 (.call .any (.func 56) [(t 30),(k (.int .i64 1)),(k (.int .i64 20160))]),i 32 (.pick (t 28) (t 31) (k (.bool false))),i 33 (.mov (t 32)),p 34 33 (.fieldAddr 5 (t 1)),p 35 33 (.load1 (t 34)),p 36 33 (.call .any (.func 56) [(t 35),(k (.int .i64 0)),(k (.int .i64 10080))]),i 37 (.pick (t 33) (t 36) (k (.bool false))),i 38 (.mov (t 37)),p 39 38 (.fieldAddr 6 (t 1)),p 40 38 (.load1 (t 39)),p 41 38 (.call .any (.func 56) [(t 40),(k (.int .i64 0)),(k (.int .i64 1000000000))]),i 42 (.pick (t 38) (t 41) (k (.bool false))),i 43 (.mov (t 42)),p 44 43 (.fieldAddr 7 (t 1)),p 45 43 (.load1 (t 44)),p 46 43 (.bin .geq (t 45) (k (.int .u8 1))),i 47 (.pick (t 43) (t 46) (k (.bool false))),i 48 (.mov (t 47)),p 49 48 (.fieldAddr 7 (t 1)),p 50 48 (.load1 (t 49)),p 51 48 (.bin .leq (t 50) (k (.int .u8 127))),i 52 (.pick (t 48) (t 51) (k (.bool false))),i 2 (.mov (t 52))]) .ret))
def a58:AFunc:=⟨53,[(.tmp 2)],c58⟩
theorem n58:a58.ntmps=53:=id rfl
theorem r58:a58.results=[(.tmp 2)]:=rfl
theorem b58:a58.body=c58:=rfl
def l59_1:ACode:=(.seq (.seq (.ops [i 7 (.load1 (t 1)),i 8 (.bin .geq (t 7) (k (.int .i64 0))),i 9 (.mov (t 8)),p 10 9 (.load1 (t 1)),p 11 9 (.bin .leq (t 10) (k (.int .i64 730484))),i 12 (.pick (t 9) (t 11) (k (.bool false)))]) (.cond (t 12) .skip (.exit 0))) (.seq (.block 1 (.seq (.ops [i 17 (.loadN 8 (t 3)),i 18 (.load1 (t 1)),i 19 (.call .any (.func 60) [(t 17),(t 18)]),i 16 (.mov (t 19)),i 20 (.extract 0 (t 16)),i 21 (.extract 1 (t 16)),i 5 (.alloc [(.int .i64 0),(.int .i64 0)]),s (.store 2 (t 5) (t 20)),i 6 (.mov (t 21))]) (.seq (.ops [i 22 (.mov (t 6)),i 23 (.mov (t 22)),p 24 23 (.mov (t 0)),p 25 23 (.loadN 2 (t 5)),p 26 23 (.call .any (t 24) [(t 25)]),p 27 23 (.un .not (t 26)),i 28 (.pick (t 23) (t 27) (k (.bool false)))]) (.cond (t 28) .ret .skip)))) (.ops [i 13 (.load1 (t 1)),i 14 (.load1 (t 2)),i 15 (.bin .add (t 13) (t 14)),s (.store 1 (t 1) (t 15))])))
def c59:ACode:=(.block 0 (.loop l59_1))
def a59:AFunc:=⟨29,[],c59⟩
theorem n59:a59.ntmps=29:=id rfl
theorem r59:a59.results=[]:=rfl
theorem b59:a59.body=c59:=rfl
def c60:ACode:=(.seq (.ops [i 2 (.box (t 0)),i 4 (.alloc [(.int .i64 0),(.int .i64 0)]),i 5 (.mov (k (.bool false)))]) (.seq (.ops [i 7 (.mov (t 1)),i 8 (.bin .mul (k (.int .i64 1440)) (t 7)),i 9 (.fieldAddr 3 (t 2)),i 10 (.load1 (t 9)),i 11 (.bin .add (t 8) (t 10)),i 6 (.mov (t 11))]) (.seq (.seq (.ops [i 12 (.fieldAddr 7 (t 2)),i 13 (.load1 (t 12)),i 14 (.mov (t 1)),i 15 (.bin .rem (t 14) (k (.int .i64 7))),i 16 (.bin .shr (t 13) (t 15)),i 17 (.bin .and (t 16) (k (.int .u8 1))),i 18 (.bin .eql (t 17) (k (.int .u8 0))),i 19 (.mov (t 18)),q 20 19 (.mov (t 6)),q 21 19 (.fieldAddr 5 (t 2)),q 22 19 (.load1 (t 21)),q 23 19 (.bin .sub (t 20) (t 22)),q 24 19 (.bin .lss (t 23) (k (.int .i64 0))),i 25 (.pick (t 19) (k (.bool true)) (t 24)),i 26 (.mov (t 25)),q 27 26 (.mov (t 6)),q 28 26 (.fieldAddr 4 (t 2)),q 29 26 (.load1 (t 28)),q 30 26 (.bin .add (t 27) (t 29)),q 31 26 (.bin .gtr (t 30) (k (.int .i64 1051898399))),i 32 (.pick (t 26) (k (.bool true)) (t 31))]) (.cond (t 32) (.seq (.ops [i 33 (.build [(.int .i64 0),(.int .i64 0)] []),s (.store 2 (t 4) (t 33)),i 5 (.mov (k (.bool false)))]) .ret) .skip)) (.seq (.ops [i 34 (.mov (t 6)),i 35 (.mov (t 6)),i 36 (.fieldAddr 4 (t 2)),i 37 (.load1 (t 36)),i 38 (.bin .add (t 35) (t 37)),i 39 (.build [(.int .i64 0),(.int .i64 0)] [(0,(1,(t 34))),(1,(1,(t 38)))]),s (.store 2 (t 4) (t 39)),i 5 (.mov (k (.bool true)))]) .ret))))
def a60:AFunc:=⟨40,[(.cellN 2 4),(.tmp 5)],c60⟩
theorem n60:a60.ntmps=40:=id rfl
theorem r60:a60.results=[(.cellN 2 4),(.tmp 5)]:=rfl
theorem b60:a60.body=c60:=rfl
def l61_1:ACode:=(.seq (.seq (.ops [i 10 (.mov (t 6)),i 11 (.mov (t 1)),i 12 (.bin .lss (t 10) (t 11))]) (.cond (t 12) .skip (.exit 0))) (.seq (.block 1 (.ops [i 15 (.mov (t 5)),i 16 (.bin .quo (t 15) (k (.int .i64 2))),i 5 (.mov (t 16))])) (.ops [i 13 (.mov (t 6)),i 14 (.bin .add (t 13) (k (.int .i64 1))),i 6 (.mov (t 14))])))
def c61:ACode:=(.seq (.ops [i 2 (.box (t 0)),i 4 (.mov (k (.bool false)))]) (.seq (.ops [i 7 (.fieldAddr 7 (t 2)),i 8 (.load1 (t 7)),i 9 (.conv .i64 (t 8)),i 5 (.mov (t 9))]) (.seq (.seq (.ops [i 6 (.mov (k (.int .i64 0)))]) (.block 0 (.loop l61_1))) (.seq (.ops [i 17 (.mov (t 5)),i 18 (.bin .rem (t 17) (k (.int .i64 2))),i 19 (.bin .eql (t 18) (k (.int .i64 1))),i 4 (.mov (t 19))]) .ret))))
def a61:AFunc:=⟨20,[(.tmp 4)],c61⟩
theorem n61:a61.ntmps=20:=id rfl
theorem r61:a61.results=[(.tmp 4)]:=rfl
theorem b61:a61.body=c61:=rfl
def ga62_1:ACode:=(.ops [i 5 (.alloc [(.int .i64 0),(.int .i64 0),(.int .i64 0),(.int .i64 0),(.int .i64 0),(.int .i64 0),(.int .i64 0),(.int .u8 0)]),s (.store 8 (t 5) (t 7))])
def gb62_1:ACode:=(.block 1 (.ops [i 8 (.load1 (t 2)),i 9 (.loadN 8 (t 5)),i 10 (.buildSlice 1 [(.int .i64 0),(.int .i64 0),(.int .i64 0),(.int .i64 0),(.int .i64 0),(.int .i64 0),(.int .i64 0),(.int .u8 0)] [(0,(8,(t 9)))]),i 11 (.append 8 64 false (t 8) (t 10)),s (.store 1 (t 2) (t 11))]))
def c62:ACode:=(.seq (.seq (.ops [i 2 (.box (t 0)),i 4 (.mov (k (.slice none 0 0)))]) (.seq (.seq (.ops [i 6 (.mov (t 1))]) (.block 0 (.rangeF (t 6) [7] ga62_1 gb62_1))) (.seq (.ops [i 12 (.load1 (t 2)),i 4 (.mov (t 12))]) .retM))) .retM)
def a62:AFunc:=⟨13,[(.tmp 4)],c62⟩
theorem n62:a62.ntmps=13:=id rfl
theorem r62:a62.results=[(.tmp 4)]:=rfl
theorem b62:a62.body=c62:=rfl
def l63_1:ACode:=(.block 1 (.seq (.ops [i 21 (.mov (t 2)),i 22 (.mov (t 1)),i 23 (.bin .sub (t 21) (t 22)),i 12 (.mov (t 23))]) (.seq (.seq (.ops [i 24 (.mov (t 12)),i 25 (.bin .leq (t 24) (k (.int .i64 12)))]) (.cond (t 25) (.seq (.ops [i 26 (.mov (t 0)),i 27 (.mov (t 1)),i 28 (.mov (t 2)),i 29 (.mov (t 4)),i 30 (.call .any (.func 65) [(t 26),(t 27),(t 28),(t 29)])]) .ret) .skip)) (.seq (.seq (.ops [i 31 (.mov (t 3)),i 32 (.bin .eql (t 31) (k (.int .i64 0)))]) (.cond (t 32) (.seq (.ops [i 33 (.mov (t 0)),i 34 (.mov (t 1)),i 35 (.mov (t 2)),i 36 (.mov (t 4)),i 37 (.call .any (.func 66) [(t 33),(t 34),(t 35),(t 36)])]) .ret) .skip)) (.seq (.seq (.ops [i 38 (.mov (t 10)),i 39 (.un .not (t 38))]) (.cond (t 39) (.seq (.ops [i 40 (.mov (t 0)),i 41 (.mov (t 1)),i 42 (.mov (t 2)),i 43 (.mov (t 4)),i 44 (.call .any (.func 67) [(t 40),(t 41),(t 42),(t 43)])]) (.ops [i 45 (.mov (t 3)),i 46 (.bin .sub (t 45) (k (.int .i64 1))),i 3 (.mov (t 46))])) .skip)) (.seq (.ops [i 48 (.mov (t 0)),i 49 (.mov (t 1)),i 50 (.mov (t 2)),i 51 (.mov (t 4)),i 52 (.call .any (.func 68) [(t 48),(t 49),(t 50),(t 51)]),i 47 (.mov (t 52)),i 53 (.extract 0 (t 47)),i 54 (.extract 1 (t 47)),i 13 (.mov (t 53)),i 14 (.mov (t 54))]) (.seq (.seq (.ops [i 55 (.mov (t 14)),i 56 (.bin .eql (t 55) (k (.int .i64 2)))]) (.cond (t 56) (.seq (.ops [i 57 (.mov (t 0)),i 58 (.mov (t 1)),i 59 (.mov (t 2)),i 60 (.mov (t 4)),i 61 (.call .any (.func 69) [(t 57),(t 58),(t 59),(t 60)])]) (.seq (.ops [i 62 (.mov (t 2)),i 63 (.bin .sub (t 62) (k (.int .i64 1))),i 64 (.mov (t 13)),i 65 (.mov (t 1)),i 66 (.bin .sub (t 64) (t 65)),i 67 (.bin .sub (t 63) (t 66)),i 13 (.mov (t 67))]) (.ops [i 14 (.mov (k (.int .i64 1)))]))) .skip)) (.seq (.seq (.ops [i 68 (.mov (t 10)),i 69 (.mov (t 68)),p 70 69 (.mov (t 11)),i 71 (.pick (t 69) (t 70) (k (.bool false))),i 72 (.mov (t 71)),p 73 72 (.mov (t 14)),p 74 72 (.bin .eql (t 73) (k (.int .i64 1))),i 75 (.pick (t 72) (t 74) (k (.bool false)))]) (.cond (t 75) (.seq (.ops [i 76 (.mov (t 0)),i 77 (.mov (t 1)),i 78 (.mov (t 2)),i 79 (.mov (t 4)),i 80 (.call .any (.func 70) [(t 76),(t 77),(t 78),(t 79)])]) (.cond (t 80) .ret .skip)) .skip)) (.seq (.seq (.drawn 0 [i 81 (.mov (t 1)),i 82 (.bin .gtr (t 81) (k (.int .i64 0))),i 83 (.mov (t 82)),p 84 83 (.mov (t 4)),p 85 83 (.mov (t 0)),p 86 83 (.mov (t 1)),p 87 83 (.bin .sub (t 86) (k (.int .i64 1))),p 88 83 (.idxAddrS 8 (t 85) (t 87)),p 89 83 (.loadN 8 (t 88)),p 90 83 (.mov (t 0)),p 91 83 (.mov (t 13)),p 92 83 (.idxAddrS 8 (t 90) (t 91)),p 93 83 (.loadN 8 (t 92)),p 94 83 (.call .pure (t 84) [(t 89),(t 93)]),p 95 83 (.bin .lss (t 94) (k (.int .i64 0))),p 96 83 (.un .not (t 95)),i 97 (.pick (t 83) (t 96) (k (.bool false)))]) (.cond (t 97) (.seq (.ops [i 98 (.mov (t 0)),i 99 (.mov (t 1)),i 100 (.mov (t 2)),i 101 (.mov (t 13)),i 102 (.mov (t 4)),i 103 (.call .any (.func 71) [(t 98),(t 99),(t 100),(t 101),(t 102)]),i 15 (.mov (t 103))]) (.seq (.ops [i 104 (.mov (t 15)),i 1 (.mov (t 104))]) (.exit 1))) .skip)) (.seq (.ops [i 106 (.mov (t 0)),i 107 (.mov (t 1)),i 108 (.mov (t 2)),i 109 (.mov (t 13)),i 110 (.mov (t 4)),i 111 (.call .any (.func 72) [(t 106),(t 107),(t 108),(t 109),(t 110)]),i 105 (.mov (t 111)),i 112 (.extract 0 (t 105)),i 113 (.extract 1 (t 105)),i 16 (.mov (t 112)),i 17 (.mov (t 113))]) (.seq (.ops [i 114 (.mov (t 17)),i 11 (.mov (t 114))]) (.seq (.ops [i 115 (.mov (t 16)),i 116 (.mov (t 1)),i 117 (.bin .sub (t 115) (t 116)),i 118 (.mov (t 2)),i 119 (.mov (t 16)),i 120 (.bin .sub (t 118) (t 119)),i 18 (.mov (t 117)),i 19 (.mov (t 120))]) (.seq (.ops [i 121 (.mov (t 12)),i 122 (.bin .quo (t 121) (k (.int .i64 8))),i 20 (.mov (t 122))]) (.seq (.ops [i 123 (.mov (t 18)),i 124 (.mov (t 19)),i 125 (.bin .lss (t 123) (t 124))]) (.cond (t 125) (.seq (.ops [i 126 (.mov (t 18)),i 127 (.mov (t 20)),i 128 (.bin .geq (t 126) (t 127)),i 10 (.mov (t 128))]) (.seq (.ops [i 129 (.mov (t 0)),i 130 (.mov (t 1)),i 131 (.mov (t 16)),i 132 (.mov (t 3)),i 133 (.mov (t 4)),i 134 (.call .any (.func 63) [(t 129),(t 130),(t 131),(t 132),(t 133)])]) (.ops [i 135 (.mov (t 16)),i 136 (.bin .add (t 135) (k (.int .i64 1))),i 1 (.mov (t 136))]))) (.seq (.ops [i 137 (.mov (t 19)),i 138 (.mov (t 20)),i 139 (.bin .geq (t 137) (t 138)),i 10 (.mov (t 139))]) (.seq (.ops [i 140 (.mov (t 0)),i 141 (.mov (t 16)),i 142 (.bin .add (t 141) (k (.int .i64 1))),i 143 (.mov (t 2)),i 144 (.mov (t 3)),i 145 (.mov (t 4)),i 146 (.call .any (.func 63) [(t 140),(t 142),(t 143),(t 144),(t 145)])]) (.ops [i 147 (.mov (t 16)),i 2 (.mov (t 147))]))))))))))))))))))
def c63:ACode:=(.seq (.ops [i 10 (.mov (k (.bool true)))]) (.seq (.ops [i 11 (.mov (k (.bool true)))]) (.block 0 (.loop l63_1))))
def a63:AFunc:=⟨148,[],c63⟩
theorem n63:a63.ntmps=148:=id rfl
theorem r63:a63.results=[]:=rfl
theorem b63:a63.body=c63:=rfl
def c64:ACode:=(.seq (.ops [i 2 (.mov (k (.int .i64 0)))]) (.seq (.cond (k (.bool false)) (.seq (.ops [i 3 (.mov (t 0)),i 4 (.conv .u32 (t 3)),i 5 (.call .any (.func 73) [(t 4)]),i 2 (.mov (t 5))]) .ret) .skip) (.seq (.ops [i 6 (.mov (t 0)),i 7 (.call .any (.func 74) [(t 6)]),i 2 (.mov (t 7))]) .ret)))
def a64:AFunc:=⟨8,[(.tmp 2)],c64⟩
theorem n64:a64.ntmps=8:=id rfl
theorem r64:a64.results=[(.tmp 2)]:=rfl
theorem b64:a64.body=c64:=rfl
def l65_1:ACode:=(.seq (.seq (.drawn 0 [i 18 (.mov (t 9)),i 19 (.mov (t 1)),i 20 (.bin .gtr (t 18) (t 19)),i 21 (.mov (t 20)),p 22 21 (.mov (t 3)),p 23 21 (.mov (t 0)),p 24 21 (.mov (t 9)),p 25 21 (.idxAddrS 8 (t 23) (t 24)),p 26 21 (.loadN 8 (t 25)),p 27 21 (.mov (t 0)),p 28 21 (.mov (t 9)),p 29 21 (.bin .sub (t 28) (k (.int .i64 1))),p 30 21 (.idxAddrS 8 (t 27) (t 29)),p 31 21 (.loadN 8 (t 30)),p 32 21 (.call .pure (t 22) [(t 26),(t 31)]),p 33 21 (.bin .lss (t 32) (k (.int .i64 0))),i 34 (.pick (t 21) (t 33) (k (.bool false)))]) (.cond (t 34) .skip (.exit 2))) (.seq (.block 3 (.drawn 0 [i 37 (.mov (t 0)),i 38 (.mov (t 9)),i 39 (.mov (t 0)),i 40 (.mov (t 9)),i 41 (.bin .sub (t 40) (k (.int .i64 1))),i 42 (.mov (t 0)),i 43 (.mov (t 9)),i 44 (.bin .sub (t 43) (k (.int .i64 1))),i 45 (.idxAddrS 8 (t 42) (t 44)),i 46 (.loadN 8 (t 45)),i 47 (.mov (t 0)),i 48 (.mov (t 9)),i 49 (.idxAddrS 8 (t 47) (t 48)),i 50 (.loadN 8 (t 49)),i 51 (.idxAddrS 8 (t 37) (t 38)),s (.store 8 (t 51) (t 46)),i 52 (.idxAddrS 8 (t 39) (t 41)),s (.store 8 (t 52) (t 50))])) (.ops [i 35 (.mov (t 9)),i 36 (.bin .sub (t 35) (k (.int .i64 1))),i 9 (.mov (t 36))])))
def l65_2:ACode:=(.seq (.seq (.ops [i 12 (.mov (t 8)),i 13 (.mov (t 2)),i 14 (.bin .lss (t 12) (t 13))]) (.cond (t 14) .skip (.exit 0))) (.seq (.block 1 (.seq (.ops [i 17 (.mov (t 8)),i 9 (.mov (t 17))]) (.block 2 (.loop l65_1)))) (.ops [i 15 (.mov (t 8)),i 16 (.bin .add (t 15) (k (.int .i64 1))),i 8 (.mov (t 16))])))
def c65:ACode:=(.seq (.ops [i 10 (.mov (t 1)),i 11 (.bin .add (t 10) (k (.int .i64 1))),i 8 (.mov (t 11))]) (.block 0 (.loop l65_2)))
def a65:AFunc:=⟨53,[],c65⟩
theorem n65:a65.ntmps=53:=id rfl
theorem r65:a65.results=[]:=rfl
theorem b65:a65.body=c65:=rfl
def l66_1:ACode:=(.seq (.seq (.ops [i 32 (.mov (t 12)),i 33 (.bin .geq (t 32) (k (.int .i64 0)))]) (.cond (t 33) .skip (.exit 2))) (.seq (.block 3 (.seq (.drawn 0 [i 36 (.mov (t 0)),i 37 (.mov (t 8)),i 38 (.mov (t 0)),i 39 (.mov (t 8)),i 40 (.mov (t 12)),i 41 (.bin .add (t 39) (t 40)),i 42 (.mov (t 0)),i 43 (.mov (t 8)),i 44 (.mov (t 12)),i 45 (.bin .add (t 43) (t 44)),i 46 (.idxAddrS 8 (t 42) (t 45)),i 47 (.loadN 8 (t 46)),i 48 (.mov (t 0)),i 49 (.mov (t 8)),i 50 (.idxAddrS 8 (t 48) (t 49)),i 51 (.loadN 8 (t 50)),i 52 (.idxAddrS 8 (t 36) (t 37)),s (.store 8 (t 52) (t 47)),i 53 (.idxAddrS 8 (t 38) (t 41)),s (.store 8 (t 53) (t 51))]) (.ops [i 54 (.mov (t 0)),i 55 (.mov (t 9)),i 56 (.mov (t 12)),i 57 (.mov (t 8)),i 58 (.mov (t 3)),i 59 (.call .any (.func 75) [(t 54),(t 55),(t 56),(t 57),(t 58)])]))) (.ops [i 34 (.mov (t 12)),i 35 (.bin .sub (t 34) (k (.int .i64 1))),i 12 (.mov (t 35))])))
def l66_2:ACode:=(.seq (.seq (.ops [i 20 (.mov (t 11)),i 21 (.bin .geq (t 20) (k (.int .i64 0)))]) (.cond (t 21) .skip (.exit 0))) (.seq (.block 1 (.ops [i 24 (.mov (t 0)),i 25 (.mov (t 11)),i 26 (.mov (t 10)),i 27 (.mov (t 8)),i 28 (.mov (t 3)),i 29 (.call .any (.func 75) [(t 24),(t 25),(t 26),(t 27),(t 28)])])) (.ops [i 22 (.mov (t 11)),i 23 (.bin .sub (t 22) (k (.int .i64 1))),i 11 (.mov (t 23))])))
def c66:ACode:=(.seq (.ops [i 13 (.mov (t 1)),i 8 (.mov (t 13))]) (.seq (.ops [i 9 (.mov (k (.int .i64 0)))]) (.seq (.ops [i 14 (.mov (t 2)),i 15 (.mov (t 1)),i 16 (.bin .sub (t 14) (t 15)),i 10 (.mov (t 16))]) (.seq (.seq (.ops [i 17 (.mov (t 10)),i 18 (.bin .sub (t 17) (k (.int .i64 1))),i 19 (.bin .quo (t 18) (k (.int .i64 2))),i 11 (.mov (t 19))]) (.block 0 (.loop l66_2))) (.seq (.ops [i 30 (.mov (t 10)),i 31 (.bin .sub (t 30) (k (.int .i64 1))),i 12 (.mov (t 31))]) (.block 2 (.loop l66_1)))))))
def a66:AFunc:=⟨60,[],c66⟩
theorem n66:a66.ntmps=60:=id rfl
theorem r66:a66.results=[]:=rfl
theorem b66:a66.body=c66:=rfl
def l67_1:ACode:=(.seq (.seq (.ops [i 28 (.mov (t 11)),i 29 (.mov (t 1)),i 30 (.mov (t 8)),i 31 (.bin .quo (t 30) (k (.int .i64 4))),i 32 (.bin .mul (t 31) (k (.int .i64 2))),i 33 (.bin .add (t 29) (t 32)),i 34 (.bin .add (t 33) (k (.int .i64 1))),i 35 (.bin .leq (t 28) (t 34))]) (.cond (t 35) .skip (.exit 0))) (.seq (.block 1 (.seq (.ops [i 38 (.call .any (.func 77) [(t 9)]),i 39 (.mov (t 10)),i 40 (.bin .sub (t 39) (k (.int .u64 1))),i 41 (.bin .and (t 38) (t 40)),i 42 (.conv .i64 (t 41)),i 12 (.mov (t 42))]) (.seq (.seq (.ops [i 43 (.mov (t 12)),i 44 (.mov (t 8)),i 45 (.bin .geq (t 43) (t 44))]) (.cond (t 45) (.ops [i 46 (.mov (t 12)),i 47 (.mov (t 8)),i 48 (.bin .sub (t 46) (t 47)),i 12 (.mov (t 48))]) .skip)) (.drawn 0 [i 49 (.mov (t 0)),i 50 (.mov (t 11)),i 51 (.mov (t 0)),i 52 (.mov (t 1)),i 53 (.mov (t 12)),i 54 (.bin .add (t 52) (t 53)),i 55 (.mov (t 0)),i 56 (.mov (t 1)),i 57 (.mov (t 12)),i 58 (.bin .add (t 56) (t 57)),i 59 (.idxAddrS 8 (t 55) (t 58)),i 60 (.loadN 8 (t 59)),i 61 (.mov (t 0)),i 62 (.mov (t 11)),i 63 (.idxAddrS 8 (t 61) (t 62)),i 64 (.loadN 8 (t 63)),i 65 (.idxAddrS 8 (t 49) (t 50)),s (.store 8 (t 65) (t 60)),i 66 (.idxAddrS 8 (t 51) (t 54)),s (.store 8 (t 66) (t 64))])))) (.ops [i 36 (.mov (t 11)),i 37 (.bin .add (t 36) (k (.int .i64 1))),i 11 (.mov (t 37))])))
def c67:ACode:=(.seq (.ops [i 13 (.mov (t 2)),i 14 (.mov (t 1)),i 15 (.bin .sub (t 13) (t 14)),i 8 (.mov (t 15))]) (.seq (.ops [i 16 (.mov (t 8)),i 17 (.bin .geq (t 16) (k (.int .i64 8)))]) (.cond (t 17) (.seq (.ops [i 18 (.mov (t 8)),i 19 (.conv .u64 (t 18)),i 9 (.alloc [(.int .u64 0)]),s (.store 1 (t 9) (t 19))]) (.seq (.ops [i 20 (.mov (t 8)),i 21 (.call .any (.func 76) [(t 20)]),i 10 (.mov (t 21))]) (.seq (.ops [i 22 (.mov (t 1)),i 23 (.mov (t 8)),i 24 (.bin .quo (t 23) (k (.int .i64 4))),i 25 (.bin .mul (t 24) (k (.int .i64 2))),i 26 (.bin .add (t 22) (t 25)),i 27 (.bin .sub (t 26) (k (.int .i64 1))),i 11 (.mov (t 27))]) (.block 0 (.loop l67_1))))) .skip)))
def a67:AFunc:=⟨67,[],c67⟩
theorem n67:a67.ntmps=67:=id rfl
theorem r67:a67.results=[]:=rfl
theorem b67:a67.body=c67:=rfl
def c68:ACode:=(.seq (.ops [i 8 (.mov (k (.int .i64 0))),i 9 (.mov (k (.int .i64 0)))]) (.seq (.ops [i 15 (.mov (t 2)),i 16 (.mov (t 1)),i 17 (.bin .sub (t 15) (t 16)),i 10 (.mov (t 17))]) (.seq (.ops [i 11 (.alloc [(.int .i64 0)])]) (.seq (.ops [i 18 (.mov (t 1)),i 19 (.mov (t 10)),i 20 (.bin .quo (t 19) (k (.int .i64 4))),i 21 (.bin .mul (t 20) (k (.int .i64 1))),i 22 (.bin .add (t 18) (t 21)),i 12 (.mov (t 22))]) (.seq (.ops [i 23 (.mov (t 1)),i 24 (.mov (t 10)),i 25 (.bin .quo (t 24) (k (.int .i64 4))),i 26 (.bin .mul (t 25) (k (.int .i64 2))),i 27 (.bin .add (t 23) (t 26)),i 13 (.mov (t 27))]) (.seq (.ops [i 28 (.mov (t 1)),i 29 (.mov (t 10)),i 30 (.bin .quo (t 29) (k (.int .i64 4))),i 31 (.bin .mul (t 30) (k (.int .i64 3))),i 32 (.bin .add (t 28) (t 31)),i 14 (.mov (t 32))]) (.seq (.seq (.ops [i 33 (.mov (t 10)),i 34 (.bin .geq (t 33) (k (.int .i64 8)))]) (.cond (t 34) (.seq (.seq (.ops [i 35 (.mov (t 10)),i 36 (.bin .geq (t 35) (k (.int .i64 50)))]) (.cond (t 36) (.seq (.ops [i 37 (.mov (t 0)),i 38 (.mov (t 12)),i 39 (.mov (t 3)),i 40 (.call .any (.func 78) [(t 37),(t 38),(t 11),(t 39)]),i 12 (.mov (t 40))]) (.seq (.ops [i 41 (.mov (t 0)),i 42 (.mov (t 13)),i 43 (.mov (t 3)),i 44 (.call .any (.func 78) [(t 41),(t 42),(t 11),(t 43)]),i 13 (.mov (t 44))]) (.ops [i 45 (.mov (t 0)),i 46 (.mov (t 14)),i 47 (.mov (t 3)),i 48 (.call .any (.func 78) [(t 45),(t 46),(t 11),(t 47)]),i 14 (.mov (t 48))]))) .skip)) (.ops [i 49 (.mov (t 0)),i 50 (.mov (t 12)),i 51 (.mov (t 13)),i 52 (.mov (t 14)),i 53 (.mov (t 3)),i 54 (.call .any (.func 79) [(t 49),(t 50),(t 51),(t 52),(t 11),(t 53)]),i 13 (.mov (t 54))])) .skip)) (.seq (.ops [i 55 (.load1 (t 11))]) (.block 0 (.seq (.ops [i 58 (.bin .eql (t 55) (k (.int .i64 0))),i 57 (.mov (t 58))]) (.cond (t 57) (.seq (.ops [i 59 (.mov (t 13)),i 8 (.mov (t 59)),i 9 (.mov (k (.int .i64 1)))]) .ret) (.seq (.ops [i 61 (.bin .eql (t 55) (k (.int .i64 12))),i 60 (.mov (t 61))]) (.cond (t 60) (.seq (.ops [i 62 (.mov (t 13)),i 8 (.mov (t 62)),i 9 (.mov (k (.int .i64 2)))]) .ret) (.seq (.ops [i 56 (.mov (t 13)),i 8 (.mov (t 56)),i 9 (.mov (k (.int .i64 0)))]) .ret))))))))))))))
def a68:AFunc:=⟨63,[(.tmp 8),(.tmp 9)],c68⟩
theorem n68:a68.ntmps=63:=id rfl
theorem r68:a68.results=[(.tmp 8),(.tmp 9)]:=rfl
theorem b68:a68.body=c68:=rfl
def l69_1:ACode:=(.seq (.seq (.ops [i 13 (.mov (t 8)),i 14 (.mov (t 9)),i 15 (.bin .lss (t 13) (t 14))]) (.cond (t 15) .skip (.exit 0))) (.block 1 (.seq (.drawn 0 [i 16 (.mov (t 0)),i 17 (.mov (t 8)),i 18 (.mov (t 0)),i 19 (.mov (t 9)),i 20 (.mov (t 0)),i 21 (.mov (t 9)),i 22 (.idxAddrS 8 (t 20) (t 21)),i 23 (.loadN 8 (t 22)),i 24 (.mov (t 0)),i 25 (.mov (t 8)),i 26 (.idxAddrS 8 (t 24) (t 25)),i 27 (.loadN 8 (t 26)),i 28 (.idxAddrS 8 (t 16) (t 17)),s (.store 8 (t 28) (t 23)),i 29 (.idxAddrS 8 (t 18) (t 19)),s (.store 8 (t 29) (t 27))]) (.seq (.ops [i 30 (.mov (t 8)),i 31 (.bin .add (t 30) (k (.int .i64 1))),i 8 (.mov (t 31))]) (.ops [i 32 (.mov (t 9)),i 33 (.bin .sub (t 32) (k (.int .i64 1))),i 9 (.mov (t 33))])))))
def c69:ACode:=(.seq (.ops [i 10 (.mov (t 1)),i 8 (.mov (t 10))]) (.seq (.ops [i 11 (.mov (t 2)),i 12 (.bin .sub (t 11) (k (.int .i64 1))),i 9 (.mov (t 12))]) (.block 0 (.loop l69_1))))
def a69:AFunc:=⟨34,[],c69⟩
theorem n69:a69.ntmps=34:=id rfl
theorem r69:a69.results=[]:=rfl
theorem b69:a69.body=c69:=rfl
def l70_1:ACode:=(.seq (.seq (.ops [i 107 (.mov (t 12)),i 108 (.mov (t 2)),i 109 (.bin .lss (t 107) (t 108))]) (.cond (t 109) .skip (.exit 6))) (.seq (.block 7 (.seq (.seq (.drawn 0 [i 112 (.mov (t 3)),i 113 (.mov (t 0)),i 114 (.mov (t 12)),i 115 (.idxAddrS 8 (t 113) (t 114)),i 116 (.loadN 8 (t 115)),i 117 (.mov (t 0)),i 118 (.mov (t 12)),i 119 (.bin .sub (t 118) (k (.int .i64 1))),i 120 (.idxAddrS 8 (t 117) (t 119)),i 121 (.loadN 8 (t 120)),i 122 (.call .pure (t 112) [(t 116),(t 121)]),i 123 (.bin .lss (t 122) (k (.int .i64 0))),i 124 (.un .not (t 123))]) (.cond (t 124) (.exit 6) .skip)) (.drawn 0 [i 125 (.mov (t 0)),i 126 (.mov (t 12)),i 127 (.mov (t 0)),i 128 (.mov (t 12)),i 129 (.bin .sub (t 128) (k (.int .i64 1))),i 130 (.mov (t 0)),i 131 (.mov (t 12)),i 132 (.bin .sub (t 131) (k (.int .i64 1))),i 133 (.idxAddrS 8 (t 130) (t 132)),i 134 (.loadN 8 (t 133)),i 135 (.mov (t 0)),i 136 (.mov (t 12)),i 137 (.idxAddrS 8 (t 135) (t 136)),i 138 (.loadN 8 (t 137)),i 139 (.idxAddrS 8 (t 125) (t 126)),s (.store 8 (t 139) (t 134)),i 140 (.idxAddrS 8 (t 127) (t 129)),s (.store 8 (t 140) (t 138))]))) (.ops [i 110 (.mov (t 12)),i 111 (.bin .add (t 110) (k (.int .i64 1))),i 12 (.mov (t 111))])))
def l70_2:ACode:=(.seq (.seq (.ops [i 68 (.mov (t 11)),i 69 (.bin .geq (t 68) (k (.int .i64 1)))]) (.cond (t 69) .skip (.exit 4))) (.seq (.block 5 (.seq (.seq (.drawn 0 [i 72 (.mov (t 3)),i 73 (.mov (t 0)),i 74 (.mov (t 11)),i 75 (.idxAddrS 8 (t 73) (t 74)),i 76 (.loadN 8 (t 75)),i 77 (.mov (t 0)),i 78 (.mov (t 11)),i 79 (.bin .sub (t 78) (k (.int .i64 1))),i 80 (.idxAddrS 8 (t 77) (t 79)),i 81 (.loadN 8 (t 80)),i 82 (.call .pure (t 72) [(t 76),(t 81)]),i 83 (.bin .lss (t 82) (k (.int .i64 0))),i 84 (.un .not (t 83))]) (.cond (t 84) (.exit 4) .skip)) (.drawn 0 [i 85 (.mov (t 0)),i 86 (.mov (t 11)),i 87 (.mov (t 0)),i 88 (.mov (t 11)),i 89 (.bin .sub (t 88) (k (.int .i64 1))),i 90 (.mov (t 0)),i 91 (.mov (t 11)),i 92 (.bin .sub (t 91) (k (.int .i64 1))),i 93 (.idxAddrS 8 (t 90) (t 92)),i 94 (.loadN 8 (t 93)),i 95 (.mov (t 0)),i 96 (.mov (t 11)),i 97 (.idxAddrS 8 (t 95) (t 96)),i 98 (.loadN 8 (t 97)),i 99 (.idxAddrS 8 (t 85) (t 86)),s (.store 8 (t 99) (t 94)),i 100 (.idxAddrS 8 (t 87) (t 89)),s (.store 8 (t 100) (t 98))]))) (.ops [i 70 (.mov (t 11)),i 71 (.bin .sub (t 70) (k (.int .i64 1))),i 11 (.mov (t 71))])))
def l70_3:ACode:=(.seq (.seq (.drawn 0 [i 19 (.mov (t 9)),i 20 (.mov (t 2)),i 21 (.bin .lss (t 19) (t 20)),i 22 (.mov (t 21)),p 23 22 (.mov (t 3)),p 24 22 (.mov (t 0)),p 25 22 (.mov (t 9)),p 26 22 (.idxAddrS 8 (t 24) (t 25)),p 27 22 (.loadN 8 (t 26)),p 28 22 (.mov (t 0)),p 29 22 (.mov (t 9)),p 30 22 (.bin .sub (t 29) (k (.int .i64 1))),p 31 22 (.idxAddrS 8 (t 28) (t 30)),p 32 22 (.loadN 8 (t 31)),p 33 22 (.call .pure (t 23) [(t 27),(t 32)]),p 34 22 (.bin .lss (t 33) (k (.int .i64 0))),p 35 22 (.un .not (t 34)),i 36 (.pick (t 22) (t 35) (k (.bool false)))]) (.cond (t 36) .skip (.exit 2))) (.block 3 (.ops [i 37 (.mov (t 9)),i 38 (.bin .add (t 37) (k (.int .i64 1))),i 9 (.mov (t 38))])))
def l70_4:ACode:=(.seq (.seq (.ops [i 15 (.mov (t 10)),i 16 (.bin .lss (t 15) (k (.int .i64 5)))]) (.cond (t 16) .skip (.exit 0))) (.seq (.block 1 (.seq (.block 2 (.loop l70_3)) (.seq (.seq (.ops [i 39 (.mov (t 9)),i 40 (.mov (t 2)),i 41 (.bin .eql (t 39) (t 40))]) (.cond (t 41) (.seq (.ops [i 8 (.mov (k (.bool true)))]) .ret) .skip)) (.seq (.seq (.ops [i 42 (.mov (t 2)),i 43 (.mov (t 1)),i 44 (.bin .sub (t 42) (t 43)),i 45 (.bin .lss (t 44) (k (.int .i64 50)))]) (.cond (t 45) (.seq (.ops [i 8 (.mov (k (.bool false)))]) .ret) .skip)) (.seq (.drawn 0 [i 46 (.mov (t 0)),i 47 (.mov (t 9)),i 48 (.mov (t 0)),i 49 (.mov (t 9)),i 50 (.bin .sub (t 49) (k (.int .i64 1))),i 51 (.mov (t 0)),i 52 (.mov (t 9)),i 53 (.bin .sub (t 52) (k (.int .i64 1))),i 54 (.idxAddrS 8 (t 51) (t 53)),i 55 (.loadN 8 (t 54)),i 56 (.mov (t 0)),i 57 (.mov (t 9)),i 58 (.idxAddrS 8 (t 56) (t 57)),i 59 (.loadN 8 (t 58)),i 60 (.idxAddrS 8 (t 46) (t 47)),s (.store 8 (t 60) (t 55)),i 61 (.idxAddrS 8 (t 48) (t 50)),s (.store 8 (t 61) (t 59))]) (.seq (.seq (.ops [i 62 (.mov (t 9)),i 63 (.mov (t 1)),i 64 (.bin .sub (t 62) (t 63)),i 65 (.bin .geq (t 64) (k (.int .i64 2)))]) (.cond (t 65) (.seq (.ops [i 66 (.mov (t 9)),i 67 (.bin .sub (t 66) (k (.int .i64 1))),i 11 (.mov (t 67))]) (.block 4 (.loop l70_2))) .skip)) (.seq (.ops [i 101 (.mov (t 2)),i 102 (.mov (t 9)),i 103 (.bin .sub (t 101) (t 102)),i 104 (.bin .geq (t 103) (k (.int .i64 2)))]) (.cond (t 104) (.seq (.ops [i 105 (.mov (t 9)),i 106 (.bin .add (t 105) (k (.int .i64 1))),i 12 (.mov (t 106))]) (.block 6 (.loop l70_1))) .skip)))))))) (.ops [i 17 (.mov (t 10)),i 18 (.bin .add (t 17) (k (.int .i64 1))),i 10 (.mov (t 18))])))
def c70:ACode:=(.seq (.ops [i 8 (.mov (k (.bool false)))]) (.seq (.ops [i 13 (.mov (t 1)),i 14 (.bin .add (t 13) (k (.int .i64 1))),i 9 (.mov (t 14))]) (.seq (.seq (.ops [i 10 (.mov (k (.int .i64 0)))]) (.block 0 (.loop l70_4))) (.seq (.ops [i 8 (.mov (k (.bool false)))]) .ret))))
def a70:AFunc:=⟨141,[(.tmp 8)],c70⟩
theorem n70:a70.ntmps=141:=id rfl
theorem r70:a70.results=[(.tmp 8)]:=rfl
theorem b70:a70.body=c70:=rfl
def l71_1:ACode:=(.seq (.seq (.drawn 0 [i 50 (.mov (t 11)),i 51 (.mov (t 12)),i 52 (.bin .leq (t 50) (t 51)),i 53 (.mov (t 52)),p 54 53 (.mov (t 4)),p 55 53 (.mov (t 0)),p 56 53 (.mov (t 1)),p 57 53 (.idxAddrS 8 (t 55) (t 56)),p 58 53 (.loadN 8 (t 57)),p 59 53 (.mov (t 0)),p 60 53 (.mov (t 12)),p 61 53 (.idxAddrS 8 (t 59) (t 60)),p 62 53 (.loadN 8 (t 61)),p 63 53 (.call .pure (t 54) [(t 58),(t 62)]),p 64 53 (.bin .lss (t 63) (k (.int .i64 0))),i 65 (.pick (t 53) (t 64) (k (.bool false)))]) (.cond (t 65) .skip (.exit 4))) (.block 5 (.ops [i 66 (.mov (t 12)),i 67 (.bin .sub (t 66) (k (.int .i64 1))),i 12 (.mov (t 67))])))
def l71_2:ACode:=(.seq (.seq (.drawn 0 [i 31 (.mov (t 11)),i 32 (.mov (t 12)),i 33 (.bin .leq (t 31) (t 32)),i 34 (.mov (t 33)),p 35 34 (.mov (t 4)),p 36 34 (.mov (t 0)),p 37 34 (.mov (t 1)),p 38 34 (.idxAddrS 8 (t 36) (t 37)),p 39 34 (.loadN 8 (t 38)),p 40 34 (.mov (t 0)),p 41 34 (.mov (t 11)),p 42 34 (.idxAddrS 8 (t 40) (t 41)),p 43 34 (.loadN 8 (t 42)),p 44 34 (.call .pure (t 35) [(t 39),(t 43)]),p 45 34 (.bin .lss (t 44) (k (.int .i64 0))),p 46 34 (.un .not (t 45)),i 47 (.pick (t 34) (t 46) (k (.bool false)))]) (.cond (t 47) .skip (.exit 2))) (.block 3 (.ops [i 48 (.mov (t 11)),i 49 (.bin .add (t 48) (k (.int .i64 1))),i 11 (.mov (t 49))])))
def l71_3:ACode:=(.block 1 (.seq (.block 2 (.loop l71_2)) (.seq (.block 4 (.loop l71_1)) (.seq (.seq (.ops [i 68 (.mov (t 11)),i 69 (.mov (t 12)),i 70 (.bin .gtr (t 68) (t 69))]) (.cond (t 70) (.exit 0) .skip)) (.seq (.drawn 0 [i 71 (.mov (t 0)),i 72 (.mov (t 11)),i 73 (.mov (t 0)),i 74 (.mov (t 12)),i 75 (.mov (t 0)),i 76 (.mov (t 12)),i 77 (.idxAddrS 8 (t 75) (t 76)),i 78 (.loadN 8 (t 77)),i 79 (.mov (t 0)),i 80 (.mov (t 11)),i 81 (.idxAddrS 8 (t 79) (t 80)),i 82 (.loadN 8 (t 81)),i 83 (.idxAddrS 8 (t 71) (t 72)),s (.store 8 (t 83) (t 78)),i 84 (.idxAddrS 8 (t 73) (t 74)),s (.store 8 (t 84) (t 82))]) (.seq (.ops [i 85 (.mov (t 11)),i 86 (.bin .add (t 85) (k (.int .i64 1))),i 11 (.mov (t 86))]) (.ops [i 87 (.mov (t 12)),i 88 (.bin .sub (t 87) (k (.int .i64 1))),i 12 (.mov (t 88))])))))))
def c71:ACode:=(.seq (.ops [i 10 (.mov (k (.int .i64 0)))]) (.seq (.drawn 0 [i 13 (.mov (t 0)),i 14 (.mov (t 1)),i 15 (.mov (t 0)),i 16 (.mov (t 3)),i 17 (.mov (t 0)),i 18 (.mov (t 3)),i 19 (.idxAddrS 8 (t 17) (t 18)),i 20 (.loadN 8 (t 19)),i 21 (.mov (t 0)),i 22 (.mov (t 1)),i 23 (.idxAddrS 8 (t 21) (t 22)),i 24 (.loadN 8 (t 23)),i 25 (.idxAddrS 8 (t 13) (t 14)),s (.store 8 (t 25) (t 20)),i 26 (.idxAddrS 8 (t 15) (t 16)),s (.store 8 (t 26) (t 24))]) (.seq (.ops [i 27 (.mov (t 1)),i 28 (.bin .add (t 27) (k (.int .i64 1))),i 29 (.mov (t 2)),i 30 (.bin .sub (t 29) (k (.int .i64 1))),i 11 (.mov (t 28)),i 12 (.mov (t 30))]) (.seq (.block 0 (.loop l71_3)) (.seq (.ops [i 89 (.mov (t 11)),i 10 (.mov (t 89))]) .ret)))))
def a71:AFunc:=⟨90,[(.tmp 10)],c71⟩
theorem n71:a71.ntmps=90:=id rfl
theorem r71:a71.results=[(.tmp 10)]:=rfl
theorem b71:a71.body=c71:=rfl
def l72_1:ACode:=(.seq (.seq (.drawn 0 [i 123 (.mov (t 12)),i 124 (.mov (t 13)),i 125 (.bin .leq (t 123) (t 124)),i 126 (.mov (t 125)),p 127 126 (.mov (t 4)),p 128 126 (.mov (t 0)),p 129 126 (.mov (t 13)),p 130 126 (.idxAddrS 8 (t 128) (t 129)),p 131 126 (.loadN 8 (t 130)),p 132 126 (.mov (t 0)),p 133 126 (.mov (t 1)),p 134 126 (.idxAddrS 8 (t 132) (t 133)),p 135 126 (.loadN 8 (t 134)),p 136 126 (.call .pure (t 127) [(t 131),(t 135)]),p 137 126 (.bin .lss (t 136) (k (.int .i64 0))),p 138 126 (.un .not (t 137)),i 139 (.pick (t 126) (t 138) (k (.bool false)))]) (.cond (t 139) .skip (.exit 8))) (.block 9 (.ops [i 140 (.mov (t 13)),i 141 (.bin .sub (t 140) (k (.int .i64 1))),i 13 (.mov (t 141))])))
def l72_2:ACode:=(.seq (.seq (.drawn 0 [i 105 (.mov (t 12)),i 106 (.mov (t 13)),i 107 (.bin .leq (t 105) (t 106)),i 108 (.mov (t 107)),p 109 108 (.mov (t 4)),p 110 108 (.mov (t 0)),p 111 108 (.mov (t 12)),p 112 108 (.idxAddrS 8 (t 110) (t 111)),p 113 108 (.loadN 8 (t 112)),p 114 108 (.mov (t 0)),p 115 108 (.mov (t 1)),p 116 108 (.idxAddrS 8 (t 114) (t 115)),p 117 108 (.loadN 8 (t 116)),p 118 108 (.call .pure (t 109) [(t 113),(t 117)]),p 119 108 (.bin .lss (t 118) (k (.int .i64 0))),i 120 (.pick (t 108) (t 119) (k (.bool false)))]) (.cond (t 120) .skip (.exit 6))) (.block 7 (.ops [i 121 (.mov (t 12)),i 122 (.bin .add (t 121) (k (.int .i64 1))),i 12 (.mov (t 122))])))
def l72_3:ACode:=(.block 5 (.seq (.block 6 (.loop l72_2)) (.seq (.block 8 (.loop l72_1)) (.seq (.seq (.ops [i 142 (.mov (t 12)),i 143 (.mov (t 13)),i 144 (.bin .gtr (t 142) (t 143))]) (.cond (t 144) (.exit 4) .skip)) (.seq (.drawn 0 [i 145 (.mov (t 0)),i 146 (.mov (t 12)),i 147 (.mov (t 0)),i 148 (.mov (t 13)),i 149 (.mov (t 0)),i 150 (.mov (t 13)),i 151 (.idxAddrS 8 (t 149) (t 150)),i 152 (.loadN 8 (t 151)),i 153 (.mov (t 0)),i 154 (.mov (t 12)),i 155 (.idxAddrS 8 (t 153) (t 154)),i 156 (.loadN 8 (t 155)),i 157 (.idxAddrS 8 (t 145) (t 146)),s (.store 8 (t 157) (t 152)),i 158 (.idxAddrS 8 (t 147) (t 148)),s (.store 8 (t 158) (t 156))]) (.seq (.ops [i 159 (.mov (t 12)),i 160 (.bin .add (t 159) (k (.int .i64 1))),i 12 (.mov (t 160))]) (.ops [i 161 (.mov (t 13)),i 162 (.bin .sub (t 161) (k (.int .i64 1))),i 13 (.mov (t 162))])))))))
def l72_4:ACode:=(.seq (.seq (.drawn 0 [i 50 (.mov (t 12)),i 51 (.mov (t 13)),i 52 (.bin .leq (t 50) (t 51)),i 53 (.mov (t 52)),p 54 53 (.mov (t 4)),p 55 53 (.mov (t 0)),p 56 53 (.mov (t 13)),p 57 53 (.idxAddrS 8 (t 55) (t 56)),p 58 53 (.loadN 8 (t 57)),p 59 53 (.mov (t 0)),p 60 53 (.mov (t 1)),p 61 53 (.idxAddrS 8 (t 59) (t 60)),p 62 53 (.loadN 8 (t 61)),p 63 53 (.call .pure (t 54) [(t 58),(t 62)]),p 64 53 (.bin .lss (t 63) (k (.int .i64 0))),p 65 53 (.un .not (t 64)),i 66 (.pick (t 53) (t 65) (k (.bool false)))]) (.cond (t 66) .skip (.exit 2))) (.block 3 (.ops [i 67 (.mov (t 13)),i 68 (.bin .sub (t 67) (k (.int .i64 1))),i 13 (.mov (t 68))])))
def l72_5:ACode:=(.seq (.seq (.drawn 0 [i 32 (.mov (t 12)),i 33 (.mov (t 13)),i 34 (.bin .leq (t 32) (t 33)),i 35 (.mov (t 34)),p 36 35 (.mov (t 4)),p 37 35 (.mov (t 0)),p 38 35 (.mov (t 12)),p 39 35 (.idxAddrS 8 (t 37) (t 38)),p 40 35 (.loadN 8 (t 39)),p 41 35 (.mov (t 0)),p 42 35 (.mov (t 1)),p 43 35 (.idxAddrS 8 (t 41) (t 42)),p 44 35 (.loadN 8 (t 43)),p 45 35 (.call .pure (t 36) [(t 40),(t 44)]),p 46 35 (.bin .lss (t 45) (k (.int .i64 0))),i 47 (.pick (t 35) (t 46) (k (.bool false)))]) (.cond (t 47) .skip (.exit 0))) (.block 1 (.ops [i 48 (.mov (t 12)),i 49 (.bin .add (t 48) (k (.int .i64 1))),i 12 (.mov (t 49))])))
def c72:ACode:=(.seq (.ops [i 10 (.mov (k (.int .i64 0))),i 11 (.mov (k (.bool false)))]) (.seq (.drawn 0 [i 14 (.mov (t 0)),i 15 (.mov (t 1)),i 16 (.mov (t 0)),i 17 (.mov (t 3)),i 18 (.mov (t 0)),i 19 (.mov (t 3)),i 20 (.idxAddrS 8 (t 18) (t 19)),i 21 (.loadN 8 (t 20)),i 22 (.mov (t 0)),i 23 (.mov (t 1)),i 24 (.idxAddrS 8 (t 22) (t 23)),i 25 (.loadN 8 (t 24)),i 26 (.idxAddrS 8 (t 14) (t 15)),s (.store 8 (t 26) (t 21)),i 27 (.idxAddrS 8 (t 16) (t 17)),s (.store 8 (t 27) (t 25))]) (.seq (.ops [i 28 (.mov (t 1)),i 29 (.bin .add (t 28) (k (.int .i64 1))),i 30 (.mov (t 2)),i 31 (.bin .sub (t 30) (k (.int .i64 1))),i 12 (.mov (t 29)),i 13 (.mov (t 31))]) (.seq (.block 0 (.loop l72_5)) (.seq (.block 2 (.loop l72_4)) (.seq (.seq (.ops [i 69 (.mov (t 12)),i 70 (.mov (t 13)),i 71 (.bin .gtr (t 69) (t 70))]) (.cond (t 71) (.seq (.drawn 0 [i 72 (.mov (t 0)),i 73 (.mov (t 13)),i 74 (.mov (t 0)),i 75 (.mov (t 1)),i 76 (.mov (t 0)),i 77 (.mov (t 1)),i 78 (.idxAddrS 8 (t 76) (t 77)),i 79 (.loadN 8 (t 78)),i 80 (.mov (t 0)),i 81 (.mov (t 13)),i 82 (.idxAddrS 8 (t 80) (t 81)),i 83 (.loadN 8 (t 82)),i 84 (.idxAddrS 8 (t 72) (t 73)),s (.store 8 (t 84) (t 79)),i 85 (.idxAddrS 8 (t 74) (t 75)),s (.store 8 (t 85) (t 83))]) (.seq (.ops [i 86 (.mov (t 13)),i 10 (.mov (t 86)),i 11 (.mov (k (.bool true)))]) .ret)) .skip)) (.seq (.drawn 0 [i 87 (.mov (t 0)),i 88 (.mov (t 12)),i 89 (.mov (t 0)),i 90 (.mov (t 13)),i 91 (.mov (t 0)),i 92 (.mov (t 13)),i 93 (.idxAddrS 8 (t 91) (t 92)),i 94 (.loadN 8 (t 93)),i 95 (.mov (t 0)),i 96 (.mov (t 12)),i 97 (.idxAddrS 8 (t 95) (t 96)),i 98 (.loadN 8 (t 97)),i 99 (.idxAddrS 8 (t 87) (t 88)),s (.store 8 (t 99) (t 94)),i 100 (.idxAddrS 8 (t 89) (t 90)),s (.store 8 (t 100) (t 98))]) (.seq (.ops [i 101 (.mov (t 12)),i 102 (.bin .add (t 101) (k (.int .i64 1))),i 12 (.mov (t 102))]) (.seq (.ops [i 103 (.mov (t 13)),i 104 (.bin .sub (t 103) (k (.int .i64 1))),i 13 (.mov (t 104))]) (.seq (.block 4 (.loop l72_3)) (.seq (.drawn 0 [i 163 (.mov (t 0)),i 164 (.mov (t 13)),i 165 (.mov (t 0)),i 166 (.mov (t 1)),i 167 (.mov (t 0)),i 168 (.mov (t 1)),i 169 (.idxAddrS 8 (t 167) (t 168)),i 170 (.loadN 8 (t 169)),i 171 (.mov (t 0)),i 172 (.mov (t 13)),i 173 (.idxAddrS 8 (t 171) (t 172)),i 174 (.loadN 8 (t 173)),i 175 (.idxAddrS 8 (t 163) (t 164)),s (.store 8 (t 175) (t 170)),i 176 (.idxAddrS 8 (t 165) (t 166)),s (.store 8 (t 176) (t 174))]) (.seq (.ops [i 177 (.mov (t 13)),i 10 (.mov (t 177)),i 11 (.mov (k (.bool false)))]) .ret))))))))))))
def a72:AFunc:=⟨178,[(.tmp 10),(.tmp 11)],c72⟩
theorem n72:a72.ntmps=178:=id rfl
theorem r72:a72.results=[(.tmp 10),(.tmp 11)]:=rfl
theorem b72:a72.body=c72:=rfl
def c73:ACode:=(.seq (.ops [i 2 (.mov (k (.int .i64 0)))]) (.seq (.seq (.ops [i 3 (.mov (t 0)),i 4 (.bin .geq (t 3) (k (.int .u32 65536)))]) (.cond (t 4) (.seq (.ops [i 5 (.mov (t 0)),i 6 (.bin .shr (t 5) (k (.int .u64 16))),i 0 (.mov (t 6))]) (.ops [i 2 (.mov (k (.int .i64 16)))])) .skip)) (.seq (.seq (.ops [i 7 (.mov (t 0)),i 8 (.bin .geq (t 7) (k (.int .u32 256)))]) (.cond (t 8) (.seq (.ops [i 9 (.mov (t 0)),i 10 (.bin .shr (t 9) (k (.int .u64 8))),i 0 (.mov (t 10))]) (.ops [i 11 (.mov (t 2)),i 12 (.bin .add (t 11) (k (.int .i64 8))),i 2 (.mov (t 12))])) .skip)) (.seq (.ops [i 13 (.mov (t 2)),i 14 (.mov (t 0)),i 15 (.conv .u8 (t 14)),i 16 (.idxStr (k (.string ⟨#[0,1,2,2,3,3,3,3,4,4,4,4,4,4,4,4,5,5,5,5,5,5,5,5,5,5,5,5,5,5,5,5,6,6,6,6,6,6,6,6,6,6,6,6,6,6,6,6,6,6,6,6,6,6,6,6,6,6,6,6,6,6,6,6,7,7,7,7,7,7,7,7,7,7,7,7,7,7,7,7,7,7,7,7,7,7,7,7,7,7,7,7,7,7,7,7,7,7,7,7,7,7,7,7,7,7,7,7,7,7,7,7,7,7,7,7,7,7,7,7,7,7,7,7,7,7,7,7,8,8,8,8,8,8,8,8,8,8,8,8,8,8,8,8,8,8,8,8,8,8,8,8,8,8,8,8,8,8,8,8,8,8,8,8,8,8,8,8,8,8,8,8,8,8,8,8,8,8,8,8,8,8,8,8,8,8,8,8,8,8,8,8,8,8,8,8,8,8,8,8,8,8,8,8,8,8,8,8,8,8,8,8,8,8,8,8,8,8,8,8,8,8,8,8,8,8,8,8,8,8,8,8,8,8,8,8,8,8,8,8,8,8,8,8,8,8,8,8,8,8,8,8,8,8,8,8]⟩)) (t 15)),i 17 (.conv .i64 (t 16)),i 18 (.bin .add (t 13) (t 17)),i 2 (.mov (t 18))]) .ret))))
def a73:AFunc:=⟨19,[(.tmp 2)],c73⟩
def c74:ACode:=(.seq (.ops [i 2 (.mov (k (.int .i64 0)))]) (.seq (.seq (.ops [i 3 (.mov (t 0)),i 4 (.bin .geq (t 3) (k (.int .u64 4294967296)))]) (.cond (t 4) (.seq (.ops [i 5 (.mov (t 0)),i 6 (.bin .shr (t 5) (k (.int .u64 32))),i 0 (.mov (t 6))]) (.ops [i 2 (.mov (k (.int .i64 32)))])) .skip)) (.seq (.seq (.ops [i 7 (.mov (t 0)),i 8 (.bin .geq (t 7) (k (.int .u64 65536)))]) (.cond (t 8) (.seq (.ops [i 9 (.mov (t 0)),i 10 (.bin .shr (t 9) (k (.int .u64 16))),i 0 (.mov (t 10))]) (.ops [i 11 (.mov (t 2)),i 12 (.bin .add (t 11) (k (.int .i64 16))),i 2 (.mov (t 12))])) .skip)) (.seq (.seq (.ops [i 13 (.mov (t 0)),i 14 (.bin .geq (t 13) (k (.int .u64 256)))]) (.cond (t 14) (.seq (.ops [i 15 (.mov (t 0)),i 16 (.bin .shr (t 15) (k (.int .u64 8))),i 0 (.mov (t 16))]) (.ops [i 17 (.mov (t 2)),i 18 (.bin .add (t 17) (k (.int .i64 8))),i 2 (.mov (t 18))])) .skip)) (.seq (.ops [i 19 (.mov (t 2)),i 20 (.mov (t 0)),i 21 (.conv .u8 (t 20)),i 22 (.idxStr (k (.string ⟨#[0,1,2,2,3,3,3,3,4,4,4,4,4,4,4,4,5,5,5,5,5,5,5,5,5,5,5,5,5,5,5,5,6,6,6,6,6,6,6,6,6,6,6,6,6,6,6,6,6,6,6,6,6,6,6,6,6,6,6,6,6,6,6,6,7,7,7,7,7,7,7,7,7,7,7,7,7,7,7,7,7,7,7,7,7,7,7,7,7,7,7,7,7,7,7,7,7,7,7,7,7,7,7,7,7,7,7,7,7,7,7,7,7,7,7,7,7,7,7,7,7,7,7,7,7,7,7,7,8,8,8,8,8,8,8,8,8,8,8,8,8,8,8,8,8,8,8,8,8,8,8,8,8,8,8,8,8,8,8,8,8,8,8,8,8,8,8,8,8,8,8,8,8,8,8,8,8,8,8,8,8,8,8,8,8,8,8,8,8,8,8,8,8,8,8,8,8,8,8,8,8,8,8,8,8,8,8,8,8,8,8,8,8,8,8,8,8,8,8,8,8,8,8,8,8,8,8,8,8,8,8,8,8,8,8,8,8,8,8,8,8,8,8,8,8,8,8,8,8,8,8,8,8,8,8,8]⟩)) (t 21)),i 23 (.conv .i64 (t 22)),i 24 (.bin .add (t 19) (t 23)),i 2 (.mov (t 24))]) .ret)))))
def a74:AFunc:=⟨25,[(.tmp 2)],c74⟩
theorem n74:a74.ntmps=25:=id rfl
theorem r74:a74.results=[(.tmp 2)]:=rfl
theorem b74:a74.body=c74:=rfl
def l75_1:ACode:=(.block 1 (.seq (.ops [i 13 (.mov (t 10)),i 14 (.bin .mul (k (.int .i64 2)) (t 13)),i 15 (.bin .add (t 14) (k (.int .i64 1))),i 11 (.mov (t 15))]) (.seq (.seq (.ops [i 16 (.mov (t 11)),i 17 (.mov (t 2)),i 18 (.bin .geq (t 16) (t 17))]) (.cond (t 18) (.exit 0) .skip)) (.seq (.seq (.drawn 0 [i 19 (.mov (t 11)),i 20 (.bin .add (t 19) (k (.int .i64 1))),i 21 (.mov (t 2)),i 22 (.bin .lss (t 20) (t 21)),i 23 (.mov (t 22)),p 24 23 (.mov (t 4)),p 25 23 (.mov (t 0)),p 26 23 (.mov (t 3)),p 27 23 (.mov (t 11)),p 28 23 (.bin .add (t 26) (t 27)),p 29 23 (.idxAddrS 8 (t 25) (t 28)),p 30 23 (.loadN 8 (t 29)),p 31 23 (.mov (t 0)),p 32 23 (.mov (t 3)),p 33 23 (.mov (t 11)),p 34 23 (.bin .add (t 32) (t 33)),p 35 23 (.bin .add (t 34) (k (.int .i64 1))),p 36 23 (.idxAddrS 8 (t 31) (t 35)),p 37 23 (.loadN 8 (t 36)),p 38 23 (.call .pure (t 24) [(t 30),(t 37)]),p 39 23 (.bin .lss (t 38) (k (.int .i64 0))),i 40 (.pick (t 23) (t 39) (k (.bool false)))]) (.cond (t 40) (.ops [i 41 (.mov (t 11)),i 42 (.bin .add (t 41) (k (.int .i64 1))),i 11 (.mov (t 42))]) .skip)) (.seq (.seq (.drawn 0 [i 43 (.mov (t 4)),i 44 (.mov (t 0)),i 45 (.mov (t 3)),i 46 (.mov (t 10)),i 47 (.bin .add (t 45) (t 46)),i 48 (.idxAddrS 8 (t 44) (t 47)),i 49 (.loadN 8 (t 48)),i 50 (.mov (t 0)),i 51 (.mov (t 3)),i 52 (.mov (t 11)),i 53 (.bin .add (t 51) (t 52)),i 54 (.idxAddrS 8 (t 50) (t 53)),i 55 (.loadN 8 (t 54)),i 56 (.call .pure (t 43) [(t 49),(t 55)]),i 57 (.bin .lss (t 56) (k (.int .i64 0))),i 58 (.un .not (t 57))]) (.cond (t 58) .ret .skip)) (.seq (.drawn 0 [i 59 (.mov (t 0)),i 60 (.mov (t 3)),i 61 (.mov (t 10)),i 62 (.bin .add (t 60) (t 61)),i 63 (.mov (t 0)),i 64 (.mov (t 3)),i 65 (.mov (t 11)),i 66 (.bin .add (t 64) (t 65)),i 67 (.mov (t 0)),i 68 (.mov (t 3)),i 69 (.mov (t 11)),i 70 (.bin .add (t 68) (t 69)),i 71 (.idxAddrS 8 (t 67) (t 70)),i 72 (.loadN 8 (t 71)),i 73 (.mov (t 0)),i 74 (.mov (t 3)),i 75 (.mov (t 10)),i 76 (.bin .add (t 74) (t 75)),i 77 (.idxAddrS 8 (t 73) (t 76)),i 78 (.loadN 8 (t 77)),i 79 (.idxAddrS 8 (t 59) (t 62)),s (.store 8 (t 79) (t 72)),i 80 (.idxAddrS 8 (t 63) (t 66)),s (.store 8 (t 80) (t 78))]) (.ops [i 81 (.mov (t 11)),i 10 (.mov (t 81))])))))))
def c75:ACode:=(.seq (.ops [i 12 (.mov (t 1)),i 10 (.mov (t 12))]) (.block 0 (.loop l75_1)))
def a75:AFunc:=⟨82,[],c75⟩
theorem n75:a75.ntmps=82:=id rfl
theorem r75:a75.results=[]:=rfl
theorem b75:a75.body=c75:=rfl
def c76:ACode:=(.seq (.ops [i 2 (.mov (k (.int .u64 0)))]) (.seq (.ops [i 3 (.mov (t 0)),i 4 (.conv .u64 (t 3)),i 5 (.call .any (.func 64) [(t 4)]),i 6 (.bin .shl (k (.int .u64 1)) (t 5)),i 2 (.mov (t 6))]) .ret))
def a76:AFunc:=⟨7,[(.tmp 2)],c76⟩
theorem n76:a76.ntmps=7:=id rfl
theorem r76:a76.results=[(.tmp 2)]:=rfl
theorem b76:a76.body=c76:=rfl
def c77:ACode:=(.seq (.ops [i 2 (.mov (k (.int .u64 0)))]) (.seq (.drawn 0 [i 3 (.mov (t 0)),i 4 (.nilCheck (t 3)),i 5 (.load1 (t 4)),i 6 (.mov (t 0)),i 7 (.nilCheck (t 6)),i 8 (.load1 (t 7)),i 9 (.bin .shl (t 8) (k (.int .u64 13))),i 10 (.bin .xor (t 5) (t 9)),i 11 (.nilCheck (t 3)),s (.store 1 (t 11) (t 10))]) (.seq (.drawn 0 [i 12 (.mov (t 0)),i 13 (.nilCheck (t 12)),i 14 (.load1 (t 13)),i 15 (.mov (t 0)),i 16 (.nilCheck (t 15)),i 17 (.load1 (t 16)),i 18 (.bin .shr (t 17) (k (.int .u64 7))),i 19 (.bin .xor (t 14) (t 18)),i 20 (.nilCheck (t 12)),s (.store 1 (t 20) (t 19))]) (.seq (.drawn 0 [i 21 (.mov (t 0)),i 22 (.nilCheck (t 21)),i 23 (.load1 (t 22)),i 24 (.mov (t 0)),i 25 (.nilCheck (t 24)),i 26 (.load1 (t 25)),i 27 (.bin .shl (t 26) (k (.int .u64 17))),i 28 (.bin .xor (t 23) (t 27)),i 29 (.nilCheck (t 21)),s (.store 1 (t 29) (t 28))]) (.seq (.ops [i 30 (.mov (t 0)),i 31 (.nilCheck (t 30)),i 32 (.load1 (t 31)),i 2 (.mov (t 32))]) .ret)))))
def a77:AFunc:=⟨33,[(.tmp 2)],c77⟩
theorem n77:a77.ntmps=33:=id rfl
theorem r77:a77.results=[(.tmp 2)]:=rfl
theorem b77:a77.body=c77:=rfl
def c78:ACode:=(.seq (.ops [i 8 (.mov (k (.int .i64 0)))]) (.seq (.ops [i 9 (.mov (t 0)),i 10 (.mov (t 1)),i 11 (.bin .sub (t 10) (k (.int .i64 1))),i 12 (.mov (t 1)),i 13 (.mov (t 1)),i 14 (.bin .add (t 13) (k (.int .i64 1))),i 15 (.mov (t 2)),i 16 (.mov (t 3)),i 17 (.call .any (.func 79) [(t 9),(t 11),(t 12),(t 14),(t 15),(t 16)]),i 8 (.mov (t 17))]) .ret))
def a78:AFunc:=⟨18,[(.tmp 8)],c78⟩
theorem n78:a78.ntmps=18:=id rfl
theorem r78:a78.results=[(.tmp 8)]:=rfl
theorem b78:a78.body=c78:=rfl
def c79:ACode:=(.seq (.ops [i 12 (.mov (k (.int .i64 0)))]) (.seq (.ops [i 14 (.mov (t 0)),i 15 (.mov (t 1)),i 16 (.mov (t 2)),i 17 (.mov (t 4)),i 18 (.mov (t 5)),i 19 (.call .any (.func 80) [(t 14),(t 15),(t 16),(t 17),(t 18)]),i 13 (.mov (t 19)),i 20 (.extract 0 (t 13)),i 21 (.extract 1 (t 13)),i 1 (.mov (t 20)),i 2 (.mov (t 21))]) (.seq (.ops [i 23 (.mov (t 0)),i 24 (.mov (t 2)),i 25 (.mov (t 3)),i 26 (.mov (t 4)),i 27 (.mov (t 5)),i 28 (.call .any (.func 80) [(t 23),(t 24),(t 25),(t 26),(t 27)]),i 22 (.mov (t 28)),i 29 (.extract 0 (t 22)),i 30 (.extract 1 (t 22)),i 2 (.mov (t 29)),i 3 (.mov (t 30))]) (.seq (.ops [i 32 (.mov (t 0)),i 33 (.mov (t 1)),i 34 (.mov (t 2)),i 35 (.mov (t 4)),i 36 (.mov (t 5)),i 37 (.call .any (.func 80) [(t 32),(t 33),(t 34),(t 35),(t 36)]),i 31 (.mov (t 37)),i 38 (.extract 0 (t 31)),i 39 (.extract 1 (t 31)),i 1 (.mov (t 38)),i 2 (.mov (t 39))]) (.seq (.ops [i 40 (.mov (t 2)),i 12 (.mov (t 40))]) .ret)))))
def a79:AFunc:=⟨41,[(.tmp 12)],c79⟩
theorem n79:a79.ntmps=41:=id rfl
theorem r79:a79.results=[(.tmp 12)]:=rfl
theorem b79:a79.body=c79:=rfl
def c80:ACode:=(.seq (.ops [i 10 (.mov (k (.int .i64 0))),i 11 (.mov (k (.int .i64 0)))]) (.seq (.seq (.drawn 0 [i 12 (.mov (t 4)),i 13 (.mov (t 0)),i 14 (.mov (t 2)),i 15 (.idxAddrS 8 (t 13) (t 14)),i 16 (.loadN 8 (t 15)),i 17 (.mov (t 0)),i 18 (.mov (t 1)),i 19 (.idxAddrS 8 (t 17) (t 18)),i 20 (.loadN 8 (t 19)),i 21 (.call .pure (t 12) [(t 16),(t 20)]),i 22 (.bin .lss (t 21) (k (.int .i64 0)))]) (.cond (t 22) (.seq (.ops [i 23 (.mov (t 3)),i 24 (.nilCheck (t 23)),i 25 (.load1 (t 24)),i 26 (.bin .add (t 25) (k (.int .i64 1))),i 27 (.nilCheck (t 23)),s (.store 1 (t 27) (t 26))]) (.seq (.ops [i 28 (.mov (t 2)),i 29 (.mov (t 1)),i 10 (.mov (t 28)),i 11 (.mov (t 29))]) .ret)) .skip)) (.seq (.ops [i 30 (.mov (t 1)),i 31 (.mov (t 2)),i 10 (.mov (t 30)),i 11 (.mov (t 31))]) .ret)))
def a80:AFunc:=⟨32,[(.tmp 10),(.tmp 11)],c80⟩
theorem n80:a80.ntmps=32:=id rfl
theorem r80:a80.results=[(.tmp 10),(.tmp 11)]:=rfl
theorem b80:a80.body=c80:=rfl
def table:List (FuncId×AFunc):=[(3,a3),(4,a4),(5,a5),(6,a6),(7,a7),(8,a8),(9,a9),(10,a10),(11,a11),(12,a12),(13,a13),(14,a14),(15,a15),(16,a16),(17,a17),(18,a18),(19,a19),(20,a20),(21,a21),(22,a22),(23,a23),(24,a24),(25,a25),(26,a26),(27,a27),(28,a28),(29,a29),(30,a30),(31,a31),(32,a32),(33,a33),(34,a34),(35,a35),(36,a36),(37,a37),(38,a38),(39,a39),(40,a40),(41,a41),(42,a42),(43,a43),(44,a44),(45,a45),(46,a46),(47,a47),(48,a48),(49,a49),(50,a50),(51,a51),(52,a52),(53,a53),(54,a54),(55,a55),(56,a56),(57,a57),(58,a58),(59,a59),(60,a60),(61,a61),(62,a62),(63,a63),(64,a64),(65,a65),(66,a66),(67,a67),(68,a68),(69,a69),(70,a70),(71,a71),(72,a72),(73,a73),(74,a74),(75,a75),(76,a76),(77,a77),(78,a78),(79,a79),(80,a80)]
def tr (g:FuncId):Option AFunc:=table.lookup g
theorem e3:tr 3=some a3:=rfl
theorem e4:tr 4=some a4:=rfl
theorem e5:tr 5=some a5:=rfl
theorem e6:tr 6=some a6:=rfl
theorem e7:tr 7=some a7:=rfl
theorem e8:tr 8=some a8:=rfl
theorem e9:tr 9=some a9:=rfl
theorem e10:tr 10=some a10:=rfl
theorem e11:tr 11=some a11:=rfl
theorem e12:tr 12=some a12:=rfl
theorem e13:tr 13=some a13:=rfl
theorem e14:tr 14=some a14:=rfl
theorem e15:tr 15=some a15:=rfl
theorem e16:tr 16=some a16:=rfl
theorem e17:tr 17=some a17:=rfl
theorem e18:tr 18=some a18:=rfl
theorem e19:tr 19=some a19:=rfl
theorem e20:tr 20=some a20:=rfl
theorem e21:tr 21=some a21:=rfl
theorem e22:tr 22=some a22:=rfl
theorem e23:tr 23=some a23:=rfl
theorem e24:tr 24=some a24:=rfl
theorem e25:tr 25=some a25:=rfl
theorem e26:tr 26=some a26:=rfl
theorem e27:tr 27=some a27:=rfl
theorem e28:tr 28=some a28:=rfl
theorem e29:tr 29=some a29:=rfl
theorem e30:tr 30=some a30:=rfl
theorem e31:tr 31=some a31:=rfl
theorem e32:tr 32=some a32:=rfl
theorem e33:tr 33=some a33:=rfl
theorem e34:tr 34=some a34:=rfl
theorem e35:tr 35=some a35:=rfl
theorem e36:tr 36=some a36:=rfl
theorem e37:tr 37=some a37:=rfl
theorem e38:tr 38=some a38:=rfl
theorem e39:tr 39=some a39:=rfl
theorem e40:tr 40=some a40:=rfl
theorem e41:tr 41=some a41:=rfl
theorem e42:tr 42=some a42:=rfl
theorem e43:tr 43=some a43:=rfl
theorem e44:tr 44=some a44:=rfl
theorem e45:tr 45=some a45:=rfl
theorem e46:tr 46=some a46:=rfl
theorem e47:tr 47=some a47:=rfl
theorem e48:tr 48=some a48:=rfl
theorem e49:tr 49=some a49:=rfl
theorem e50:tr 50=some a50:=rfl
theorem e51:tr 51=some a51:=rfl
theorem e52:tr 52=some a52:=rfl
theorem e53:tr 53=some a53:=rfl
theorem e54:tr 54=some a54:=rfl
theorem e55:tr 55=some a55:=rfl
theorem e56:tr 56=some a56:=rfl
theorem e57:tr 57=some a57:=rfl
theorem e58:tr 58=some a58:=rfl
theorem e59:tr 59=some a59:=rfl
theorem e60:tr 60=some a60:=rfl
theorem e61:tr 61=some a61:=rfl
theorem e62:tr 62=some a62:=rfl
theorem e63:tr 63=some a63:=rfl
theorem e64:tr 64=some a64:=rfl
theorem e65:tr 65=some a65:=rfl
theorem e66:tr 66=some a66:=rfl
theorem e67:tr 67=some a67:=rfl
theorem e68:tr 68=some a68:=rfl
theorem e69:tr 69=some a69:=rfl
theorem e70:tr 70=some a70:=rfl
theorem e71:tr 71=some a71:=rfl
theorem e72:tr 72=some a72:=rfl
theorem e74:tr 74=some a74:=rfl
theorem e75:tr 75=some a75:=rfl
theorem e76:tr 76=some a76:=rfl
theorem e77:tr 77=some a77:=rfl
theorem e78:tr 78=some a78:=rfl
theorem e79:tr 79=some a79:=rfl
theorem e80:tr 80=some a80:=rfl
end Go.Proofs.Ytfedceicnjnefac.Fn

set_option linter.unusedVariables false
set_option linter.unusedSimpArgs false
namespace Go.AM
section
variable {α:Type}
def gt [Inhabited α] (l:List α) (i:Nat):α:=l.getD i default
theorem gt_lt [Inhabited α] {l:List α} {i:Nat} (h:i<l.length):gt l i=l[i]:=by simp [gt,List.getD_eq_getElem?_getD,List.getElem?_eq_getElem h]
theorem gt_cons_zero [Inhabited α] {x:α} {l:List α}:gt (x::l) 0=x:=rfl
theorem gt_cons_succ [Inhabited α] {x:α} {l:List α} {i:Nat}:gt (x::l) (i+1)=gt l i:=by simp [gt]
theorem gt_append_left [Inhabited α] {l r:List α} {i:Nat} (h:i<l.length):gt (l++r) i=gt l i:=by
 simp [gt,List.getD_eq_getElem?_getD,List.getElem?_append_left h]
theorem gt_append_len [Inhabited α] {l r:List α} {i:Nat}:gt (l++r) (l.length+i)=gt r i:=by
 unfold gt
 rw [List.getD_eq_getElem?_getD,List.getD_eq_getElem?_getD,List.getElem?_append_right (by omega),Nat.add_sub_cancel_left]
theorem gt_mem [Inhabited α] {l:List α} {i:Nat} (h:i<l.length):gt l i∈l:=by rw [gt_lt h];exact List.getElem_mem h
def addrOf (p:Option Addr):Addr:=p.getD ⟨0,0,none⟩
def elt (p:Option Addr) (e i:Nat):Addr:=(addrOf p).add (i*e)
def Sl (H:Heap) (enc:α→List Value) (e:Nat) (p:Option Addr) (l:List α):Prop:=
 match p with
 | none=>l=[]
 | some a=>a.spot=none∧(l≠[]→∃ro c,hget H a.block=.cells ro c∧a.off+l.length*e≤c.length∧(c.drop a.off).take (l.length*e)=l.flatMap enc)
theorem hget_alive {H:Heap} {i:Nat} {ro:Bool} {c:List Value} (h:hget H i=.cells ro c):i<H.length:=by
 rcases Nat.lt_or_ge i H.length with h1 | h1
 ·exact h1
 ·unfold hget at h
  rw [List.getD_eq_getElem?_getD,List.getElem?_eq_none h1] at h
  cases h
def cellsOf:Blk→List Value | .cells _ c=>c | _=>[]
def isCells:Blk→Bool | .cells _ _=>true | _=>false
theorem Sl.app {H:Heap} {enc:α→List Value} {e:Nat} {p:Option Addr} {l:List α} (h:Sl H enc e p l) (X:Heap):Sl (H++X) enc e p l:=by
 cases p with
 | none=>exact h
 | some a=>
   refine ⟨h.1,fun hn=>?_⟩
   obtain ⟨ro,c,h2,h3⟩:=h.2 hn
   exact ⟨ro,c,by rw [hget_old (hget_alive h2)];exact h2,h3⟩
theorem Sl.sim {H G:Heap} {enc:α→List Value} {e:Nat} {p:Option Addr} {l:List α} (h:Sl H enc e p l) (hG:∀b ro c,hget H b=.cells ro c→hget G b=.cells ro c):Sl G enc e p l:=by
 cases p with
 | none=>exact h
 | some a=>
   refine ⟨h.1,fun hn=>?_⟩
   obtain ⟨ro,c,h2,h3⟩:=h.2 hn
   exact ⟨ro,c,hG _ _ _ h2,h3⟩
theorem flat_len {enc:α→List Value} {e:Nat} (he:∀x,(enc x).length=e) (l:List α):(l.flatMap enc).length=l.length*e:=by
 induction l with
 | nil=>simp
 | cons x l ih=>simp [ih,he,Nat.add_mul,Nat.add_comm]
theorem flat_drop {enc:α→List Value} {e:Nat} (he:∀x,(enc x).length=e):∀(l:List α) (i:Nat),i<l.length→[Inhabited α]→((l.flatMap enc).drop (i*e)).take e=enc (gt l i)
 | [],i,h,_=>by simp at h
 | x::l,0,_,_=>by
   rw [List.flatMap_cons,Nat.zero_mul,List.drop_zero,List.take_append_of_le_length (by rw [he];exact Nat.le_refl _),List.take_of_length_le (by rw [he];exact Nat.le_refl _)]
   rfl
 | x::l,i+1,h,_=>by
   rw [List.flatMap_cons,List.drop_append,List.drop_eq_nil_of_le (by rw [he,Nat.add_mul];omega),List.nil_append,he,show (i+1)*e-e=i*e by rw [Nat.add_mul];omega]
   have:=flat_drop he l i (by simpa using h)
   rw [this,gt_cons_succ]
variable [Inhabited α] {H:Heap} {enc:α→List Value} {e:Nat} {p:Option Addr} {l:List α}
theorem Sl.loadCells (h:Sl H enc e p l) (he:∀x,(enc x).length=e) {i:Nat} (hi:i<l.length):AM.loadCells H (elt p e i) e=some (enc (gt l i)):=by
 cases p with
 | none=>simp only [Sl] at h;subst h;simp at hi
 | some a=>
   obtain ⟨b,o,s⟩:=a
   obtain ⟨ro,c,h2,h4,h3⟩:=h.2 (by rintro rfl;simp at hi)
   have h1:=h.1
   simp only at h1 h2 h3 h4;subst h1
   have hie:i*e+e≤l.length*e:=by
    have:=Nat.mul_le_mul_right e (Nat.succ_le_of_lt hi)
    rw [Nat.succ_mul] at this;exact this
   have hf:=flat_drop he l i hi
   rw [←h3,List.drop_take,List.take_take,List.drop_drop] at hf
   simp only [elt,addrOf,Option.getD_some,addr_add,AM.loadCells,h2]
   rw [if_pos (by omega),←hf,Nat.min_eq_left (by omega)]
theorem Sl.loadCell (h:Sl H enc e p l) (he:∀x,(enc x).length=e) {i j:Nat} (hi:i<l.length) (hj:j<e):AM.loadCell H ((elt p e i).add j)=(enc (gt l i))[j]?:=by
 have h0:=h.loadCells he hi
 cases p with
 | none=>simp only [Sl] at h;subst h;simp at hi
 | some a=>
   obtain ⟨b,o,s⟩:=a
   obtain ⟨ro,c,h2,h4,h3⟩:=h.2 (by rintro rfl;simp at hi)
   have h1:=h.1
   simp only at h1 h2 h3 h4;subst h1
   simp only [elt,addrOf,Option.getD_some,addr_add,AM.loadCells,h2] at h0
   split at h0
   ·simp only [Option.some.injEq] at h0
    rw [←h0]
    simp only [elt,addrOf,Option.getD_some,addr_add,AM.loadCell,h2,List.getElem?_take,List.getElem?_drop,if_pos hj,Nat.add_assoc]
   ·cases h0
theorem Sl.loadCell0 (h:Sl H enc e p l) (he:∀x,(enc x).length=e) {i:Nat} (hi:i<l.length) (hj:0<e):AM.loadCell H (elt p e i)=(enc (gt l i))[0]?:=by
 rw [←h.loadCell he hi hj]
 congr 1
omit [Inhabited α] in
theorem Sl.idx (h:Sl H enc e p l) {i c:Nat} {k:IntKind} {H1:Heap} (hi:i<l.length):idxK e (.slice p l.length c) (.int k (i:Int)) H1=some (.pointer (some (elt p e i)),H1):=by
 cases p with
 | none=>simp only [Sl] at h;subst h;simp at hi
 | some a=>exact idxK_nat hi
end
theorem hget_set_eq {X:Heap} {j:Nat} {b:Blk} (h:j<X.length):hget (X.set j b) j=b:=by
 unfold hget;rw [List.getD_eq_getElem?_getD,List.getElem?_set_self h];rfl
theorem hget_set_ne {X:Heap} {i j:Nat} {b:Blk} (h:i≠j):hget (X.set j b) i=hget X i:=by
 unfold hget;rw [List.getD_eq_getElem?_getD,List.getD_eq_getElem?_getD,List.getElem?_set_ne (Ne.symm h)]
theorem find_drop {α:Type} [Inhabited α] {l:List α} {i:Nat} {w:α→Bool} (h:i<l.length):(l.drop i).find? w=if w (gt l i)=true then some (gt l i) else (l.drop (i+1)).find? w:=by
 rw [List.drop_eq_getElem_cons h,List.find?_cons,gt_lt h]
 split<;>simp_all
theorem idxK_zero {e len c:Nat} {p:Addr} {k:IntKind} {H:Heap} (h:0<len):idxK e (.slice (some p) len c) (.int k 0) H=some (.pointer (some (p.add 0)),H):=by
 have:=idxK_nat (e:=e) (n:=0) (len:=len) (c:=c) (p:=p) (k:=k) (H:=H) h
 rw [Nat.zero_mul] at this
 exact this
theorem keyOk_int {k:IntKind} {n:Int}:keyOk (.int k) (.int k n)=true:=by simp [keyOk]
theorem keyOk_str {b:ByteArray}:keyOk .str (.string b)=true:=id rfl
theorem findKey_nil {v:Value} {i:Nat}:findKey v [] i=some none:=rfl
theorem findKey_int {k:IntKind} {a b:Int} {v:Value} {es:List (Value×Value)} {i:Nat}:findKey (.int k a) ((.int k b,v)::es) i=if a=b then some (some (i,v)) else findKey (.int k a) es (i+1):=by
 simp only [findKey,keyEq,if_true]
 by_cases h:a=b
 ·simp [h]
 ·have e:(a == b)=false:=by simpa using h
  simp [h,e]
theorem mapEntries_some {H:Heap} {r:Nat}:mapEntries H (.map (some r))=(match hget H r with | .map es=>some es | _=>none):=rfl
theorem mapEntries_none {H:Heap}:mapEntries H (.map none)=some []:=rfl
theorem findKey_no {α:Type} {k:IntKind} {a:Int} {f:α→Int} {g:α→Value}:∀{l:List α} {i:Nat},(∀x∈l,f x≠a)→findKey (.int k a) (l.map fun x=>(.int k (f x),g x)) i=some none
 | [],_,_=>rfl
 | x::l,i,h=>by
   rw [List.map_cons,findKey_int,if_neg (fun e=>h x (by simp) e.symm)]
   exact findKey_no fun y hy=>h y (by simp [hy])
theorem findKey_yes {α:Type} {k:IntKind} {a:Int} {f:α→Int} {g:α→Value} {v:Value}:∀{l:List α} {i:Nat},(∃x∈l,f x=a)→(∀x∈l,f x=a→g x=v)→∃j,findKey (.int k a) (l.map fun x=>(.int k (f x),g x)) i=some (some (j,v))
 | [],_,h,_=>by obtain ⟨x,hx,_⟩:=h;simp at hx
 | x::l,i,h,hv=>by
   rw [List.map_cons,findKey_int]
   by_cases e:a=f x
   ·exact ⟨i,by rw [if_pos e,hv x (by simp) e.symm]⟩
   ·rw [if_neg e]
    refine findKey_yes ?_ fun y hy=>hv y (by simp [hy])
    obtain ⟨y,hy,hy2⟩:=h
    rcases List.mem_cons.1 hy with rfl | hy
    ·exact absurd hy2.symm e
    ·exact ⟨y,hy,hy2⟩
def Ext (H G:Heap):Prop:=∃X,G=H++X
section
variable {H G:Heap}
theorem Ext.refl:Ext H H:=⟨[],by simp⟩
theorem Ext.app (h:Ext H G) {X:Heap}:Ext H (G++X):=by
 obtain ⟨Y,rfl⟩:=h
 exact ⟨Y++X,by simp⟩
theorem Ext.trans {K:Heap} (h:Ext H G) (k:Ext G K):Ext H K:=by
 obtain ⟨Y,rfl⟩:=k
 exact h.app
theorem Ext.len (h:Ext H G):H.length≤G.length:=by
 obtain ⟨Y,rfl⟩:=h
 simp
theorem Ext.sl {α:Type} {enc:α→List Value} {e:Nat} {p:Option Addr} {l:List α} (h:Ext H G) (hs:Sl H enc e p l):Sl G enc e p l:=by
 obtain ⟨Y,rfl⟩:=h
 exact hs.app Y
theorem Ext.cells (h:Ext H G) {b:Nat} {ro:Bool} {c:List Value} (hs:hget H b=.cells ro c):hget G b=.cells ro c:=by
 obtain ⟨Y,rfl⟩:=h
 rw [hget_old (hget_alive hs)];exact hs
end
section
variable {E:Env} {af:AFunc} {lim:Nat} {K:List AItem} {fr:Nat→Value} {H:Heap} {R:Value→Heap→Prop} {b:ACode}
theorem Ret_rounds {S:Type} (m:S→Nat) (I:S→(Nat→Value)→Heap→Prop) (s:S) (h0:I s fr H)
  (step:∀s fr H,I s fr H→(∀s' fr' H',I s' fr' H'→m s'<m s→Ret E af lim (.inLoop b::K) fr' H' R)→Ret E af lim (.code b::.inLoop b::K) fr H R) :
  Ret E af lim (.code (.loop b)::K) fr H R:=by
 rw [Ret_loop,←Ret_inLoop]
 have key:∀n s fr H,m s≤n→I s fr H→Ret E af lim (.inLoop b::K) fr H R:=by
  intro n
  induction n with
  | zero=>
    intro s fr H hm hi
    rw [Ret_inLoop]
    exact step s fr H hi fun s' fr' H' _ hl=>absurd hl (by omega)
  | succ n ih=>
    intro s fr H hm hi
    rw [Ret_inLoop]
    exact step s fr H hi fun s' fr' H' hi' hl=>ih s' fr' H' (by omega) hi'
 exact key _ s fr H (Nat.le_refl _) h0
theorem CallR.mono {mp:Bool} {g:FuncId} {as:List Value} {Q Q':Value→Heap→Prop} (h:CallR E mp lim g as H Q) (hq:∀v H',Q v H'→Q' v H'):CallR E mp lim g as H Q':=by
 obtain ⟨n,L,h1,h2⟩:=h
 exact ⟨n,L,h1,h2.mono hq⟩
theorem Ret.mono {k:List AItem} {R':Value→Heap→Prop} (h:Ret E af lim k fr H R) (hq:∀v H',R v H'→R' v H'):Ret E af lim k fr H R':=by
 obtain ⟨n,L,h1,h2⟩:=h
 exact ⟨n,L,h1,h2.mono hq⟩
theorem Ret_pad {k:List AItem} (h:Ret E af lim k fr (H++[]) R):Ret E af lim k fr H R:=by rwa [List.append_nil] at h
theorem Ret_exit_eq {k k':List AItem} {id:Nat} (h:aExit id k=aExit id k'):Ret E af lim (.code (.exit id)::k) fr H R=Ret E af lim (.code (.exit id)::k') fr H R:=by
 cases hk:aExit id k' with
 | some K'=>rw [Ret_exit (h.trans hk),Ret_exit hk]
 | none=>
   have key:∀{k:List AItem},aExit id k=none→¬Ret E af lim (.code (.exit id)::k) fr H R:=by
    rintro k hk ⟨n,L,hx,_⟩
    cases n with
    | zero=>simp [aRun] at hx
    | succ n=>rw [aRun.eq_def] at hx;simp only [hk] at hx;cases hx
   exact propext ⟨fun q=>absurd q (key (h.trans hk)),fun q=>absurd q (key hk)⟩
theorem Ret_exit_code {id:Nat} {c:ACode}:Ret E af lim (.code (.exit id)::.code c::K) fr H R=Ret E af lim (.code (.exit id)::K) fr H R:=Ret_exit_eq (by simp [aExit])
theorem Ret_exit_loop {id:Nat} {c:ACode}:Ret E af lim (.code (.exit id)::.inLoop c::K) fr H R=Ret E af lim (.code (.exit id)::K) fr H R:=Ret_exit_eq (by simp [aExit])
theorem Ret_exit_other {id id':Nat} (h:id'≠id):Ret E af lim (.code (.exit id)::.inBlock id'::K) fr H R=Ret E af lim (.code (.exit id)::K) fr H R:=Ret_exit_eq (by simp [aExit,h])
theorem Ret_exit_here {id:Nat}:Ret E af lim (.code (.exit id)::.inBlock id::K) fr H R=Ret E af lim K fr H R:=Ret_exit (by simp [aExit])
def shutK (r:Option Heap) (f:Heap→Prop) (_:Bx f:=⟨⟩):Prop:=match r with | some H'=>f H' | none=>False
theorem shutK_some {f:Heap→Prop}:shutK (some H) f=f H:=rfl
theorem Ret_retM:Ret E af lim (.code .retM::K) fr H R=shutK (shut lim (marks K) H) fun H'=>opK ((result fr H' af.results).map (·,H')) R:=by
 rw [Ret_first (r:=match shut lim (marks K) H with | some H'=>(result fr H' af.results).map (·,H') | none=>none) fun n=>by rw [aRun.eq_def];simp only;cases shut lim (marks K) H<;>rfl]
 cases shut lim (marks K) H<;>rfl
theorem marks_nil:marks []=[]:=rfl
theorem marks_code {c:ACode}:marks (.code c::K)=marks K:=rfl
theorem marks_loop {c:ACode}:marks (.inLoop c::K)=marks K:=rfl
theorem marks_block {id:Nat}:marks (.inBlock id::K)=marks K:=rfl
theorem marks_mark {i:Nat}:marks (.mark i::K)=marks K++[i]:=rfl
theorem shut_nil:shut lim [] H=some H:=rfl
theorem shut_cons {i:Nat} {l:List Nat} (h:hget H i=.dfr) (hl:lim≤i):shut lim (i::l) H=shut lim l (H.set i .dead):=by simp only [shut,h,if_pos hl]
def endB (i:Nat) (j:Option ACode) (H:Heap) (b:Blk):Option (Value×Heap):=match b with | .loop x=>some (.bool j.isNone,H.set i (.loop { x with st:=if j.isNone then 0 else 2,pend:=j })) | _=>none
theorem endB_on {i st N:Nat} {p:Option ACode} {g:Nat→Value} {ps:List Nat} {a b:ACode}:endB i none H (.loop ⟨st,p,g,N,ps,a,b⟩)=some (.bool true,H.set i (.loop ⟨0,none,g,N,ps,a,b⟩)):=rfl
theorem endB_off {i st N:Nat} {p:Option ACode} {g:Nat→Value} {ps:List Nat} {a b c:ACode}:endB i (some c) H (.loop ⟨st,p,g,N,ps,a,b⟩)=some (.bool false,H.set i (.loop ⟨2,some c,g,N,ps,a,b⟩)):=rfl
theorem endRound_get {i:Nat} {j:Option ACode}:endRound i j H=endB i j H (hget H i):=by unfold endRound endB;cases hget H i<;>rfl
theorem Ret_round {i:Nat} (hl:lim≤i):Ret E af lim (.round i::K) fr H R=opK (endB i none H (hget H i)) R:=by
 rw [←endRound_get];exact Ret_first fun n=>by rw [aRun.eq_def];simp only [if_pos hl]
def begK (b:Blk) (f:LoopB→Prop) (_:Bx f:=⟨⟩):Prop:=match b with | .loop x=>if x.st=0 then f x else False | _=>False
theorem begK_loop {N:Nat} {p:Option ACode} {g:Nat→Value} {ps:List Nat} {a b:ACode} {f:LoopB→Prop}:begK (.loop ⟨0,p,g,N,ps,a,b⟩) f=f ⟨0,p,g,N,ps,a,b⟩:=by simp [begK]
theorem Ret_begin {i:Nat} (hl:lim≤i):Ret E af lim (.begin i::K) fr H R=begK (hget H i) fun x=>Ret E af lim K fr (H.set i (.loop { x with st:=1 })) R:=by
 unfold begK
 have never:(∀n,aRun E (n+1) af lim (.begin i::K) fr H=none)→Ret E af lim (.begin i::K) fr H R=False:=fun h=>by rw [Ret_first (r:=none) fun n=>(h n).trans rfl];rfl
 cases hb:hget H i with
 | loop x=>
   simp only
   split
   ·rename_i hs
    exact Ret.succ fun n=>by rw [aRun.eq_def];simp only [hb,if_pos (And.intro hs hl)]
   ·rename_i hs
    exact never fun n=>by rw [aRun.eq_def];simp only [hb,hs,false_and,if_false]
 | _=>exact never fun n=>by rw [aRun.eq_def];simp only [hb]
theorem Ret_never {k:List AItem} (h:∀n,aRun E (n+1) af lim k fr H=none):Ret E af lim k fr H R=False:=by rw [Ret_first (r:=none) fun n=>(h n).trans rfl];rfl
theorem Ret_retR_eq {k k':List AItem} (h:roundOf k=roundOf k'):Ret E af lim (.code .retR::k) fr H R=Ret E af lim (.code .retR::k') fr H R:=by
 rw [Ret_first (r:=match roundOf k with | some i=>if lim≤i then endRound i (some .retM) H else none | none=>none) fun n=>by rw [aRun.eq_def];simp only;cases roundOf k with | none=>rfl | some i=>simp only;split<;>rfl,
  Ret_first (k:=.code .retR::k') (r:=match roundOf k' with | some i=>if lim≤i then endRound i (some .retM) H else none | none=>none) fun n=>by rw [aRun.eq_def];simp only;cases roundOf k' with | none=>rfl | some i=>simp only;split<;>rfl,h]
theorem Ret_retR_code {c:ACode}:Ret E af lim (.code .retR::.code c::K) fr H R=Ret E af lim (.code .retR::K) fr H R:=Ret_retR_eq rfl
theorem Ret_retR_loop {c:ACode}:Ret E af lim (.code .retR::.inLoop c::K) fr H R=Ret E af lim (.code .retR::K) fr H R:=Ret_retR_eq rfl
theorem Ret_retR_block {id:Nat}:Ret E af lim (.code .retR::.inBlock id::K) fr H R=Ret E af lim (.code .retR::K) fr H R:=Ret_retR_eq rfl
theorem Ret_retR_round {i:Nat} (hl:lim≤i):Ret E af lim (.code .retR::.round i::K) fr H R=opK (endB i (some .retM) H (hget H i)) R:=by
 rw [←endRound_get];exact Ret_first fun n=>by rw [aRun.eq_def];simp only [roundOf,if_pos hl]
theorem Ret_exitR_eq {k k':List AItem} {id:Nat} (h:aExit id k=aExit id k') (h2:roundOf k=roundOf k'):Ret E af lim (.code (.exitR id)::k) fr H R=Ret E af lim (.code (.exitR id)::k') fr H R:=by
 cases hk:aExit id k' with
 | some K'=>
   exact (Ret.succ (k1:=K') (fr1:=fr) (H1:=H) fun n=>by rw [aRun.eq_def];simp only [h.trans hk]).trans (Ret.succ fun n=>by rw [aRun.eq_def];simp only [hk]).symm
 | none=>
   rw [Ret_first (r:=match roundOf k with | some i=>if lim≤i then endRound i (some (.exit id)) H else none | none=>none) fun n=>by rw [aRun.eq_def];simp only [h.trans hk];cases roundOf k with | none=>rfl | some i=>simp only;split<;>rfl,
    Ret_first (k:=.code (.exitR id)::k') (r:=match roundOf k' with | some i=>if lim≤i then endRound i (some (.exit id)) H else none | none=>none) fun n=>by rw [aRun.eq_def];simp only [hk];cases roundOf k' with | none=>rfl | some i=>simp only;split<;>rfl,h2]
theorem Ret_exitR_code {id:Nat} {c:ACode}:Ret E af lim (.code (.exitR id)::.code c::K) fr H R=Ret E af lim (.code (.exitR id)::K) fr H R:=Ret_exitR_eq (by simp [aExit]) rfl
theorem Ret_exitR_loop {id:Nat} {c:ACode}:Ret E af lim (.code (.exitR id)::.inLoop c::K) fr H R=Ret E af lim (.code (.exitR id)::K) fr H R:=Ret_exitR_eq (by simp [aExit]) rfl
theorem Ret_exitR_other {id id':Nat} (h:id'≠id):Ret E af lim (.code (.exitR id)::.inBlock id'::K) fr H R=Ret E af lim (.code (.exitR id)::K) fr H R:=Ret_exitR_eq (by simp [aExit,h]) rfl
theorem Ret_exitR_here {id:Nat}:Ret E af lim (.code (.exitR id)::.inBlock id::K) fr H R=Ret E af lim K fr H R:=Ret.succ fun n=>by rw [aRun.eq_def];simp [aExit]
theorem Ret_exitR_round {id i:Nat} (hl:lim≤i):Ret E af lim (.code (.exitR id)::.round i::[]) fr H R=opK (endB i (some (.exit id)) H (hget H i)) R:=by
 rw [←endRound_get];exact Ret_first fun n=>by rw [aRun.eq_def];simp only [aExit,roundOf,if_pos hl]
def pendI (x:LoopB):List AItem:=match x.pend with | none=>[] | some c=>[.code c]
theorem pendI_none {st N:Nat} {g:Nat→Value} {ps:List Nat} {a b:ACode}:pendI ⟨st,none,g,N,ps,a,b⟩=[]:=rfl
theorem pendI_some {st N:Nat} {g:Nat→Value} {ps:List Nat} {a b c:ACode}:pendI ⟨st,some c,g,N,ps,a,b⟩=[.code c]:=rfl
def calL (c:Option ((FuncId ⊕ Nat)×List Value)) (f:FuncId→List Value→Prop) (_:Bx f:=⟨⟩):Prop:=match c with | some (.inl g,as)=>f g as | _=>False
theorem calL_some {g:FuncId} {as:List Value} {f:FuncId→List Value→Prop}:calL (some (.inl g,as)) f=f g as:=rfl
def endK (b:Blk) (f:LoopB→Prop) (_:Bx f:=⟨⟩):Prop:=match b with | .loop x=>if x.st=1 then False else f x | _=>False
theorem endK_0 {N:Nat} {p:Option ACode} {g:Nat→Value} {ps:List Nat} {a b:ACode} {f:LoopB→Prop}:endK (.loop ⟨0,p,g,N,ps,a,b⟩) f=f ⟨0,p,g,N,ps,a,b⟩:=by simp [endK]
theorem endK_2 {N:Nat} {p:Option ACode} {g:Nat→Value} {ps:List Nat} {a b:ACode} {f:LoopB→Prop}:endK (.loop ⟨2,p,g,N,ps,a,b⟩) f=f ⟨2,p,g,N,ps,a,b⟩:=by simp [endK]
theorem endK_loop {x:LoopB} {f:LoopB→Prop} (h:x.st≠1):endK (.loop x) f=f x:=by simp [endK,h]
theorem endK_congr {b b':Blk} {f:LoopB→Prop} (h:b=b'):endK b f=endK b' f:=by rw [h]
theorem Ret_rangeF0 {f:Operand} {ps:List Nat} {a b:ACode} {g:FuncId} {as:List Value} (hc:callee (ev fr f) [.func (.yield (H.length+1)) #[] #[]] = some (.inl g,as)) :
  Ret E af lim (.code (.rangeF f ps a b)::K) fr H R=CallR E false lim g as (H++[.dfr,.loop ⟨0,none,fr,af.ntmps,ps,a,b⟩]) fun _ H2=>
   endK (hget H2 (H.length+1)) fun x=>Ret E af lim (pendI x++(K++[.mark H.length])) fr (H2.set (H.length+1) .dead) R:=by
 let F:=fun (n:Nat) (r:Value×Heap)=>match hget r.2 (H.length+1) with
  | .loop x=>if x.st=1 then none else aRun E n af lim ((match x.pend with | none=>[] | some c=>[AItem.code c])++(K++[AItem.mark H.length])) fr (r.2.set (H.length+1) .dead)
  | _=>none
 have hF:∀n r s,F n r=some s→∃x,hget r.2 (H.length+1)=.loop x∧x.st≠1∧aRun E n af lim (pendI x++(K++[.mark H.length])) fr (r.2.set (H.length+1) .dead)=some s:=fun n r s h=>by
  simp only [F] at h
  split at h
  case h_2=>cases h
  rename_i x hb
  split at h
  ·cases h
  rename_i hst
  exact ⟨x,hb,hst,h⟩
 have hF':∀n r x s,hget r.2 (H.length+1)=.loop x→x.st≠1→aRun E n af lim (pendI x++(K++[.mark H.length])) fr (r.2.set (H.length+1) .dead)=some s→F n r=some s:=fun n r x s hb hst h=>by
  simp only [F,hb,if_neg hst]
  exact h
 have hne:∀n r s,F n r=some s→s≠[]:=fun n r s h=>by
  obtain ⟨x,_,_,h⟩:=hF n r s h
  exact aRun_ne E _ _ _ _ _ _ _ h
 have hmono:∀{n m r s},n≤m→F n r=some s→F m r=some s:=fun {n m r s} hnm h=>by
  obtain ⟨x,h1,h2,h3⟩:=hF n r s h
  exact hF' m r x s h1 h2 (aRun_le E hnm h3)
 have hrun:∀n,aRun E (n+1) af lim (.code (.rangeF f ps a b)::K) fr H=match callWith E (aRun E n) false lim (.inl g) as (H++[.dfr,.loop ⟨0,none,fr,af.ntmps,ps,a,b⟩]) with
   | some L=>bindL (F n) L
   | none=>none:=fun n=>by rw [aRun.eq_def];simp only [hc];rfl
 apply propext
 constructor
 ·rintro ⟨n,L,hx,hr⟩
  cases n with
  | zero=>simp [aRun] at hx
  | succ n=>
  rw [hrun] at hx
  split at hx
  case h_2=>cases hx
  rename_i L0 hcall
  refine ⟨n,L0,hcall,fun hd=>?_,fun r hr'=>?_⟩
  ·obtain ⟨y,hy⟩:=hr.1 hd
   exact bindL_one hx (fun x _ s hs=>hne n x s hs) hy
  ·obtain ⟨s,hs,hsub⟩:=bindL_fwd hx r hr'
   obtain ⟨x,h1,h2,h3⟩:=hF n r s hs
   rw [h1,endK_loop h2]
   refine ⟨n,s,h3,fun hd=>?_,fun q hq=>hr.2 q (hsub q hq)⟩
   obtain ⟨y,hy⟩:=hr.1 hd
   obtain ⟨z,hz⟩:=bindL_one hx (fun x _ s hs=>hne n x s hs) hy
   subst hz
   rw [List.mem_singleton] at hr'
   subst hr'
   simp only [bindL,hs,Option.some.injEq,List.append_nil] at hx
   exact ⟨y,hx.trans hy⟩
 ·rintro ⟨n,L0,hcall,hd,h2⟩
  have hall:∃N,∀r∈L0,∃s,F N r=some s∧Outs E.dt s R:=by
   clear hd hcall
   induction L0 with
   | nil=>exact ⟨0,fun r hr=>by cases hr⟩
   | cons y L0 ih=>
     obtain ⟨N,hN⟩:=ih fun r hr=>h2 r (by simp [hr])
     have hk:=h2 y (by simp)
     simp only [endK] at hk
     split at hk
     case h_2=>exact hk.elim
     rename_i x hb
     split at hk
     ·exact hk.elim
     rename_i hst
     obtain ⟨m,s,hx,hr⟩:=hk
     refine ⟨max N m,fun r hr'=>?_⟩
     rcases List.mem_cons.1 hr' with rfl | hr'
     ·exact ⟨s,hmono (Nat.le_max_right N m) (hF' m r x s hb hst hx),hr⟩
     ·obtain ⟨s',g1,g2⟩:=hN r hr'
      exact ⟨s',hmono (Nat.le_max_left N m) g1,g2⟩
  obtain ⟨N,hN⟩:=hall
  have e:callWith E (aRun E (max n N)) false lim (.inl g) as (H++[.dfr,.loop ⟨0,none,fr,af.ntmps,ps,a,b⟩])=some L0:=aCall_le E (Nat.le_max_left n N) _ _ _ _ _ _ hcall
  obtain ⟨L,hL⟩:=bindL_some (f:=F (max n N)) (l:=L0) fun r hr=>by
   obtain ⟨s,hs,_⟩:=hN r hr
   exact ⟨s,hmono (Nat.le_max_right n N) hs⟩
  refine ⟨max n N+1,L,by rw [hrun,e];exact hL,fun hdt=>?_,fun q hq=>?_⟩
  ·obtain ⟨y,rfl⟩:=hd hdt
   obtain ⟨s,hs,ho⟩:=hN y (by simp)
   have hs':=hmono (Nat.le_max_right n N) hs
   simp only [bindL,hs',Option.some.injEq,List.append_nil] at hL
   obtain ⟨z,hz⟩:=ho.1 hdt
   exact ⟨z,by rw [←hL,hz]⟩
  ·obtain ⟨r,hr,s,hs,hqs⟩:=bindL_back hL q hq
   obtain ⟨s',hs',ho⟩:=hN r hr
   have:=hmono (Nat.le_max_right n N) hs'
   rw [hs] at this
   cases this
   exact ho.2 q hqs
theorem Ret_rangeF {f:Operand} {ps:List Nat} {a b:ACode} :
  Ret E af lim (.code (.rangeF f ps a b)::K) fr H R=calL (callee (ev fr f) [.func (.yield (H.length+1)) #[] #[]]) fun g as=>CallR E false lim g as (H++[.dfr,.loop ⟨0,none,fr,af.ntmps,ps,a,b⟩]) fun _ H2=>
   endK (hget H2 (H.length+1)) fun x=>Ret E af lim (pendI x++(K++[.mark H.length])) fr (H2.set (H.length+1) .dead) R:=by
 unfold calL
 split
 ·rename_i g as hc;exact Ret_rangeF0 hc
 ·rename_i hc
  refine Ret_never fun n=>?_
  rw [aRun.eq_def]
  simp only
theorem CallY.det {mp:Bool} {i:Nat} {as:List Value} {Q:Value→Heap→Prop} {n:Nat} {v:Value} {H':Heap} (h:aCall E n mp lim (.inr i) as H=some [(v,H')]):CallY E mp lim i as H Q=Q v H':=by
 rw [←CallT_inr,CallT.all h,Outs_one]
theorem CallY.mono {mp:Bool} {i:Nat} {as:List Value} {Q Q':Value→Heap→Prop} (h:CallY E mp lim i as H Q) (hq:∀v H',Q v H'→Q' v H'):CallY E mp lim i as H Q':=by
 obtain ⟨n,L,h1,h2⟩:=h
 exact ⟨n,L,h1,h2.mono hq⟩
theorem CallY_run {i:Nat} {as:List Value} {Q:Value→Heap→Prop} {x:LoopB} (hb:hget H i=.loop x) (hl:lim≤i) (hlen:as.length=x.params.length) (hp:(x.params.all (·<x.N))=true) :
  CallY E false lim i as H Q=Ret E ⟨x.N,[],.skip⟩ lim [.code x.assign,.begin i,.code x.body,.round i] (setParams x.fr x.params as) H Q:=by
 unfold CallY Ret aCall callWith
 simp only [hb,if_pos (And.intro hl (And.intro hlen hp)),Bool.false_eq_true,if_false]
theorem Ret_code {c c':ACode} (h:c=c'):Ret E af lim (.code c::K) fr H R=Ret E af lim (.code c'::K) fr H R:=by rw [h]
theorem loadCell_lit {b o:Nat} {s:Option Nat}:AM.loadCell H ⟨b,o,s⟩=(match hget H b with | .cells _ c=>c[o]? | _=>none):=rfl
theorem loadCells_lit {b o n:Nat} {s:Option Nat}:AM.loadCells H ⟨b,o,s⟩ n=(match hget H b with | .cells _ c=>if o+n≤c.length then some ((c.drop o).take n) else none | _=>none):=rfl
theorem storeAt_lit {b o:Nat} {s:Option Nat} {vs:List Value}:AM.storeAt lim H ⟨b,o,s⟩ vs=(match hget H b with | .cells false c=>if lim≤b∧o+vs.length≤c.length then some (H.set b (.cells false (setAll c o vs))) else none | _=>none):=rfl
theorem CallR.eq {mp:Bool} {g:FuncId} {as:List Value} {Q:Value→Heap→Prop} {v:Value} {H':Heap} (h:CallR E mp lim g as H fun v' H1=>v'=v∧H1=H'):CallR E mp lim g as H Q=Q v H':=by
 obtain ⟨n,L,h1,h2⟩:=h
 rw [←CallT_inl,CallT.all h1]
 have hne:=aCall_ne E h1
 obtain ⟨x,hx⟩:=List.exists_mem_of_ne_nil _ hne
 have e:∀r∈L,r=(v,H'):=fun r hr=>by
  obtain ⟨a,b⟩:=h2.2 r hr
  exact Prod.ext a b
 apply propext
 constructor
 ·intro h
  have:=h.2 x hx
  rw [e x hx] at this
  exact this
 ·exact fun hq=>⟨h2.1,fun r hr=>by rw [e r hr];exact hq⟩
end
section
variable {p q:Prop} {t b:Bool}
theorem wantK_undef:wantK undef b p q=q:=by unfold undef wantK;rfl
theorem wantK_not:wantK (.bool (!t)) b p q=wantK (.bool t) (!b) p q:=by cases t<;>cases b<;>simp [wantK]
theorem condK_not:condK (.bool (!t)) p q=condK (.bool t) q p:=by cases t<;>rfl
end
theorem int_lt_cast {a b:Nat}:((a:Int)<(b:Int))=(a<b):=by simp
theorem int_le_cast {a b:Nat}:((a:Int)≤(b:Int))=(a≤b):=by simp
theorem int_zero_lt {a:Nat}:((0:Int)<(a:Int))=(0<a):=by simp
theorem wrap_id {n:Int} (h1:-2 ^ 63≤n) (h2:n<2 ^ 63):IntKind.i64.wrap n=n:=by
 by_cases h:0≤n
 ·have h1:n % 2 ^ 64=n:=Int.emod_eq_of_lt h (by omega)
  simp only [IntKind.wrap,IntKind.bits,IntKind.signed,h1]
  rw [if_neg (by simp;omega)]
 ·have h1:n % 2 ^ 64=n+2 ^ 64:=by
   rw [←Int.add_emod_right,Int.emod_eq_of_lt (by omega) (by omega)]
  simp only [IntKind.wrap,IntKind.bits,IntKind.signed,h1]
  rw [if_pos (by simp;omega)]
  omega
theorem wrap_pred {n:Nat} (h:0<n) (h2:n<2 ^ 63):IntKind.i64.wrap ((n:Int)-1)=((n-1:Nat):Int):=by rw [wrap_id (by omega) (by omega)];omega
theorem hget_cells {H:Heap} {b:Nat} (h:isCells (hget H b)=true):∃ro,hget H b=.cells ro (cellsOf (hget H b)):=by
 cases hb:hget H b with
 | cells ro c=>exact ⟨ro,by simp [cellsOf]⟩
 | _=>rw [hb] at h;simp [isCells] at h
theorem Sl.lit {α:Type} {H:Heap} {enc:α→List Value} {e b:Nat} {l:List α} (he:∀x,(enc x).length=e) (h:isCells (hget H b)=true) (hc:cellsOf (hget H b)=l.flatMap enc):Sl H enc e (some ⟨b,0,none⟩) l:=by
 obtain ⟨ro,h1⟩:=hget_cells h
 refine ⟨rfl,fun _=>⟨ro,_,h1, ?_, ?_⟩⟩
 ·rw [hc,flat_len he];simp
 ·rw [hc,List.drop_zero,List.take_of_length_le (by rw [flat_len he];exact Nat.le_refl _)]
theorem cells_slice {a:Option Addr} {n c:Nat}:(Value.slice a n c).cells=#[.slice a n c]:=rfl
theorem cells_ptr {a:Option Addr}:(Value.pointer a).cells=#[.pointer a]:=rfl
theorem cells_str {s:ByteArray}:(Value.string s).cells=#[.string s]:=rfl
theorem arr1 {v:Value}:(#[v]:Array Value).toList=[v]:=rfl
theorem size1 {v:Value}:(#[v]:Array Value).size=1:=rfl
theorem cells_map {a:Option Nat}:(Value.map a).cells=#[.map a]:=rfl
theorem cells_func {f:Fn} {a b:Array Value}:(Value.func f a b).cells=#[.func f a b]:=rfl
theorem fillV_slice {off:Nat} {a:Option Addr} {n m:Nat} {c:List Value} (h:off<c.length):fillV off 1 (.slice a n m) c=some (c.set off (.slice a n m)):=fillV_one rfl rfl h
theorem fillV_ptr {off:Nat} {a:Option Addr} {c:List Value} (h:off<c.length):fillV off 1 (.pointer a) c=some (c.set off (.pointer a)):=fillV_one rfl rfl h
theorem fillV_str {off:Nat} {a:ByteArray} {c:List Value} (h:off<c.length):fillV off 1 (.string a) c=some (c.set off (.string a)):=fillV_one rfl rfl h
theorem fillV_map {off:Nat} {a:Option Nat} {c:List Value} (h:off<c.length):fillV off 1 (.map a) c=some (c.set off (.map a)):=fillV_one rfl rfl h
theorem pad_4:List.replicate 4 Blk.dead=[.dead,.dead,.dead,.dead]:=rfl
theorem pad_5:List.replicate 5 Blk.dead=[.dead,.dead,.dead,.dead,.dead]:=rfl
theorem pad_6:List.replicate 6 Blk.dead=[.dead,.dead,.dead,.dead,.dead,.dead]:=rfl
theorem pad_7:List.replicate 7 Blk.dead=[.dead,.dead,.dead,.dead,.dead,.dead,.dead]:=rfl
theorem pad_8:List.replicate 8 Blk.dead=[.dead,.dead,.dead,.dead,.dead,.dead,.dead,.dead]:=rfl
theorem pad_9:List.replicate 9 Blk.dead=[.dead,.dead,.dead,.dead,.dead,.dead,.dead,.dead,.dead]:=rfl
theorem pad_10:List.replicate 10 Blk.dead=[.dead,.dead,.dead,.dead,.dead,.dead,.dead,.dead,.dead,.dead]:=rfl
theorem pad_11:List.replicate 11 Blk.dead=[.dead,.dead,.dead,.dead,.dead,.dead,.dead,.dead,.dead,.dead,.dead]:=rfl
theorem pad_12:List.replicate 12 Blk.dead=[.dead,.dead,.dead,.dead,.dead,.dead,.dead,.dead,.dead,.dead,.dead,.dead]:=rfl
theorem bytesOf_nil:bytesOf []=some []:=rfl
theorem bytesOf_cons {n:Int} {l:List Value}:bytesOf (.int .u8 n::l)=(bytesOf l).map (UInt8.ofNat n.toNat::·):=by
 simp only [bytesOf];cases bytesOf l<;>rfl
theorem int_eq_cast {a b:Nat}:((a:Int)=(b:Int))=(a=b):=propext Int.ofNat_inj
theorem setAll_skip {v:Value} {c vs:List Value}:∀{o:Nat},setAll (v::c) (o+1) vs=v::setAll c o vs:=by
 induction vs generalizing c with
 | nil=>intro o;rfl
 | cons u vs ih=>intro o;rw [setAll_cons,setAll_cons,List.set_cons_succ];exact ih
theorem take_all {l:List Value} {n:Nat} (h:l.length=n):l.take n=l:=by subst h;exact List.take_length
theorem nat_not_neg {n:Nat}:((n:Int)<0)=False:=by simp
theorem setAll_full {c vs:List Value} (h:vs.length=c.length):setAll c 0 vs=vs:=by
 have key:∀(vs c pre:List Value),vs.length=c.length→setAll (pre++c) pre.length vs=pre++vs:=by
  intro vs
  induction vs with
  | nil=>intro c pre h;have:c=[]:=List.length_eq_zero_iff.1 h.symm;subst this;rfl
  | cons v vs ih=>
    intro c pre h
    match c,h with
    | x::c,h=>
      rw [setAll_cons]
      have e1:(pre++x::c).set pre.length v=(pre++[v])++c:=by simp
      rw [e1]
      have:=ih c (pre++[v]) (by simpa using h)
      rw [List.length_append] at this
      simp only [List.length_cons,List.length_nil,Nat.zero_add] at this
      rw [this];simp
 exact key vs c [] h
def b2sV (v:Value) (H:Heap):Option (Value×Heap):=match v with
 | .slice none n _=>if n=0 then some (.string .empty,H) else none
 | .slice (some a) n _=>match loadCells H a n with
   | some cs=>match bytesOf cs with
     | some bs=>some (.string ⟨bs.toArray⟩,H)
     | none=>none
   | none=>none
 | _=>none
theorem b2sV_some {a:Addr} {n c:Nat} {H:Heap}:b2sV (.slice (some a) n c) H=(match AM.loadCells H a n with
  | some cs=>match bytesOf cs with
    | some bs=>some (.string ⟨bs.toArray⟩,H)
    | none=>none
  | none=>none):=rfl
theorem on_b2sV {E:Env} {lim:Nat} {mask:List Nat} {fr:Nat→Value} {H:Heap} {Q:Value→Heap→Prop} {qx:Operand}:oK E lim none none mask (.b2s qx) fr H Q=opK (b2sV (ev fr qx) H) Q:=oK_none rfl
theorem ob_b2sV {E:Env} {lim b:Nat} {dest:Option Nat} {mask:List Nat} {fr:Nat→Value} {H:Heap} {Q:Value→Heap→Prop} {qx:Operand}:oK E lim (some b) dest mask (.b2s qx) fr H Q=opK (b2sV (ev fr qx) (maskH b mask H)) fun v H'=>Q v (unmaskH b mask H H'):=oK_some rfl
def unV:Operand→Value
 | .const v=>v
 | _=>undef
def sliceV (e:Nat) (v:Value) (lo hi mx:Option Value):Option Value:=aSliceS e unV v (lo.map .const) (hi.map .const) (mx.map .const)
theorem aSliceS_V {e:Nat} {ρ:Operand→Value} {v:Value} {lo hi mx:Option Operand}:aSliceS e ρ v lo hi mx=sliceV e v (lo.map ρ) (hi.map ρ) (mx.map ρ):=by
 unfold sliceV aSliceS
 cases v with
 | slice a n c=>cases lo<;>cases hi<;>cases mx<;>rfl
 | _=>rfl
def copyV (lim esz:Nat) (d x:Value) (H:Heap):Option (Value×Heap):=match d,lenOf x with
    | .slice base dl _,some sl=>match copyCells H esz (min sl dl) x with
      | some cs=>match base with
        | some a=>if min sl dl=0 then some (.int .i64 0,H) else (storeAt lim H a cs).map (.int .i64 (min sl dl:Nat),·)
        | none=>if dl=0 then some (.int .i64 0,H) else none
      | none=>none
    | _,_=>none
theorem on_copyV {E:Env} {lim e:Nat} {mask:List Nat} {fr:Nat→Value} {H:Heap} {Q:Value→Heap→Prop} {d x:Operand}:oK E lim none none mask (.copy e d x) fr H Q=opK (copyV lim e (ev fr d) (ev fr x) H) Q:=oK_none rfl
theorem ob_copyV {E:Env} {lim b e:Nat} {dest:Option Nat} {mask:List Nat} {fr:Nat→Value} {H:Heap} {Q:Value→Heap→Prop} {d x:Operand}:oK E lim (some b) dest mask (.copy e d x) fr H Q=opK (copyV lim e (ev fr d) (ev fr x) (maskH b mask H)) fun v H'=>Q v (unmaskH b mask H H'):=oK_some rfl
def sliceAV (n e:Nat) (v:Value) (lo hi mx:Option Value):Option Value:=match v with
 | .pointer (some a)=>match bounds unV n n (lo.map .const) (hi.map .const) (mx.map .const) with
   | some (l,h,m)=>if m<2 ^ 62 then some (.slice (some (if m=l then a else a.add (l*e))) (h-l) (m-l)) else none
   | none=>none
 | _=>none
theorem sliceA_V {lim n e:Nat} {dest:Option Nat} {ρ:Operand→Value} {x:Operand} {lo hi mx:Option Operand} {H:Heap}:aOp lim dest (.sliceA n e x lo hi mx) ρ H=(sliceAV n e (ρ x) (lo.map ρ) (hi.map ρ) (mx.map ρ)).map (·,H):=by
 have hb:bounds unV n n ((lo.map ρ).map .const) ((hi.map ρ).map .const) ((mx.map ρ).map .const)=bounds ρ n n lo hi mx:=by
  cases lo<;>cases hi<;>cases mx<;>rfl
 simp only [aOp,sliceAV,hb]
 cases ρ x with
 | pointer a=>
   cases a with
   | none=>rfl
   | some a=>
     simp only
     cases bounds ρ n n lo hi mx with
     | none=>rfl
     | some p=>
       obtain ⟨l,h,m⟩:=p
       simp only
       split<;>rfl
 | _=>rfl
theorem on_sliceAV {E:Env} {lim n e:Nat} {mask:List Nat} {fr:Nat→Value} {H:Heap} {Q:Value→Heap→Prop} {x:Operand} {lo hi mx:Option Operand}:oK E lim none none mask (.sliceA n e x lo hi mx) fr H Q=opK ((sliceAV n e (ev fr x) (lo.map (ev fr)) (hi.map (ev fr)) (mx.map (ev fr))).map (·,H)) Q:=by
 rw [oK_none rfl,sliceA_V]
theorem ob_sliceAV {E:Env} {lim b n e:Nat} {dest:Option Nat} {mask:List Nat} {fr:Nat→Value} {H:Heap} {Q:Value→Heap→Prop} {x:Operand} {lo hi mx:Option Operand}:oK E lim (some b) dest mask (.sliceA n e x lo hi mx) fr H Q=opK ((sliceAV n e (ev fr x) (lo.map (ev fr)) (hi.map (ev fr)) (mx.map (ev fr))).map (·,maskH b mask H)) fun v H'=>Q v (unmaskH b mask H H'):=by
 rw [oK_some rfl,sliceA_V]
def appendLV (lim:Nat) (dest:Option Nat) (esz bytes:Nat) (str:Bool) (s x:Value) (H:Heap):Option (Value×Heap):=match s with
    | .slice none n c=>aAppend lim dest esz bytes str (.slice none n c) x H
    | .slice (some a) n c=>if c=loose esz∨c=n then aAppend lim dest esz bytes str (.slice (some a) n c) x H else none
    | _=>none
theorem on_appendLV {E:Env} {lim e b:Nat} {str:Bool} {mask:List Nat} {fr:Nat→Value} {H:Heap} {Q:Value→Heap→Prop} {s x:Operand}:oK E lim none none mask (.appendL e b str s x) fr H Q=opK (appendLV lim none e b str (ev fr s) (ev fr x) H) Q:=oK_none rfl
theorem ob_appendLV {E:Env} {lim e b' b:Nat} {str:Bool} {dest:Option Nat} {mask:List Nat} {fr:Nat→Value} {H:Heap} {Q:Value→Heap→Prop} {s x:Operand}:oK E lim (some b) dest mask (.appendL e b' str s x) fr H Q=opK (appendLV lim (dest.map (b+·)) e b' str (ev fr s) (ev fr x) (maskH b mask H)) fun v H'=>Q v (unmaskH b mask H H'):=oK_some rfl
theorem appendLV_none {lim e b n c:Nat} {str:Bool} {dest:Option Nat} {x:Value} {H:Heap}:appendLV lim dest e b str (.slice none n c) x H=aAppend lim dest e b str (.slice none n c) x H:=rfl
theorem appendLV_some {lim e b n c:Nat} {str:Bool} {dest:Option Nat} {x:Value} {H:Heap} {a:Addr}:appendLV lim dest e b str (.slice (some a) n c) x H=if c=loose e∨c=n then aAppend lim dest e b str (.slice (some a) n c) x H else none:=rfl
section
variable {α:Type}
def DH (enc:α→List Value) (G:Heap) (B:Nat) (d:Array α):Heap:=G.set B (.cells false (d.toList.flatMap enc))
variable [Inhabited α] {enc:α→List Value} {G X:Heap} {B e i:Nat} {d:Array α} {p:Option Addr} {lim:Nat}
omit [Inhabited α] in
theorem DH_len:(DH enc G B d).length=G.length:=by simp [DH]
omit [Inhabited α] in
theorem DH_get (hB:B<G.length):hget (DH enc G B d++X) B=.cells false (d.toList.flatMap enc):=by
 rw [hget_old (by rw [DH_len];exact hB)]
 exact hget_set_eq hB
omit [Inhabited α] in
theorem DH_sl (hp:p=some ⟨B,0,none⟩) (hB:B<G.length) (he:∀x,(enc x).length=e):Sl (DH enc G B d++X) enc e p d.toList:=by
 subst hp
 refine Sl.lit he ?_ ?_
 ·rw [DH_get hB];rfl
 ·rw [DH_get hB];rfl
theorem gt_arr {α:Type} [Inhabited α] (d:Array α) (i:Nat):gt d.toList i=d[i]!:=by
 unfold gt
 rw [List.getD_eq_getElem?_getD,Array.getElem?_toList,getElem!_def]
 cases d[i]?<;>rfl
theorem DH_ld (hp:p=some ⟨B,0,none⟩) (hB:B<G.length) (he:∀x,(enc x).length=e) (hi:i<d.size):AM.loadCells (DH enc G B d++X) (elt p e i) e=some (enc d[i]!):=by
 rw [(DH_sl hp hB he).loadCells he (by simpa using hi),gt_arr]
omit [Inhabited α] in
theorem flat_set (he:∀x,(enc x).length=e) (y:α):∀(l:List α) (i:Nat),i<l.length→setAll (l.flatMap enc) (i*e) (enc y)=(l.set i y).flatMap enc:=by
 have key:∀(vs a b c:List Value) ,vs.length=b.length→setAll (a++b++c) a.length vs=a++vs++c:=by
  intro vs
  induction vs with
  | nil=>intro a b c h;simp at h;have:b=[]:=List.length_eq_zero_iff.1 h.symm;subst this;rfl
  | cons v vs ih=>
    intro a b c h
    match b,h with
    | x::b,h=>
      rw [setAll_cons]
      have e1:(a++x::b++c).set a.length v=(a++[v])++b++c:=by simp
      rw [e1]
      have:=ih (a++[v]) b c (by simpa using h)
      rw [List.length_append] at this
      simp only [List.length_cons,List.length_nil,Nat.zero_add] at this
      rw [this];simp
 intro l i hi
 have e1:l.flatMap enc=(l.take i).flatMap enc++enc l[i]++(l.drop (i+1)).flatMap enc:=by
  have e0:l=l.take i++l[i]::l.drop (i+1):=by rw [←List.drop_eq_getElem_cons hi,List.take_append_drop]
  have:=congrArg (List.flatMap enc) e0
  rw [List.flatMap_append,List.flatMap_cons] at this
  rw [this,List.append_assoc]
 have e2:(l.set i y).flatMap enc=(l.take i).flatMap enc++enc y++(l.drop (i+1)).flatMap enc:=by
  rw [List.set_eq_take_append_cons_drop,if_pos hi];simp
 have e3:i*e=((l.take i).flatMap enc).length:=by rw [flat_len he,List.length_take,Nat.min_eq_left (by omega)]
 rw [e1,e2,e3]
 exact key _ _ _ _ (by rw [he,he])
omit [Inhabited α] in
theorem DH_st (hp:p=some ⟨B,0,none⟩) (hB:B<G.length) (hl:lim≤B) (he:∀x,(enc x).length=e) (hi:i<d.size) {y:α}:AM.storeAt lim (DH enc G B d++X) (elt p e i) (enc y)=some (DH enc G B (d.setIfInBounds i y)++X):=by
 subst hp
 have h1:i*e+e≤d.size*e:=by
  have:=Nat.mul_le_mul_right e (Nat.succ_le_of_lt hi)
  rw [Nat.succ_mul] at this;exact this
 simp only [elt,addrOf,Option.getD_some,addr_add,storeAt_lit,DH_get hB,Nat.zero_add]
 rw [if_pos ⟨hl,by rw [he,flat_len he];simpa using h1⟩,flat_set he y _ _ (by simpa using hi)]
 congr 1
 rw [List.set_append_left _ _ (by rw [DH_len];exact hB)]
 simp only [DH,List.set_set]
 congr 3
 simp
omit [Inhabited α] in
theorem DH_idx {n c:Nat} {k:IntKind} {H:Heap} (hp:p=some ⟨B,0,none⟩) (hi:i<n):idxK e (.slice p n c) (.int k (i:Int)) H=some (.pointer (some (elt p e i)),H):=by
 subst hp
 exact idxK_nat hi
end
end Go.AM

set_option linter.unusedVariables false
set_option linter.unusedSimpArgs false
set_option linter.defProp false
namespace Go.AM
set_option maxRecDepth 100000
def SB:=And.intro @Ret_seq (And.intro @wantK_tt (And.intro @wantK_ff (And.intro @wantK_tf (And.intro @wantK_ft (And.intro @condK_tt (And.intro @condK_ff (And.intro @int_beq (And.intro @int_bne (And.intro @not_dec (And.intro @fillParts_cons (And.intro @fillParts_nil (And.intro @fillK_some (And.intro @fillV_int (And.intro @fillV_bool (And.intro @fillV_agg (And.intro @setAll_nil (And.intro @setAll_cons (And.intro @Ret_cops (And.intro @Ret_exit_code (And.intro @Ret_exit_loop (And.intro @Ret_exit_other (And.intro @Ret_exit_here (And.intro @Ret_skip (And.intro @Ret_block (And.intro @Ret_inBlock (And.intro @Ret_cond (And.intro @Ret_is (And.intro @Ret_in (And.intro @false_and (And.intro @and_false (And.intro @Ret_ops_nil (And.intro @Ret_ret (And.intro @decide_true (And.intro @gK_none (And.intro @gK_some (And.intro @on_mov (And.intro @on_pick (And.intro @on_bin (And.intro @on_eqv (And.intro @on_un (And.intro @on_conv (And.intro @on_alloc (And.intro @on_box (And.intro @on_build (And.intro @on_buildSlice (And.intro @on_load1 (And.intro @on_loadN (And.intro @on_store (And.intro @on_nilCheck (And.intro @on_fieldAddr (And.intro @on_field1 (And.intro @on_fieldN (And.intro @on_idxAddrA (And.intro @on_idxAddrS (And.intro @on_idxA (And.intro @on_idxStr (And.intro @on_sliceS (And.intro @on_sliceStr (And.intro @on_lenStr (And.intro @on_lenSlice (And.intro @on_lenMap (And.intro @on_lenK (And.intro @on_append (And.intro @on_append0 (And.intro @on_minmax (And.intro @on_makeSlice (And.intro @on_makeMap (And.intro @on_lookup (And.intro @on_mapUpdate (And.intro @on_delete (And.intro @on_clear (And.intro @on_makeFunc (And.intro @on_extract (And.intro @on_strId (And.intro @on_rowMark (And.intro @ob_mov (And.intro @ob_pick (And.intro @ob_bin (And.intro @ob_eqv (And.intro @ob_un (And.intro @ob_conv (And.intro @ob_alloc (And.intro @ob_box (And.intro @ob_build (And.intro @ob_buildSlice (And.intro @ob_load1 (And.intro @ob_loadN (And.intro @ob_store (And.intro @ob_storeD (And.intro @ob_nilCheck (And.intro @ob_fieldAddr (And.intro @ob_field1 (And.intro @ob_fieldN (And.intro @ob_idxAddrA (And.intro @ob_idxAddrS (And.intro @ob_idxA (And.intro @ob_idxStr (And.intro @ob_sliceS (And.intro @ob_sliceStr (And.intro @ob_lenStr (And.intro @ob_lenSlice (And.intro @ob_lenMap (And.intro @ob_lenK (And.intro @ob_append (And.intro @ob_append0 (And.intro @ob_minmax (And.intro @ob_makeSlice (And.intro @ob_makeMap (And.intro @ob_lookup (And.intro @ob_mapUpdate (And.intro @ob_delete (And.intro @ob_clear (And.intro @ob_makeFunc (And.intro @ob_extract (And.intro @ob_strId (And.intro @ob_rowMark (And.intro @oK_call (And.intro @oK_callB (And.intro @oK_mapsB (And.intro @oK_range (And.intro @oK_next (And.intro @oK_entry (And.intro @on_capSlice (And.intro @ob_capSlice (And.intro @on_growNil (And.intro @ob_growNil (And.intro @calK_some (And.intro @pure_any (And.intro @pure_pure (And.intro @pure_mk (And.intro @lim_any (And.intro @lim_pure (And.intro @lim_mk (And.intro @CallT_inl (And.intro @CallT_inr (And.intro @Ret_retM (And.intro @marks_nil (And.intro @marks_code (And.intro @marks_loop (And.intro @marks_block (And.intro @marks_mark (And.intro @shut_nil (And.intro @shut_cons (And.intro @shutK_some (And.intro @Ret_round (And.intro @Ret_begin (And.intro @begK_loop (And.intro @endB_on (And.intro @endB_off (And.intro @Ret_retR_code (And.intro @Ret_retR_loop (And.intro @Ret_retR_block (And.intro @Ret_retR_round (And.intro @Ret_exitR_code (And.intro @Ret_exitR_loop (And.intro @Ret_exitR_other (And.intro @Ret_exitR_here (And.intro @Ret_exitR_round (And.intro @calL_some (And.intro @endK_0 (And.intro @endK_2 (And.intro @pendI_none (And.intro @pendI_some (And.intro @Ret_rangeF (And.intro @List.map_cons.{0,0} (And.intro @List.map_nil.{0,0} (And.intro @Option.map_none.{0,0} (And.intro @mask_nil (And.intro @mask_cons (And.intro @unmask_cons (And.intro @pad_one (And.intro @pad_zero (And.intro @pad_two (And.intro @pad_three (And.intro @Ret_drawn (And.intro @Nat.add_assoc (And.intro @unmask_nil (And.intro @unmask_mask (And.intro @ev_tmp (And.intro @ev_const (And.intro @ev_func (And.intro @upd_same (And.intro @upd_ne (And.intro @not_false_eq_true (And.intro @opK_some (And.intro @Option.map_some.{0,0} (And.intro @List.getD_cons_zero.{0} (And.intro @List.getD_cons_succ.{0} (And.intro @decide_false (And.intro @Bool.false_eq_true (And.intro @not_true_eq_false (And.intro @and_true (And.intro @true_and (And.intro @hget_new (And.intro @hget_new0 (And.intro @hget_old (And.intro @set_new (And.intro @set_new0 (And.intro @List.set_cons_zero.{0} (And.intro @List.set_cons_succ.{0} (And.intro @List.append_assoc.{0} (And.intro @List.cons_append.{0} (And.intro @List.nil_append.{0} (And.intro @storeAt_lit (And.intro @loadCell_lit (And.intro @loadCells_lit (And.intro @idxK_nat (And.intro @List.length_cons.{0} (And.intro @List.length_nil.{0} (And.intro @addr_add (And.intro @List.drop_zero.{0} (And.intro @List.drop_succ_cons.{0} (And.intro @List.take_succ_cons.{0} (And.intro @List.take_zero.{0} (And.intro @Nat.le_refl (And.intro @Nat.le_add_right (And.intro @Nat.zero_add (And.intro @Nat.add_zero (And.intro @result_fin (And.intro @resAll_nil (And.intro @resAll_cons (And.intro @consK_some (And.intro @finK_one (And.intro @finK_more (And.intro @finK_nil (And.intro @cells_agg (And.intro @cells_int (And.intro @cells_bool (And.intro @arr_list (And.intro @arr_size (And.intro @Option.some.injEq.{0} (And.intro @Prod.mk.injEq.{0,0} (And.intro @List.length_append.{0} (And.intro @List.getElem?_cons_zero.{0} (And.intro @List.getElem?_cons_succ.{0} (And.intro @Nat.lt_irrefl (And.intro @and_self (And.intro @int_lt_cast (And.intro @int_le_cast (And.intro @wantK_not (And.intro @condK_not (And.intro @Bool.not_true (And.intro @Bool.not_false (And.intro @Nat.le_add_right_of_le (And.intro @int_zero_lt (And.intro @wantK_undef (And.intro @keyOk_int (And.intro @keyOk_str (And.intro @findKey_nil (And.intro @findKey_int (And.intro @mapEntries_some (And.intro @mapEntries_none (And.intro @Int.cast_ofNat_Int (And.intro @idxK_zero (And.intro @Ret_nil (And.intro @cells_slice (And.intro @cells_ptr (And.intro @cells_str (And.intro @cells_map (And.intro @cells_func (And.intro @arr1 (And.intro @size1 (And.intro @fillV_slice (And.intro @fillV_ptr (And.intro @fillV_str (And.intro @fillV_map (And.intro @nat_not_neg (And.intro @setAll_full (And.intro @Option.isNone_none.{0} (And.intro @Option.isNone_some.{0} (And.intro @Int.toNat_natCast (And.intro @take_all (And.intro @setAll_skip (And.intro @pad_4 (And.intro @pad_5 (And.intro @pad_6 (And.intro @pad_7 (And.intro @pad_8 (And.intro @pad_9 (And.intro @pad_10 (And.intro @pad_11 (And.intro @pad_12 (And.intro @bytesOf_cons (And.intro @bytesOf_nil (And.intro @int_eq_cast (And.intro @on_b2sV (And.intro @ob_b2sV (And.intro @b2sV_some (And.intro @aSliceS_V (And.intro @on_copyV (And.intro @ob_copyV (And.intro @on_sliceAV (And.intro @ob_sliceAV (And.intro @on_appendLV (And.intro @ob_appendLV (And.intro @appendLV_none (@appendLV_some)))))))))))))))))))))))))))))))))))))))))))))))))))))))))))))))))))))))))))))))))))))))))))))))))))))))))))))))))))))))))))))))))))))))))))))))))))))))))))))))))))))))))))))))))))))))))))))))))))))))))))))))))))))))))))))))))))))))))))))))))))))))))))))))))))))))))))))))))))))))))))))))))))))))))
theorem frame0_at {args:List Value} {t:Nat}:frame0 args t=args.getD t undef:=id rfl
def FB:=And.intro @upd_same (And.intro @upd_ne (And.intro @ne_eq.{1} (And.intro @not_false_eq_true (And.intro @frame0_at (And.intro @List.getD_cons_zero.{0} @List.getD_cons_succ.{0})))))
end Go.AM

set_option linter.unusedVariables false
set_option linter.unusedSimpArgs false
namespace Go.AM
section
variable {G G' K:Heap} {R:Nat} {b:Blk}
structure Mut (G G':Heap) (R:Nat):Prop where
 len:G'.length=G.length
 other:∀j,j≠R→hget G' j=hget G j
theorem Mut.ext {H:Heap} (h:Mut G G' R) (hE:Ext H G) (hR:H.length≤R):Ext H G':=by
 obtain ⟨Y,rfl⟩:=hE
 refine ⟨G'.drop H.length, ?_⟩
 apply List.ext_getElem
 ·have:=h.len;simp at this⊢;omega
 intro i h1 h2
 have hl:=h.len
 simp at hl
 by_cases hi:i<H.length
 ·rw [List.getElem_append_left hi]
  have:=h.other i (by omega)
  unfold hget at this
  rw [List.getD_eq_getElem?_getD,List.getD_eq_getElem?_getD,List.getElem?_eq_getElem h1,List.getElem?_eq_getElem (by simp;omega)] at this
  simp only [Option.getD_some] at this
  rw [this,List.getElem_append_left hi]
 ·rw [List.getElem_append_right (by omega),List.getElem_drop]
  congr 1
  omega
theorem Mut.cells (h:Mut G G' R) {j:Nat} {ro:Bool} {c:List Value} (hj:hget G j=.cells ro c) (hne:j≠R):hget G' j=.cells ro c:=by rw [h.other j hne];exact hj
theorem Mut.alive (h:Mut G G' R) {j:Nat} {B:Blk} (hj:hget G j=B) (hne:j≠R):hget G' j=B:=by rw [h.other j hne];exact hj
theorem Mut.sl {α:Type} {enc:α→List Value} {e:Nat} {p:Option Addr} {l:List α} (h:Mut G G' R) (hs:Sl G enc e p l) (hp:∀a,p=some a→l≠[]→a.block≠R):Sl G' enc e p l:=by
 cases p with
 | none=>exact hs
 | some a=>
   refine ⟨hs.1,fun hn=>?_⟩
   obtain ⟨ro,c,h2,h3⟩:=hs.2 hn
   exact ⟨ro,c,h.cells h2 (hp a rfl hn),h3⟩
theorem len_rules (h:G'.length=G.length):(G'.length=G.length)∧(∀(X:Heap) (j:Nat),hget (G'++X) (G.length+j)=X.getD j .dead)∧(∀X:Heap,hget (G'++X) G.length=X.getD 0 .dead)∧
  (∀(X:Heap) (j:Nat) b,(G'++X).set (G.length+j) b=G'++X.set j b)∧(∀(X:Heap) b,(G'++X).set G.length b=G'++X.set 0 b):=by
 refine ⟨h,fun X j=>by rw [←h];exact hget_new,fun X=>by rw [←h];exact hget_new0,fun X j b=>?_,fun X b=>?_⟩
 ·rw [←h,List.set_append_right _ _ (by omega)];simp
 ·rw [←h,List.set_append_right _ _ (by omega)];simp
theorem mut_set (hR:R<G.length) (b:Blk):∃G',(∀X:Heap,(G++X).set R b=G'++X)∧hget G' R=b∧Mut G G' R:=
 ⟨G.set R b,fun X=>List.set_append_left _ _ hR,hget_set_eq hR,by simp,fun j hj=>hget_set_ne hj⟩
end
def Own {α:Type} (lim:Nat) (G:Heap) (enc:α→List Value) (e:Nat) (p:Option Addr) (cap:Nat) (l:List α):Prop:=
 (l=[]∧p=none∧cap=0)∨∃R,p=some ⟨R,0,none⟩∧cap=loose e∧hget G R=.cells false (l.flatMap enc)∧lim≤R
section
variable {α:Type} {lim e bytes cap:Nat} {G:Heap} {enc:α→List Value} {p:Option Addr} {l m:List α}
theorem Own.nil:Own lim G enc e none 0 []:=.inl ⟨rfl,rfl,rfl⟩
theorem Own.app (h:Own lim G enc e p cap l) (X:Heap):Own lim (G++X) enc e p cap l:=by
 rcases h with h | ⟨R,h1,h2,h3,h4⟩
 ·exact .inl h
 ·exact .inr ⟨R,h1,h2,by rw [hget_old (hget_alive h3)];exact h3,h4⟩
theorem Own.mut {G':Heap} {R:Nat} (h:Own lim G enc e p cap l) (hm:Mut G G' R) (hp:∀a,p=some a→a.block≠R):Own lim G' enc e p cap l:=by
 rcases h with h | ⟨R',h1,h2,h3,h4⟩
 ·exact .inl h
 ·exact .inr ⟨R',h1,h2,hm.cells h3 (hp _ h1),h4⟩
theorem Own.new {R:Nat} (hR:hget G R=.cells false (l.flatMap enc)) (hl:lim≤R):Own lim G enc e (some ⟨R,0,none⟩) (loose e) l:=.inr ⟨R,rfl,rfl,hR,hl⟩
theorem Own.sl (h:Own lim G enc e p cap l) (he:∀x,(enc x).length=e):Sl G enc e p l:=by
 rcases h with ⟨h1,h2,_⟩ | ⟨R,h1,h2,h3,h4⟩
 ·subst h1 h2;rfl
 ·subst h1;exact Sl.lit he (by rw [h3];rfl) (by rw [h3];rfl)
theorem Own.le (h:Own lim G enc e p cap l) {lim':Nat} (hl:lim'≤lim):Own lim' G enc e p cap l:=by
 rcases h with h | ⟨R,h1,h2,h3,h4⟩
 ·exact .inl h
 ·exact .inr ⟨R,h1,h2,h3,by omega⟩
theorem Own.block (h:Own lim G enc e p cap l) {a:Addr} (ha:p=some a):lim≤a.block∧a.block<G.length:=by
 rcases h with ⟨h1,h2,h3⟩ | ⟨R,h1,h2,h3,h4⟩
 ·rw [h2] at ha;cases ha
 ·rw [h1] at ha;cases ha;exact ⟨h4,hget_alive h3⟩
theorem Sl.cells (hs:Sl G enc e p m) (hm:m≠[]):∃a,p=some a∧AM.loadCells G a (m.length*e)=some (m.flatMap enc):=by
 cases p with
 | none=>exact absurd hs hm
 | some a=>
   obtain ⟨k1,k2⟩:=hs
   obtain ⟨ro,cs,k3,k4,k5⟩:=k2 hm
   refine ⟨a,rfl, ?_⟩
   obtain ⟨ab,ao,as'⟩:=a
   simp only [loadCells_lit]
   simp only at k3 k4 k5
   simp only [k3]
   rw [if_pos k4,k5]
theorem Own.push {lim':Nat} (h:Own lim G enc e p cap l) (hll:lim'≤lim) (he:∀x,(enc x).length=e) (he0:e≠0) (m:List α) (hm:m≠[]) (hb:(l.length+m.length)*bytes≤maxBytes) (hn:l.length+m.length<2 ^ 61) :
  ∃(G':Heap) (R:Nat),(p=none→R=G.length)∧(∀a,p=some a→R=a.block)∧Mut G G' R∧(∀j,j≠R→hget G' j=hget G j)∧(∀H0:Heap,Ext H0 G→H0.length≤lim→Ext H0 G')∧
   (∀(X:Heap) (px:Option Addr) (k:Nat),Sl (G++X) enc e px m→aAppend lim' none e bytes false (.slice p l.length cap) (.slice px m.length k) (G++X)=some (.slice (some ⟨G.length+X.length,0,none⟩) (l.length+m.length) (loose e),G'++(X++[.cells false ((l++m).flatMap enc)]))):=by
 have hm0:¬m.length=0:=by intro q;exact hm (List.length_eq_zero_iff.1 q)
 rcases h with ⟨h1,h2,h3⟩ | ⟨R,h1,h2,h3,h4⟩
 ·subst h1 h2 h3
  refine ⟨G,G.length,fun _=>rfl,fun a h=>(by cases h),⟨rfl,fun j _=>rfl⟩,fun j _=>rfl,fun H0 h _=>h,fun X px k hx=>?_⟩
  obtain ⟨a,rfl,hl⟩:=hx.cells hm
  simp only [List.length_nil,Nat.zero_add] at hb hn
  simp only [aAppend,firstCells,lenOf,hl,hm0,if_false,Bool.false_eq_true,List.length_nil,Nat.zero_add]
  rw [if_neg (by omega)]
  simp [place]
 ·subst h1 h2
  have hRl:=hget_alive h3
  refine ⟨G.set R .dead,R,fun h=>(by cases h),fun a h=>(by cases h;rfl),⟨by simp,fun j hj=>hget_set_ne hj⟩,fun j hj=>hget_set_ne hj,fun H0 h hl=>Mut.ext (R:=R) ⟨by simp,fun j hj=>hget_set_ne hj⟩ h (by omega),fun X px k hx=>?_⟩
  obtain ⟨a,rfl,hl⟩:=hx.cells hm
  have hR':hget (G++X) R=.cells false (l.flatMap enc):=by rw [hget_old hRl];exact h3
  have hold:AM.loadCells (G++X) ⟨R,0,none⟩ (l.length*e)=some (l.flatMap enc):=by
   simp only [loadCells_lit,hR',Nat.zero_add,flat_len he,Nat.le_refl,if_true,List.drop_zero]
   rw [List.take_of_length_le (by rw [flat_len he];exact Nat.le_refl _)]
  simp only [aAppend,firstCells,lenOf,hl,hold,hR',hm0,if_false,Bool.false_eq_true,if_true]
  rw [if_neg (by unfold loose;omega)]
  simp [show lim'≤R by omega,place,List.set_append_left _ _ hRl,List.append_assoc]
theorem Own.push1 {lim':Nat} (h:Own lim G enc e p cap l) (hll:lim'≤lim) (he:∀x,(enc x).length=e) (he0:e≠0) (x:α) (hb:(l.length+1)*bytes≤maxBytes) (hn:l.length+1<2 ^ 61) :
  ∃(G':Heap) (R:Nat),(p=none→R=G.length)∧(∀a,p=some a→R=a.block)∧Mut G G' R∧(∀H0:Heap,Ext H0 G→H0.length≤lim→Ext H0 G')∧
   (∀(X:Heap) (b k:Nat),hget (G++X) b=.cells false (enc x)→aAppend lim' none e bytes false (.slice p l.length cap) (.slice (some ⟨b,0,none⟩) 1 k) (G++X)=some (.slice (some ⟨G.length+X.length,0,none⟩) (l.length+1) (loose e),G'++(X++[.cells false ((l++[x]).flatMap enc)]))):=by
 obtain ⟨G',R,h1,h2,h3,_,h4,h5⟩:=h.push hll he he0 [x] (by simp) (by simpa using hb) (by simpa using hn)
 refine ⟨G',R,h1,h2,h3,h4,fun X b k hx=>?_⟩
 exact h5 X (some ⟨b,0,none⟩) k (Sl.lit he (by rw [hx];rfl) (by rw [hx];simp [cellsOf]))
def boundsV (len cap:Nat) (lo hi mx:Option Value):Option (Nat×Nat×Nat):=bounds (fun o=>match o with | .const v=>v | _=>undef) len cap (lo.map .const) (hi.map .const) (mx.map .const)
theorem bounds_V {ρ:Operand→Value} {len cap:Nat} {lo hi mx:Option Operand}:bounds ρ len cap lo hi mx=boundsV len cap (lo.map ρ) (hi.map ρ) (mx.map ρ):=by
 unfold boundsV
 cases lo<;>cases hi<;>cases mx<;>rfl
theorem bound_int {n:Int} {m:Nat} {kk:IntKind} (h0:0≤n) (h:n≤(m:Int)):bound (.int kk n) m=some n.toNat:=by
 simp only [bound];rw [if_pos ⟨h0,h⟩]
section
variable {len:Nat} {k1 k2 k3:IntKind} {l h x:Int}
theorem bv_010 (h0:0≤h) (h1:h≤(cap:Int)):boundsV len cap none (some (.int k1 h)) none=some (0,h.toNat,cap):=by
 delta boundsV bounds;simp only [Option.map_some,Option.map_none,bound_int h0 h1]
theorem bv_100 (l0:0≤l) (l1:l≤(len:Int)):boundsV len cap (some (.int k1 l)) none none=some (l.toNat,len,cap):=by
 delta boundsV bounds;simp only [Option.map_some,Option.map_none,bound_int l0 l1]
end
end
end Go.AM

namespace Go.Net
set_option maxRecDepth 100000
set_option linter.unusedVariables false
set_option linter.unusedSimpArgs false
structure Leg where
 (id frm dst dep mins cut grams days:Int)
 deriving DecidableEq,Inhabited
def maxTime:Int:=1051898399
def Fine (l:Leg):Prop:=1≤l.id∧l.id≤999999∧1≤l.frm∧l.frm≤999999∧1≤l.dst∧l.dst≤999999∧0≤l.dep∧l.dep≤1439∧1≤l.mins∧l.mins≤20160∧0≤l.cut∧l.cut≤10080∧0≤l.grams∧l.grams≤1000000000∧1≤l.days∧l.days≤127∧l.frm≠l.dst
instance (l:Leg):Decidable (Fine l):=by unfold Fine;infer_instance
def runs (days:Int) (d:Nat):Bool:=days.toNat / 2 ^ (d % 7) % 2 == 1
def goes (l:Leg) (d:Nat):Bool:=runs l.days d&&decide (0≤1440*(d:Int)+l.dep-l.cut)&&decide (1440*(d:Int)+l.dep+l.mins≤maxTime)
def dayN:Nat:=730485
theorem dayN_eq:dayN=730485:=rfl
attribute [irreducible] dayN
def Dep (l:Leg) (a:Int):Prop:=∃d:Nat,d<dayN∧goes l d=true∧a=1440*(d:Int)+l.dep
def nextDay (l:Leg) (r:Int):Option Nat:=(List.range dayN).find? fun (d:Nat)=>goes l d&&decide (r≤1440*(d:Int)+l.dep-l.cut)
def nextD (l:Leg) (r:Int):Option Int:=(nextDay l r).map fun (d:Nat)=>1440*(d:Int)+l.dep
def lastDay (l:Leg) (b:Int):Option Nat:=((List.range dayN).find? fun (d:Nat)=>goes l (dayN-1-d)&&decide (1440*((dayN-1-d:Nat):Int)+l.dep+l.mins≤b)).map fun (d:Nat)=>dayN-1-d
def lastD (l:Leg) (b:Int):Option Int:=(lastDay l b).map fun (d:Nat)=>1440*(d:Int)+l.dep
theorem find_range {n:Nat} {p:Nat→Bool} {i:Nat}:(List.range n).find? p=some i↔p i=true∧i<n∧∀j,j<i→p j=false:=by
 rw [List.find?_range_eq_some];simp
theorem find_range_none {n:Nat} {p:Nat→Bool}:(List.range n).find? p=none↔∀j,j<n→p j=false:=by
 rw [List.find?_range_eq_none];simp
theorem nextD_some {l:Leg} {r a:Int} (h:nextD l r=some a):Dep l a∧r≤a-l.cut∧∀b,Dep l b→r≤b-l.cut→a≤b:=by
 unfold nextD nextDay at h
 obtain ⟨d,hd,rfl⟩:=Option.map_eq_some_iff.1 h
 obtain ⟨h1,h2,h3⟩:=find_range.1 hd
 simp only [Bool.and_eq_true,decide_eq_true_eq] at h1
 refine ⟨⟨d,h2,h1.1,rfl⟩,h1.2,fun b ⟨e,he,hg,hb⟩ hr=>?_⟩
 subst hb
 by_cases hlt:e<d
 ·have:=h3 e hlt
  simp only [hg,Bool.true_and,decide_eq_false_iff_not] at this
  omega
 ·omega
theorem nextD_none {l:Leg} {r:Int} (h:nextD l r=none):∀b,Dep l b→b-l.cut<r:=by
 unfold nextD nextDay at h
 rw [Option.map_eq_none_iff,find_range_none] at h
 intro b ⟨e,he,hg,hb⟩
 have:=h e he
 simp only [hg,Bool.true_and,decide_eq_false_iff_not] at this
 omega
theorem lastD_some {l:Leg} {b a:Int} (h:lastD l b=some a):Dep l a∧a+l.mins≤b∧∀c,Dep l c→c+l.mins≤b→c≤a:=by
 unfold lastD lastDay at h
 obtain ⟨d,hd,rfl⟩:=Option.map_eq_some_iff.1 h
 obtain ⟨d',hd',rfl⟩:=Option.map_eq_some_iff.1 hd
 obtain ⟨h1,h2,h3⟩:=find_range.1 hd'
 simp only [Bool.and_eq_true,decide_eq_true_eq] at h1
 refine ⟨⟨dayN-1-d',by omega,h1.1,rfl⟩,h1.2,fun c ⟨e,he,hg,hc⟩ hr=>?_⟩
 subst hc
 by_cases hlt:dayN-1-d'<e
 ·have:=h3 (dayN-1-e) (by omega)
  rw [show dayN-1-(dayN-1-e)=e by omega] at this
  simp only [hg,Bool.true_and,decide_eq_false_iff_not] at this
  omega
 ·omega
theorem lastD_none {l:Leg} {b:Int} (h:lastD l b=none):∀c,Dep l c→b<c+l.mins:=by
 unfold lastD lastDay at h
 rw [Option.map_eq_none_iff,Option.map_eq_none_iff,find_range_none] at h
 intro c ⟨e,he,hg,hc⟩
 have:=h (dayN-1-e) (by omega)
 rw [show dayN-1-(dayN-1-e)=e by omega] at this
 simp only [hg,Bool.true_and,decide_eq_false_iff_not] at this
 omega
inductive Way (L:List Leg):Nat→Int→Int→Int→Int→Prop where
 | nil (p t:Int):Way L 0 p t p t
 | snoc {k:Nat} {p t m s a:Int} {l:Leg}:Way L k p t m s→l∈L→l.frm=m→Dep l a→s≤a-l.cut→Way L (k+1) p t l.dst (a+l.mins)
theorem Way.later {L:List Leg} {k:Nat} {p t q u:Int} (h:Way L k p t q u) (hL:∀l∈L,Fine l):t≤u:=by
 induction h with
 | nil=>omega
 | snoc h hl hf hd hs ih=>have:=hL _ hl;unfold Fine at this;omega
theorem Way.early {L:List Leg} {k:Nat} {p t t' q u:Int} (h:Way L k p t q u) (ht:t'≤t):(k=0∧p=q∧u=t)∨Way L k p t' q u:=by
 induction h with
 | nil=>exact .inl ⟨rfl,rfl,rfl⟩
 | snoc h hl hf hd hs ih=>
   rcases ih ht with ⟨rfl,rfl,rfl⟩ | ih
   ·exact .inr (.snoc (.nil _ _) hl hf hd (by omega))
   ·exact .inr (.snoc ih hl hf hd hs)
theorem Way.mono {L M:List Leg} {k:Nat} {p t q u:Int} (h:Way L k p t q u) (hs:∀l∈L,l∈M):Way M k p t q u:=by
 induction h with
 | nil=>exact .nil _ _
 | snoc h hl hf hd hr ih=>exact .snoc ih (hs _ hl) hf hd hr
theorem Way.trans {L:List Leg} {k j:Nat} {p t m s q u:Int} (h:Way L k p t m s) (h2:Way L j m s q u):Way L (k+j) p t q u:=by
 induction h2 with
 | nil=>exact h
 | snoc h2 hl hf hd hr ih=>exact .snoc (ih h) hl hf hd hr
theorem Way.cons {L:List Leg} {k:Nat} {p t a q u:Int} {l:Leg} (hl:l∈L) (hf:l.frm=p) (hd:Dep l a) (hr:t≤a-l.cut) (h:Way L k l.dst (a+l.mins) q u):Way L (k+1) p t q u:=by
 have:=(Way.snoc (.nil p t) hl hf hd hr).trans h
 rwa [Nat.zero_add,Nat.add_comm] at this
theorem Way.head {L:List Leg} {k:Nat} {p t q u:Int} (h:Way L (k+1) p t q u):∃l∈L,∃a,l.frm=p∧Dep l a∧t≤a-l.cut∧Way L k l.dst (a+l.mins) q u:=by
 generalize hk:k+1=n at h
 induction h generalizing k with
 | nil=>omega
 | @snoc j p t m s a l h hl hf hd hr ih=>
   cases j with
   | zero=>
     cases h
     obtain rfl:k=0:=by omega
     exact ⟨l,hl,a,hf,hd,hr,.nil _ _⟩
   | succ i=>
     obtain ⟨l',hl',a',h1,h2,h3,h4⟩:=ih rfl
     obtain rfl:k=i+1:=by omega
     exact ⟨l',hl',a',h1,h2,h3,.snoc h4 hl hf hd hr⟩
end Go.Net

