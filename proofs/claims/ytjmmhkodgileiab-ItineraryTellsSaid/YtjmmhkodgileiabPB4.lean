/-
  Joined texts, 4 of 9. A part of the claim that the last text states.
-/
import Derived.Sort.AssemblyPlain
import Derived.Test.YtjmmhkodgileiabPB3
namespace Go.Proofs.Ytjmmhkodgileiab.Fn
open Go.AM Go.AM.Sym
set_option maxRecDepth 100000
def pure:List FuncId:=[3,6,7,12,14,15,16,17,19,24,32,34,35,39,40,42,44,45,56,57,58,59,60,61,62,63,65,67,70,72,74,76,77,83,84,85,86,87,89,90,92,97,99,100,102,103]
def pf:FuncId→Bool:=fun f=>pure.contains f
def l3_1:ACode:=(.seq (.ops [i 174 (.bin .lss (t 173) (t 172))]) (.seq (.cond (t 174) .skip (.exit 2)) (.seq (.block 3 (.seq (.ops [i 175 (.mov (t 173)),i 176 (.idxAddrS 1 (t 171) (t 173)),i 177 (.load1 (t 176)),i 20 (.mov (t 175)),i 21 (.mov (t 177))]) (.ops [i 178 (.mov (t 19)),i 179 (.mov (t 178)),⟨(some 180),(some (179,true)),(.mov (t 21)),none,[]⟩,⟨(some 181),(some (179,true)),(.bin .geq (t 180) (k (.int .i64 0))),none,[]⟩,i 182 (.pick (t 179) (t 181) (k (.bool false))),i 183 (.mov (t 182)),⟨(some 184),(some (183,true)),(.mov (t 21)),none,[]⟩,⟨(some 185),(some (183,true)),(.mov (t 1)),none,[]⟩,⟨(some 186),(some (183,true)),(.lenSlice (t 185)),none,[]⟩,⟨(some 187),(some (183,true)),(.bin .lss (t 184) (t 186)),none,[]⟩,i 188 (.pick (t 183) (t 187) (k (.bool false))),i 189 (.mov (t 188)),⟨(some 190),(some (189,true)),(.mov (t 20)),none,[]⟩,⟨(some 191),(some (189,true)),(.bin .eql (t 190) (k (.int .i64 0))),none,[]⟩,⟨(some 192),(some (189,true)),(.mov (t 191)),none,[]⟩,⟨(some 193),(some (192,false)),(.mov (t 21)),none,[]⟩,⟨(some 194),(some (192,false)),(.mov (t 2)),none,[]⟩,⟨(some 195),(some (192,false)),(.mov (t 20)),none,[]⟩,⟨(some 196),(some (192,false)),(.bin .sub (t 195) (k (.int .i64 1))),none,[]⟩,⟨(some 197),(some (192,false)),(.idxAddrS 1 (t 194) (t 196)),none,[]⟩,⟨(some 198),(some (192,false)),(.load1 (t 197)),none,[]⟩,⟨(some 199),(some (192,false)),(.bin .gtr (t 193) (t 198)),none,[]⟩,⟨(some 200),(some (189,true)),(.pick (t 192) (k (.bool true)) (t 199)),none,[]⟩,i 201 (.pick (t 189) (t 200) (k (.bool false))),i 19 (.mov (t 201))]))) (.ops [i 202 (.bin .add (t 173) (k (.int .i64 1))),i 173 (.mov (t 202))]))))
def l3_2:ACode:=(.seq (.ops [i 105 (.bin .lss (t 104) (t 103))]) (.seq (.cond (t 105) .skip (.exit 0)) (.seq (.block 1 (.seq (.ops [i 106 (.mov (t 104)),i 18 (.mov (t 106))]) (.seq (.drawn 0 [i 107 (.mov (t 9)),i 108 (.mov (t 18)),i 109 (.idxAddrS 7 (t 107) (t 108)),i 110 (.loadN 7 (t 109)),i 111 (.mov (t 1)),i 112 (.mov (t 18)),i 113 (.idxAddrS 7 (t 111) (t 112)),i 114 (.loadN 7 (t 113)),i 115 (.eqv true (.agg [(.int .i64),(.int .i64),(.int .i64),(.int .u8),(.int .i64),(.int .i64),(.int .i64)]) (t 110) (t 114))]) (.cond (t 115) (.seq (.ops [i 6 (.mov (k (.bool false)))]) .ret) .skip)))) (.ops [i 116 (.bin .add (t 104) (k (.int .i64 1))),i 104 (.mov (t 116))]))))
def c3:ACode:=(.seq (.ops [i 3 (.box (t 0)),i 6 (.mov (k (.bool false)))]) (.seq (.seq (.ops [i 22 (.loadN 2 (t 3)),i 23 (.mov (t 1)),i 24 (.call .any (.func 6) [(t 22),(t 23)]),i 25 (.un .not (t 24)),i 26 (.mov (t 25)),⟨(some 27),(some (26,false)),(.mov (t 2)),none,[]⟩,⟨(some 28),(some (26,false)),(.lenSlice (t 27)),none,[]⟩,⟨(some 29),(some (26,false)),(.bin .gtr (t 28) (k (.int .i64 60))),none,[]⟩,i 30 (.pick (t 26) (k (.bool true)) (t 29))]) (.cond (t 30) (.seq (.ops [i 31 (.call .any (.func 7) []),i 6 (.mov (t 31))]) .ret) .skip)) (.seq (.ops [i 32 (.loadN 2 (t 3)),i 33 (.call .any (.func 8) [(t 32)]),i 34 (.mov (t 2)),i 35 (.call .any (.func 9) [(t 34)]),i 7 (.alloc [(.slice none 0 0),(.slice none 0 0)]),⟨none,none,(.store 2 (t 7) (t 33)),none,[]⟩,i 8 (.mov (t 35))]) (.seq (.ops [i 36 (.buildSlice 0 [] []),i 37 (.mov (t 1)),i 38 (.append 7 56 false (t 36) (t 37)),i 9 (.mov (t 38))]) (.seq (.ops [i 40 (.loadN 2 (t 7)),i 41 (.mov (t 9)),i 42 (.call .any (.func 10) [(t 40),(t 41)]),i 39 (.mov (t 42)),i 43 (.extract 0 (t 39)),i 44 (.extract 1 (t 39)),i 10 (.alloc [(.slice none 0 0),(.slice none 0 0),(.int .i64 0)]),⟨none,none,(.store 3 (t 10) (t 43)),none,[]⟩,i 11 (.mov (t 44))]) (.seq (.ops [i 46 (.loadN 2 (t 7)),i 47 (.mov (t 9)),i 48 (.mov (t 8)),i 49 (.call .any (.func 11) [(t 46),(t 47),(t 48)]),i 45 (.mov (t 49)),i 50 (.extract 0 (t 45)),i 51 (.extract 1 (t 45)),i 12 (.alloc [(.slice none 0 0),(.slice none 0 0),(.int .i64 0)]),⟨none,none,(.store 3 (t 12) (t 50)),none,[]⟩,i 13 (.mov (t 51))]) (.seq (.drawn 0 [i 52 (.loadN 2 (t 3)),i 53 (.mov (t 1)),i 54 (.call .mk (.func 13) [(t 53)]),i 55 (.call .pure (.func 12) [(t 52),(t 54)]),i 14 (.mov (t 55))]) (.seq (.seq (.ops [i 56 (.mov (t 1)),i 57 (.lenSlice (t 56)),i 58 (.bin .geq (t 57) (k (.int .i64 2)))]) (.cond (t 58) (.seq (.drawn 0 [i 60 (.loadN 2 (t 7)),i 61 (.mov (t 9)),i 62 (.idxAddrS 7 (t 61) (k (.int .i64 0))),i 63 (.loadN 7 (t 62)),i 64 (.mov (t 9)),i 65 (.idxAddrS 7 (t 64) (k (.int .i64 1))),i 66 (.loadN 7 (t 65)),i 67 (.call .pure (.func 14) [(t 60),(t 63),(t 66)]),i 59 (.mov (t 67)),i 68 (.extract 0 (t 59)),i 69 (.extract 1 (t 59)),i 15 (.mov (t 68)),i 16 (.mov (t 69))]) (.seq (.seq (.drawn 0 [i 70 (.loadN 2 (t 3)),i 71 (.mov (t 1)),i 72 (.sliceS 7 (t 71) none (some (k (.int .i64 2))) none),i 73 (.call .mk (.func 13) [(t 72)]),i 74 (.call .pure (.func 12) [(t 70),(t 73)]),i 17 (.mov (t 74))]) (.seq (.ops [i 75 (.mov (t 16)),i 76 (.mov (t 17)),i 77 (.bin .neq (t 75) (t 76)),i 78 (.mov (t 77)),⟨(some 79),(some (78,false)),(.mov (t 17)),none,[]⟩,⟨(some 80),(some (78,false)),(.bin .neq (t 79) (k (.int .i64 0))),none,[]⟩,⟨(some 81),(some (78,false)),(.mov (t 80)),none,[]⟩,⟨(some 82),(some (81,true)),(.mov (t 15)),none,[]⟩,⟨(some 83),(some (81,true)),(.bin .neq (t 82) (k (.int .i64 0))),none,[]⟩,⟨(some 84),(some (78,false)),(.pick (t 81) (t 83) (k (.bool false))),none,[]⟩,i 85 (.pick (t 78) (k (.bool true)) (t 84))]) (.cond (t 85) (.seq (.ops [i 6 (.mov (k (.bool false)))]) .ret) .skip))) (.seq (.drawn 0 [i 86 (.mov (t 16)),i 87 (.bin .eql (t 86) (k (.int .i64 0))),i 88 (.mov (t 87)),⟨(some 89),(some (88,true)),(.mov (t 15)),none,[]⟩,⟨(some 90),(some (88,true)),(.loadN 2 (t 3)),none,[]⟩,⟨(some 91),(some (88,true)),(.mov (t 1)),none,[]⟩,⟨(some 95),(some (88,true)),(.mov (t 1)),none,[]⟩,⟨(some 92),(some (88,true)),(.call .mk (.func 13) [(t 91)]),none,[]⟩,⟨(some 93),(some (88,true)),(.idxAddrS 7 (t 92) (k (.int .i64 0))),none,[]⟩,⟨(some 94),(some (88,true)),(.loadN 7 (t 93)),none,[]⟩,⟨(some 96),(some (88,true)),(.call .mk (.func 13) [(t 95)]),none,[]⟩,⟨(some 97),(some (88,true)),(.idxAddrS 7 (t 96) (k (.int .i64 1))),none,[]⟩,⟨(some 98),(some (88,true)),(.loadN 7 (t 97)),none,[]⟩,⟨(some 99),(some (88,true)),(.call .pure (.func 15) [(t 90),(t 94),(t 98)]),none,[]⟩,⟨(some 100),(some (88,true)),(.bin .neq (t 89) (t 99)),none,[]⟩,i 101 (.pick (t 88) (t 100) (k (.bool false)))]) (.cond (t 101) (.seq (.ops [i 6 (.mov (k (.bool false)))]) .ret) .skip)))) .skip)) (.seq (.seq (.ops [i 102 (.mov (t 1)),i 103 (.lenSlice (t 102)),i 104 (.mov (k (.int .i64 0)))]) (.block 0 (.loop l3_2))) (.seq (.seq (.ops [i 117 (.loadN 2 (t 7)),i 118 (.loadN 2 (t 3)),i 119 (.call .any (.func 16) [(t 117),(t 118)]),i 120 (.un .not (t 119)),i 121 (.mov (t 120)),⟨(some 122),(some (121,false)),(.mov (t 8)),none,[]⟩,⟨(some 123),(some (121,false)),(.mov (t 2)),none,[]⟩,⟨(some 124),(some (121,false)),(.call .any (.func 17) [(t 122),(t 123)]),none,[]⟩,⟨(some 125),(some (121,false)),(.un .not (t 124)),none,[]⟩,i 126 (.pick (t 121) (k (.bool true)) (t 125))]) (.cond (t 126) (.seq (.ops [i 6 (.mov (k (.bool false)))]) .ret) .skip)) (.seq (.ops [i 127 (.mov (t 8)),i 128 (.call .any (.func 18) [(t 127)])]) (.seq (.seq (.ops [i 129 (.mov (t 14)),i 130 (.bin .neq (t 129) (k (.int .i64 0)))]) (.cond (t 130) (.seq (.ops [i 131 (.mov (t 11)),i 132 (.mov (t 14)),i 133 (.bin .eql (t 131) (t 132)),i 134 (.mov (t 133)),⟨(some 135),(some (134,true)),(.mov (t 13)),none,[]⟩,⟨(some 136),(some (134,true)),(.mov (t 11)),none,[]⟩,⟨(some 137),(some (134,true)),(.bin .eql (t 135) (t 136)),none,[]⟩,i 138 (.pick (t 134) (t 137) (k (.bool false))),i 139 (.mov (t 138)),⟨(some 140),(some (139,true)),(.loadN 3 (t 10)),none,[]⟩,⟨(some 141),(some (139,true)),(.build [(.slice none 0 0),(.slice none 0 0),(.int .i64 0)] []),none,[]⟩,⟨(some 142),(some (139,true)),(.call .any (.func 19) [(t 140),(t 141)]),none,[]⟩,i 143 (.pick (t 139) (t 142) (k (.bool false))),i 144 (.mov (t 143)),⟨(some 145),(some (144,true)),(.loadN 3 (t 12)),none,[]⟩,⟨(some 146),(some (144,true)),(.build [(.slice none 0 0),(.slice none 0 0),(.int .i64 0)] []),none,[]⟩,⟨(some 147),(some (144,true)),(.call .any (.func 19) [(t 145),(t 146)]),none,[]⟩,i 148 (.pick (t 144) (t 147) (k (.bool false))),i 149 (.mov (t 148)),⟨(some 150),(some (149,true)),(.call .any (.func 7) []),none,[]⟩,i 151 (.pick (t 149) (t 150) (k (.bool false))),i 6 (.mov (t 151))]) .ret) .skip)) (.seq (.seq (.drawn 0 [i 152 (.mov (t 11)),i 153 (.bin .neq (t 152) (k (.int .i64 0))),i 154 (.mov (t 153)),⟨(some 155),(some (154,false)),(.loadN 3 (t 10)),none,[]⟩,⟨(some 156),(some (154,false)),(.loadN 2 (t 3)),none,[]⟩,⟨(some 157),(some (154,false)),(.mov (t 1)),none,[]⟩,⟨(some 158),(some (154,false)),(.call .mk (.func 13) [(t 157)]),none,[]⟩,⟨(some 159),(some (154,false)),(.call .mk (.func 20) [(t 156),(t 158)]),none,[]⟩,⟨(some 160),(some (154,false)),(.call .pure (.func 19) [(t 155),(t 159)]),none,[]⟩,⟨(some 161),(some (154,false)),(.un .not (t 160)),none,[]⟩,i 162 (.pick (t 154) (k (.bool true)) (t 161))]) (.cond (t 162) (.seq (.ops [i 6 (.mov (k (.bool false)))]) .ret) .skip)) (.seq (.ops [i 163 (.mov (t 2)),i 164 (.lenSlice (t 163)),i 165 (.bin .gtr (t 164) (k (.int .i64 0))),i 166 (.mov (t 165)),⟨(some 167),(some (166,false)),(.mov (t 1)),none,[]⟩,⟨(some 168),(some (166,false)),(.lenSlice (t 167)),none,[]⟩,⟨(some 169),(some (166,false)),(.bin .eql (t 168) (k (.int .i64 0))),none,[]⟩,i 170 (.pick (t 166) (k (.bool true)) (t 169)),i 19 (.mov (t 170))]) (.seq (.seq (.ops [i 171 (.mov (t 2)),i 172 (.lenSlice (t 171)),i 173 (.mov (k (.int .i64 0)))]) (.block 2 (.loop l3_1))) (.seq (.seq (.ops [i 203 (.mov (t 19)),i 204 (.un .not (t 203))]) (.cond (t 204) (.seq (.ops [i 205 (.mov (t 13)),i 206 (.bin .eql (t 205) (k (.int .i64 2))),i 207 (.mov (t 206)),⟨(some 208),(some (207,true)),(.loadN 3 (t 12)),none,[]⟩,⟨(some 209),(some (207,true)),(.build [(.slice none 0 0),(.slice none 0 0),(.int .i64 0)] []),none,[]⟩,⟨(some 210),(some (207,true)),(.call .any (.func 19) [(t 208),(t 209)]),none,[]⟩,i 211 (.pick (t 207) (t 210) (k (.bool false))),i 212 (.mov (t 211)),⟨(some 213),(some (212,true)),(.call .any (.func 7) []),none,[]⟩,i 214 (.pick (t 212) (t 213) (k (.bool false))),i 6 (.mov (t 214))]) .ret) .skip)) (.seq (.drawn 0 [i 215 (.mov (t 13)),i 216 (.bin .eql (t 215) (k (.int .i64 0))),i 217 (.mov (t 216)),⟨(some 218),(some (217,true)),(.loadN 3 (t 12)),none,[]⟩,⟨(some 219),(some (217,true)),(.loadN 2 (t 3)),none,[]⟩,⟨(some 220),(some (217,true)),(.mov (t 1)),none,[]⟩,⟨(some 222),(some (217,true)),(.mov (t 2)),none,[]⟩,⟨(some 221),(some (217,true)),(.call .mk (.func 13) [(t 220)]),none,[]⟩,⟨(some 223),(some (217,true)),(.call .mk (.func 21) [(t 219),(t 221),(t 222)]),none,[]⟩,⟨(some 224),(some (217,true)),(.call .pure (.func 19) [(t 218),(t 223)]),none,[]⟩,i 225 (.pick (t 217) (t 224) (k (.bool false))),i 226 (.mov (t 225)),⟨(some 227),(some (226,true)),(.call .pure (.func 7) []),none,[]⟩,i 228 (.pick (t 226) (t 227) (k (.bool false))),i 6 (.mov (t 228))]) .ret)))))))))))))))))
def a3:AFunc:=⟨229,[(.tmp 6)],c3⟩
theorem n3:a3.ntmps=229:=id rfl
theorem r3:a3.results=[(.tmp 6)]:=rfl
theorem b3:a3.body=c3:=rfl
def c6:ACode:=(.seq (.ops [i 2 (.box (t 0)),i 4 (.mov (k (.bool false)))]) (.seq (.ops [i 5 (.fieldAddr 0 (t 2)),i 6 (.load1 (t 5)),i 7 (.lenSlice (t 6)),i 8 (.bin .leq (t 7) (k (.int .i64 60))),i 9 (.mov (t 8)),⟨(some 10),(some (9,true)),(.fieldAddr 1 (t 2)),none,[]⟩,⟨(some 11),(some (9,true)),(.load1 (t 10)),none,[]⟩,⟨(some 12),(some (9,true)),(.lenSlice (t 11)),none,[]⟩,⟨(some 13),(some (9,true)),(.bin .leq (t 12) (k (.int .i64 20))),none,[]⟩,i 14 (.pick (t 9) (t 13) (k (.bool false))),i 15 (.mov (t 14)),⟨(some 16),(some (15,true)),(.mov (t 1)),none,[]⟩,⟨(some 17),(some (15,true)),(.lenSlice (t 16)),none,[]⟩,⟨(some 18),(some (15,true)),(.bin .leq (t 17) (k (.int .i64 12))),none,[]⟩,⟨(some 19),(some (15,true)),(.mov (t 18)),none,[]⟩,⟨(some 20),(some (19,false)),(.mov (t 1)),none,[]⟩,⟨(some 21),(some (19,false)),(.lenSlice (t 20)),none,[]⟩,⟨(some 22),(some (19,false)),(.bin .gtr (t 21) (k (.int .i64 40))),none,[]⟩,⟨(some 23),(some (19,false)),(.mov (t 22)),none,[]⟩,⟨(some 24),(some (23,true)),(.mov (t 1)),none,[]⟩,⟨(some 25),(some (23,true)),(.lenSlice (t 24)),none,[]⟩,⟨(some 26),(some (23,true)),(.bin .leq (t 25) (k (.int .i64 45))),none,[]⟩,⟨(some 27),(some (19,false)),(.pick (t 23) (t 26) (k (.bool false))),none,[]⟩,⟨(some 28),(some (15,true)),(.pick (t 19) (k (.bool true)) (t 27)),none,[]⟩,i 29 (.pick (t 15) (t 28) (k (.bool false))),i 4 (.mov (t 29))]) .ret))
def a6:AFunc:=⟨30,[(.tmp 4)],c6⟩
theorem n6:a6.ntmps=30:=id rfl
theorem r6:a6.results=[(.tmp 4)]:=rfl
theorem b6:a6.body=c6:=rfl
def c7:ACode:=(.seq (.ops [i 0 (.mov (k (.bool false)))]) (.seq (.ops [i 15 (.call .any (.func 31) []),i 1 (.alloc [(.slice none 0 0),(.slice none 0 0)]),⟨none,none,(.store 2 (t 1) (t 15)),none,[]⟩]) (.seq (.drawn 0 [i 17 (.loadN 2 (t 1)),i 18 (.call .pure (.func 32) [(k (.int .i64 1)),(k (.int .i64 500))]),i 19 (.call .pure (.func 32) [(k (.int .i64 2)),(k (.int .i64 660))]),i 20 (.call .pure (.func 14) [(t 17),(t 18),(t 19)]),i 16 (.mov (t 20)),i 21 (.extract 0 (t 16)),i 22 (.extract 1 (t 16)),i 2 (.mov (t 21)),i 3 (.mov (t 22))]) (.seq (.drawn 0 [i 24 (.loadN 2 (t 1)),i 25 (.call .pure (.func 32) [(k (.int .i64 1)),(k (.int .i64 500))]),i 26 (.call .pure (.func 32) [(k (.int .i64 2)),(k (.int .i64 650))]),i 27 (.call .pure (.func 14) [(t 24),(t 25),(t 26)]),i 23 (.mov (t 27)),i 28 (.extract 0 (t 23)),i 29 (.extract 1 (t 23)),i 4 (.mov (t 28)),i 5 (.mov (t 29))]) (.seq (.drawn 0 [i 31 (.loadN 2 (t 1)),i 32 (.call .pure (.func 32) [(k (.int .i64 1)),(k (.int .i64 200))]),i 33 (.call .pure (.func 32) [(k (.int .i64 2)),(k (.int .i64 300))]),i 34 (.call .pure (.func 14) [(t 31),(t 32),(t 33)]),i 30 (.mov (t 34)),i 35 (.extract 0 (t 30)),i 36 (.extract 1 (t 30)),i 6 (.mov (t 35)),i 7 (.mov (t 36))]) (.seq (.drawn 0 [i 38 (.loadN 2 (t 1)),i 39 (.call .pure (.func 32) [(k (.int .i64 2)),(k (.int .i64 500))]),i 40 (.call .pure (.func 32) [(k (.int .i64 1)),(k (.int .i64 5000))]),i 41 (.call .pure (.func 14) [(t 38),(t 39),(t 40)]),i 37 (.mov (t 41)),i 42 (.extract 0 (t 37)),i 43 (.extract 1 (t 37)),i 8 (.mov (t 42)),i 9 (.mov (t 43))]) (.seq (.ops [i 44 (.call .any (.func 32) [(k (.int .i64 1)),(k (.int .i64 500))]),i 45 (.call .any (.func 32) [(k (.int .i64 2)),(k (.int .i64 510))]),i 46 (.call .any (.func 32) [(k (.int .i64 2)),(k (.int .i64 660))]),i 47 (.buildSlice 3 [(.int .i64 0),(.int .i64 0),(.int .i64 0),(.int .u8 0),(.int .i64 0),(.int .i64 0),(.int .i64 0),(.int .i64 0),(.int .i64 0),(.int .i64 0),(.int .u8 0),(.int .i64 0),(.int .i64 0),(.int .i64 0),(.int .i64 0),(.int .i64 0),(.int .i64 0),(.int .u8 0),(.int .i64 0),(.int .i64 0),(.int .i64 0)] [(0,(7,(t 44))),(7,(7,(t 45))),(14,(7,(t 46)))]),i 10 (.mov (t 47))]) (.seq (.ops [i 49 (.loadN 2 (t 1)),i 50 (.mov (t 10)),i 51 (.call .any (.func 10) [(t 49),(t 50)]),i 48 (.mov (t 51)),i 52 (.extract 0 (t 48)),i 53 (.extract 1 (t 48)),i 11 (.alloc [(.slice none 0 0),(.slice none 0 0),(.int .i64 0)]),⟨none,none,(.store 3 (t 11) (t 52)),none,[]⟩,i 12 (.mov (t 53))]) (.seq (.ops [i 55 (.loadN 2 (t 1)),i 56 (.mov (t 10)),i 57 (.buildSlice 3 [(.int .i64 0),(.int .i64 0),(.int .i64 0)] [(0,(1,(k (.int .i64 0)))),(1,(1,(k (.int .i64 1)))),(2,(1,(k (.int .i64 2))))]),i 58 (.call .any (.func 11) [(t 55),(t 56),(t 57)]),i 54 (.mov (t 58)),i 59 (.extract 0 (t 54)),i 60 (.extract 1 (t 54)),i 13 (.alloc [(.slice none 0 0),(.slice none 0 0),(.int .i64 0)]),⟨none,none,(.store 3 (t 13) (t 59)),none,[]⟩,i 14 (.mov (t 60))]) (.seq (.ops [i 61 (.mov (t 3)),i 62 (.mov (t 5)),i 63 (.bin .add (t 61) (t 62)),i 64 (.mov (t 7)),i 65 (.bin .add (t 63) (t 64)),i 66 (.mov (t 9)),i 67 (.bin .add (t 65) (t 66)),i 68 (.mov (t 12)),i 69 (.bin .add (t 67) (t 68)),i 70 (.mov (t 14)),i 71 (.bin .add (t 69) (t 70)),i 72 (.bin .eql (t 71) (k (.int .i64 0))),i 73 (.mov (t 72)),⟨(some 74),(some (73,true)),(.mov (t 2)),none,[]⟩,⟨(some 75),(some (73,true)),(.bin .eql (t 74) (k (.int .i64 0))),none,[]⟩,i 76 (.pick (t 73) (t 75) (k (.bool false))),i 77 (.mov (t 76)),⟨(some 78),(some (77,true)),(.mov (t 4)),none,[]⟩,⟨(some 79),(some (77,true)),(.bin .eql (t 78) (k (.int .i64 10))),none,[]⟩,i 80 (.pick (t 77) (t 79) (k (.bool false))),i 81 (.mov (t 80)),⟨(some 82),(some (81,true)),(.mov (t 6)),none,[]⟩,⟨(some 83),(some (81,true)),(.bin .eql (t 82) (k (.int .i64 60))),none,[]⟩,i 84 (.pick (t 81) (t 83) (k (.bool false))),i 85 (.mov (t 84)),⟨(some 86),(some (85,true)),(.mov (t 8)),none,[]⟩,⟨(some 87),(some (85,true)),(.bin .eql (t 86) (k (.int .i64 80))),none,[]⟩,i 88 (.pick (t 85) (t 87) (k (.bool false))),i 89 (.mov (t 88)),⟨(some 90),(some (89,true)),(.fieldAddr 2 (t 11)),none,[]⟩,⟨(some 91),(some (89,true)),(.load1 (t 90)),none,[]⟩,⟨(some 92),(some (89,true)),(.bin .eql (t 91) (k (.int .i64 30))),none,[]⟩,i 93 (.pick (t 89) (t 92) (k (.bool false))),i 94 (.mov (t 93)),⟨(some 95),(some (94,true)),(.fieldAddr 0 (t 11)),none,[]⟩,⟨(some 96),(some (94,true)),(.load1 (t 95)),none,[]⟩,⟨(some 97),(some (94,true)),(.buildSlice 2 [(.int .i64 0),(.int .i64 0)] [(0,(1,(k (.int .i64 0)))),(1,(1,(k (.int .i64 2))))]),none,[]⟩,⟨(some 98),(some (94,true)),(.call .any (.func 24) [(t 96),(t 97)]),none,[]⟩,i 99 (.pick (t 94) (t 98) (k (.bool false))),i 100 (.mov (t 99)),⟨(some 101),(some (100,true)),(.fieldAddr 1 (t 11)),none,[]⟩,⟨(some 102),(some (100,true)),(.load1 (t 101)),none,[]⟩,⟨(some 103),(some (100,true)),(.lenSlice (t 102)),none,[]⟩,⟨(some 104),(some (100,true)),(.bin .eql (t 103) (k (.int .i64 1))),none,[]⟩,i 105 (.pick (t 100) (t 104) (k (.bool false))),i 106 (.mov (t 105)),⟨(some 107),(some (106,true)),(.fieldAddr 1 (t 11)),none,[]⟩,⟨(some 108),(some (106,true)),(.load1 (t 107)),none,[]⟩,⟨(some 109),(some (106,true)),(.idxAddrS 3 (t 108) (k (.int .i64 0))),none,[]⟩,⟨(some 110),(some (106,true)),(.loadN 3 (t 109)),none,[]⟩,⟨(some 111),(some (106,true)),(.build [(.int .i64 0),(.int .i64 0),(.int .i64 0)] [(0,(1,(k (.int .i64 0)))),(1,(1,(k (.int .i64 2))))]),none,[]⟩,⟨(some 112),(some (106,true)),(.eqv false (.agg [(.int .i64),(.int .i64),(.int .i64)]) (t 110) (t 111)),none,[]⟩,i 113 (.pick (t 106) (t 112) (k (.bool false))),i 114 (.mov (t 113)),⟨(some 115),(some (114,true)),(.fieldAddr 2 (t 13)),none,[]⟩,⟨(some 116),(some (114,true)),(.load1 (t 115)),none,[]⟩,⟨(some 117),(some (114,true)),(.bin .eql (t 116) (k (.int .i64 60))),none,[]⟩,i 118 (.pick (t 114) (t 117) (k (.bool false))),i 0 (.mov (t 118))]) .ret))))))))))
def a7:AFunc:=⟨119,[(.tmp 0)],c7⟩
theorem n7:a7.ntmps=119:=id rfl
theorem r7:a7.results=[(.tmp 0)]:=rfl
theorem b7:a7.body=c7:=rfl
def c8:ACode:=(.seq (.ops [i 1 (.box (t 0)),i 2 (.alloc [(.slice none 0 0),(.slice none 0 0)])]) (.seq (.ops [i 3 (.fieldAddr 0 (t 1)),i 4 (.load1 (t 3)),i 5 (.call .any (.func 9) [(t 4)]),i 6 (.fieldAddr 0 (t 1)),⟨none,none,(.store 1 (t 6) (t 5)),none,[]⟩]) (.seq (.ops [i 7 (.fieldAddr 1 (t 1)),i 8 (.load1 (t 7)),i 9 (.call .any (.func 33) [(t 8)]),i 10 (.fieldAddr 1 (t 1)),⟨none,none,(.store 1 (t 10) (t 9)),none,[]⟩]) (.seq (.ops [i 11 (.loadN 2 (t 1)),⟨none,none,(.store 2 (t 2) (t 11)),none,[]⟩]) .ret))))
def a8:AFunc:=⟨12,[(.cellN 2 2)],c8⟩
theorem n8:a8.ntmps=12:=id rfl
theorem r8:a8.results=[(.cellN 2 2)]:=rfl
theorem b8:a8.body=c8:=rfl
def l9_1:ACode:=(.seq (.seq (.ops [i 12 (.mov (t 4)),i 13 (.bin .lss (t 12) (k (.int .i64 12)))]) (.cond (t 13) .skip (.exit 0))) (.seq (.block 1 (.ops [i 16 (.mov (t 3)),i 17 (.mov (t 4)),i 18 (.call .any (.func 34) [(k (.int .i64 1)),(t 17)]),i 19 (.buildSlice 1 [(.int .i64 0)] [(0,(1,(t 18)))]),i 20 (.append 1 8 false (t 16) (t 19)),i 3 (.mov (t 20))])) (.ops [i 14 (.mov (t 4)),i 15 (.bin .add (t 14) (k (.int .i64 1))),i 4 (.mov (t 15))])))
def c9:ACode:=(.seq (.ops [i 2 (.mov (k (.slice none 0 0)))]) (.seq (.ops [i 5 (.mov (t 0)),i 6 (.lenSlice (t 5)),i 7 (.bin .add (t 6) (k (.int .i64 12))),i 8 (.makeSlice 1 8 [(.int .i64 0)] (k (.int .i64 0)) (t 7)),i 3 (.mov (t 8))]) (.seq (.ops [i 9 (.mov (t 3)),i 10 (.mov (t 0)),i 11 (.append 1 8 false (t 9) (t 10)),i 3 (.mov (t 11))]) (.seq (.seq (.ops [i 4 (.mov (k (.int .i64 0)))]) (.block 0 (.loop l9_1))) (.seq (.ops [i 21 (.mov (t 3)),i 22 (.mov (t 0)),i 23 (.lenSlice (t 22)),i 24 (.sliceS 1 (t 21) none (some (t 23)) none),i 2 (.mov (t 24))]) .ret)))))
def a9:AFunc:=⟨25,[(.tmp 2)],c9⟩
theorem n9:a9.ntmps=25:=id rfl
theorem r9:a9.results=[(.tmp 2)]:=rfl
theorem b9:a9.body=c9:=rfl
def c10:ACode:=(.seq (.ops [i 2 (.box (t 0)),i 4 (.alloc [(.slice none 0 0),(.slice none 0 0),(.int .i64 0)]),i 5 (.mov (k (.int .i64 0)))]) (.seq (.seq (.ops [i 8 (.loadN 2 (t 2)),i 9 (.mov (t 1)),i 10 (.call .any (.func 35) [(t 8),(t 9)]),i 6 (.mov (t 10))]) (.seq (.ops [i 11 (.mov (t 6)),i 12 (.bin .neq (t 11) (k (.int .i64 0)))]) (.cond (t 12) (.seq (.ops [i 13 (.build [(.slice none 0 0),(.slice none 0 0),(.int .i64 0)] []),i 14 (.mov (t 6)),⟨none,none,(.store 3 (t 4) (t 13)),none,[]⟩,i 5 (.mov (t 14))]) .ret) .skip))) (.seq (.ops [i 15 (.loadN 2 (t 2)),i 16 (.call .any (.func 36) [(t 15)]),i 7 (.mov (t 16))]) (.seq (.ops [i 17 (.mov (t 7)),i 18 (.mov (t 1)),i 19 (.mov (t 7)),i 20 (.mov (t 1)),i 21 (.call .any (.func 38) [(t 19),(t 20)]),i 22 (.call .any (.func 37) [(t 17),(t 18),(t 21)]),⟨none,none,(.store 3 (t 4) (t 22)),none,[]⟩,i 5 (.mov (k (.int .i64 0)))]) .ret))))
def a10:AFunc:=⟨23,[(.cellN 3 4),(.tmp 5)],c10⟩
theorem n10:a10.ntmps=23:=id rfl
theorem r10:a10.results=[(.cellN 3 4),(.tmp 5)]:=rfl
theorem b10:a10.body=c10:=rfl
def l11_1:ACode:=(.seq (.ops [i 30 (.bin .lss (t 29) (t 28))]) (.seq (.cond (t 30) .skip (.exit 0)) (.seq (.block 1 (.seq (.ops [i 31 (.mov (t 29)),i 32 (.idxAddrS 1 (t 27) (t 29)),i 33 (.load1 (t 32)),i 9 (.mov (t 31)),i 10 (.mov (t 33))]) (.seq (.ops [i 34 (.mov (t 10)),i 35 (.bin .lss (t 34) (k (.int .i64 0))),i 36 (.mov (t 35)),⟨(some 37),(some (36,false)),(.mov (t 10)),none,[]⟩,⟨(some 38),(some (36,false)),(.mov (t 1)),none,[]⟩,⟨(some 39),(some (36,false)),(.lenSlice (t 38)),none,[]⟩,⟨(some 40),(some (36,false)),(.bin .geq (t 37) (t 39)),none,[]⟩,i 41 (.pick (t 36) (k (.bool true)) (t 40)),i 42 (.mov (t 41)),⟨(some 43),(some (42,false)),(.mov (t 9)),none,[]⟩,⟨(some 44),(some (42,false)),(.bin .gtr (t 43) (k (.int .i64 0))),none,[]⟩,⟨(some 45),(some (42,false)),(.mov (t 44)),none,[]⟩,⟨(some 46),(some (45,true)),(.mov (t 10)),none,[]⟩,⟨(some 47),(some (45,true)),(.mov (t 2)),none,[]⟩,⟨(some 48),(some (45,true)),(.mov (t 9)),none,[]⟩,⟨(some 49),(some (45,true)),(.bin .sub (t 48) (k (.int .i64 1))),none,[]⟩,⟨(some 50),(some (45,true)),(.idxAddrS 1 (t 47) (t 49)),none,[]⟩,⟨(some 51),(some (45,true)),(.load1 (t 50)),none,[]⟩,⟨(some 52),(some (45,true)),(.bin .leq (t 46) (t 51)),none,[]⟩,⟨(some 53),(some (42,false)),(.pick (t 45) (t 52) (k (.bool false))),none,[]⟩,i 54 (.pick (t 42) (k (.bool true)) (t 53))]) (.cond (t 54) (.seq (.ops [i 55 (.build [(.slice none 0 0),(.slice none 0 0),(.int .i64 0)] []),⟨none,none,(.store 3 (t 6) (t 55)),none,[]⟩,i 7 (.mov (k (.int .i64 2)))]) .ret) .skip)))) (.ops [i 56 (.bin .add (t 29) (k (.int .i64 1))),i 29 (.mov (t 56))]))))
def c11:ACode:=(.seq (.ops [i 3 (.box (t 0)),i 6 (.alloc [(.slice none 0 0),(.slice none 0 0),(.int .i64 0)]),i 7 (.mov (k (.int .i64 0)))]) (.seq (.seq (.ops [i 11 (.loadN 2 (t 3)),i 12 (.mov (t 1)),i 13 (.call .any (.func 35) [(t 11),(t 12)]),i 8 (.mov (t 13))]) (.seq (.ops [i 14 (.mov (t 8)),i 15 (.bin .neq (t 14) (k (.int .i64 0)))]) (.cond (t 15) (.seq (.ops [i 16 (.build [(.slice none 0 0),(.slice none 0 0),(.int .i64 0)] []),i 17 (.mov (t 8)),⟨none,none,(.store 3 (t 6) (t 16)),none,[]⟩,i 7 (.mov (t 17))]) .ret) .skip))) (.seq (.seq (.ops [i 18 (.mov (t 2)),i 19 (.lenSlice (t 18)),i 20 (.bin .eql (t 19) (k (.int .i64 0))),i 21 (.mov (t 20)),⟨(some 22),(some (21,true)),(.mov (t 1)),none,[]⟩,⟨(some 23),(some (21,true)),(.lenSlice (t 22)),none,[]⟩,⟨(some 24),(some (21,true)),(.bin .gtr (t 23) (k (.int .i64 0))),none,[]⟩,i 25 (.pick (t 21) (t 24) (k (.bool false)))]) (.cond (t 25) (.seq (.ops [i 26 (.build [(.slice none 0 0),(.slice none 0 0),(.int .i64 0)] []),⟨none,none,(.store 3 (t 6) (t 26)),none,[]⟩,i 7 (.mov (k (.int .i64 2)))]) .ret) .skip)) (.seq (.seq (.ops [i 27 (.mov (t 2)),i 28 (.lenSlice (t 27)),i 29 (.mov (k (.int .i64 0)))]) (.block 0 (.loop l11_1))) (.seq (.ops [i 57 (.loadN 2 (t 3)),i 58 (.call .any (.func 36) [(t 57)]),i 59 (.mov (t 1)),i 60 (.mov (t 2)),i 61 (.call .any (.func 37) [(t 58),(t 59),(t 60)]),⟨none,none,(.store 3 (t 6) (t 61)),none,[]⟩,i 7 (.mov (k (.int .i64 0)))]) .ret)))))
def a11:AFunc:=⟨62,[(.cellN 3 6),(.tmp 7)],c11⟩
theorem n11:a11.ntmps=62:=id rfl
theorem r11:a11.results=[(.cellN 3 6),(.tmp 7)]:=rfl
theorem b11:a11.body=c11:=rfl
def l12_1:ACode:=(.seq (.seq (.ops [i 15 (.mov (t 6)),i 16 (.mov (t 1)),i 17 (.lenSlice (t 16)),i 18 (.bin .lss (t 15) (t 17))]) (.cond (t 18) .skip (.exit 0))) (.seq (.block 1 (.seq (.seq (.drawn 0 [i 21 (.mov (t 1)),i 22 (.mov (t 6)),i 23 (.idxAddrS 7 (t 21) (t 22)),i 24 (.fieldAddr 0 (t 23)),i 25 (.loadN 6 (t 24)),i 26 (.call .pure (.func 40) [(t 25)]),i 27 (.un .not (t 26)),i 28 (.mov (t 27)),⟨(some 29),(some (28,false)),(.mov (t 1)),none,[]⟩,⟨(some 30),(some (28,false)),(.mov (t 6)),none,[]⟩,⟨(some 31),(some (28,false)),(.idxAddrS 7 (t 29) (t 30)),none,[]⟩,⟨(some 32),(some (28,false)),(.fieldAddr 0 (t 31)),none,[]⟩,⟨(some 33),(some (28,false)),(.fieldAddr 0 (t 32)),none,[]⟩,⟨(some 34),(some (28,false)),(.load1 (t 33)),none,[]⟩,⟨(some 35),(some (28,false)),(.mov (t 1)),none,[]⟩,⟨(some 36),(some (28,false)),(.idxAddrS 7 (t 35) (k (.int .i64 0))),none,[]⟩,⟨(some 37),(some (28,false)),(.fieldAddr 0 (t 36)),none,[]⟩,⟨(some 38),(some (28,false)),(.fieldAddr 0 (t 37)),none,[]⟩,⟨(some 39),(some (28,false)),(.load1 (t 38)),none,[]⟩,⟨(some 40),(some (28,false)),(.bin .neq (t 34) (t 39)),none,[]⟩,i 41 (.pick (t 28) (k (.bool true)) (t 40)),i 42 (.mov (t 41)),⟨(some 43),(some (42,false)),(.mov (t 1)),none,[]⟩,⟨(some 44),(some (42,false)),(.mov (t 6)),none,[]⟩,⟨(some 45),(some (42,false)),(.idxAddrS 7 (t 43) (t 44)),none,[]⟩,⟨(some 46),(some (42,false)),(.fieldAddr 6 (t 45)),none,[]⟩,⟨(some 47),(some (42,false)),(.load1 (t 46)),none,[]⟩,⟨(some 48),(some (42,false)),(.bin .lss (t 47) (k (.int .i64 0))),none,[]⟩,i 49 (.pick (t 42) (k (.bool true)) (t 48)),i 50 (.mov (t 49)),⟨(some 51),(some (50,false)),(.mov (t 1)),none,[]⟩,⟨(some 52),(some (50,false)),(.mov (t 6)),none,[]⟩,⟨(some 53),(some (50,false)),(.idxAddrS 7 (t 51) (t 52)),none,[]⟩,⟨(some 54),(some (50,false)),(.fieldAddr 6 (t 53)),none,[]⟩,⟨(some 55),(some (50,false)),(.load1 (t 54)),none,[]⟩,⟨(some 56),(some (50,false)),(.bin .gtr (t 55) (k (.int .i64 1051898399))),none,[]⟩,i 57 (.pick (t 50) (k (.bool true)) (t 56))]) (.cond (t 57) (.seq (.ops [i 4 (.mov (k (.int .i64 2)))]) .ret) .skip)) (.seq (.drawn 0 [i 58 (.mov (t 6)),i 59 (.bin .gtr (t 58) (k (.int .i64 0))),i 60 (.mov (t 59)),⟨(some 61),(some (60,true)),(.mov (t 1)),none,[]⟩,⟨(some 62),(some (60,true)),(.mov (t 6)),none,[]⟩,⟨(some 63),(some (60,true)),(.bin .sub (t 62) (k (.int .i64 1))),none,[]⟩,⟨(some 64),(some (60,true)),(.idxAddrS 7 (t 61) (t 63)),none,[]⟩,⟨(some 65),(some (60,true)),(.fieldAddr 6 (t 64)),none,[]⟩,⟨(some 66),(some (60,true)),(.load1 (t 65)),none,[]⟩,⟨(some 67),(some (60,true)),(.mov (t 1)),none,[]⟩,⟨(some 68),(some (60,true)),(.mov (t 6)),none,[]⟩,⟨(some 69),(some (60,true)),(.idxAddrS 7 (t 67) (t 68)),none,[]⟩,⟨(some 70),(some (60,true)),(.fieldAddr 6 (t 69)),none,[]⟩,⟨(some 71),(some (60,true)),(.load1 (t 70)),none,[]⟩,⟨(some 72),(some (60,true)),(.bin .gtr (t 66) (t 71)),none,[]⟩,i 73 (.pick (t 60) (t 72) (k (.bool false)))]) (.cond (t 73) (.seq (.ops [i 4 (.mov (k (.int .i64 2)))]) .ret) .skip)))) (.ops [i 19 (.mov (t 6)),i 20 (.bin .add (t 19) (k (.int .i64 1))),i 6 (.mov (t 20))])))
def c12:ACode:=(.seq (.ops [i 2 (.box (t 0)),i 4 (.mov (k (.int .i64 0)))]) (.seq (.seq (.ops [i 7 (.loadN 2 (t 2)),i 8 (.call .any (.func 39) [(t 7)]),i 5 (.mov (t 8))]) (.seq (.ops [i 9 (.mov (t 5)),i 10 (.bin .neq (t 9) (k (.int .i64 0)))]) (.cond (t 10) (.seq (.ops [i 11 (.mov (t 5)),i 4 (.mov (t 11))]) .ret) .skip))) (.seq (.seq (.ops [i 12 (.mov (t 1)),i 13 (.lenSlice (t 12)),i 14 (.bin .gtr (t 13) (k (.int .i64 40)))]) (.cond (t 14) (.seq (.ops [i 4 (.mov (k (.int .i64 5)))]) .ret) .skip)) (.seq (.seq (.ops [i 6 (.mov (k (.int .i64 0)))]) (.block 0 (.loop l12_1))) (.seq (.ops [i 4 (.mov (k (.int .i64 0)))]) .ret)))))
def a12:AFunc:=⟨74,[(.tmp 4)],c12⟩
theorem n12:a12.ntmps=74:=id rfl
theorem r12:a12.results=[(.tmp 4)]:=rfl
theorem b12:a12.body=c12:=rfl
def l13_1:ACode:=(.seq (.ops [i 9 (.bin .lss (t 8) (t 7))]) (.seq (.cond (t 9) .skip (.exit 0)) (.seq (.block 1 (.seq (.ops [i 10 (.idxAddrS 7 (t 6) (t 8)),i 11 (.loadN 7 (t 10)),i 5 (.alloc [(.int .i64 0),(.int .i64 0),(.int .i64 0),(.int .u8 0),(.int .i64 0),(.int .i64 0),(.int .i64 0)]),⟨none,none,(.store 7 (t 5) (t 11)),none,[]⟩]) (.ops [i 12 (.mov (t 3)),i 13 (.loadN 7 (t 5)),i 14 (.buildSlice 1 [(.int .i64 0),(.int .i64 0),(.int .i64 0),(.int .u8 0),(.int .i64 0),(.int .i64 0),(.int .i64 0)] [(0,(7,(t 13)))]),i 15 (.append 7 56 false (t 12) (t 14)),i 3 (.mov (t 15))]))) (.ops [i 16 (.bin .add (t 8) (k (.int .i64 1))),i 8 (.mov (t 16))]))))
def c13:ACode:=(.seq (.ops [i 2 (.mov (k (.slice none 0 0)))]) (.seq (.ops [i 3 (.mov (k (.slice none 0 0)))]) (.seq (.seq (.ops [i 6 (.mov (t 0)),i 7 (.lenSlice (t 6)),i 8 (.mov (k (.int .i64 0)))]) (.block 0 (.loop l13_1))) (.seq (.ops [i 17 (.mov (t 3)),i 2 (.mov (t 17))]) .ret))))
def a13:AFunc:=⟨18,[(.tmp 2)],c13⟩
theorem n13:a13.ntmps=18:=id rfl
theorem r13:a13.results=[(.tmp 2)]:=rfl
theorem b13:a13.body=c13:=rfl
def c14:ACode:=(.seq (.ops [i 3 (.box (t 0)),i 4 (.box (t 1)),i 5 (.box (t 2)),i 6 (.mov (k (.int .i64 0))),i 7 (.mov (k (.int .i64 0)))]) (.seq (.seq (.ops [i 9 (.loadN 2 (t 3)),i 10 (.loadN 7 (t 4)),i 11 (.loadN 7 (t 5)),i 12 (.buildSlice 2 [(.int .i64 0),(.int .i64 0),(.int .i64 0),(.int .u8 0),(.int .i64 0),(.int .i64 0),(.int .i64 0),(.int .i64 0),(.int .i64 0),(.int .i64 0),(.int .u8 0),(.int .i64 0),(.int .i64 0),(.int .i64 0)] [(0,(7,(t 10))),(7,(7,(t 11)))]),i 13 (.call .any (.func 35) [(t 9),(t 12)]),i 8 (.mov (t 13))]) (.seq (.ops [i 14 (.mov (t 8)),i 15 (.bin .neq (t 14) (k (.int .i64 0)))]) (.cond (t 15) (.seq (.ops [i 16 (.mov (t 8)),i 6 (.mov (k (.int .i64 0))),i 7 (.mov (t 16))]) .ret) .skip))) (.seq (.drawn 0 [i 17 (.loadN 2 (t 3)),i 19 (.loadN 7 (t 4)),i 20 (.loadN 7 (t 5)),i 18 (.call .mk (.func 36) [(t 17)]),i 21 (.call .any (.func 41) [(t 18),(t 19),(t 20)]),i 6 (.mov (t 21)),i 7 (.mov (k (.int .i64 0)))]) .ret)))
def a14:AFunc:=⟨22,[(.tmp 6),(.tmp 7)],c14⟩
theorem n14:a14.ntmps=22:=id rfl
theorem r14:a14.results=[(.tmp 6),(.tmp 7)]:=rfl
theorem b14:a14.body=c14:=rfl
def c15:ACode:=(.seq (.ops [i 3 (.box (t 0)),i 4 (.box (t 1)),i 5 (.box (t 2)),i 6 (.mov (k (.int .i64 0)))]) (.seq (.seq (.ops [i 10 (.fieldAddr 0 (t 4)),i 11 (.fieldAddr 3 (t 10)),i 12 (.load1 (t 11)),i 13 (.bin .eql (t 12) (k (.int .u8 4)))]) (.cond (t 13) (.seq (.ops [i 6 (.mov (k (.int .i64 80)))]) .ret) .skip)) (.seq (.seq (.ops [i 14 (.fieldAddr 0 (t 4)),i 15 (.fieldAddr 1 (t 14)),i 16 (.load1 (t 15)),i 17 (.fieldAddr 0 (t 5)),i 18 (.fieldAddr 1 (t 17)),i 19 (.load1 (t 18)),i 20 (.bin .eql (t 16) (t 19))]) (.cond (t 20) (.seq (.ops [i 6 (.mov (k (.int .i64 0)))]) .ret) .skip)) (.seq (.seq (.ops [i 21 (.loadN 2 (t 3)),i 22 (.fieldAddr 0 (t 4)),i 23 (.fieldAddr 1 (t 22)),i 24 (.load1 (t 23)),i 25 (.call .any (.func 42) [(t 21),(t 24)]),i 26 (.bin .lss (t 25) (k (.int .i64 0))),i 27 (.mov (t 26)),⟨(some 28),(some (27,false)),(.loadN 2 (t 3)),none,[]⟩,⟨(some 29),(some (27,false)),(.fieldAddr 0 (t 5)),none,[]⟩,⟨(some 30),(some (27,false)),(.fieldAddr 1 (t 29)),none,[]⟩,⟨(some 31),(some (27,false)),(.load1 (t 30)),none,[]⟩,⟨(some 32),(some (27,false)),(.call .any (.func 42) [(t 28),(t 31)]),none,[]⟩,⟨(some 33),(some (27,false)),(.bin .lss (t 32) (k (.int .i64 0))),none,[]⟩,i 34 (.pick (t 27) (k (.bool true)) (t 33))]) (.cond (t 34) (.seq (.ops [i 6 (.mov (k (.int .i64 80)))]) .ret) .skip)) (.seq (.ops [i 36 (.loadN 2 (t 3)),i 37 (.fieldAddr 0 (t 4)),i 38 (.fieldAddr 1 (t 37)),i 39 (.load1 (t 38)),i 40 (.fieldAddr 6 (t 4)),i 41 (.load1 (t 40)),i 42 (.call .any (.func 43) [(t 36),(t 39),(t 41)]),i 35 (.mov (t 42)),i 43 (.extract 0 (t 35)),i 44 (.extract 1 (t 35)),i 7 (.mov (t 43)),i 8 (.mov (t 44))]) (.seq (.ops [i 45 (.mov (t 7)),i 46 (.loadN 2 (t 3)),i 47 (.fieldAddr 0 (t 5)),i 48 (.fieldAddr 1 (t 47)),i 49 (.load1 (t 48)),i 50 (.call .any (.func 42) [(t 46),(t 49)]),i 51 (.idxAddrS 1 (t 45) (t 50)),i 52 (.load1 (t 51)),i 9 (.mov (t 52))]) (.seq (.seq (.ops [i 53 (.mov (t 9)),i 54 (.bin .lss (t 53) (k (.int .i64 0)))]) (.cond (t 54) (.seq (.ops [i 6 (.mov (k (.int .i64 80)))]) .ret) .skip)) (.seq (.seq (.ops [i 55 (.mov (t 9)),i 56 (.fieldAddr 6 (t 5)),i 57 (.load1 (t 56)),i 58 (.bin .leq (t 55) (t 57))]) (.cond (t 58) (.seq (.ops [i 6 (.mov (k (.int .i64 0)))]) .ret) .skip)) (.seq (.seq (.ops [i 59 (.mov (t 9)),i 60 (.fieldAddr 6 (t 5)),i 61 (.load1 (t 60)),i 62 (.bin .sub (t 59) (t 61)),i 63 (.bin .gtr (t 62) (k (.int .i64 60)))]) (.cond (t 63) (.seq (.ops [i 6 (.mov (k (.int .i64 60)))]) .ret) .skip)) (.seq (.ops [i 64 (.mov (t 9)),i 65 (.fieldAddr 6 (t 5)),i 66 (.load1 (t 65)),i 67 (.bin .sub (t 64) (t 66)),i 6 (.mov (t 67))]) .ret))))))))))
def a15:AFunc:=⟨68,[(.tmp 6)],c15⟩
theorem n15:a15.ntmps=68:=id rfl
theorem r15:a15.results=[(.tmp 6)]:=rfl
theorem b15:a15.body=c15:=rfl
def c16:ACode:=(.seq (.ops [i 2 (.box (t 0)),i 3 (.box (t 1)),i 4 (.mov (k (.bool false)))]) (.seq (.ops [i 5 (.loadN 2 (t 2)),i 6 (.loadN 2 (t 3)),i 7 (.call .any (.func 44) [(t 5),(t 6)]),i 8 (.mov (t 7)),⟨(some 9),(some (8,true)),(.fieldAddr 0 (t 2)),none,[]⟩,⟨(some 10),(some (8,true)),(.load1 (t 9)),none,[]⟩,⟨(some 11),(some (8,true)),(.fieldAddr 0 (t 3)),none,[]⟩,⟨(some 12),(some (8,true)),(.load1 (t 11)),none,[]⟩,⟨(some 13),(some (8,true)),(.call .any (.func 17) [(t 10),(t 12)]),none,[]⟩,i 14 (.pick (t 8) (t 13) (k (.bool false))),i 15 (.mov (t 14)),⟨(some 16),(some (15,true)),(.fieldAddr 1 (t 2)),none,[]⟩,⟨(some 17),(some (15,true)),(.load1 (t 16)),none,[]⟩,⟨(some 18),(some (15,true)),(.fieldAddr 1 (t 3)),none,[]⟩,⟨(some 19),(some (15,true)),(.load1 (t 18)),none,[]⟩,⟨(some 20),(some (15,true)),(.call .any (.func 45) [(t 17),(t 19)]),none,[]⟩,i 21 (.pick (t 15) (t 20) (k (.bool false))),i 4 (.mov (t 21))]) .ret))
def a16:AFunc:=⟨22,[(.tmp 4)],c16⟩
theorem n16:a16.ntmps=22:=id rfl
theorem r16:a16.results=[(.tmp 4)]:=rfl
theorem b16:a16.body=c16:=rfl
def l17_1:ACode:=(.seq (.seq (.ops [i 17 (.mov (t 6)),i 18 (.mov (t 5)),i 19 (.lenSlice (t 18)),i 20 (.bin .lss (t 17) (t 19))]) (.cond (t 20) .skip (.exit 0))) (.seq (.block 1 (.seq (.drawn 0 [i 23 (.mov (t 6)),i 24 (.mov (t 1)),i 25 (.lenSlice (t 24)),i 26 (.bin .lss (t 23) (t 25)),i 27 (.mov (t 26)),⟨(some 28),(some (27,true)),(.mov (t 5)),none,[]⟩,⟨(some 29),(some (27,true)),(.mov (t 6)),none,[]⟩,⟨(some 30),(some (27,true)),(.idxAddrS 1 (t 28) (t 29)),none,[]⟩,⟨(some 31),(some (27,true)),(.load1 (t 30)),none,[]⟩,⟨(some 32),(some (27,true)),(.mov (t 1)),none,[]⟩,⟨(some 33),(some (27,true)),(.mov (t 6)),none,[]⟩,⟨(some 34),(some (27,true)),(.idxAddrS 1 (t 32) (t 33)),none,[]⟩,⟨(some 35),(some (27,true)),(.load1 (t 34)),none,[]⟩,⟨(some 36),(some (27,true)),(.bin .eql (t 31) (t 35)),none,[]⟩,⟨(some 37),(some (27,true)),(.un .not (t 36)),none,[]⟩,i 38 (.pick (t 27) (t 37) (k (.bool false))),i 39 (.mov (t 38)),⟨(some 40),(some (39,false)),(.mov (t 6)),none,[]⟩,⟨(some 41),(some (39,false)),(.mov (t 1)),none,[]⟩,⟨(some 42),(some (39,false)),(.lenSlice (t 41)),none,[]⟩,⟨(some 43),(some (39,false)),(.bin .geq (t 40) (t 42)),none,[]⟩,⟨(some 44),(some (39,false)),(.mov (t 43)),none,[]⟩,⟨(some 45),(some (44,true)),(.mov (t 5)),none,[]⟩,⟨(some 46),(some (44,true)),(.mov (t 6)),none,[]⟩,⟨(some 47),(some (44,true)),(.idxAddrS 1 (t 45) (t 46)),none,[]⟩,⟨(some 48),(some (44,true)),(.load1 (t 47)),none,[]⟩,⟨(some 49),(some (44,true)),(.mov (t 6)),none,[]⟩,⟨(some 50),(some (44,true)),(.mov (t 1)),none,[]⟩,⟨(some 51),(some (44,true)),(.lenSlice (t 50)),none,[]⟩,⟨(some 52),(some (44,true)),(.bin .sub (t 49) (t 51)),none,[]⟩,⟨(some 53),(some (44,true)),(.call .pure (.func 34) [(k (.int .i64 1)),(t 52)]),none,[]⟩,⟨(some 54),(some (44,true)),(.bin .eql (t 48) (t 53)),none,[]⟩,⟨(some 55),(some (44,true)),(.un .not (t 54)),none,[]⟩,⟨(some 56),(some (39,false)),(.pick (t 44) (t 55) (k (.bool false))),none,[]⟩,i 57 (.pick (t 39) (k (.bool true)) (t 56))]) (.cond (t 57) (.seq (.ops [i 4 (.mov (k (.bool false)))]) .ret) .skip))) (.ops [i 21 (.mov (t 6)),i 22 (.bin .add (t 21) (k (.int .i64 1))),i 6 (.mov (t 22))])))
def c17:ACode:=(.seq (.ops [i 4 (.mov (k (.bool false)))]) (.seq (.seq (.ops [i 7 (.mov (t 0)),i 8 (.lenSlice (t 7)),i 9 (.mov (t 1)),i 10 (.lenSlice (t 9)),i 11 (.bin .neq (t 8) (t 10))]) (.cond (t 11) (.seq (.ops [i 4 (.mov (k (.bool false)))]) .ret) .skip)) (.seq (.ops [i 12 (.mov (t 0)),i 13 (.mov (t 1)),i 14 (.lenSlice (t 13)),i 15 (.bin .add (t 14) (k (.int .i64 12))),i 16 (.sliceS 1 (t 12) none (some (t 15)) none),i 5 (.mov (t 16))]) (.seq (.seq (.ops [i 6 (.mov (k (.int .i64 0)))]) (.block 0 (.loop l17_1))) (.seq (.ops [i 4 (.mov (k (.bool true)))]) .ret)))))
def a17:AFunc:=⟨58,[(.tmp 4)],c17⟩
theorem n17:a17.ntmps=58:=id rfl
theorem r17:a17.results=[(.tmp 4)]:=rfl
theorem b17:a17.body=c17:=rfl
def l18_1:ACode:=(.seq (.seq (.ops [i 12 (.mov (t 3)),i 13 (.mov (t 2)),i 14 (.lenSlice (t 13)),i 15 (.bin .lss (t 12) (t 14))]) (.cond (t 15) .skip (.exit 0))) (.seq (.block 1 (.ops [i 18 (.mov (t 2)),i 19 (.mov (t 3)),i 20 (.mov (t 3)),i 21 (.call .any (.func 34) [(k (.int .i64 2)),(t 20)]),i 22 (.idxAddrS 1 (t 18) (t 19)),⟨none,none,(.store 1 (t 22) (t 21)),none,[]⟩])) (.ops [i 16 (.mov (t 3)),i 17 (.bin .add (t 16) (k (.int .i64 1))),i 3 (.mov (t 17))])))
def c18:ACode:=(.seq (.ops [i 4 (.mov (t 0)),i 5 (.mov (t 0)),i 6 (.capSlice (t 5)),i 7 (.mov (t 0)),i 8 (.lenSlice (t 7)),i 9 (.bin .add (t 8) (k (.int .i64 12))),i 10 (.minmax false [(t 6),(t 9)]),i 11 (.sliceS 1 (t 4) none (some (t 10)) none),i 2 (.mov (t 11))]) (.seq (.ops [i 3 (.mov (k (.int .i64 0)))]) (.block 0 (.loop l18_1))))
def a18:AFunc:=⟨23,[],c18⟩
theorem n18:a18.ntmps=23:=id rfl
theorem r18:a18.results=[]:=rfl
theorem b18:a18.body=c18:=rfl
def l19_1:ACode:=(.seq (.ops [i 32 (.bin .lss (t 31) (t 30))]) (.seq (.cond (t 32) .skip (.exit 0)) (.seq (.block 1 (.seq (.ops [i 33 (.mov (t 31)),i 5 (.mov (t 33))]) (.seq (.drawn 0 [i 34 (.fieldAddr 1 (t 2)),i 35 (.load1 (t 34)),i 36 (.mov (t 5)),i 37 (.idxAddrS 3 (t 35) (t 36)),i 38 (.loadN 3 (t 37)),i 39 (.fieldAddr 1 (t 3)),i 40 (.load1 (t 39)),i 41 (.mov (t 5)),i 42 (.idxAddrS 3 (t 40) (t 41)),i 43 (.loadN 3 (t 42)),i 44 (.eqv true (.agg [(.int .i64),(.int .i64),(.int .i64)]) (t 38) (t 43))]) (.cond (t 44) (.seq (.ops [i 4 (.mov (k (.bool false)))]) .ret) .skip)))) (.ops [i 45 (.bin .add (t 31) (k (.int .i64 1))),i 31 (.mov (t 45))]))))
def c19:ACode:=(.seq (.ops [i 2 (.box (t 0)),i 3 (.box (t 1)),i 4 (.mov (k (.bool false)))]) (.seq (.seq (.ops [i 6 (.fieldAddr 2 (t 2)),i 7 (.load1 (t 6)),i 8 (.fieldAddr 2 (t 3)),i 9 (.load1 (t 8)),i 10 (.bin .neq (t 7) (t 9)),i 11 (.mov (t 10)),⟨(some 12),(some (11,false)),(.fieldAddr 0 (t 2)),none,[]⟩,⟨(some 13),(some (11,false)),(.load1 (t 12)),none,[]⟩,⟨(some 14),(some (11,false)),(.fieldAddr 0 (t 3)),none,[]⟩,⟨(some 15),(some (11,false)),(.load1 (t 14)),none,[]⟩,⟨(some 16),(some (11,false)),(.call .any (.func 24) [(t 13),(t 15)]),none,[]⟩,⟨(some 17),(some (11,false)),(.un .not (t 16)),none,[]⟩,i 18 (.pick (t 11) (k (.bool true)) (t 17)),i 19 (.mov (t 18)),⟨(some 20),(some (19,false)),(.fieldAddr 1 (t 2)),none,[]⟩,⟨(some 21),(some (19,false)),(.load1 (t 20)),none,[]⟩,⟨(some 22),(some (19,false)),(.lenSlice (t 21)),none,[]⟩,⟨(some 23),(some (19,false)),(.fieldAddr 1 (t 3)),none,[]⟩,⟨(some 24),(some (19,false)),(.load1 (t 23)),none,[]⟩,⟨(some 25),(some (19,false)),(.lenSlice (t 24)),none,[]⟩,⟨(some 26),(some (19,false)),(.bin .neq (t 22) (t 25)),none,[]⟩,i 27 (.pick (t 19) (k (.bool true)) (t 26))]) (.cond (t 27) (.seq (.ops [i 4 (.mov (k (.bool false)))]) .ret) .skip)) (.seq (.seq (.ops [i 28 (.fieldAddr 1 (t 2)),i 29 (.load1 (t 28)),i 30 (.lenSlice (t 29)),i 31 (.mov (k (.int .i64 0)))]) (.block 0 (.loop l19_1))) (.seq (.ops [i 4 (.mov (k (.bool true)))]) .ret))))
def a19:AFunc:=⟨46,[(.tmp 4)],c19⟩
theorem n19:a19.ntmps=46:=id rfl
theorem r19:a19.results=[(.tmp 4)]:=rfl
theorem b19:a19.body=c19:=rfl
def l20_1:ACode:=(.seq (.seq (.ops [i 169 (.mov (t 15)),i 170 (.bin .geq (t 169) (k (.int .i64 0)))]) (.cond (t 170) .skip (.exit 6))) (.seq (.block 7 (.ops [i 175 (.mov (t 14)),i 176 (.mov (t 15)),i 177 (.buildSlice 1 [(.int .i64 0)] [(0,(1,(t 176)))]),i 178 (.append 1 8 false (t 175) (t 177)),i 14 (.mov (t 178))])) (.ops [i 171 (.mov (t 8)),i 172 (.mov (t 15)),i 173 (.idxAddrS 1 (t 171) (t 172)),i 174 (.load1 (t 173)),i 15 (.mov (t 174))])))
def l20_2:ACode:=(.seq (.seq (.ops [i 116 (.mov (t 13)),i 117 (.bin .geq (t 116) (k (.int .i64 0)))]) (.cond (t 117) .skip (.exit 4))) (.seq (.block 5 (.seq (.drawn 0 [i 120 (.mov (t 9)),i 121 (.bin .lss (t 120) (k (.int .i64 0))),i 122 (.mov (t 121)),⟨(some 123),(some (122,false)),(.mov (t 13)),none,[]⟩,⟨(some 124),(some (122,false)),(.bin .mul (k (.int .i64 30)) (t 123)),none,[]⟩,⟨(some 125),(some (122,false)),(.mov (t 6)),none,[]⟩,⟨(some 126),(some (122,false)),(.mov (t 13)),none,[]⟩,⟨(some 127),(some (122,false)),(.idxAddrS 1 (t 125) (t 126)),none,[]⟩,⟨(some 128),(some (122,false)),(.load1 (t 127)),none,[]⟩,⟨(some 129),(some (122,false)),(.bin .add (t 124) (t 128)),none,[]⟩,⟨(some 130),(some (122,false)),(.mov (t 9)),none,[]⟩,⟨(some 131),(some (122,false)),(.bin .mul (k (.int .i64 30)) (t 130)),none,[]⟩,⟨(some 132),(some (122,false)),(.mov (t 6)),none,[]⟩,⟨(some 133),(some (122,false)),(.mov (t 9)),none,[]⟩,⟨(some 134),(some (122,false)),(.idxAddrS 1 (t 132) (t 133)),none,[]⟩,⟨(some 135),(some (122,false)),(.load1 (t 134)),none,[]⟩,⟨(some 136),(some (122,false)),(.bin .add (t 131) (t 135)),none,[]⟩,⟨(some 137),(some (122,false)),(.bin .lss (t 129) (t 136)),none,[]⟩,i 138 (.pick (t 122) (k (.bool true)) (t 137)),i 139 (.mov (t 138)),⟨(some 140),(some (139,false)),(.mov (t 13)),none,[]⟩,⟨(some 141),(some (139,false)),(.bin .mul (k (.int .i64 30)) (t 140)),none,[]⟩,⟨(some 142),(some (139,false)),(.mov (t 6)),none,[]⟩,⟨(some 143),(some (139,false)),(.mov (t 13)),none,[]⟩,⟨(some 144),(some (139,false)),(.idxAddrS 1 (t 142) (t 143)),none,[]⟩,⟨(some 145),(some (139,false)),(.load1 (t 144)),none,[]⟩,⟨(some 146),(some (139,false)),(.bin .add (t 141) (t 145)),none,[]⟩,⟨(some 147),(some (139,false)),(.mov (t 9)),none,[]⟩,⟨(some 148),(some (139,false)),(.bin .mul (k (.int .i64 30)) (t 147)),none,[]⟩,⟨(some 149),(some (139,false)),(.mov (t 6)),none,[]⟩,⟨(some 150),(some (139,false)),(.mov (t 9)),none,[]⟩,⟨(some 151),(some (139,false)),(.idxAddrS 1 (t 149) (t 150)),none,[]⟩,⟨(some 152),(some (139,false)),(.load1 (t 151)),none,[]⟩,⟨(some 153),(some (139,false)),(.bin .add (t 148) (t 152)),none,[]⟩,⟨(some 154),(some (139,false)),(.bin .eql (t 146) (t 153)),none,[]⟩,⟨(some 155),(some (139,false)),(.mov (t 154)),none,[]⟩,⟨(some 156),(some (155,true)),(.mov (t 7)),none,[]⟩,⟨(some 157),(some (155,true)),(.mov (t 13)),none,[]⟩,⟨(some 158),(some (155,true)),(.idxAddrS 1 (t 156) (t 157)),none,[]⟩,⟨(some 159),(some (155,true)),(.load1 (t 158)),none,[]⟩,⟨(some 160),(some (155,true)),(.mov (t 7)),none,[]⟩,⟨(some 161),(some (155,true)),(.mov (t 9)),none,[]⟩,⟨(some 162),(some (155,true)),(.idxAddrS 1 (t 160) (t 161)),none,[]⟩,⟨(some 163),(some (155,true)),(.load1 (t 162)),none,[]⟩,⟨(some 164),(some (155,true)),(.bin .geq (t 159) (t 163)),none,[]⟩,⟨(some 165),(some (139,false)),(.pick (t 155) (t 164) (k (.bool false))),none,[]⟩,i 166 (.pick (t 139) (k (.bool true)) (t 165))]) (.cond (t 166) (.ops [i 167 (.mov (t 13)),i 9 (.mov (t 167))]) .skip))) (.ops [i 118 (.mov (t 13)),i 119 (.bin .sub (t 118) (k (.int .i64 1))),i 13 (.mov (t 119))])))
def l20_3:ACode:=(.seq (.seq (.ops [i 46 (.mov (t 11)),i 47 (.mov (t 10)),i 48 (.bin .gtr (t 46) (t 47))]) (.cond (t 48) .skip (.exit 2))) (.seq (.block 3 (.seq (.drawn 0 [i 51 (.loadN 2 (t 2)),i 52 (.mov (t 1)),i 53 (.mov (t 10)),i 54 (.idxAddrS 7 (t 52) (t 53)),i 55 (.loadN 7 (t 54)),i 56 (.mov (t 1)),i 57 (.mov (t 11)),i 58 (.idxAddrS 7 (t 56) (t 57)),i 59 (.loadN 7 (t 58)),i 60 (.call .pure (.func 15) [(t 51),(t 55),(t 59)]),i 61 (.mov (t 11)),i 62 (.mov (t 10)),i 63 (.bin .sub (t 61) (t 62)),i 64 (.bin .sub (t 63) (k (.int .i64 1))),i 65 (.bin .mul (k (.int .i64 30)) (t 64)),i 66 (.bin .add (t 60) (t 65)),i 67 (.mov (t 6)),i 68 (.mov (t 11)),i 69 (.idxAddrS 1 (t 67) (t 68)),i 70 (.load1 (t 69)),i 71 (.bin .add (t 66) (t 70)),i 12 (.mov (t 71))]) (.seq (.drawn 0 [i 72 (.mov (t 12)),i 73 (.mov (t 6)),i 74 (.mov (t 10)),i 75 (.idxAddrS 1 (t 73) (t 74)),i 76 (.load1 (t 75)),i 77 (.bin .lss (t 72) (t 76)),i 78 (.mov (t 77)),⟨(some 79),(some (78,false)),(.mov (t 12)),none,[]⟩,⟨(some 80),(some (78,false)),(.mov (t 6)),none,[]⟩,⟨(some 81),(some (78,false)),(.mov (t 10)),none,[]⟩,⟨(some 82),(some (78,false)),(.idxAddrS 1 (t 80) (t 81)),none,[]⟩,⟨(some 83),(some (78,false)),(.load1 (t 82)),none,[]⟩,⟨(some 84),(some (78,false)),(.bin .eql (t 79) (t 83)),none,[]⟩,⟨(some 85),(some (78,false)),(.mov (t 84)),none,[]⟩,⟨(some 86),(some (85,true)),(.mov (t 7)),none,[]⟩,⟨(some 87),(some (85,true)),(.mov (t 11)),none,[]⟩,⟨(some 88),(some (85,true)),(.idxAddrS 1 (t 86) (t 87)),none,[]⟩,⟨(some 89),(some (85,true)),(.load1 (t 88)),none,[]⟩,⟨(some 90),(some (85,true)),(.bin .add (t 89) (k (.int .i64 1))),none,[]⟩,⟨(some 91),(some (85,true)),(.mov (t 7)),none,[]⟩,⟨(some 92),(some (85,true)),(.mov (t 10)),none,[]⟩,⟨(some 93),(some (85,true)),(.idxAddrS 1 (t 91) (t 92)),none,[]⟩,⟨(some 94),(some (85,true)),(.load1 (t 93)),none,[]⟩,⟨(some 95),(some (85,true)),(.bin .geq (t 90) (t 94)),none,[]⟩,⟨(some 96),(some (78,false)),(.pick (t 85) (t 95) (k (.bool false))),none,[]⟩,i 97 (.pick (t 78) (k (.bool true)) (t 96))]) (.cond (t 97) (.ops [i 98 (.mov (t 6)),i 99 (.mov (t 10)),i 100 (.mov (t 7)),i 101 (.mov (t 10)),i 102 (.mov (t 8)),i 103 (.mov (t 10)),i 104 (.mov (t 12)),i 105 (.mov (t 7)),i 106 (.mov (t 11)),i 107 (.idxAddrS 1 (t 105) (t 106)),i 108 (.load1 (t 107)),i 109 (.bin .add (t 108) (k (.int .i64 1))),i 110 (.mov (t 11)),i 111 (.idxAddrS 1 (t 98) (t 99)),⟨none,none,(.store 1 (t 111) (t 104)),none,[]⟩,i 112 (.idxAddrS 1 (t 100) (t 101)),⟨none,none,(.store 1 (t 112) (t 109)),none,[]⟩,i 113 (.idxAddrS 1 (t 102) (t 103)),⟨none,none,(.store 1 (t 113) (t 110)),none,[]⟩]) .skip)))) (.ops [i 49 (.mov (t 11)),i 50 (.bin .sub (t 49) (k (.int .i64 1))),i 11 (.mov (t 50))])))
def l20_4:ACode:=(.seq (.seq (.ops [i 26 (.mov (t 10)),i 27 (.bin .geq (t 26) (k (.int .i64 0)))]) (.cond (t 27) .skip (.exit 0))) (.seq (.block 1 (.seq (.ops [i 30 (.mov (t 6)),i 31 (.mov (t 10)),i 32 (.mov (t 7)),i 33 (.mov (t 10)),i 34 (.mov (t 8)),i 35 (.mov (t 10)),i 36 (.mov (t 5)),i 37 (.bin .sub (t 36) (k (.int .i64 1))),i 38 (.mov (t 10)),i 39 (.bin .sub (t 37) (t 38)),i 40 (.bin .mul (k (.int .i64 30)) (t 39)),i 41 (.idxAddrS 1 (t 30) (t 31)),⟨none,none,(.store 1 (t 41) (t 40)),none,[]⟩,i 42 (.idxAddrS 1 (t 32) (t 33)),⟨none,none,(.store 1 (t 42) (k (.int .i64 1))),none,[]⟩,i 43 (.idxAddrS 1 (t 34) (t 35)),⟨none,none,(.store 1 (t 43) (k (.int .i64 (-1)))),none,[]⟩]) (.seq (.ops [i 44 (.mov (t 5)),i 45 (.bin .sub (t 44) (k (.int .i64 1))),i 11 (.mov (t 45))]) (.block 2 (.loop l20_3))))) (.ops [i 28 (.mov (t 10)),i 29 (.bin .sub (t 28) (k (.int .i64 1))),i 10 (.mov (t 29))])))
def c20:ACode:=(.seq (.ops [i 2 (.box (t 0)),i 4 (.alloc [(.slice none 0 0),(.slice none 0 0),(.int .i64 0)])]) (.seq (.ops [i 16 (.mov (t 1)),i 17 (.lenSlice (t 16)),i 5 (.mov (t 17))]) (.seq (.drawn 3 [i 18 (.mov (t 5)),⟨(some 19),none,(.makeSlice 1 8 [(.int .i64 0)] (t 18) (t 18)),(some 0),[]⟩,i 20 (.mov (t 5)),⟨(some 21),none,(.makeSlice 1 8 [(.int .i64 0)] (t 20) (t 20)),(some 1),[]⟩,i 22 (.mov (t 5)),⟨(some 23),none,(.makeSlice 1 8 [(.int .i64 0)] (t 22) (t 22)),(some 2),[]⟩,i 6 (.mov (t 19)),i 7 (.mov (t 21)),i 8 (.mov (t 23))]) (.seq (.ops [i 9 (.mov (k (.int .i64 (-1))))]) (.seq (.seq (.ops [i 24 (.mov (t 5)),i 25 (.bin .sub (t 24) (k (.int .i64 1))),i 10 (.mov (t 25))]) (.block 0 (.loop l20_4))) (.seq (.seq (.ops [i 114 (.mov (t 5)),i 115 (.bin .sub (t 114) (k (.int .i64 1))),i 13 (.mov (t 115))]) (.block 4 (.loop l20_2))) (.seq (.ops [i 14 (.mov (k (.slice none 0 0)))]) (.seq (.seq (.ops [i 168 (.mov (t 9)),i 15 (.mov (t 168))]) (.block 6 (.loop l20_1))) (.seq (.ops [i 179 (.loadN 2 (t 2)),i 180 (.mov (t 1)),i 181 (.mov (t 14)),i 182 (.call .any (.func 21) [(t 179),(t 180),(t 181)]),⟨none,none,(.store 3 (t 4) (t 182)),none,[]⟩]) .ret)))))))))
def a20:AFunc:=⟨183,[(.cellN 3 4)],c20⟩
theorem n20:a20.ntmps=183:=id rfl
theorem r20:a20.results=[(.cellN 3 4)]:=rfl
theorem b20:a20.body=c20:=rfl
def l21_1:ACode:=(.seq (.seq (.ops [i 18 (.mov (t 8)),i 19 (.mov (t 2)),i 20 (.lenSlice (t 19)),i 21 (.bin .lss (t 18) (t 20))]) (.cond (t 21) .skip (.exit 0))) (.seq (.block 1 (.seq (.drawn 0 [i 24 (.loadN 2 (t 3)),i 25 (.mov (t 1)),i 26 (.mov (t 2)),i 27 (.mov (t 8)),i 28 (.bin .sub (t 27) (k (.int .i64 1))),i 29 (.idxAddrS 1 (t 26) (t 28)),i 30 (.load1 (t 29)),i 31 (.idxAddrS 7 (t 25) (t 30)),i 32 (.loadN 7 (t 31)),i 33 (.mov (t 1)),i 34 (.mov (t 2)),i 35 (.mov (t 8)),i 36 (.idxAddrS 1 (t 34) (t 35)),i 37 (.load1 (t 36)),i 38 (.idxAddrS 7 (t 33) (t 37)),i 39 (.loadN 7 (t 38)),i 40 (.call .pure (.func 15) [(t 24),(t 32),(t 39)]),i 9 (.mov (t 40))]) (.seq (.drawn 2 [i 41 (.fieldAddr 1 (t 7)),⟨(some 42),none,(.load1 (t 41)),none,[0,1]⟩,i 43 (.mov (t 2)),i 44 (.mov (t 8)),i 45 (.bin .sub (t 44) (k (.int .i64 1))),i 46 (.idxAddrS 1 (t 43) (t 45)),⟨(some 47),none,(.load1 (t 46)),none,[0,1]⟩,i 48 (.mov (t 2)),i 49 (.mov (t 8)),i 50 (.idxAddrS 1 (t 48) (t 49)),⟨(some 51),none,(.load1 (t 50)),none,[0,1]⟩,i 52 (.mov (t 9)),i 53 (.build [(.int .i64 0),(.int .i64 0),(.int .i64 0)] [(0,(1,(t 47))),(1,(1,(t 51))),(2,(1,(t 52)))]),⟨(some 54),none,(.buildSlice 1 [(.int .i64 0),(.int .i64 0),(.int .i64 0)] [(0,(3,(t 53)))]),(some 0),[]⟩,⟨(some 55),none,(.append 3 24 false (t 42) (t 54)),(some 1),[]⟩,i 56 (.fieldAddr 1 (t 7)),⟨none,none,(.store 1 (t 56) (t 55)),none,[]⟩]) (.ops [i 57 (.fieldAddr 2 (t 7)),i 58 (.load1 (t 57)),i 59 (.mov (t 9)),i 60 (.bin .add (t 58) (t 59)),i 61 (.fieldAddr 2 (t 7)),⟨none,none,(.store 1 (t 61) (t 60)),none,[]⟩])))) (.ops [i 22 (.mov (t 8)),i 23 (.bin .add (t 22) (k (.int .i64 1))),i 8 (.mov (t 23))])))
def c21:ACode:=(.seq (.ops [i 3 (.box (t 0)),i 6 (.alloc [(.slice none 0 0),(.slice none 0 0),(.int .i64 0)])]) (.seq (.ops [i 10 (.mov (t 2)),i 11 (.mov (t 1)),i 12 (.lenSlice (t 11)),i 13 (.mov (t 2)),i 14 (.lenSlice (t 13)),i 15 (.bin .sub (t 12) (t 14)),i 16 (.bin .mul (k (.int .i64 30)) (t 15)),i 17 (.build [(.slice none 0 0),(.slice none 0 0),(.int .i64 0)] [(0,(1,(t 10))),(2,(1,(t 16)))]),i 7 (.alloc [(.slice none 0 0),(.slice none 0 0),(.int .i64 0)]),⟨none,none,(.store 3 (t 7) (t 17)),none,[]⟩]) (.seq (.seq (.ops [i 8 (.mov (k (.int .i64 1)))]) (.block 0 (.loop l21_1))) (.seq (.ops [i 62 (.loadN 3 (t 7)),⟨none,none,(.store 3 (t 6) (t 62)),none,[]⟩]) .ret))))
def a21:AFunc:=⟨63,[(.cellN 3 6)],c21⟩
theorem n21:a21.ntmps=63:=id rfl
theorem r21:a21.results=[(.cellN 3 6)]:=rfl
theorem b21:a21.body=c21:=rfl
def l22_1:ACode:=(.seq (.ops [i 16 (.bin .lss (t 15) (t 14))]) (.seq (.cond (t 16) .skip (.exit 0)) (.seq (.block 1 (.seq (.ops [i 17 (.mov (t 15)),i 18 (.idxAddrS 6 (t 13) (t 15)),i 19 (.loadN 6 (t 18)),i 5 (.alloc [(.int .u8 0),(.int .u8 0),(.int .u8 0),(.int .u8 0),(.int .u8 0),(.int .u8 0)]),i 4 (.mov (t 17)),⟨none,none,(.store 6 (t 5) (t 19)),none,[]⟩]) (.seq (.ops [i 20 (.mov (t 4)),i 21 (.bin .add (t 20) (k (.int .i64 1))),i 22 (.fieldAddr 0 (t 5)),i 23 (.load1 (t 22)),i 24 (.conv .i64 (t 23)),i 25 (.bin .rem (t 24) (k (.int .i64 5))),i 26 (.bin .add (k (.int .i64 1)) (t 25)),i 27 (.fieldAddr 1 (t 5)),i 28 (.load1 (t 27)),i 29 (.conv .i64 (t 28)),i 30 (.bin .rem (t 29) (k (.int .i64 5))),i 31 (.bin .add (k (.int .i64 1)) (t 30)),i 32 (.fieldAddr 2 (t 5)),i 33 (.load1 (t 32)),i 34 (.conv .i64 (t 33)),i 35 (.bin .mul (t 34) (k (.int .i64 5))),i 36 (.fieldAddr 3 (t 5)),i 37 (.load1 (t 36)),i 38 (.conv .i64 (t 37)),i 39 (.bin .add (k (.int .i64 1)) (t 38)),i 40 (.fieldAddr 4 (t 5)),i 41 (.load1 (t 40)),i 42 (.conv .i64 (t 41)),i 43 (.bin .rem (t 42) (k (.int .i64 60))),i 44 (.fieldAddr 5 (t 5)),i 45 (.load1 (t 44)),i 46 (.bin .rem (t 45) (k (.int .u8 127))),i 47 (.bin .add (t 46) (k (.int .u8 1))),i 48 (.build [(.int .i64 0),(.int .i64 0),(.int .i64 0),(.int .i64 0),(.int .i64 0),(.int .i64 0),(.int .i64 0),(.int .u8 0)] [(0,(1,(t 21))),(1,(1,(t 26))),(2,(1,(t 31))),(3,(1,(t 35))),(4,(1,(t 39))),(5,(1,(t 43))),(6,(1,(k (.int .i64 1000)))),(7,(1,(t 47)))]),i 6 (.alloc [(.int .i64 0),(.int .i64 0),(.int .i64 0),(.int .i64 0),(.int .i64 0),(.int .i64 0),(.int .i64 0),(.int .u8 0)]),⟨none,none,(.store 8 (t 6) (t 48)),none,[]⟩]) (.seq (.ops [i 49 (.fieldAddr 1 (t 6)),i 50 (.load1 (t 49)),i 51 (.fieldAddr 2 (t 6)),i 52 (.load1 (t 51)),i 53 (.bin .neq (t 50) (t 52))]) (.cond (t 53) (.ops [i 54 (.fieldAddr 1 (t 3)),i 55 (.load1 (t 54)),i 56 (.loadN 8 (t 6)),i 57 (.buildSlice 1 [(.int .i64 0),(.int .i64 0),(.int .i64 0),(.int .i64 0),(.int .i64 0),(.int .i64 0),(.int .i64 0),(.int .u8 0)] [(0,(8,(t 56)))]),i 58 (.append 8 64 false (t 55) (t 57)),i 59 (.fieldAddr 1 (t 3)),⟨none,none,(.store 1 (t 59) (t 58)),none,[]⟩]) .skip))))) (.ops [i 60 (.bin .add (t 15) (k (.int .i64 1))),i 15 (.mov (t 60))]))))
def c22:ACode:=(.seq (.ops [i 2 (.alloc [(.slice none 0 0),(.slice none 0 0)])]) (.seq (.ops [i 7 (.buildSlice 5 [(.int .i64 0),(.int .i64 0),(.int .i64 0),(.int .i64 0),(.int .i64 0)] [(0,(1,(k (.int .i64 3)))),(1,(1,(k (.int .i64 1)))),(2,(1,(k (.int .i64 5)))),(3,(1,(k (.int .i64 2)))),(4,(1,(k (.int .i64 4))))]),i 8 (.build [(.slice none 0 0),(.slice none 0 0)] [(0,(1,(t 7)))]),i 3 (.alloc [(.slice none 0 0),(.slice none 0 0)]),⟨none,none,(.store 2 (t 3) (t 8)),none,[]⟩]) (.seq (.seq (.ops [i 9 (.mov (t 0)),i 10 (.mov (t 0)),i 11 (.lenSlice (t 10)),i 12 (.minmax false [(t 11),(k (.int .i64 10))]),i 13 (.sliceS 6 (t 9) none (some (t 12)) none),i 14 (.lenSlice (t 13)),i 15 (.mov (k (.int .i64 0)))]) (.block 0 (.loop l22_1))) (.seq (.ops [i 61 (.loadN 2 (t 3)),⟨none,none,(.store 2 (t 2) (t 61)),none,[]⟩]) .ret))))
def a22:AFunc:=⟨62,[(.cellN 2 2)],c22⟩
def l23_1:ACode:=(.seq (.ops [i 18 (.bin .lss (t 17) (t 16))]) (.seq (.cond (t 18) .skip (.exit 0)) (.seq (.block 1 (.seq (.ops [i 19 (.idxAddrS 3 (t 15) (t 17)),i 20 (.loadN 3 (t 19)),i 8 (.alloc [(.int .u8 0),(.int .u8 0),(.int .u16 0)]),⟨none,none,(.store 3 (t 8) (t 20)),none,[]⟩]) (.seq (.ops [i 21 (.mov (t 6)),i 22 (.fieldAddr 2 (t 8)),i 23 (.load1 (t 22)),i 24 (.conv .i64 (t 23)),i 25 (.bin .rem (t 24) (k (.int .i64 2000))),i 26 (.bin .add (t 21) (t 25)),i 6 (.mov (t 26))]) (.seq (.ops [i 27 (.fieldAddr 0 (t 8)),i 28 (.load1 (t 27)),i 29 (.conv .i64 (t 28)),i 30 (.bin .rem (t 29) (k (.int .i64 6))),i 31 (.bin .add (k (.int .i64 1)) (t 30)),i 32 (.mov (t 6)),i 33 (.call .any (.func 32) [(t 31),(t 32)]),i 9 (.alloc [(.int .i64 0),(.int .i64 0),(.int .i64 0),(.int .u8 0),(.int .i64 0),(.int .i64 0),(.int .i64 0)]),⟨none,none,(.store 7 (t 9) (t 33)),none,[]⟩]) (.seq (.ops [i 34 (.buildSlice 5 [(.int .u8 0),(.int .u8 0),(.int .u8 0),(.int .u8 0),(.int .u8 0)] [(0,(1,(k (.int .u8 1)))),(1,(1,(k (.int .u8 2)))),(2,(1,(k (.int .u8 3)))),(3,(1,(k (.int .u8 2)))),(4,(1,(k (.int .u8 4))))]),i 35 (.fieldAddr 1 (t 8)),i 36 (.load1 (t 35)),i 37 (.bin .rem (t 36) (k (.int .u8 5))),i 38 (.idxAddrS 1 (t 34) (t 37)),i 39 (.load1 (t 38)),i 40 (.fieldAddr 0 (t 9)),i 41 (.fieldAddr 3 (t 40)),⟨none,none,(.store 1 (t 41) (t 39)),none,[]⟩]) (.ops [i 42 (.mov (t 5)),i 43 (.loadN 7 (t 9)),i 44 (.buildSlice 1 [(.int .i64 0),(.int .i64 0),(.int .i64 0),(.int .u8 0),(.int .i64 0),(.int .i64 0),(.int .i64 0)] [(0,(7,(t 43)))]),i 45 (.append 7 56 false (t 42) (t 44)),i 5 (.mov (t 45))])))))) (.ops [i 46 (.bin .add (t 17) (k (.int .i64 1))),i 17 (.mov (t 46))]))))
def c23:ACode:=(.seq (.ops [i 4 (.mov (k (.slice none 0 0)))]) (.seq (.ops [i 5 (.mov (k (.slice none 0 0)))]) (.seq (.ops [i 6 (.mov (k (.int .i64 14400)))]) (.seq (.seq (.ops [i 10 (.mov (t 0)),i 11 (.mov (t 0)),i 12 (.lenSlice (t 11)),i 13 (.mov (t 1)),i 14 (.minmax false [(t 12),(t 13)]),i 15 (.sliceS 3 (t 10) none (some (t 14)) none),i 16 (.lenSlice (t 15)),i 17 (.mov (k (.int .i64 0)))]) (.block 0 (.loop l23_1))) (.seq (.ops [i 47 (.mov (t 5)),i 4 (.mov (t 47))]) .ret)))))
def a23:AFunc:=⟨48,[(.tmp 4)],c23⟩
def l24_1:ACode:=(.seq (.seq (.ops [i 11 (.mov (t 5)),i 12 (.mov (t 0)),i 13 (.lenSlice (t 12)),i 14 (.bin .lss (t 11) (t 13))]) (.cond (t 14) .skip (.exit 0))) (.seq (.block 1 (.seq (.drawn 0 [i 17 (.mov (t 0)),i 18 (.mov (t 5)),i 19 (.idxAddrS 1 (t 17) (t 18)),i 20 (.load1 (t 19)),i 21 (.mov (t 1)),i 22 (.mov (t 5)),i 23 (.idxAddrS 1 (t 21) (t 22)),i 24 (.load1 (t 23)),i 25 (.bin .neq (t 20) (t 24))]) (.cond (t 25) (.seq (.ops [i 4 (.mov (k (.bool false)))]) .ret) .skip))) (.ops [i 15 (.mov (t 5)),i 16 (.bin .add (t 15) (k (.int .i64 1))),i 5 (.mov (t 16))])))
def c24:ACode:=(.seq (.ops [i 4 (.mov (k (.bool false)))]) (.seq (.seq (.ops [i 6 (.mov (t 0)),i 7 (.lenSlice (t 6)),i 8 (.mov (t 1)),i 9 (.lenSlice (t 8)),i 10 (.bin .neq (t 7) (t 9))]) (.cond (t 10) (.seq (.ops [i 4 (.mov (k (.bool false)))]) .ret) .skip)) (.seq (.seq (.ops [i 5 (.mov (k (.int .i64 0)))]) (.block 0 (.loop l24_1))) (.seq (.ops [i 4 (.mov (k (.bool true)))]) .ret))))
def a24:AFunc:=⟨26,[(.tmp 4)],c24⟩
theorem n24:a24.ntmps=26:=id rfl
theorem r24:a24.results=[(.tmp 4)]:=rfl
theorem b24:a24.body=c24:=rfl
def c25:ACode:=(.seq (.ops [i 3 (.box (t 0)),i 6 (.mov (k (.slice none 0 0))),i 7 (.mov (k (.int .i64 0)))]) (.seq (.ops [i 13 (.loadN 2 (t 3)),i 14 (.mov (t 1)),i 15 (.mov (t 1)),i 16 (.mov (t 2)),i 17 (.call .any (.func 46) [(t 13),(t 14),(t 15),(t 16)]),i 12 (.mov (t 17)),i 18 (.extract 0 (t 12)),i 19 (.extract 1 (t 12)),i 8 (.mov (t 18)),i 9 (.mov (t 19))]) (.seq (.seq (.ops [i 20 (.mov (t 9)),i 21 (.bin .neq (t 20) (k (.int .i64 0)))]) (.cond (t 21) (.seq (.ops [i 22 (.mov (t 9)),i 6 (.mov (k (.slice none 0 0))),i 7 (.mov (t 22))]) .ret) .skip)) (.seq (.ops [i 23 (.loadN 2 (t 3)),i 24 (.mov (t 8)),i 25 (.mov (t 1)),i 26 (.mov (t 2)),i 27 (.call .any (.func 47) [(t 23),(t 24),(t 25),(t 26)]),i 10 (.mov (t 27))]) (.seq (.ops [i 28 (.mov (t 10)),i 29 (.mov (t 10)),i 30 (.lenSlice (t 29)),i 31 (.bin .sub (t 30) (k (.int .i64 1))),i 32 (.idxAddrS 50 (t 28) (t 31)),i 33 (.loadN 50 (t 32)),i 11 (.alloc [(.int .i64 0),(.int .i64 0),(.int .i64 0),(.int .i64 0),(.int .i64 0),(.int .i64 0),(.int .i64 0),(.int .i64 0),(.int .i64 0),(.int .i64 0),(.int .i64 0),(.int .i64 0),(.int .i64 0),(.int .i64 0),(.int .i64 0),(.int .i64 0),(.int .i64 0),(.int .i64 0),(.int .i64 0),(.int .i64 0),(.int .i64 0),(.int .i64 0),(.int .i64 0),(.int .i64 0),(.int .i64 0),(.int .i64 0),(.int .i64 0),(.int .i64 0),(.int .i64 0),(.int .i64 0),(.int .i64 0),(.int .i64 0),(.int .i64 0),(.int .i64 0),(.int .i64 0),(.int .i64 0),(.int .i64 0),(.int .i64 0),(.int .i64 0),(.int .i64 0),(.int .i64 0),(.int .i64 0),(.int .i64 0),(.int .i64 0),(.int .i64 0),(.int .i64 0),(.int .i64 0),(.int .i64 0),(.int .i64 0),(.int .i64 0)]),⟨none,none,(.store 50 (t 11) (t 33)),none,[]⟩]) (.seq (.ops [i 34 (.fieldAddr 0 (t 3)),i 35 (.load1 (t 34)),i 36 (.lenSlice (t 35)),i 37 (.sliceA 50 1 (t 11) none (some (t 36)) none),i 38 (.call .any (.func 48) [(t 37)]),i 6 (.mov (t 38)),i 7 (.mov (k (.int .i64 0)))]) .ret))))))
def a25:AFunc:=⟨39,[(.tmp 6),(.tmp 7)],c25⟩
theorem n25:a25.ntmps=39:=id rfl
theorem r25:a25.results=[(.tmp 6),(.tmp 7)]:=rfl
theorem b25:a25.body=c25:=rfl
def c31:ACode:=(.seq (.ops [i 0 (.alloc [(.slice none 0 0),(.slice none 0 0)])]) (.seq (.ops [i 1 (.buildSlice 2 [(.int .i64 0),(.int .i64 0)] [(0,(1,(k (.int .i64 1)))),(1,(1,(k (.int .i64 2))))]),i 2 (.build [(.int .i64 0),(.int .i64 0),(.int .i64 0),(.int .i64 0),(.int .i64 0),(.int .i64 0),(.int .i64 0),(.int .u8 0)] [(0,(1,(k (.int .i64 1)))),(1,(1,(k (.int .i64 1)))),(2,(1,(k (.int .i64 2)))),(3,(1,(k (.int .i64 600)))),(4,(1,(k (.int .i64 60)))),(6,(1,(k (.int .i64 1000)))),(7,(1,(k (.int .u8 127))))]),i 3 (.buildSlice 1 [(.int .i64 0),(.int .i64 0),(.int .i64 0),(.int .i64 0),(.int .i64 0),(.int .i64 0),(.int .i64 0),(.int .u8 0)] [(0,(8,(t 2)))]),i 4 (.build [(.slice none 0 0),(.slice none 0 0)] [(0,(1,(t 1))),(1,(1,(t 3)))]),⟨none,none,(.store 2 (t 0) (t 4)),none,[]⟩]) .ret))
def a31:AFunc:=⟨5,[(.cellN 2 0)],c31⟩
theorem n31:a31.ntmps=5:=id rfl
theorem r31:a31.results=[(.cellN 2 0)]:=rfl
theorem b31:a31.body=c31:=rfl
def c32:ACode:=(.seq (.ops [i 4 (.alloc [(.int .i64 0),(.int .i64 0),(.int .i64 0),(.int .u8 0),(.int .i64 0),(.int .i64 0),(.int .i64 0)])]) (.seq (.ops [i 5 (.mov (t 0)),i 6 (.mov (t 1)),i 7 (.mov (t 1)),i 8 (.build [(.int .i64 0),(.int .i64 0),(.int .i64 0),(.int .u8 0),(.int .i64 0),(.int .i64 0)] [(0,(1,(k (.int .i64 7)))),(1,(1,(t 5))),(2,(1,(k (.int .i64 1)))),(3,(1,(k (.int .u8 2)))),(4,(1,(t 6))),(5,(1,(t 7)))]),i 9 (.mov (t 1)),i 10 (.build [(.int .i64 0),(.int .i64 0),(.int .i64 0),(.int .u8 0),(.int .i64 0),(.int .i64 0),(.int .i64 0)] [(0,(6,(t 8))),(6,(1,(t 9)))]),⟨none,none,(.store 7 (t 4) (t 10)),none,[]⟩]) .ret))
def a32:AFunc:=⟨11,[(.cellN 7 4)],c32⟩
theorem n32:a32.ntmps=11:=id rfl
theorem r32:a32.results=[(.cellN 7 4)]:=rfl
theorem b32:a32.body=c32:=rfl
def l33_1:ACode:=(.seq (.seq (.ops [i 12 (.mov (t 4)),i 13 (.bin .lss (t 12) (k (.int .i64 12)))]) (.cond (t 13) .skip (.exit 0))) (.seq (.block 1 (.ops [i 16 (.mov (t 3)),i 17 (.mov (t 4)),i 18 (.call .any (.func 56) [(k (.int .i64 1)),(t 17)]),i 19 (.buildSlice 1 [(.int .i64 0),(.int .i64 0),(.int .i64 0),(.int .i64 0),(.int .i64 0),(.int .i64 0),(.int .i64 0),(.int .u8 0)] [(0,(8,(t 18)))]),i 20 (.append 8 64 false (t 16) (t 19)),i 3 (.mov (t 20))])) (.ops [i 14 (.mov (t 4)),i 15 (.bin .add (t 14) (k (.int .i64 1))),i 4 (.mov (t 15))])))
def c33:ACode:=(.seq (.ops [i 2 (.mov (k (.slice none 0 0)))]) (.seq (.ops [i 5 (.mov (t 0)),i 6 (.lenSlice (t 5)),i 7 (.bin .add (t 6) (k (.int .i64 12))),i 8 (.makeSlice 8 64 [(.int .i64 0),(.int .i64 0),(.int .i64 0),(.int .i64 0),(.int .i64 0),(.int .i64 0),(.int .i64 0),(.int .u8 0)] (k (.int .i64 0)) (t 7)),i 3 (.mov (t 8))]) (.seq (.ops [i 9 (.mov (t 3)),i 10 (.mov (t 0)),i 11 (.append 8 64 false (t 9) (t 10)),i 3 (.mov (t 11))]) (.seq (.seq (.ops [i 4 (.mov (k (.int .i64 0)))]) (.block 0 (.loop l33_1))) (.seq (.ops [i 21 (.mov (t 3)),i 22 (.mov (t 0)),i 23 (.lenSlice (t 22)),i 24 (.sliceS 8 (t 21) none (some (t 23)) none),i 2 (.mov (t 24))]) .ret)))))
def a33:AFunc:=⟨25,[(.tmp 2)],c33⟩
theorem n33:a33.ntmps=25:=id rfl
theorem r33:a33.results=[(.tmp 2)]:=rfl
theorem b33:a33.body=c33:=rfl
def c34:ACode:=(.seq (.ops [i 4 (.mov (k (.int .i64 0)))]) (.seq (.ops [i 5 (.mov (t 0)),i 6 (.bin .add (t 5) (k (.int .i64 7))),i 7 (.bin .mul (k (.int .i64 1000003)) (t 6)),i 8 (.mov (t 1)),i 9 (.bin .add (t 7) (t 8)),i 4 (.mov (t 9))]) .ret))
def a34:AFunc:=⟨10,[(.tmp 4)],c34⟩
theorem n34:a34.ntmps=10:=id rfl
theorem r34:a34.results=[(.tmp 4)]:=rfl
theorem b34:a34.body=c34:=rfl
def l35_1:ACode:=(.seq (.ops [i 19 (.bin .lss (t 18) (t 17))]) (.seq (.cond (t 19) .skip (.exit 0)) (.seq (.block 1 (.seq (.ops [i 20 (.mov (t 18)),i 21 (.idxAddrS 7 (t 16) (t 18)),i 22 (.loadN 7 (t 21)),i 7 (.alloc [(.int .i64 0),(.int .i64 0),(.int .i64 0),(.int .u8 0),(.int .i64 0),(.int .i64 0),(.int .i64 0)]),i 6 (.mov (t 20)),⟨none,none,(.store 7 (t 7) (t 22)),none,[]⟩]) (.block 2 (.seq (.seq (.ops [i 24 (.fieldAddr 0 (t 7)),i 25 (.loadN 6 (t 24)),i 26 (.buildSlice 1 [(.int .i64 0),(.int .i64 0),(.int .i64 0),(.int .u8 0),(.int .i64 0),(.int .i64 0)] [(0,(6,(t 25)))]),i 27 (.call .any (.func 58) [(t 26)]),i 28 (.un .not (t 27)),i 23 (.mov (t 28))]) (.cond (t 23) .skip (.seq (.ops [i 29 (.fieldAddr 6 (t 7)),i 30 (.load1 (t 29)),i 31 (.bin .lss (t 30) (k (.int .i64 0))),i 23 (.mov (t 31))]) (.cond (t 23) .skip (.ops [i 32 (.fieldAddr 6 (t 7)),i 33 (.load1 (t 32)),i 34 (.bin .gtr (t 33) (k (.int .i64 1051898399))),i 23 (.mov (t 34))]))))) (.cond (t 23) (.seq (.ops [i 4 (.mov (k (.int .i64 2)))]) .ret) (.seq (.drawn 0 [i 36 (.mov (t 6)),i 37 (.bin .gtr (t 36) (k (.int .i64 0))),i 38 (.mov (t 37)),⟨(some 39),(some (38,true)),(.fieldAddr 0 (t 7)),none,[]⟩,⟨(some 40),(some (38,true)),(.fieldAddr 0 (t 39)),none,[]⟩,⟨(some 41),(some (38,true)),(.load1 (t 40)),none,[]⟩,⟨(some 42),(some (38,true)),(.mov (t 1)),none,[]⟩,⟨(some 43),(some (38,true)),(.idxAddrS 7 (t 42) (k (.int .i64 0))),none,[]⟩,⟨(some 44),(some (38,true)),(.fieldAddr 0 (t 43)),none,[]⟩,⟨(some 45),(some (38,true)),(.fieldAddr 0 (t 44)),none,[]⟩,⟨(some 46),(some (38,true)),(.load1 (t 45)),none,[]⟩,⟨(some 47),(some (38,true)),(.bin .neq (t 41) (t 46)),none,[]⟩,⟨(some 48),(some (38,true)),(.mov (t 47)),none,[]⟩,⟨(some 49),(some (48,false)),(.fieldAddr 6 (t 7)),none,[]⟩,⟨(some 50),(some (48,false)),(.load1 (t 49)),none,[]⟩,⟨(some 51),(some (48,false)),(.mov (t 1)),none,[]⟩,⟨(some 52),(some (48,false)),(.mov (t 6)),none,[]⟩,⟨(some 53),(some (48,false)),(.bin .sub (t 52) (k (.int .i64 1))),none,[]⟩,⟨(some 54),(some (48,false)),(.idxAddrS 7 (t 51) (t 53)),none,[]⟩,⟨(some 55),(some (48,false)),(.fieldAddr 6 (t 54)),none,[]⟩,⟨(some 56),(some (48,false)),(.load1 (t 55)),none,[]⟩,⟨(some 57),(some (48,false)),(.bin .lss (t 50) (t 56)),none,[]⟩,⟨(some 58),(some (38,true)),(.pick (t 48) (k (.bool true)) (t 57)),none,[]⟩,i 59 (.pick (t 38) (t 58) (k (.bool false))),i 35 (.mov (t 59))]) (.cond (t 35) (.seq (.ops [i 4 (.mov (k (.int .i64 2)))]) .ret) .skip))))))) (.ops [i 60 (.bin .add (t 18) (k (.int .i64 1))),i 18 (.mov (t 60))]))))
def c35:ACode:=(.seq (.ops [i 2 (.box (t 0)),i 4 (.mov (k (.int .i64 0)))]) (.seq (.seq (.ops [i 8 (.loadN 2 (t 2)),i 9 (.call .any (.func 57) [(t 8)]),i 5 (.mov (t 9))]) (.seq (.ops [i 10 (.mov (t 5)),i 11 (.bin .neq (t 10) (k (.int .i64 0)))]) (.cond (t 11) (.seq (.ops [i 12 (.mov (t 5)),i 4 (.mov (t 12))]) .ret) .skip))) (.seq (.seq (.ops [i 13 (.mov (t 1)),i 14 (.lenSlice (t 13)),i 15 (.bin .gtr (t 14) (k (.int .i64 40)))]) (.cond (t 15) (.seq (.ops [i 4 (.mov (k (.int .i64 5)))]) .ret) .skip)) (.seq (.seq (.ops [i 16 (.mov (t 1)),i 17 (.lenSlice (t 16)),i 18 (.mov (k (.int .i64 0)))]) (.block 0 (.loop l35_1))) (.seq (.ops [i 4 (.mov (k (.int .i64 0)))]) .ret)))))
def a35:AFunc:=⟨61,[(.tmp 4)],c35⟩
theorem n35:a35.ntmps=61:=id rfl
theorem r35:a35.results=[(.tmp 4)]:=rfl
theorem b35:a35.body=c35:=rfl
def c36:ACode:=(.seq (.ops [i 1 (.box (t 0)),i 2 (.mov (k (.pointer none)))]) (.seq (.ops [i 3 (.loadN 2 (t 1)),i 4 (.makeMap none),i 5 (.build [(.slice none 0 0),(.slice none 0 0),(.map none)] [(0,(2,(t 3))),(2,(1,(t 4)))]),i 6 (.box (t 5)),i 2 (.mov (t 6))]) .ret))
def a36:AFunc:=⟨7,[(.tmp 2)],c36⟩
theorem n36:a36.ntmps=7:=id rfl
theorem r36:a36.results=[(.tmp 2)]:=rfl
theorem b36:a36.body=c36:=rfl
def l37_1:ACode:=(.seq (.seq (.ops [i 19 (.mov (t 8)),i 20 (.mov (t 2)),i 21 (.lenSlice (t 20)),i 22 (.bin .lss (t 19) (t 21))]) (.cond (t 22) .skip (.exit 0))) (.seq (.block 1 (.seq (.drawn 1 [i 25 (.mov (t 2)),i 26 (.mov (t 8)),i 27 (.bin .sub (t 26) (k (.int .i64 1))),i 28 (.idxAddrS 1 (t 25) (t 27)),⟨(some 29),none,(.load1 (t 28)),none,[0]⟩,i 30 (.mov (t 2)),i 31 (.mov (t 8)),i 32 (.idxAddrS 1 (t 30) (t 31)),⟨(some 33),none,(.load1 (t 32)),none,[0]⟩,i 34 (.build [(.int .i64 0),(.int .i64 0),(.int .i64 0)] [(0,(1,(t 29))),(1,(1,(t 33)))]),⟨(some 9),none,(.alloc [(.int .i64 0),(.int .i64 0),(.int .i64 0)]),(some 0),[]⟩,⟨none,none,(.store 3 (t 9) (t 34)),none,[]⟩]) (.seq (.drawn 0 [i 35 (.mov (t 0)),i 36 (.mov (t 1)),i 37 (.fieldAddr 0 (t 9)),i 38 (.load1 (t 37)),i 39 (.idxAddrS 7 (t 36) (t 38)),i 40 (.loadN 7 (t 39)),i 41 (.mov (t 1)),i 42 (.fieldAddr 1 (t 9)),i 43 (.load1 (t 42)),i 44 (.idxAddrS 7 (t 41) (t 43)),i 45 (.loadN 7 (t 44)),i 46 (.call .any (.func 41) [(t 35),(t 40),(t 45)]),i 47 (.fieldAddr 2 (t 9)),⟨none,none,(.store 1 (t 47) (t 46)),none,[]⟩]) (.seq (.ops [i 48 (.fieldAddr 2 (t 7)),i 49 (.load1 (t 48)),i 50 (.fieldAddr 2 (t 9)),i 51 (.load1 (t 50)),i 52 (.bin .add (t 49) (t 51)),i 53 (.fieldAddr 2 (t 7)),⟨none,none,(.store 1 (t 53) (t 52)),none,[]⟩]) (.ops [i 54 (.fieldAddr 1 (t 7)),i 55 (.load1 (t 54)),i 56 (.loadN 3 (t 9)),i 57 (.buildSlice 1 [(.int .i64 0),(.int .i64 0),(.int .i64 0)] [(0,(3,(t 56)))]),i 58 (.append 3 24 false (t 55) (t 57)),i 59 (.fieldAddr 1 (t 7)),⟨none,none,(.store 1 (t 59) (t 58)),none,[]⟩]))))) (.ops [i 23 (.mov (t 8)),i 24 (.bin .add (t 23) (k (.int .i64 1))),i 8 (.mov (t 24))])))
def c37:ACode:=(.seq (.ops [i 6 (.alloc [(.slice none 0 0),(.slice none 0 0),(.int .i64 0)])]) (.seq (.ops [i 10 (.mov (t 2)),i 11 (.call .any (.func 48) [(t 10)]),i 12 (.mov (t 1)),i 13 (.lenSlice (t 12)),i 14 (.mov (t 2)),i 15 (.lenSlice (t 14)),i 16 (.bin .sub (t 13) (t 15)),i 17 (.bin .mul (k (.int .i64 30)) (t 16)),i 18 (.build [(.slice none 0 0),(.slice none 0 0),(.int .i64 0)] [(0,(1,(t 11))),(2,(1,(t 17)))]),i 7 (.alloc [(.slice none 0 0),(.slice none 0 0),(.int .i64 0)]),⟨none,none,(.store 3 (t 7) (t 18)),none,[]⟩]) (.seq (.seq (.ops [i 8 (.mov (k (.int .i64 1)))]) (.block 0 (.loop l37_1))) (.seq (.ops [i 60 (.loadN 3 (t 7)),⟨none,none,(.store 3 (t 6) (t 60)),none,[]⟩]) .ret))))
def a37:AFunc:=⟨61,[(.cellN 3 6)],c37⟩
theorem n37:a37.ntmps=61:=id rfl
theorem r37:a37.results=[(.cellN 3 6)]:=rfl
theorem b37:a37.body=c37:=rfl
def l38_1:ACode:=(.seq (.seq (.ops [i 119 (.mov (t 16)),i 120 (.bin .geq (t 119) (k (.int .i64 0)))]) (.cond (t 120) .skip (.exit 6))) (.seq (.block 7 (.ops [i 126 (.mov (t 15)),i 127 (.mov (t 16)),i 128 (.buildSlice 1 [(.int .i64 0)] [(0,(1,(t 127)))]),i 129 (.append 1 8 false (t 126) (t 128)),i 15 (.mov (t 129))])) (.ops [i 121 (.mov (t 5)),i 122 (.mov (t 16)),i 123 (.idxAddrS 3 (t 121) (t 122)),i 124 (.fieldAddr 2 (t 123)),i 125 (.load1 (t 124)),i 16 (.mov (t 125))])))
def l38_2:ACode:=(.seq (.seq (.ops [i 87 (.mov (t 13)),i 88 (.bin .geq (t 87) (k (.int .i64 0)))]) (.cond (t 88) .skip (.exit 4))) (.seq (.block 5 (.seq (.drawn 1 [i 91 (.mov (t 13)),i 92 (.bin .mul (k (.int .i64 30)) (t 91)),i 93 (.mov (t 5)),i 94 (.mov (t 13)),i 95 (.idxAddrS 3 (t 93) (t 94)),i 96 (.fieldAddr 0 (t 95)),⟨(some 97),none,(.load1 (t 96)),none,[0]⟩,i 98 (.bin .add (t 92) (t 97)),i 99 (.mov (t 5)),i 100 (.mov (t 13)),i 101 (.idxAddrS 3 (t 99) (t 100)),i 102 (.fieldAddr 1 (t 101)),⟨(some 103),none,(.load1 (t 102)),none,[0]⟩,i 104 (.mov (t 13)),i 105 (.build [(.int .i64 0),(.int .i64 0),(.int .i64 0)] [(0,(1,(t 98))),(1,(1,(t 103))),(2,(1,(t 104)))]),⟨(some 14),none,(.alloc [(.int .i64 0),(.int .i64 0),(.int .i64 0)]),(some 0),[]⟩,⟨none,none,(.store 3 (t 14) (t 105)),none,[]⟩]) (.seq (.ops [i 106 (.fieldAddr 2 (t 12)),i 107 (.load1 (t 106)),i 108 (.bin .lss (t 107) (k (.int .i64 0))),i 109 (.mov (t 108)),⟨(some 110),(some (109,false)),(.mov (t 6)),none,[]⟩,⟨(some 111),(some (109,false)),(.loadN 3 (t 12)),none,[]⟩,⟨(some 112),(some (109,false)),(.loadN 3 (t 14)),none,[]⟩,⟨(some 113),(some (109,false)),(.call .any (t 110) [(t 111),(t 112)]),none,[]⟩,⟨(some 114),(some (109,false)),(.un .not (t 113)),none,[]⟩,i 115 (.pick (t 109) (k (.bool true)) (t 114))]) (.cond (t 115) (.ops [i 116 (.loadN 3 (t 14)),⟨none,none,(.store 3 (t 12) (t 116)),none,[]⟩]) .skip)))) (.ops [i 89 (.mov (t 13)),i 90 (.bin .sub (t 89) (k (.int .i64 1))),i 13 (.mov (t 90))])))
def l38_3:ACode:=(.seq (.seq (.ops [i 37 (.mov (t 9)),i 38 (.mov (t 7)),i 39 (.bin .gtr (t 37) (t 38))]) (.cond (t 39) .skip (.exit 2))) (.seq (.block 3 (.seq (.ops [i 42 (.mov (t 9)),i 43 (.mov (t 7)),i 44 (.bin .sub (t 42) (t 43)),i 45 (.bin .sub (t 44) (k (.int .i64 1))),i 46 (.bin .mul (k (.int .i64 30)) (t 45)),i 10 (.mov (t 46))]) (.seq (.drawn 1 [i 47 (.mov (t 0)),i 48 (.mov (t 1)),i 49 (.mov (t 7)),i 50 (.idxAddrS 7 (t 48) (t 49)),⟨(some 51),none,(.loadN 7 (t 50)),none,[0]⟩,i 52 (.mov (t 1)),i 53 (.mov (t 9)),i 54 (.idxAddrS 7 (t 52) (t 53)),⟨(some 55),none,(.loadN 7 (t 54)),none,[0]⟩,i 57 (.mov (t 10)),i 59 (.mov (t 5)),i 60 (.mov (t 9)),i 61 (.idxAddrS 3 (t 59) (t 60)),i 62 (.fieldAddr 0 (t 61)),⟨(some 63),none,(.load1 (t 62)),none,[0]⟩,i 65 (.mov (t 5)),i 66 (.mov (t 9)),i 67 (.idxAddrS 3 (t 65) (t 66)),i 68 (.fieldAddr 1 (t 67)),⟨(some 69),none,(.load1 (t 68)),none,[0]⟩,i 70 (.bin .add (t 69) (k (.int .i64 1))),i 71 (.mov (t 9)),⟨(some 11),none,(.alloc [(.int .i64 0),(.int .i64 0),(.int .i64 0)]),(some 0),[]⟩,⟨(some 56),none,(.call .maps (.func 41) [(t 47),(t 51),(t 55)]),none,[0]⟩,i 58 (.bin .add (t 56) (t 57)),i 64 (.bin .add (t 58) (t 63)),i 72 (.build [(.int .i64 0),(.int .i64 0),(.int .i64 0)] [(0,(1,(t 64))),(1,(1,(t 70))),(2,(1,(t 71)))]),⟨none,none,(.store 3 (t 11) (t 72)),none,[]⟩]) (.seq (.ops [i 73 (.mov (t 6)),i 74 (.loadN 3 (t 8)),i 75 (.loadN 3 (t 11)),i 76 (.call .any (t 73) [(t 74),(t 75)]),i 77 (.un .not (t 76))]) (.cond (t 77) (.ops [i 78 (.loadN 3 (t 11)),⟨none,none,(.store 3 (t 8) (t 78)),none,[]⟩]) .skip))))) (.ops [i 40 (.mov (t 9)),i 41 (.bin .sub (t 40) (k (.int .i64 1))),i 9 (.mov (t 41))])))
def l38_4:ACode:=(.seq (.seq (.ops [i 23 (.mov (t 7)),i 24 (.bin .geq (t 23) (k (.int .i64 0)))]) (.cond (t 24) .skip (.exit 0))) (.seq (.block 1 (.seq (.ops [i 27 (.mov (t 1)),i 28 (.lenSlice (t 27)),i 29 (.bin .sub (t 28) (k (.int .i64 1))),i 30 (.mov (t 7)),i 31 (.bin .sub (t 29) (t 30)),i 32 (.bin .mul (k (.int .i64 30)) (t 31)),i 33 (.build [(.int .i64 0),(.int .i64 0),(.int .i64 0)] [(0,(1,(t 32))),(1,(1,(k (.int .i64 1)))),(2,(1,(k (.int .i64 (-1)))))]),i 8 (.alloc [(.int .i64 0),(.int .i64 0),(.int .i64 0)]),⟨none,none,(.store 3 (t 8) (t 33)),none,[]⟩]) (.seq (.seq (.ops [i 34 (.mov (t 1)),i 35 (.lenSlice (t 34)),i 36 (.bin .sub (t 35) (k (.int .i64 1))),i 9 (.mov (t 36))]) (.block 2 (.loop l38_3))) (.ops [i 79 (.mov (t 5)),i 80 (.mov (t 7)),i 81 (.loadN 3 (t 8)),i 82 (.idxAddrS 3 (t 79) (t 80)),⟨none,none,(.store 3 (t 82) (t 81)),none,[]⟩])))) (.ops [i 25 (.mov (t 7)),i 26 (.bin .sub (t 25) (k (.int .i64 1))),i 7 (.mov (t 26))])))
def c38:ACode:=(.seq (.ops [i 4 (.mov (k (.slice none 0 0)))]) (.seq (.ops [i 17 (.mov (t 1)),i 18 (.lenSlice (t 17)),i 19 (.makeSlice 3 24 [(.int .i64 0),(.int .i64 0),(.int .i64 0)] (t 18) (t 18)),i 5 (.mov (t 19))]) (.seq (.ops [i 6 (.mov (.func 59))]) (.seq (.seq (.ops [i 20 (.mov (t 1)),i 21 (.lenSlice (t 20)),i 22 (.bin .sub (t 21) (k (.int .i64 1))),i 7 (.mov (t 22))]) (.block 0 (.loop l38_4))) (.seq (.ops [i 83 (.build [(.int .i64 0),(.int .i64 0),(.int .i64 0)] [(2,(1,(k (.int .i64 (-1)))))]),i 12 (.alloc [(.int .i64 0),(.int .i64 0),(.int .i64 0)]),⟨none,none,(.store 3 (t 12) (t 83)),none,[]⟩]) (.seq (.seq (.ops [i 84 (.mov (t 1)),i 85 (.lenSlice (t 84)),i 86 (.bin .sub (t 85) (k (.int .i64 1))),i 13 (.mov (t 86))]) (.block 4 (.loop l38_2))) (.seq (.ops [i 15 (.mov (k (.slice none 0 0)))]) (.seq (.seq (.ops [i 117 (.fieldAddr 2 (t 12)),i 118 (.load1 (t 117)),i 16 (.mov (t 118))]) (.block 6 (.loop l38_1))) (.seq (.ops [i 130 (.mov (t 15)),i 4 (.mov (t 130))]) .ret)))))))))
def a38:AFunc:=⟨131,[(.tmp 4)],c38⟩
theorem n38:a38.ntmps=131:=id rfl
theorem r38:a38.results=[(.tmp 4)]:=rfl
theorem b38:a38.body=c38:=rfl
def l39_1:ACode:=(.seq (.seq (.ops [i 73 (.mov (t 6)),i 74 (.mov (t 4)),i 75 (.bin .lss (t 73) (t 74))]) (.cond (t 75) .skip (.exit 4))) (.seq (.block 5 (.seq (.drawn 0 [i 78 (.fieldAddr 1 (t 1)),i 79 (.load1 (t 78)),i 80 (.mov (t 6)),i 81 (.idxAddrS 8 (t 79) (t 80)),i 82 (.fieldAddr 0 (t 81)),i 83 (.load1 (t 82)),i 84 (.fieldAddr 0 (t 5)),i 85 (.load1 (t 84)),i 86 (.bin .eql (t 83) (t 85))]) (.cond (t 86) (.seq (.ops [i 2 (.mov (k (.int .i64 321)))]) .ret) .skip))) (.ops [i 76 (.mov (t 6)),i 77 (.bin .add (t 76) (k (.int .i64 1))),i 6 (.mov (t 77))])))
def l39_2:ACode:=(.seq (.seq (.ops [i 42 (.mov (t 4)),i 43 (.fieldAddr 1 (t 1)),i 44 (.load1 (t 43)),i 45 (.lenSlice (t 44)),i 46 (.bin .lss (t 42) (t 45))]) (.cond (t 46) .skip (.exit 2))) (.seq (.block 3 (.seq (.ops [i 49 (.fieldAddr 1 (t 1)),i 50 (.load1 (t 49)),i 51 (.mov (t 4)),i 52 (.idxAddrS 8 (t 50) (t 51)),i 53 (.loadN 8 (t 52)),i 5 (.alloc [(.int .i64 0),(.int .i64 0),(.int .i64 0),(.int .i64 0),(.int .i64 0),(.int .i64 0),(.int .i64 0),(.int .u8 0)]),⟨none,none,(.store 8 (t 5) (t 53)),none,[]⟩]) (.seq (.seq (.ops [i 54 (.loadN 8 (t 5)),i 55 (.call .any (.func 62) [(t 54)]),i 56 (.un .not (t 55)),i 57 (.mov (t 56)),⟨(some 58),(some (57,false)),(.fieldAddr 0 (t 1)),none,[]⟩,⟨(some 59),(some (57,false)),(.load1 (t 58)),none,[]⟩,⟨(some 60),(some (57,false)),(.fieldAddr 1 (t 5)),none,[]⟩,⟨(some 61),(some (57,false)),(.load1 (t 60)),none,[]⟩,⟨(some 62),(some (57,false)),(.call .any (.func 61) [(t 59),(t 61)]),none,[]⟩,⟨(some 63),(some (57,false)),(.bin .eql (t 62) (k (.int .i64 0))),none,[]⟩,i 64 (.pick (t 57) (k (.bool true)) (t 63)),i 65 (.mov (t 64)),⟨(some 66),(some (65,false)),(.fieldAddr 0 (t 1)),none,[]⟩,⟨(some 67),(some (65,false)),(.load1 (t 66)),none,[]⟩,⟨(some 68),(some (65,false)),(.fieldAddr 2 (t 5)),none,[]⟩,⟨(some 69),(some (65,false)),(.load1 (t 68)),none,[]⟩,⟨(some 70),(some (65,false)),(.call .any (.func 61) [(t 67),(t 69)]),none,[]⟩,⟨(some 71),(some (65,false)),(.bin .eql (t 70) (k (.int .i64 0))),none,[]⟩,i 72 (.pick (t 65) (k (.bool true)) (t 71))]) (.cond (t 72) (.seq (.ops [i 2 (.mov (k (.int .i64 321)))]) .ret) .skip)) (.seq (.ops [i 6 (.mov (k (.int .i64 0)))]) (.block 4 (.loop l39_1)))))) (.ops [i 47 (.mov (t 4)),i 48 (.bin .add (t 47) (k (.int .i64 1))),i 4 (.mov (t 48))])))
def l39_3:ACode:=(.seq (.seq (.ops [i 17 (.mov (t 3)),i 18 (.fieldAddr 0 (t 1)),i 19 (.load1 (t 18)),i 20 (.lenSlice (t 19)),i 21 (.bin .lss (t 17) (t 20))]) (.cond (t 21) .skip (.exit 0))) (.seq (.block 1 (.seq (.drawn 0 [i 24 (.fieldAddr 0 (t 1)),i 25 (.load1 (t 24)),i 26 (.mov (t 3)),i 27 (.idxAddrS 1 (t 25) (t 26)),i 28 (.load1 (t 27)),i 29 (.call .pure (.func 60) [(t 28),(k (.int .i64 1)),(k (.int .i64 999999))]),i 30 (.un .not (t 29)),i 31 (.mov (t 30)),⟨(some 32),(some (31,false)),(.fieldAddr 0 (t 1)),none,[]⟩,⟨(some 33),(some (31,false)),(.load1 (t 32)),none,[]⟩,⟨(some 34),(some (31,false)),(.fieldAddr 0 (t 1)),none,[]⟩,⟨(some 35),(some (31,false)),(.load1 (t 34)),none,[]⟩,⟨(some 36),(some (31,false)),(.mov (t 3)),none,[]⟩,⟨(some 37),(some (31,false)),(.idxAddrS 1 (t 35) (t 36)),none,[]⟩,⟨(some 38),(some (31,false)),(.load1 (t 37)),none,[]⟩,⟨(some 39),(some (31,false)),(.call .pure (.func 61) [(t 33),(t 38)]),none,[]⟩,⟨(some 40),(some (31,false)),(.bin .gtr (t 39) (k (.int .i64 1))),none,[]⟩,i 41 (.pick (t 31) (k (.bool true)) (t 40))]) (.cond (t 41) (.seq (.ops [i 2 (.mov (k (.int .i64 320)))]) .ret) .skip))) (.ops [i 22 (.mov (t 3)),i 23 (.bin .add (t 22) (k (.int .i64 1))),i 3 (.mov (t 23))])))
def c39:ACode:=(.seq (.ops [i 1 (.box (t 0)),i 2 (.mov (k (.int .i64 0)))]) (.seq (.seq (.ops [i 7 (.fieldAddr 0 (t 1)),i 8 (.load1 (t 7)),i 9 (.lenSlice (t 8)),i 10 (.bin .gtr (t 9) (k (.int .i64 50))),i 11 (.mov (t 10)),⟨(some 12),(some (11,false)),(.fieldAddr 1 (t 1)),none,[]⟩,⟨(some 13),(some (11,false)),(.load1 (t 12)),none,[]⟩,⟨(some 14),(some (11,false)),(.lenSlice (t 13)),none,[]⟩,⟨(some 15),(some (11,false)),(.bin .gtr (t 14) (k (.int .i64 200))),none,[]⟩,i 16 (.pick (t 11) (k (.bool true)) (t 15))]) (.cond (t 16) (.seq (.ops [i 2 (.mov (k (.int .i64 5)))]) .ret) .skip)) (.seq (.seq (.ops [i 3 (.mov (k (.int .i64 0)))]) (.block 0 (.loop l39_3))) (.seq (.seq (.ops [i 4 (.mov (k (.int .i64 0)))]) (.block 2 (.loop l39_2))) (.seq (.ops [i 2 (.mov (k (.int .i64 0)))]) .ret)))))
def a39:AFunc:=⟨87,[(.tmp 2)],c39⟩
theorem n39:a39.ntmps=87:=id rfl
theorem r39:a39.results=[(.tmp 2)]:=rfl
theorem b39:a39.body=c39:=rfl
def c40:ACode:=(.seq (.ops [i 1 (.box (t 0)),i 2 (.mov (k (.bool false)))]) (.seq (.ops [i 4 (.fieldAddr 0 (t 1)),i 5 (.load1 (t 4)),i 6 (.bin .geq (t 5) (k (.int .i64 1))),i 7 (.mov (t 6)),⟨(some 8),(some (7,true)),(.fieldAddr 0 (t 1)),none,[]⟩,⟨(some 9),(some (7,true)),(.load1 (t 8)),none,[]⟩,⟨(some 10),(some (7,true)),(.bin .leq (t 9) (k (.int .i64 999999))),none,[]⟩,i 11 (.pick (t 7) (t 10) (k (.bool false))),i 12 (.mov (t 11)),⟨(some 13),(some (12,true)),(.fieldAddr 1 (t 1)),none,[]⟩,⟨(some 14),(some (12,true)),(.load1 (t 13)),none,[]⟩,⟨(some 15),(some (12,true)),(.bin .geq (t 14) (k (.int .i64 1))),none,[]⟩,i 16 (.pick (t 12) (t 15) (k (.bool false))),i 17 (.mov (t 16)),⟨(some 18),(some (17,true)),(.fieldAddr 1 (t 1)),none,[]⟩,⟨(some 19),(some (17,true)),(.load1 (t 18)),none,[]⟩,⟨(some 20),(some (17,true)),(.bin .leq (t 19) (k (.int .i64 999999))),none,[]⟩,i 21 (.pick (t 17) (t 20) (k (.bool false))),i 22 (.mov (t 21)),⟨(some 23),(some (22,true)),(.fieldAddr 2 (t 1)),none,[]⟩,⟨(some 24),(some (22,true)),(.load1 (t 23)),none,[]⟩,⟨(some 25),(some (22,true)),(.bin .geq (t 24) (k (.int .i64 1))),none,[]⟩,i 26 (.pick (t 22) (t 25) (k (.bool false))),i 27 (.mov (t 26)),⟨(some 28),(some (27,true)),(.fieldAddr 2 (t 1)),none,[]⟩,⟨(some 29),(some (27,true)),(.load1 (t 28)),none,[]⟩,⟨(some 30),(some (27,true)),(.bin .leq (t 29) (k (.int .i64 999999))),none,[]⟩,i 31 (.pick (t 27) (t 30) (k (.bool false))),i 3 (.mov (t 31))]) (.seq (.ops [i 32 (.mov (t 3)),i 33 (.mov (t 32)),⟨(some 34),(some (33,true)),(.fieldAddr 3 (t 1)),none,[]⟩,⟨(some 35),(some (33,true)),(.load1 (t 34)),none,[]⟩,⟨(some 36),(some (33,true)),(.bin .geq (t 35) (k (.int .u8 1))),none,[]⟩,i 37 (.pick (t 33) (t 36) (k (.bool false))),i 38 (.mov (t 37)),⟨(some 39),(some (38,true)),(.fieldAddr 3 (t 1)),none,[]⟩,⟨(some 40),(some (38,true)),(.load1 (t 39)),none,[]⟩,⟨(some 41),(some (38,true)),(.bin .leq (t 40) (k (.int .u8 4))),none,[]⟩,i 42 (.pick (t 38) (t 41) (k (.bool false))),i 43 (.mov (t 42)),⟨(some 44),(some (43,true)),(.fieldAddr 4 (t 1)),none,[]⟩,⟨(some 45),(some (43,true)),(.load1 (t 44)),none,[]⟩,⟨(some 46),(some (43,true)),(.bin .geq (t 45) (k (.int .i64 0))),none,[]⟩,i 47 (.pick (t 43) (t 46) (k (.bool false))),i 48 (.mov (t 47)),⟨(some 49),(some (48,true)),(.fieldAddr 4 (t 1)),none,[]⟩,⟨(some 50),(some (48,true)),(.load1 (t 49)),none,[]⟩,⟨(some 51),(some (48,true)),(.bin .leq (t 50) (k (.int .i64 1051898399))),none,[]⟩,i 52 (.pick (t 48) (t 51) (k (.bool false))),i 53 (.mov (t 52)),⟨(some 54),(some (53,true)),(.fieldAddr 5 (t 1)),none,[]⟩,⟨(some 55),(some (53,true)),(.load1 (t 54)),none,[]⟩,⟨(some 56),(some (53,true)),(.bin .geq (t 55) (k (.int .i64 0))),none,[]⟩,i 57 (.pick (t 53) (t 56) (k (.bool false))),i 58 (.mov (t 57)),⟨(some 59),(some (58,true)),(.fieldAddr 5 (t 1)),none,[]⟩,⟨(some 60),(some (58,true)),(.load1 (t 59)),none,[]⟩,⟨(some 61),(some (58,true)),(.bin .leq (t 60) (k (.int .i64 1051898399))),none,[]⟩,i 62 (.pick (t 58) (t 61) (k (.bool false))),i 2 (.mov (t 62))]) .ret)))
def a40:AFunc:=⟨63,[(.tmp 2)],c40⟩
theorem n40:a40.ntmps=63:=id rfl
theorem r40:a40.results=[(.tmp 2)]:=rfl
theorem b40:a40.body=c40:=rfl
def c41:ACode:=(.seq (.ops [i 4 (.box (t 1)),i 5 (.box (t 2)),i 6 (.mov (k (.int .i64 0)))]) (.seq (.block 0 (.seq (.ops [i 10 (.fieldAddr 0 (t 4)),i 11 (.fieldAddr 3 (t 10)),i 12 (.load1 (t 11)),i 13 (.bin .eql (t 12) (k (.int .u8 4))),i 9 (.mov (t 13))]) (.cond (t 9) (.seq (.ops [i 6 (.mov (k (.int .i64 80)))]) .ret) (.seq (.ops [i 15 (.fieldAddr 0 (t 4)),i 16 (.fieldAddr 1 (t 15)),i 17 (.load1 (t 16)),i 18 (.fieldAddr 0 (t 5)),i 19 (.fieldAddr 1 (t 18)),i 20 (.load1 (t 19)),i 21 (.bin .eql (t 17) (t 20)),i 14 (.mov (t 21))]) (.cond (t 14) (.seq (.ops [i 6 (.mov (k (.int .i64 0)))]) .ret) .skip))))) (.seq (.drawn 0 [i 22 (.mov (t 0)),i 23 (.nilCheck (t 22)),i 24 (.fieldAddr 0 (t 23)),i 25 (.fieldAddr 0 (t 24)),i 26 (.load1 (t 25)),i 27 (.fieldAddr 0 (t 5)),i 28 (.fieldAddr 1 (t 27)),i 29 (.load1 (t 28)),i 30 (.call .pure (.func 63) [(t 26),(t 29)]),i 7 (.mov (t 30))]) (.seq (.seq (.ops [i 31 (.mov (t 7)),i 32 (.bin .lss (t 31) (k (.int .i64 0)))]) (.cond (t 32) (.seq (.ops [i 6 (.mov (k (.int .i64 80)))]) .ret) .skip)) (.seq (.ops [i 33 (.mov (t 0)),i 34 (.fieldAddr 0 (t 4)),i 35 (.fieldAddr 1 (t 34)),i 36 (.load1 (t 35)),i 37 (.fieldAddr 6 (t 4)),i 38 (.load1 (t 37)),i 39 (.call .any (.func 64) [(t 33),(t 36),(t 38)]),i 8 (.mov (t 39))]) (.seq (.seq (.ops [i 40 (.mov (t 7)),i 41 (.mov (t 8)),i 42 (.lenSlice (t 41)),i 43 (.bin .geq (t 40) (t 42)),i 44 (.mov (t 43)),⟨(some 45),(some (44,false)),(.mov (t 8)),none,[]⟩,⟨(some 46),(some (44,false)),(.mov (t 7)),none,[]⟩,⟨(some 47),(some (44,false)),(.idxAddrS 1 (t 45) (t 46)),none,[]⟩,⟨(some 48),(some (44,false)),(.load1 (t 47)),none,[]⟩,⟨(some 49),(some (44,false)),(.bin .lss (t 48) (k (.int .i64 0))),none,[]⟩,i 50 (.pick (t 44) (k (.bool true)) (t 49))]) (.cond (t 50) (.seq (.ops [i 6 (.mov (k (.int .i64 80)))]) .ret) .skip)) (.seq (.drawn 0 [i 51 (.mov (t 8)),i 52 (.mov (t 7)),i 53 (.idxAddrS 1 (t 51) (t 52)),i 54 (.load1 (t 53)),i 55 (.fieldAddr 6 (t 5)),i 56 (.load1 (t 55)),i 57 (.bin .sub (t 54) (t 56)),i 58 (.minmax true [(t 57),(k (.int .i64 0))]),i 59 (.minmax false [(t 58),(k (.int .i64 60))]),i 6 (.mov (t 59))]) .ret)))))))
def a41:AFunc:=⟨60,[(.tmp 6)],c41⟩
theorem n41:a41.ntmps=60:=id rfl
theorem r41:a41.results=[(.tmp 6)]:=rfl
theorem b41:a41.body=c41:=rfl
def l42_1:ACode:=(.seq (.seq (.ops [i 6 (.mov (t 5)),i 7 (.fieldAddr 0 (t 2)),i 8 (.load1 (t 7)),i 9 (.lenSlice (t 8)),i 10 (.bin .lss (t 6) (t 9))]) (.cond (t 10) .skip (.exit 0))) (.seq (.block 1 (.seq (.ops [i 13 (.fieldAddr 0 (t 2)),i 14 (.load1 (t 13)),i 15 (.mov (t 5)),i 16 (.idxAddrS 1 (t 14) (t 15)),i 17 (.load1 (t 16)),i 18 (.mov (t 1)),i 19 (.bin .eql (t 17) (t 18))]) (.cond (t 19) (.seq (.ops [i 20 (.mov (t 5)),i 4 (.mov (t 20))]) .ret) .skip))) (.ops [i 11 (.mov (t 5)),i 12 (.bin .add (t 11) (k (.int .i64 1))),i 5 (.mov (t 12))])))
def c42:ACode:=(.seq (.ops [i 2 (.box (t 0)),i 4 (.mov (k (.int .i64 0)))]) (.seq (.seq (.ops [i 5 (.mov (k (.int .i64 0)))]) (.block 0 (.loop l42_1))) (.seq (.ops [i 4 (.mov (k (.int .i64 (-1))))]) .ret)))
def a42:AFunc:=⟨21,[(.tmp 4)],c42⟩
theorem n42:a42.ntmps=21:=id rfl
theorem r42:a42.results=[(.tmp 4)]:=rfl
theorem b42:a42.body=c42:=rfl
def c43:ACode:=(.seq (.ops [i 3 (.box (t 0)),i 6 (.mov (k (.slice none 0 0))),i 7 (.mov (k (.int .i64 0)))]) (.seq (.ops [i 9 (.loadN 2 (t 3)),i 10 (.mov (t 1)),i 11 (.mov (t 1)),i 12 (.mov (t 2)),i 13 (.call .any (.func 65) [(t 9),(t 10),(t 11),(t 12)]),i 8 (.mov (t 13))]) (.seq (.seq (.ops [i 14 (.mov (t 8)),i 15 (.bin .neq (t 14) (k (.int .i64 0)))]) (.cond (t 15) (.seq (.ops [i 16 (.mov (t 8)),i 6 (.mov (k (.slice none 0 0))),i 7 (.mov (t 16))]) .ret) .skip)) (.seq (.ops [i 17 (.loadN 2 (t 3)),i 18 (.mov (t 1)),i 19 (.mov (t 2)),i 20 (.mov (t 2)),i 21 (.bin .add (t 20) (k (.int .i64 86400))),i 22 (.fieldAddr 0 (t 3)),i 23 (.load1 (t 22)),i 24 (.lenSlice (t 23)),i 25 (.call .any (.func 66) [(t 17),(t 18),(t 19),(t 21),(t 24)]),i 6 (.mov (t 25)),i 7 (.mov (k (.int .i64 0)))]) .ret))))
def a43:AFunc:=⟨26,[(.tmp 6),(.tmp 7)],c43⟩
theorem n43:a43.ntmps=26:=id rfl
theorem r43:a43.results=[(.tmp 6),(.tmp 7)]:=rfl
theorem b43:a43.body=c43:=rfl
def c44:ACode:=(.seq (.ops [i 2 (.box (t 0)),i 3 (.box (t 1)),i 4 (.mov (k (.bool false)))]) (.seq (.ops [i 5 (.fieldAddr 0 (t 2)),i 6 (.load1 (t 5)),i 7 (.fieldAddr 0 (t 3)),i 8 (.load1 (t 7)),i 9 (.call .any (.func 24) [(t 6),(t 8)]),i 10 (.mov (t 9)),⟨(some 11),(some (10,true)),(.fieldAddr 1 (t 2)),none,[]⟩,⟨(some 12),(some (10,true)),(.load1 (t 11)),none,[]⟩,⟨(some 13),(some (10,true)),(.fieldAddr 1 (t 3)),none,[]⟩,⟨(some 14),(some (10,true)),(.load1 (t 13)),none,[]⟩,⟨(some 15),(some (10,true)),(.call .any (.func 67) [(t 12),(t 14)]),none,[]⟩,i 16 (.pick (t 10) (t 15) (k (.bool false))),i 4 (.mov (t 16))]) .ret))
def a44:AFunc:=⟨17,[(.tmp 4)],c44⟩
theorem n44:a44.ntmps=17:=id rfl
theorem r44:a44.results=[(.tmp 4)]:=rfl
theorem b44:a44.body=c44:=rfl
def l45_1:ACode:=(.seq (.seq (.ops [i 17 (.mov (t 6)),i 18 (.mov (t 5)),i 19 (.lenSlice (t 18)),i 20 (.bin .lss (t 17) (t 19))]) (.cond (t 20) .skip (.exit 0))) (.seq (.block 1 (.seq (.drawn 0 [i 23 (.mov (t 6)),i 24 (.mov (t 1)),i 25 (.lenSlice (t 24)),i 26 (.bin .lss (t 23) (t 25)),i 27 (.mov (t 26)),⟨(some 28),(some (27,true)),(.mov (t 5)),none,[]⟩,⟨(some 29),(some (27,true)),(.mov (t 6)),none,[]⟩,⟨(some 30),(some (27,true)),(.idxAddrS 8 (t 28) (t 29)),none,[]⟩,⟨(some 31),(some (27,true)),(.loadN 8 (t 30)),none,[]⟩,⟨(some 32),(some (27,true)),(.mov (t 1)),none,[]⟩,⟨(some 33),(some (27,true)),(.mov (t 6)),none,[]⟩,⟨(some 34),(some (27,true)),(.idxAddrS 8 (t 32) (t 33)),none,[]⟩,⟨(some 35),(some (27,true)),(.loadN 8 (t 34)),none,[]⟩,⟨(some 36),(some (27,true)),(.eqv false (.agg [(.int .i64),(.int .i64),(.int .i64),(.int .i64),(.int .i64),(.int .i64),(.int .i64),(.int .u8)]) (t 31) (t 35)),none,[]⟩,⟨(some 37),(some (27,true)),(.un .not (t 36)),none,[]⟩,i 38 (.pick (t 27) (t 37) (k (.bool false))),i 39 (.mov (t 38)),⟨(some 40),(some (39,false)),(.mov (t 6)),none,[]⟩,⟨(some 41),(some (39,false)),(.mov (t 1)),none,[]⟩,⟨(some 42),(some (39,false)),(.lenSlice (t 41)),none,[]⟩,⟨(some 43),(some (39,false)),(.bin .geq (t 40) (t 42)),none,[]⟩,⟨(some 44),(some (39,false)),(.mov (t 43)),none,[]⟩,⟨(some 45),(some (44,true)),(.mov (t 5)),none,[]⟩,⟨(some 46),(some (44,true)),(.mov (t 6)),none,[]⟩,⟨(some 47),(some (44,true)),(.idxAddrS 8 (t 45) (t 46)),none,[]⟩,⟨(some 48),(some (44,true)),(.loadN 8 (t 47)),none,[]⟩,⟨(some 49),(some (44,true)),(.mov (t 6)),none,[]⟩,⟨(some 50),(some (44,true)),(.mov (t 1)),none,[]⟩,⟨(some 51),(some (44,true)),(.lenSlice (t 50)),none,[]⟩,⟨(some 52),(some (44,true)),(.bin .sub (t 49) (t 51)),none,[]⟩,⟨(some 53),(some (44,true)),(.call .pure (.func 56) [(k (.int .i64 1)),(t 52)]),none,[]⟩,⟨(some 54),(some (44,true)),(.eqv false (.agg [(.int .i64),(.int .i64),(.int .i64),(.int .i64),(.int .i64),(.int .i64),(.int .i64),(.int .u8)]) (t 48) (t 53)),none,[]⟩,⟨(some 55),(some (44,true)),(.un .not (t 54)),none,[]⟩,⟨(some 56),(some (39,false)),(.pick (t 44) (t 55) (k (.bool false))),none,[]⟩,i 57 (.pick (t 39) (k (.bool true)) (t 56))]) (.cond (t 57) (.seq (.ops [i 4 (.mov (k (.bool false)))]) .ret) .skip))) (.ops [i 21 (.mov (t 6)),i 22 (.bin .add (t 21) (k (.int .i64 1))),i 6 (.mov (t 22))])))
def c45:ACode:=(.seq (.ops [i 4 (.mov (k (.bool false)))]) (.seq (.seq (.ops [i 7 (.mov (t 0)),i 8 (.lenSlice (t 7)),i 9 (.mov (t 1)),i 10 (.lenSlice (t 9)),i 11 (.bin .neq (t 8) (t 10))]) (.cond (t 11) (.seq (.ops [i 4 (.mov (k (.bool false)))]) .ret) .skip)) (.seq (.ops [i 12 (.mov (t 0)),i 13 (.mov (t 1)),i 14 (.lenSlice (t 13)),i 15 (.bin .add (t 14) (k (.int .i64 12))),i 16 (.sliceS 8 (t 12) none (some (t 15)) none),i 5 (.mov (t 16))]) (.seq (.seq (.ops [i 6 (.mov (k (.int .i64 0)))]) (.block 0 (.loop l45_1))) (.seq (.ops [i 4 (.mov (k (.bool true)))]) .ret)))))
def a45:AFunc:=⟨58,[(.tmp 4)],c45⟩
theorem n45:a45.ntmps=58:=id rfl
theorem r45:a45.results=[(.tmp 4)]:=rfl
theorem b45:a45.body=c45:=rfl
def c46:ACode:=(.seq (.ops [i 4 (.box (t 0)),i 8 (.mov (k (.map none))),i 9 (.mov (k (.int .i64 0)))]) (.seq (.seq (.ops [i 16 (.loadN 2 (t 4)),i 17 (.call .any (.func 57) [(t 16)]),i 10 (.mov (t 17))]) (.seq (.ops [i 18 (.mov (t 10)),i 19 (.bin .neq (t 18) (k (.int .i64 0)))]) (.cond (t 19) (.seq (.ops [i 20 (.mov (t 10)),i 8 (.mov (k (.map none))),i 9 (.mov (t 20))]) .ret) .skip))) (.seq (.ops [i 21 (.loadN 2 (t 4)),i 22 (.call .any (.func 68) [(t 21)]),i 11 (.mov (t 22))]) (.seq (.ops [i 24 (.mov (t 11)),i 25 (.mov (t 1)),i 26 (.lookup (.int .i64) (.int .i64 0) true (t 24) (t 25)),i 23 (.mov (t 26)),i 27 (.extract 0 (t 23)),i 28 (.extract 1 (t 23)),i 12 (.mov (t 27)),i 13 (.mov (t 28))]) (.seq (.ops [i 30 (.mov (t 11)),i 31 (.mov (t 2)),i 32 (.lookup (.int .i64) (.int .i64 0) true (t 30) (t 31)),i 29 (.mov (t 32)),i 33 (.extract 0 (t 29)),i 34 (.extract 1 (t 29)),i 14 (.mov (t 33)),i 15 (.mov (t 34))]) (.seq (.seq (.ops [i 35 (.mov (t 13)),i 36 (.un .not (t 35)),i 37 (.mov (t 36)),⟨(some 38),(some (37,false)),(.mov (t 15)),none,[]⟩,⟨(some 39),(some (37,false)),(.un .not (t 38)),none,[]⟩,i 40 (.pick (t 37) (k (.bool true)) (t 39)),i 41 (.mov (t 40)),⟨(some 42),(some (41,false)),(.mov (t 3)),none,[]⟩,⟨(some 43),(some (41,false)),(.bin .lss (t 42) (k (.int .i64 0))),none,[]⟩,i 44 (.pick (t 41) (k (.bool true)) (t 43)),i 45 (.mov (t 44)),⟨(some 46),(some (45,false)),(.mov (t 3)),none,[]⟩,⟨(some 47),(some (45,false)),(.bin .gtr (t 46) (k (.int .i64 1051898399))),none,[]⟩,i 48 (.pick (t 45) (k (.bool true)) (t 47))]) (.cond (t 48) (.seq (.ops [i 8 (.mov (k (.map none))),i 9 (.mov (k (.int .i64 2)))]) .ret) .skip)) (.seq (.ops [i 49 (.mov (t 11)),i 8 (.mov (t 49)),i 9 (.mov (k (.int .i64 0)))]) .ret)))))))
def a46:AFunc:=⟨50,[(.tmp 8),(.tmp 9)],c46⟩
theorem n46:a46.ntmps=50:=id rfl
theorem r46:a46.results=[(.tmp 8),(.tmp 9)]:=rfl
theorem b46:a46.body=c46:=rfl
def c47:ACode:=(.seq (.ops [i 4 (.box (t 0)),i 5 (.box (t 1)),i 7 (.box (t 3)),i 8 (.mov (k (.slice none 0 0)))]) (.seq (.ops [i 10 (.makeFunc 69 [] [(t 5),(t 7)]),i 9 (.mov (t 10))]) (.seq (.drawn 0 [i 11 (.load1 (t 5)),i 12 (.mov (t 2)),i 13 (.lookup (.int .i64) (.int .i64 0) false (t 11) (t 12)),i 14 (.load1 (t 7)),i 15 (.call .pure (.func 72) [(t 13),(t 14)]),i 16 (.fieldAddr 1 (t 4)),i 17 (.load1 (t 16)),i 18 (.mov (t 9)),i 19 (.call .any (.func 71) [(t 15),(t 17),(t 18)]),i 8 (.mov (t 19))]) .ret)))
def a47:AFunc:=⟨20,[(.tmp 8)],c47⟩
theorem n47:a47.ntmps=20:=id rfl
theorem r47:a47.results=[(.tmp 8)]:=rfl
theorem b47:a47.body=c47:=rfl
def c48:ACode:=(.seq (.ops [i 2 (.mov (k (.slice none 0 0)))]) (.seq (.seq (.ops [i 3 (.mov (t 0)),i 4 (.eqv false .slice (t 3) (k (.slice none 0 0)))]) (.cond (t 4) (.seq (.ops [i 2 (.mov (k (.slice none 0 0)))]) .ret) .skip)) (.seq (.ops [i 5 (.buildSlice 0 [] []),i 6 (.mov (t 0)),i 7 (.append 1 8 false (t 5) (t 6)),i 2 (.mov (t 7))]) .ret)))
def a48:AFunc:=⟨8,[(.tmp 2)],c48⟩
theorem n48:a48.ntmps=8:=id rfl
theorem r48:a48.results=[(.tmp 2)]:=rfl
theorem b48:a48.body=c48:=rfl
def c49:ACode:=(.seq (.ops [i 3 (.box (t 0)),i 5 (.box (t 2)),i 6 (.mov (k (.slice none 0 0))),i 7 (.mov (k (.int .i64 0)))]) (.seq (.ops [i 14 (.loadN 2 (t 3)),i 15 (.mov (t 1)),i 16 (.mov (t 1)),i 17 (.load1 (t 5)),i 18 (.call .any (.func 46) [(t 14),(t 15),(t 16),(t 17)]),i 13 (.mov (t 18)),i 19 (.extract 0 (t 13)),i 20 (.extract 1 (t 13)),i 8 (.alloc [(.map none)]),⟨none,none,(.store 1 (t 8) (t 19)),none,[]⟩,i 9 (.mov (t 20))]) (.seq (.seq (.ops [i 21 (.mov (t 9)),i 22 (.bin .neq (t 21) (k (.int .i64 0)))]) (.cond (t 22) (.seq (.ops [i 23 (.mov (t 9)),i 6 (.mov (k (.slice none 0 0))),i 7 (.mov (t 23))]) .ret) .skip)) (.seq (.ops [i 24 (.makeFunc 73 [] [(t 8),(t 5)]),i 10 (.mov (t 24))]) (.seq (.drawn 0 [i 25 (.load1 (t 8)),i 26 (.mov (t 1)),i 27 (.lookup (.int .i64) (.int .i64 0) false (t 25) (t 26)),i 28 (.load1 (t 5)),i 29 (.call .pure (.func 72) [(t 27),(t 28)]),i 30 (.fieldAddr 1 (t 3)),i 31 (.load1 (t 30)),i 32 (.mov (t 10)),i 33 (.call .any (.func 71) [(t 29),(t 31),(t 32)]),i 11 (.mov (t 33))]) (.seq (.ops [i 34 (.mov (t 11)),i 35 (.mov (t 11)),i 36 (.lenSlice (t 35)),i 37 (.bin .sub (t 36) (k (.int .i64 1))),i 38 (.idxAddrS 50 (t 34) (t 37)),i 39 (.loadN 50 (t 38)),i 12 (.alloc [(.int .i64 0),(.int .i64 0),(.int .i64 0),(.int .i64 0),(.int .i64 0),(.int .i64 0),(.int .i64 0),(.int .i64 0),(.int .i64 0),(.int .i64 0),(.int .i64 0),(.int .i64 0),(.int .i64 0),(.int .i64 0),(.int .i64 0),(.int .i64 0),(.int .i64 0),(.int .i64 0),(.int .i64 0),(.int .i64 0),(.int .i64 0),(.int .i64 0),(.int .i64 0),(.int .i64 0),(.int .i64 0),(.int .i64 0),(.int .i64 0),(.int .i64 0),(.int .i64 0),(.int .i64 0),(.int .i64 0),(.int .i64 0),(.int .i64 0),(.int .i64 0),(.int .i64 0),(.int .i64 0),(.int .i64 0),(.int .i64 0),(.int .i64 0),(.int .i64 0),(.int .i64 0),(.int .i64 0),(.int .i64 0),(.int .i64 0),(.int .i64 0),(.int .i64 0),(.int .i64 0),(.int .i64 0),(.int .i64 0),(.int .i64 0)]),⟨none,none,(.store 50 (t 12) (t 39)),none,[]⟩]) (.seq (.ops [i 40 (.fieldAddr 0 (t 3)),i 41 (.load1 (t 40)),i 42 (.lenSlice (t 41)),i 43 (.sliceA 50 1 (t 12) none (some (t 42)) none),i 44 (.call .any (.func 48) [(t 43)]),i 6 (.mov (t 44)),i 7 (.mov (k (.int .i64 0)))]) .ret)))))))
def a49:AFunc:=⟨45,[(.tmp 6),(.tmp 7)],c49⟩
def c56:ACode:=(.seq (.ops [i 4 (.alloc [(.int .i64 0),(.int .i64 0),(.int .i64 0),(.int .i64 0),(.int .i64 0),(.int .i64 0),(.int .i64 0),(.int .u8 0)])]) (.seq (.ops [i 5 (.mov (t 0)),i 6 (.mov (t 1)),i 7 (.call .any (.func 34) [(t 5),(t 6)]),i 8 (.build [(.int .i64 0),(.int .i64 0),(.int .i64 0),(.int .i64 0),(.int .i64 0),(.int .i64 0),(.int .i64 0),(.int .u8 0)] [(0,(1,(t 7)))]),⟨none,none,(.store 8 (t 4) (t 8)),none,[]⟩]) .ret))
def a56:AFunc:=⟨9,[(.cellN 8 4)],c56⟩
theorem n56:a56.ntmps=9:=id rfl
theorem r56:a56.results=[(.cellN 8 4)]:=rfl
theorem b56:a56.body=c56:=rfl
def l57_1:ACode:=(.seq (.ops [i 52 (.bin .lss (t 51) (t 50))]) (.seq (.cond (t 52) .skip (.exit 2)) (.seq (.block 3 (.seq (.ops [i 53 (.idxAddrS 8 (t 49) (t 51)),i 54 (.loadN 8 (t 53)),i 8 (.alloc [(.int .i64 0),(.int .i64 0),(.int .i64 0),(.int .i64 0),(.int .i64 0),(.int .i64 0),(.int .i64 0),(.int .u8 0)]),⟨none,none,(.store 8 (t 8) (t 54)),none,[]⟩]) (.seq (.seq (.ops [i 55 (.loadN 8 (t 8)),i 56 (.call .any (.func 89) [(t 55)]),i 57 (.un .not (t 56)),i 58 (.mov (t 57)),⟨(some 59),(some (58,false)),(.mov (t 6)),none,[]⟩,⟨(some 60),(some (58,false)),(.fieldAddr 0 (t 8)),none,[]⟩,⟨(some 61),(some (58,false)),(.load1 (t 60)),none,[]⟩,⟨(some 62),(some (58,false)),(.lookup (.int .i64) (.bool false) false (t 59) (t 61)),none,[]⟩,i 63 (.pick (t 58) (k (.bool true)) (t 62)),i 64 (.mov (t 63)),⟨(some 65),(some (64,false)),(.mov (t 3)),none,[]⟩,⟨(some 66),(some (64,false)),(.fieldAddr 1 (t 8)),none,[]⟩,⟨(some 67),(some (64,false)),(.load1 (t 66)),none,[]⟩,⟨(some 68),(some (64,false)),(.lookup (.int .i64) (.bool false) false (t 65) (t 67)),none,[]⟩,⟨(some 69),(some (64,false)),(.un .not (t 68)),none,[]⟩,i 70 (.pick (t 64) (k (.bool true)) (t 69)),i 71 (.mov (t 70)),⟨(some 72),(some (71,false)),(.mov (t 3)),none,[]⟩,⟨(some 73),(some (71,false)),(.fieldAddr 2 (t 8)),none,[]⟩,⟨(some 74),(some (71,false)),(.load1 (t 73)),none,[]⟩,⟨(some 75),(some (71,false)),(.lookup (.int .i64) (.bool false) false (t 72) (t 74)),none,[]⟩,⟨(some 76),(some (71,false)),(.un .not (t 75)),none,[]⟩,i 77 (.pick (t 71) (k (.bool true)) (t 76))]) (.cond (t 77) (.seq (.ops [i 2 (.mov (k (.int .i64 321)))]) .ret) .skip)) (.ops [i 78 (.mov (t 6)),i 79 (.fieldAddr 0 (t 8)),i 80 (.load1 (t 79)),⟨none,none,(.mapUpdate (.int .i64) (t 78) (t 80) (k (.bool true))),none,[]⟩])))) (.ops [i 81 (.bin .add (t 51) (k (.int .i64 1))),i 51 (.mov (t 81))]))))
def l57_2:ACode:=(.seq (.ops [i 27 (.bin .lss (t 26) (t 25))]) (.seq (.cond (t 27) .skip (.exit 0)) (.seq (.block 1 (.seq (.ops [i 28 (.idxAddrS 1 (t 24) (t 26)),i 29 (.load1 (t 28)),i 5 (.mov (t 29))]) (.seq (.seq (.ops [i 30 (.mov (t 5)),i 31 (.bin .lss (t 30) (k (.int .i64 1))),i 32 (.mov (t 31)),⟨(some 33),(some (32,false)),(.mov (t 5)),none,[]⟩,⟨(some 34),(some (32,false)),(.bin .gtr (t 33) (k (.int .i64 999999))),none,[]⟩,i 35 (.pick (t 32) (k (.bool true)) (t 34)),i 36 (.mov (t 35)),⟨(some 37),(some (36,false)),(.mov (t 3)),none,[]⟩,⟨(some 38),(some (36,false)),(.mov (t 5)),none,[]⟩,⟨(some 39),(some (36,false)),(.lookup (.int .i64) (.bool false) false (t 37) (t 38)),none,[]⟩,i 40 (.pick (t 36) (k (.bool true)) (t 39))]) (.cond (t 40) (.seq (.ops [i 2 (.mov (k (.int .i64 320)))]) .ret) .skip)) (.ops [i 41 (.mov (t 3)),i 42 (.mov (t 5)),⟨none,none,(.mapUpdate (.int .i64) (t 41) (t 42) (k (.bool true))),none,[]⟩])))) (.ops [i 43 (.bin .add (t 26) (k (.int .i64 1))),i 26 (.mov (t 43))]))))
def c57:ACode:=(.seq (.ops [i 1 (.box (t 0)),i 2 (.mov (k (.int .i64 0)))]) (.seq (.seq (.ops [i 9 (.fieldAddr 0 (t 1)),i 10 (.load1 (t 9)),i 11 (.lenSlice (t 10)),i 12 (.bin .gtr (t 11) (k (.int .i64 50))),i 13 (.mov (t 12)),⟨(some 14),(some (13,false)),(.fieldAddr 1 (t 1)),none,[]⟩,⟨(some 15),(some (13,false)),(.load1 (t 14)),none,[]⟩,⟨(some 16),(some (13,false)),(.lenSlice (t 15)),none,[]⟩,⟨(some 17),(some (13,false)),(.bin .gtr (t 16) (k (.int .i64 200))),none,[]⟩,i 18 (.pick (t 13) (k (.bool true)) (t 17))]) (.cond (t 18) (.seq (.ops [i 2 (.mov (k (.int .i64 5)))]) .ret) .skip)) (.seq (.ops [i 19 (.fieldAddr 0 (t 1)),i 20 (.load1 (t 19)),i 21 (.lenSlice (t 20)),i 22 (.makeMap (some (t 21))),i 3 (.mov (t 22))]) (.seq (.seq (.ops [i 23 (.fieldAddr 0 (t 1)),i 24 (.load1 (t 23)),i 25 (.lenSlice (t 24)),i 26 (.mov (k (.int .i64 0)))]) (.block 0 (.loop l57_2))) (.seq (.ops [i 44 (.fieldAddr 1 (t 1)),i 45 (.load1 (t 44)),i 46 (.lenSlice (t 45)),i 47 (.makeMap (some (t 46))),i 6 (.mov (t 47))]) (.seq (.seq (.ops [i 48 (.fieldAddr 1 (t 1)),i 49 (.load1 (t 48)),i 50 (.lenSlice (t 49)),i 51 (.mov (k (.int .i64 0)))]) (.block 2 (.loop l57_1))) (.seq (.ops [i 2 (.mov (k (.int .i64 0)))]) .ret)))))))
def a57:AFunc:=⟨82,[(.tmp 2)],c57⟩
theorem n57:a57.ntmps=82:=id rfl
theorem r57:a57.results=[(.tmp 2)]:=rfl
theorem b57:a57.body=c57:=rfl
def l58_1:ACode:=(.seq (.ops [i 11 (.bin .lss (t 10) (t 9))]) (.seq (.cond (t 11) .skip (.exit 0)) (.seq (.block 1 (.seq (.ops [i 12 (.idxAddrS 6 (t 8) (t 10)),i 13 (.loadN 6 (t 12)),i 4 (.alloc [(.int .i64 0),(.int .i64 0),(.int .i64 0),(.int .u8 0),(.int .i64 0),(.int .i64 0)]),⟨none,none,(.store 6 (t 4) (t 13)),none,[]⟩]) (.seq (.ops [i 14 (.loadN 6 (t 4)),i 15 (.call .any (.func 90) [(t 14)]),i 16 (.un .not (t 15))]) (.cond (t 16) (.seq (.ops [i 2 (.mov (k (.bool false)))]) .ret) .skip)))) (.ops [i 17 (.bin .add (t 10) (k (.int .i64 1))),i 10 (.mov (t 17))]))))
def c58:ACode:=(.seq (.ops [i 2 (.mov (k (.bool false)))]) (.seq (.seq (.ops [i 5 (.mov (t 0)),i 6 (.lenSlice (t 5)),i 7 (.bin .gtr (t 6) (k (.int .i64 2000)))]) (.cond (t 7) (.seq (.ops [i 2 (.mov (k (.bool false)))]) .ret) .skip)) (.seq (.seq (.ops [i 8 (.mov (t 0)),i 9 (.lenSlice (t 8)),i 10 (.mov (k (.int .i64 0)))]) (.block 0 (.loop l58_1))) (.seq (.ops [i 2 (.mov (k (.bool true)))]) .ret))))
def a58:AFunc:=⟨18,[(.tmp 2)],c58⟩
theorem n58:a58.ntmps=18:=id rfl
theorem r58:a58.results=[(.tmp 2)]:=rfl
theorem b58:a58.body=c58:=rfl
def c59:ACode:=(.seq (.ops [i 2 (.box (t 0)),i 3 (.box (t 1)),i 4 (.mov (k (.bool false)))]) (.seq (.ops [i 5 (.fieldAddr 0 (t 2)),i 6 (.load1 (t 5)),i 7 (.fieldAddr 0 (t 3)),i 8 (.load1 (t 7)),i 9 (.bin .lss (t 6) (t 8)),i 10 (.mov (t 9)),⟨(some 11),(some (10,false)),(.fieldAddr 0 (t 2)),none,[]⟩,⟨(some 12),(some (10,false)),(.load1 (t 11)),none,[]⟩,⟨(some 13),(some (10,false)),(.fieldAddr 0 (t 3)),none,[]⟩,⟨(some 14),(some (10,false)),(.load1 (t 13)),none,[]⟩,⟨(some 15),(some (10,false)),(.bin .eql (t 12) (t 14)),none,[]⟩,⟨(some 16),(some (10,false)),(.mov (t 15)),none,[]⟩,⟨(some 17),(some (16,true)),(.fieldAddr 1 (t 2)),none,[]⟩,⟨(some 18),(some (16,true)),(.load1 (t 17)),none,[]⟩,⟨(some 19),(some (16,true)),(.fieldAddr 1 (t 3)),none,[]⟩,⟨(some 20),(some (16,true)),(.load1 (t 19)),none,[]⟩,⟨(some 21),(some (16,true)),(.bin .gtr (t 18) (t 20)),none,[]⟩,⟨(some 22),(some (10,false)),(.pick (t 16) (t 21) (k (.bool false))),none,[]⟩,i 23 (.pick (t 10) (k (.bool true)) (t 22)),i 4 (.mov (t 23))]) .ret))
def a59:AFunc:=⟨24,[(.tmp 4)],c59⟩
theorem n59:a59.ntmps=24:=id rfl
theorem r59:a59.results=[(.tmp 4)]:=rfl
theorem b59:a59.body=c59:=rfl
def c60:ACode:=(.seq (.ops [i 6 (.mov (k (.bool false)))]) (.seq (.ops [i 7 (.mov (t 0)),i 8 (.mov (t 1)),i 9 (.bin .geq (t 7) (t 8)),i 10 (.mov (t 9)),⟨(some 11),(some (10,true)),(.mov (t 0)),none,[]⟩,⟨(some 12),(some (10,true)),(.mov (t 2)),none,[]⟩,⟨(some 13),(some (10,true)),(.bin .leq (t 11) (t 12)),none,[]⟩,i 14 (.pick (t 10) (t 13) (k (.bool false))),i 6 (.mov (t 14))]) .ret))
def a60:AFunc:=⟨15,[(.tmp 6)],c60⟩
theorem n60:a60.ntmps=15:=id rfl
theorem r60:a60.results=[(.tmp 6)]:=rfl
theorem b60:a60.body=c60:=rfl
def l61_1:ACode:=(.seq (.seq (.ops [i 7 (.mov (t 6)),i 8 (.mov (t 0)),i 9 (.lenSlice (t 8)),i 10 (.bin .lss (t 7) (t 9))]) (.cond (t 10) .skip (.exit 0))) (.seq (.block 1 (.seq (.ops [i 13 (.mov (t 0)),i 14 (.mov (t 6)),i 15 (.idxAddrS 1 (t 13) (t 14)),i 16 (.load1 (t 15)),i 17 (.mov (t 1)),i 18 (.bin .eql (t 16) (t 17))]) (.cond (t 18) (.ops [i 19 (.mov (t 5)),i 20 (.bin .add (t 19) (k (.int .i64 1))),i 5 (.mov (t 20))]) .skip))) (.ops [i 11 (.mov (t 6)),i 12 (.bin .add (t 11) (k (.int .i64 1))),i 6 (.mov (t 12))])))
def c61:ACode:=(.seq (.ops [i 4 (.mov (k (.int .i64 0)))]) (.seq (.ops [i 5 (.mov (k (.int .i64 0)))]) (.seq (.seq (.ops [i 6 (.mov (k (.int .i64 0)))]) (.block 0 (.loop l61_1))) (.seq (.ops [i 21 (.mov (t 5)),i 4 (.mov (t 21))]) .ret))))
def a61:AFunc:=⟨22,[(.tmp 4)],c61⟩
theorem n61:a61.ntmps=22:=id rfl
theorem r61:a61.results=[(.tmp 4)]:=rfl
theorem b61:a61.body=c61:=rfl
def c62:ACode:=(.seq (.ops [i 1 (.box (t 0)),i 2 (.mov (k (.bool false)))]) (.seq (.ops [i 3 (.fieldAddr 0 (t 1)),i 4 (.load1 (t 3)),i 5 (.call .any (.func 60) [(t 4),(k (.int .i64 1)),(k (.int .i64 999999))]),i 6 (.mov (t 5)),⟨(some 7),(some (6,true)),(.fieldAddr 1 (t 1)),none,[]⟩,⟨(some 8),(some (6,true)),(.load1 (t 7)),none,[]⟩,⟨(some 9),(some (6,true)),(.call .any (.func 60) [(t 8),(k (.int .i64 1)),(k (.int .i64 999999))]),none,[]⟩,i 10 (.pick (t 6) (t 9) (k (.bool false))),i 11 (.mov (t 10)),⟨(some 12),(some (11,true)),(.fieldAddr 2 (t 1)),none,[]⟩,⟨(some 13),(some (11,true)),(.load1 (t 12)),none,[]⟩,⟨(some 14),(some (11,true)),(.call .any (.func 60) [(t 13),(k (.int .i64 1)),(k (.int .i64 999999))]),none,[]⟩,i 15 (.pick (t 11) (t 14) (k (.bool false))),i 16 (.mov (t 15)),⟨(some 17),(some (16,true)),(.fieldAddr 1 (t 1)),none,[]⟩,⟨(some 18),(some (16,true)),(.load1 (t 17)),none,[]⟩,⟨(some 19),(some (16,true)),(.fieldAddr 2 (t 1)),none,[]⟩,⟨(some 20),(some (16,true)),(.load1 (t 19)),none,[]⟩,⟨(some 21),(some (16,true)),(.bin .neq (t 18) (t 20)),none,[]⟩,i 22 (.pick (t 16) (t 21) (k (.bool false))),i 23 (.mov (t 22)),⟨(some 24),(some (23,true)),(.fieldAddr 3 (t 1)),none,[]⟩,⟨(some 25),(some (23,true)),(.load1 (t 24)),none,[]⟩,⟨(some 26),(some (23,true)),(.call .any (.func 60) [(t 25),(k (.int .i64 0)),(k (.int .i64 1439))]),none,[]⟩,i 27 (.pick (t 23) (t 26) (k (.bool false))),i 28 (.mov (t 27)),⟨(some 29),(some (28,true)),(.fieldAddr 4 (t 1)),none,[]⟩,⟨(some 30),(some (28,true)),(.load1 (t 29)),none,[]⟩,⟨(some 31),(some (28,true)),(.call .any (.func 60) [(t 30),(k (.int .i64 1)),(k (.int .i64 20160))]),none,[]⟩,i 32 (.pick (t 28) (t 31) (k (.bool false))),i 33 (.mov (t 32)),⟨(some 34),(some (33,true)),(.fieldAddr 5 (t 1)),none,[]⟩,⟨(some 35),(some (33,true)),(.load1 (t 34)),none,[]⟩,⟨(some 36),(some (33,true)),(.call .any (.func 60) [(t 35),(k (.int .i64 0)),(k (.int .i64 10080))]),none,[]⟩,i 37 (.pick (t 33) (t 36) (k (.bool false))),i 38 (.mov (t 37)),⟨(some 39),(some (38,true)),(.fieldAddr 6 (t 1)),none,[]⟩,⟨(some 40),(some (38,true)),(.load1 (t 39)),none,[]⟩,⟨(some 41),(some (38,true)),(.call .any (.func 60) [(t 40),(k (.int .i64 0)),(k (.int .i64 1000000000))]),none,[]⟩,i 42 (.pick (t 38) (t 41) (k (.bool false))),i 43 (.mov (t 42)),⟨(some 44),(some (43,true)),(.fieldAddr 7 (t 1)),none,[]⟩,⟨(some 45),(some (43,true)),(.load1 (t 44)),none,[]⟩,⟨(some 46),(some (43,true)),(.bin .geq (t 45) (k (.int .u8 1))),none,[]⟩,i 47 (.pick (t 43) (t 46) (k (.bool false))),i 48 (.mov (t 47)),⟨(some 49),(some (48,true)),(.fieldAddr 7 (t 1)),none,[]⟩,⟨(some 50),(some (48,true)),(.load1 (t 49)),none,[]⟩,⟨(some 51),(some (48,true)),(.bin .leq (t 50) (k (.int .u8 127))),none,[]⟩,i 52 (.pick (t 48) (t 51) (k (.bool false))),i 2 (.mov (t 52))]) .ret))
def a62:AFunc:=⟨53,[(.tmp 2)],c62⟩
theorem n62:a62.ntmps=53:=id rfl
theorem r62:a62.results=[(.tmp 2)]:=rfl
theorem b62:a62.body=c62:=rfl
def l63_1:ACode:=(.seq (.ops [i 9 (.bin .lss (t 8) (t 7))]) (.seq (.cond (t 9) .skip (.exit 0)) (.seq (.block 1 (.seq (.ops [i 10 (.mov (t 8)),i 5 (.mov (t 10))]) (.seq (.ops [i 11 (.mov (t 1)),i 12 (.mov (t 0)),i 13 (.mov (t 5)),i 14 (.idxAddrS 1 (t 12) (t 13)),i 15 (.load1 (t 14)),i 16 (.bin .eql (t 11) (t 15))]) (.cond (t 16) (.seq (.ops [i 17 (.mov (t 5)),i 4 (.mov (t 17))]) .ret) .skip)))) (.ops [i 18 (.bin .add (t 8) (k (.int .i64 1))),i 8 (.mov (t 18))]))))
def c63:ACode:=(.seq (.ops [i 4 (.mov (k (.int .i64 0)))]) (.seq (.seq (.ops [i 6 (.mov (t 0)),i 7 (.lenSlice (t 6)),i 8 (.mov (k (.int .i64 0)))]) (.block 0 (.loop l63_1))) (.seq (.ops [i 4 (.mov (k (.int .i64 (-1))))]) .ret)))
def a63:AFunc:=⟨19,[(.tmp 4)],c63⟩
theorem n63:a63.ntmps=19:=id rfl
theorem r63:a63.results=[(.tmp 4)]:=rfl
theorem b63:a63.body=c63:=rfl
def c64:ACode:=(.seq (.ops [i 6 (.mov (k (.slice none 0 0)))]) (.seq (.ops [i 11 (.mov (t 1)),i 12 (.mov (t 2)),i 13 (.build [(.int .i64 0),(.int .i64 0)] [(0,(1,(t 11))),(1,(1,(t 12)))]),i 7 (.alloc [(.int .i64 0),(.int .i64 0)]),⟨none,none,(.store 2 (t 7) (t 13)),none,[]⟩]) (.seq (.drawn 0 [i 15 (.mov (t 0)),i 16 (.nilCheck (t 15)),i 17 (.fieldAddr 2 (t 16)),i 18 (.load1 (t 17)),i 19 (.loadN 2 (t 7)),i 20 (.lookup (.ints [.i64,.i64]) (.slice none 0 0) true (t 18) (t 19)),i 14 (.mov (t 20)),i 21 (.extract 0 (t 14)),i 22 (.extract 1 (t 14)),i 8 (.mov (t 21)),i 9 (.mov (t 22))]) (.seq (.seq (.ops [i 23 (.mov (t 9)),i 24 (.un .not (t 23))]) (.cond (t 24) (.seq (.ops [i 10 (.mov (k (.int .i64 0)))]) (.seq (.seq (.ops [i 26 (.mov (t 0)),i 27 (.nilCheck (t 26)),i 28 (.fieldAddr 0 (t 27)),i 29 (.loadN 2 (t 28)),i 30 (.mov (t 1)),i 31 (.mov (t 2)),i 32 (.call .any (.func 25) [(t 29),(t 30),(t 31)]),i 25 (.mov (t 32)),i 33 (.extract 0 (t 25)),i 34 (.extract 1 (t 25)),i 8 (.mov (t 33)),i 10 (.mov (t 34))]) (.seq (.ops [i 35 (.mov (t 10)),i 36 (.bin .neq (t 35) (k (.int .i64 0)))]) (.cond (t 36) (.ops [i 8 (.mov (k (.slice none 0 0)))]) .skip))) (.drawn 0 [i 37 (.mov (t 0)),i 38 (.nilCheck (t 37)),i 39 (.fieldAddr 2 (t 38)),i 40 (.load1 (t 39)),i 41 (.loadN 2 (t 7)),i 42 (.mov (t 8)),⟨none,none,(.mapUpdate (.ints [.i64,.i64]) (t 40) (t 41) (t 42)),none,[]⟩]))) .skip)) (.seq (.ops [i 43 (.mov (t 8)),i 6 (.mov (t 43))]) .ret)))))
def a64:AFunc:=⟨44,[(.tmp 6)],c64⟩
theorem n64:a64.ntmps=44:=id rfl
theorem r64:a64.results=[(.tmp 6)]:=rfl
theorem b64:a64.body=c64:=rfl
def c65:ACode:=(.seq (.ops [i 4 (.box (t 0)),i 8 (.mov (k (.int .i64 0)))]) (.seq (.ops [i 10 (.loadN 2 (t 4)),i 11 (.call .any (.func 39) [(t 10)]),i 9 (.mov (t 11))]) (.seq (.seq (.ops [i 12 (.mov (t 9)),i 13 (.bin .neq (t 12) (k (.int .i64 0)))]) (.cond (t 13) (.seq (.ops [i 14 (.mov (t 9)),i 8 (.mov (t 14))]) .ret) .skip)) (.seq (.seq (.ops [i 15 (.loadN 2 (t 4)),i 16 (.mov (t 1)),i 17 (.call .any (.func 83) [(t 15),(t 16)]),i 18 (.bin .lss (t 17) (k (.int .i64 0))),i 19 (.mov (t 18)),⟨(some 20),(some (19,false)),(.loadN 2 (t 4)),none,[]⟩,⟨(some 21),(some (19,false)),(.mov (t 2)),none,[]⟩,⟨(some 22),(some (19,false)),(.call .any (.func 83) [(t 20),(t 21)]),none,[]⟩,⟨(some 23),(some (19,false)),(.bin .lss (t 22) (k (.int .i64 0))),none,[]⟩,i 24 (.pick (t 19) (k (.bool true)) (t 23)),i 25 (.mov (t 24)),⟨(some 26),(some (25,false)),(.mov (t 3)),none,[]⟩,⟨(some 27),(some (25,false)),(.bin .lss (t 26) (k (.int .i64 0))),none,[]⟩,i 28 (.pick (t 25) (k (.bool true)) (t 27)),i 29 (.mov (t 28)),⟨(some 30),(some (29,false)),(.mov (t 3)),none,[]⟩,⟨(some 31),(some (29,false)),(.bin .gtr (t 30) (k (.int .i64 1051898399))),none,[]⟩,i 32 (.pick (t 29) (k (.bool true)) (t 31))]) (.cond (t 32) (.seq (.ops [i 8 (.mov (k (.int .i64 2)))]) .ret) .skip)) (.seq (.ops [i 8 (.mov (k (.int .i64 0)))]) .ret)))))
def a65:AFunc:=⟨33,[(.tmp 8)],c65⟩
theorem n65:a65.ntmps=33:=id rfl
theorem r65:a65.results=[(.tmp 8)]:=rfl
theorem b65:a65.body=c65:=rfl
def l66_1:ACode:=(.seq (.seq (.ops [i 45 (.mov (t 15)),i 46 (.fieldAddr 1 (t 5)),i 47 (.load1 (t 46)),i 48 (.lenSlice (t 47)),i 49 (.bin .lss (t 45) (t 48))]) (.cond (t 49) .skip (.exit 4))) (.seq (.block 5 (.seq (.ops [i 52 (.fieldAddr 1 (t 5)),i 53 (.load1 (t 52)),i 54 (.mov (t 15)),i 55 (.idxAddrS 8 (t 53) (t 54)),i 56 (.loadN 8 (t 55)),i 16 (.alloc [(.int .i64 0),(.int .i64 0),(.int .i64 0),(.int .i64 0),(.int .i64 0),(.int .i64 0),(.int .i64 0),(.int .u8 0)]),⟨none,none,(.store 8 (t 16) (t 56)),none,[]⟩]) (.seq (.ops [i 57 (.loadN 2 (t 5)),i 58 (.fieldAddr 1 (t 16)),i 59 (.load1 (t 58)),i 60 (.call .any (.func 83) [(t 57),(t 59)]),i 17 (.mov (t 60))]) (.seq (.ops [i 61 (.loadN 2 (t 5)),i 62 (.fieldAddr 2 (t 16)),i 63 (.load1 (t 62)),i 64 (.call .any (.func 83) [(t 61),(t 63)]),i 18 (.mov (t 64))]) (.seq (.seq (.ops [i 65 (.mov (t 11)),i 66 (.mov (t 17)),i 67 (.idxAddrS 1 (t 65) (t 66)),i 68 (.load1 (t 67)),i 69 (.bin .lss (t 68) (k (.int .i64 0)))]) (.cond (t 69) (.exit 5) .skip)) (.seq (.drawn 1 [⟨(some 71),none,(.loadN 8 (t 16)),none,[0]⟩,i 72 (.mov (t 11)),i 73 (.mov (t 17)),i 74 (.idxAddrS 1 (t 72) (t 73)),⟨(some 75),none,(.load1 (t 74)),none,[0]⟩,⟨(some 76),none,(.call .pure (.func 84) [(t 71),(t 75)]),none,[0]⟩,i 70 (.mov (t 76)),i 77 (.extract 0 (t 70)),i 78 (.extract 1 (t 70)),⟨(some 19),none,(.alloc [(.int .i64 0),(.int .i64 0)]),(some 0),[]⟩,⟨none,none,(.store 2 (t 19) (t 77)),none,[]⟩,i 20 (.mov (t 78))]) (.seq (.drawn 0 [i 79 (.mov (t 20)),i 80 (.mov (t 79)),⟨(some 81),(some (80,true)),(.fieldAddr 1 (t 19)),none,[]⟩,⟨(some 82),(some (80,true)),(.load1 (t 81)),none,[]⟩,⟨(some 83),(some (80,true)),(.mov (t 3)),none,[]⟩,⟨(some 84),(some (80,true)),(.bin .leq (t 82) (t 83)),none,[]⟩,i 85 (.pick (t 80) (t 84) (k (.bool false))),i 86 (.mov (t 85)),⟨(some 87),(some (86,true)),(.mov (t 14)),none,[]⟩,⟨(some 88),(some (86,true)),(.mov (t 18)),none,[]⟩,⟨(some 89),(some (86,true)),(.idxAddrS 1 (t 87) (t 88)),none,[]⟩,⟨(some 90),(some (86,true)),(.load1 (t 89)),none,[]⟩,⟨(some 91),(some (86,true)),(.bin .lss (t 90) (k (.int .i64 0))),none,[]⟩,⟨(some 92),(some (86,true)),(.mov (t 91)),none,[]⟩,⟨(some 93),(some (92,false)),(.fieldAddr 1 (t 19)),none,[]⟩,⟨(some 94),(some (92,false)),(.load1 (t 93)),none,[]⟩,⟨(some 95),(some (92,false)),(.mov (t 14)),none,[]⟩,⟨(some 96),(some (92,false)),(.mov (t 18)),none,[]⟩,⟨(some 97),(some (92,false)),(.idxAddrS 1 (t 95) (t 96)),none,[]⟩,⟨(some 98),(some (92,false)),(.load1 (t 97)),none,[]⟩,⟨(some 99),(some (92,false)),(.bin .lss (t 94) (t 98)),none,[]⟩,⟨(some 100),(some (86,true)),(.pick (t 92) (k (.bool true)) (t 99)),none,[]⟩,i 101 (.pick (t 86) (t 100) (k (.bool false)))]) (.cond (t 101) (.ops [i 102 (.mov (t 14)),i 103 (.mov (t 18)),i 104 (.fieldAddr 1 (t 19)),i 105 (.load1 (t 104)),i 106 (.idxAddrS 1 (t 102) (t 103)),⟨none,none,(.store 1 (t 106) (t 105)),none,[]⟩]) .skip)))))))) (.ops [i 50 (.mov (t 15)),i 51 (.bin .add (t 50) (k (.int .i64 1))),i 15 (.mov (t 51))])))
def l66_2:ACode:=(.seq (.seq (.ops [i 37 (.mov (t 13)),i 38 (.mov (t 4)),i 39 (.bin .lss (t 37) (t 38))]) (.cond (t 39) .skip (.exit 2))) (.seq (.block 3 (.seq (.ops [i 42 (.buildSlice 0 [] []),i 43 (.mov (t 11)),i 44 (.append 1 8 false (t 42) (t 43)),i 14 (.mov (t 44))]) (.seq (.seq (.ops [i 15 (.mov (k (.int .i64 0)))]) (.block 4 (.loop l66_1))) (.ops [i 107 (.mov (t 14)),i 11 (.mov (t 107))])))) (.ops [i 40 (.mov (t 13)),i 41 (.bin .add (t 40) (k (.int .i64 1))),i 13 (.mov (t 41))])))
def l66_3:ACode:=(.seq (.seq (.ops [i 21 (.mov (t 12)),i 22 (.fieldAddr 0 (t 5)),i 23 (.load1 (t 22)),i 24 (.lenSlice (t 23)),i 25 (.bin .lss (t 21) (t 24))]) (.cond (t 25) .skip (.exit 0))) (.seq (.block 1 (.ops [i 28 (.mov (t 11)),i 29 (.buildSlice 1 [(.int .i64 0)] [(0,(1,(k (.int .i64 (-1)))))]),i 30 (.append 1 8 false (t 28) (t 29)),i 11 (.mov (t 30))])) (.ops [i 26 (.mov (t 12)),i 27 (.bin .add (t 26) (k (.int .i64 1))),i 12 (.mov (t 27))])))
def c66:ACode:=(.seq (.ops [i 5 (.box (t 0)),i 10 (.mov (k (.slice none 0 0)))]) (.seq (.ops [i 11 (.mov (k (.slice none 0 0)))]) (.seq (.seq (.ops [i 12 (.mov (k (.int .i64 0)))]) (.block 0 (.loop l66_3))) (.seq (.ops [i 31 (.mov (t 11)),i 32 (.loadN 2 (t 5)),i 33 (.mov (t 1)),i 34 (.call .any (.func 83) [(t 32),(t 33)]),i 35 (.mov (t 2)),i 36 (.idxAddrS 1 (t 31) (t 34)),⟨none,none,(.store 1 (t 36) (t 35)),none,[]⟩]) (.seq (.seq (.ops [i 13 (.mov (k (.int .i64 0)))]) (.block 2 (.loop l66_2))) (.seq (.ops [i 108 (.mov (t 11)),i 10 (.mov (t 108))]) .ret))))))
def a66:AFunc:=⟨109,[(.tmp 10)],c66⟩
theorem n66:a66.ntmps=109:=id rfl
theorem r66:a66.results=[(.tmp 10)]:=rfl
theorem b66:a66.body=c66:=rfl
def l67_1:ACode:=(.seq (.seq (.ops [i 11 (.mov (t 5)),i 12 (.mov (t 0)),i 13 (.lenSlice (t 12)),i 14 (.bin .lss (t 11) (t 13))]) (.cond (t 14) .skip (.exit 0))) (.seq (.block 1 (.seq (.drawn 0 [i 17 (.mov (t 0)),i 18 (.mov (t 5)),i 19 (.idxAddrS 8 (t 17) (t 18)),i 20 (.loadN 8 (t 19)),i 21 (.mov (t 1)),i 22 (.mov (t 5)),i 23 (.idxAddrS 8 (t 21) (t 22)),i 24 (.loadN 8 (t 23)),i 25 (.eqv true (.agg [(.int .i64),(.int .i64),(.int .i64),(.int .i64),(.int .i64),(.int .i64),(.int .i64),(.int .u8)]) (t 20) (t 24))]) (.cond (t 25) (.seq (.ops [i 4 (.mov (k (.bool false)))]) .ret) .skip))) (.ops [i 15 (.mov (t 5)),i 16 (.bin .add (t 15) (k (.int .i64 1))),i 5 (.mov (t 16))])))
def c67:ACode:=(.seq (.ops [i 4 (.mov (k (.bool false)))]) (.seq (.seq (.ops [i 6 (.mov (t 0)),i 7 (.lenSlice (t 6)),i 8 (.mov (t 1)),i 9 (.lenSlice (t 8)),i 10 (.bin .neq (t 7) (t 9))]) (.cond (t 10) (.seq (.ops [i 4 (.mov (k (.bool false)))]) .ret) .skip)) (.seq (.seq (.ops [i 5 (.mov (k (.int .i64 0)))]) (.block 0 (.loop l67_1))) (.seq (.ops [i 4 (.mov (k (.bool true)))]) .ret))))
def a67:AFunc:=⟨26,[(.tmp 4)],c67⟩
theorem n67:a67.ntmps=26:=id rfl
theorem r67:a67.results=[(.tmp 4)]:=rfl
theorem b67:a67.body=c67:=rfl
def l68_1:ACode:=(.seq (.ops [i 14 (.bin .lss (t 13) (t 12))]) (.seq (.cond (t 14) .skip (.exit 0)) (.seq (.block 1 (.seq (.ops [i 15 (.mov (t 13)),i 16 (.idxAddrS 1 (t 11) (t 13)),i 17 (.load1 (t 16)),i 4 (.mov (t 15)),i 5 (.mov (t 17))]) (.ops [i 18 (.mov (t 3)),i 19 (.mov (t 5)),i 20 (.mov (t 4)),⟨none,none,(.mapUpdate (.int .i64) (t 18) (t 19) (t 20)),none,[]⟩]))) (.ops [i 21 (.bin .add (t 13) (k (.int .i64 1))),i 13 (.mov (t 21))]))))
def c68:ACode:=(.seq (.ops [i 1 (.box (t 0)),i 2 (.mov (k (.map none)))]) (.seq (.ops [i 6 (.fieldAddr 0 (t 1)),i 7 (.load1 (t 6)),i 8 (.lenSlice (t 7)),i 9 (.makeMap (some (t 8))),i 3 (.mov (t 9))]) (.seq (.seq (.ops [i 10 (.fieldAddr 0 (t 1)),i 11 (.load1 (t 10)),i 12 (.lenSlice (t 11)),i 13 (.mov (k (.int .i64 0)))]) (.block 0 (.loop l68_1))) (.seq (.ops [i 22 (.mov (t 3)),i 2 (.mov (t 22))]) .ret))))
def a68:AFunc:=⟨23,[(.tmp 2)],c68⟩
theorem n68:a68.ntmps=23:=id rfl
theorem r68:a68.results=[(.tmp 2)]:=rfl
theorem b68:a68.body=c68:=rfl
def c69:ACode:=(.seq (.ops [i 5 (.box (t 0)),i 6 (.box (t 1))]) (.seq (.drawn 0 [i 12 (.load1 (t 3)),i 13 (.fieldAddr 1 (t 5)),i 14 (.load1 (t 13)),i 15 (.lookup (.int .i64) (.int .i64 0) false (t 12) (t 14)),i 16 (.idxAddrA 50 1 (t 6) (t 15)),i 17 (.load1 (t 16)),i 18 (.load1 (t 3)),i 19 (.fieldAddr 2 (t 5)),i 20 (.load1 (t 19)),i 21 (.lookup (.int .i64) (.int .i64 0) false (t 18) (t 20)),i 8 (.mov (t 17)),i 9 (.mov (t 21))]) (.seq (.seq (.ops [i 22 (.mov (t 8)),i 23 (.bin .lss (t 22) (k (.int .i64 0)))]) (.cond (t 23) .ret .skip)) (.seq (.ops [i 25 (.loadN 8 (t 5)),i 26 (.mov (t 8)),i 27 (.call .any (.func 70) [(t 25),(t 26)]),i 24 (.mov (t 27)),i 28 (.extract 0 (t 24)),i 29 (.extract 1 (t 24)),i 10 (.alloc [(.int .i64 0),(.int .i64 0)]),⟨none,none,(.store 2 (t 10) (t 28)),none,[]⟩,i 11 (.mov (t 29))]) (.seq (.drawn 0 [i 30 (.mov (t 11)),i 31 (.mov (t 30)),⟨(some 32),(some (31,true)),(.fieldAddr 1 (t 10)),none,[]⟩,⟨(some 33),(some (31,true)),(.load1 (t 32)),none,[]⟩,⟨(some 34),(some (31,true)),(.load1 (t 4)),none,[]⟩,⟨(some 35),(some (31,true)),(.bin .add (t 34) (k (.int .i64 86400))),none,[]⟩,⟨(some 36),(some (31,true)),(.bin .leq (t 33) (t 35)),none,[]⟩,i 37 (.pick (t 31) (t 36) (k (.bool false))),i 38 (.mov (t 37)),⟨(some 39),(some (38,true)),(.mov (t 2)),none,[]⟩,⟨(some 40),(some (38,true)),(.mov (t 9)),none,[]⟩,⟨(some 41),(some (38,true)),(.nilCheck (t 39)),none,[]⟩,⟨(some 42),(some (38,true)),(.idxAddrA 50 1 (t 41) (t 40)),none,[]⟩,⟨(some 43),(some (38,true)),(.load1 (t 42)),none,[]⟩,⟨(some 44),(some (38,true)),(.bin .lss (t 43) (k (.int .i64 0))),none,[]⟩,⟨(some 45),(some (38,true)),(.mov (t 44)),none,[]⟩,⟨(some 46),(some (45,false)),(.fieldAddr 1 (t 10)),none,[]⟩,⟨(some 47),(some (45,false)),(.load1 (t 46)),none,[]⟩,⟨(some 48),(some (45,false)),(.mov (t 2)),none,[]⟩,⟨(some 49),(some (45,false)),(.mov (t 9)),none,[]⟩,⟨(some 50),(some (45,false)),(.nilCheck (t 48)),none,[]⟩,⟨(some 51),(some (45,false)),(.idxAddrA 50 1 (t 50) (t 49)),none,[]⟩,⟨(some 52),(some (45,false)),(.load1 (t 51)),none,[]⟩,⟨(some 53),(some (45,false)),(.bin .lss (t 47) (t 52)),none,[]⟩,⟨(some 54),(some (38,true)),(.pick (t 45) (k (.bool true)) (t 53)),none,[]⟩,i 55 (.pick (t 38) (t 54) (k (.bool false)))]) (.cond (t 55) (.drawn 0 [i 56 (.mov (t 2)),i 57 (.mov (t 9)),i 58 (.fieldAddr 1 (t 10)),i 59 (.load1 (t 58)),i 60 (.nilCheck (t 56)),i 61 (.idxAddrA 50 1 (t 60) (t 57)),⟨none,none,(.store 1 (t 61) (t 59)),none,[]⟩]) .skip))))))
def a69:AFunc:=⟨62,[],c69⟩
theorem n69:a69.ntmps=62:=id rfl
theorem r69:a69.results=[]:=rfl
theorem b69:a69.body=c69:=rfl
def ga70_1:ACode:=(.ops [i 7 (.alloc [(.int .i64 0),(.int .i64 0)]),⟨none,none,(.store 2 (t 7) (t 26)),none,[]⟩])
def gb70_1:ACode:=(.block 1 (.seq (.ops [i 27 (.fieldAddr 0 (t 7)),i 28 (.load1 (t 27)),i 29 (.fieldAddr 5 (t 2)),i 30 (.load1 (t 29)),i 31 (.bin .sub (t 28) (t 30)),i 32 (.load1 (t 3)),i 33 (.bin .geq (t 31) (t 32))]) (.cond (t 33) (.seq (.ops [i 34 (.loadN 2 (t 7)),⟨none,none,(.store 2 (t 4) (t 34)),none,[]⟩,⟨none,none,(.store 1 (t 5) (k (.bool true))),none,[]⟩]) .retR) .skip)))
def c70:ACode:=(.seq (.seq (.ops [i 2 (.box (t 0)),i 3 (.box (t 1)),i 4 (.alloc [(.int .i64 0),(.int .i64 0)]),i 5 (.alloc [(.bool false)])]) (.seq (.seq (.ops [i 8 (.loadN 8 (t 2)),i 9 (.call .any (.func 89) [(t 8)]),i 10 (.un .not (t 9)),i 11 (.mov (t 10)),⟨(some 12),(some (11,false)),(.load1 (t 3)),none,[]⟩,⟨(some 13),(some (11,false)),(.bin .gtr (t 12) (k (.int .i64 1051898399))),none,[]⟩,i 14 (.pick (t 11) (k (.bool true)) (t 13))]) (.cond (t 14) (.seq (.ops [i 15 (.build [(.int .i64 0),(.int .i64 0)] []),⟨none,none,(.store 2 (t 4) (t 15)),none,[]⟩,⟨none,none,(.store 1 (t 5) (k (.bool false))),none,[]⟩]) .retM) .skip)) (.seq (.ops [i 16 (.load1 (t 3)),i 17 (.minmax true [(t 16),(k (.int .i64 0))]),⟨none,none,(.store 1 (t 3) (t 17)),none,[]⟩]) (.seq (.ops [i 18 (.load1 (t 3)),i 19 (.fieldAddr 5 (t 2)),i 20 (.load1 (t 19)),i 21 (.bin .add (t 18) (t 20)),i 22 (.bin .quo (t 21) (k (.int .i64 1440))),i 6 (.mov (t 22))]) (.seq (.seq (.ops [i 23 (.loadN 8 (t 2)),i 24 (.mov (t 6)),i 25 (.call .any (.func 91) [(t 23),(t 24),(k (.int .i64 1))])]) (.block 0 (.rangeF (t 25) [26] ga70_1 gb70_1))) (.seq (.ops [i 35 (.build [(.int .i64 0),(.int .i64 0)] []),⟨none,none,(.store 2 (t 4) (t 35)),none,[]⟩,⟨none,none,(.store 1 (t 5) (k (.bool false))),none,[]⟩]) .retM)))))) .retM)
def a70:AFunc:=⟨36,[(.cellN 2 4),(.cell1 5)],c70⟩
theorem n70:a70.ntmps=36:=id rfl
theorem r70:a70.results=[(.cellN 2 4),(.cell1 5)]:=rfl
theorem b70:a70.body=c70:=rfl
def l71_1:ACode:=(.seq (.ops [i 24 (.bin .lss (t 23) (t 22))]) (.seq (.cond (t 24) .skip (.exit 2)) (.seq (.block 3 (.seq (.ops [i 25 (.idxAddrS 8 (t 21) (t 23)),i 26 (.loadN 8 (t 25)),i 11 (.alloc [(.int .i64 0),(.int .i64 0),(.int .i64 0),(.int .i64 0),(.int .i64 0),(.int .i64 0),(.int .i64 0),(.int .u8 0)]),⟨none,none,(.store 8 (t 11) (t 26)),none,[]⟩]) (.ops [i 27 (.mov (t 2)),i 28 (.loadN 8 (t 11)),i 29 (.loadN 50 (t 8)),i 30 (.call .any (t 27) [(t 28),(t 29),(t 9)])]))) (.ops [i 31 (.bin .add (t 23) (k (.int .i64 1))),i 23 (.mov (t 31))]))))
def l71_2:ACode:=(.block 1 (.seq (.ops [i 14 (.mov (t 7)),i 15 (.mov (t 7)),i 16 (.lenSlice (t 15)),i 17 (.bin .sub (t 16) (k (.int .i64 1))),i 18 (.idxAddrS 50 (t 14) (t 17)),i 19 (.loadN 50 (t 18)),i 8 (.alloc [(.int .i64 0),(.int .i64 0),(.int .i64 0),(.int .i64 0),(.int .i64 0),(.int .i64 0),(.int .i64 0),(.int .i64 0),(.int .i64 0),(.int .i64 0),(.int .i64 0),(.int .i64 0),(.int .i64 0),(.int .i64 0),(.int .i64 0),(.int .i64 0),(.int .i64 0),(.int .i64 0),(.int .i64 0),(.int .i64 0),(.int .i64 0),(.int .i64 0),(.int .i64 0),(.int .i64 0),(.int .i64 0),(.int .i64 0),(.int .i64 0),(.int .i64 0),(.int .i64 0),(.int .i64 0),(.int .i64 0),(.int .i64 0),(.int .i64 0),(.int .i64 0),(.int .i64 0),(.int .i64 0),(.int .i64 0),(.int .i64 0),(.int .i64 0),(.int .i64 0),(.int .i64 0),(.int .i64 0),(.int .i64 0),(.int .i64 0),(.int .i64 0),(.int .i64 0),(.int .i64 0),(.int .i64 0),(.int .i64 0),(.int .i64 0)]),⟨none,none,(.store 50 (t 8) (t 19)),none,[]⟩]) (.seq (.ops [i 20 (.loadN 50 (t 8)),i 9 (.alloc [(.int .i64 0),(.int .i64 0),(.int .i64 0),(.int .i64 0),(.int .i64 0),(.int .i64 0),(.int .i64 0),(.int .i64 0),(.int .i64 0),(.int .i64 0),(.int .i64 0),(.int .i64 0),(.int .i64 0),(.int .i64 0),(.int .i64 0),(.int .i64 0),(.int .i64 0),(.int .i64 0),(.int .i64 0),(.int .i64 0),(.int .i64 0),(.int .i64 0),(.int .i64 0),(.int .i64 0),(.int .i64 0),(.int .i64 0),(.int .i64 0),(.int .i64 0),(.int .i64 0),(.int .i64 0),(.int .i64 0),(.int .i64 0),(.int .i64 0),(.int .i64 0),(.int .i64 0),(.int .i64 0),(.int .i64 0),(.int .i64 0),(.int .i64 0),(.int .i64 0),(.int .i64 0),(.int .i64 0),(.int .i64 0),(.int .i64 0),(.int .i64 0),(.int .i64 0),(.int .i64 0),(.int .i64 0),(.int .i64 0),(.int .i64 0)]),⟨none,none,(.store 50 (t 9) (t 20)),none,[]⟩]) (.seq (.seq (.ops [i 21 (.mov (t 1)),i 22 (.lenSlice (t 21)),i 23 (.mov (k (.int .i64 0)))]) (.block 2 (.loop l71_1))) (.seq (.seq (.ops [i 32 (.loadN 50 (t 9)),i 33 (.loadN 50 (t 8)),i 34 (.eqv false (.agg [(.int .i64),(.int .i64),(.int .i64),(.int .i64),(.int .i64),(.int .i64),(.int .i64),(.int .i64),(.int .i64),(.int .i64),(.int .i64),(.int .i64),(.int .i64),(.int .i64),(.int .i64),(.int .i64),(.int .i64),(.int .i64),(.int .i64),(.int .i64),(.int .i64),(.int .i64),(.int .i64),(.int .i64),(.int .i64),(.int .i64),(.int .i64),(.int .i64),(.int .i64),(.int .i64),(.int .i64),(.int .i64),(.int .i64),(.int .i64),(.int .i64),(.int .i64),(.int .i64),(.int .i64),(.int .i64),(.int .i64),(.int .i64),(.int .i64),(.int .i64),(.int .i64),(.int .i64),(.int .i64),(.int .i64),(.int .i64),(.int .i64),(.int .i64)]) (t 32) (t 33))]) (.cond (t 34) (.seq (.ops [i 35 (.mov (t 7)),i 6 (.mov (t 35))]) .ret) .skip)) (.ops [i 36 (.mov (t 7)),i 37 (.loadN 50 (t 9)),i 38 (.buildSlice 1 [(.int .i64 0),(.int .i64 0),(.int .i64 0),(.int .i64 0),(.int .i64 0),(.int .i64 0),(.int .i64 0),(.int .i64 0),(.int .i64 0),(.int .i64 0),(.int .i64 0),(.int .i64 0),(.int .i64 0),(.int .i64 0),(.int .i64 0),(.int .i64 0),(.int .i64 0),(.int .i64 0),(.int .i64 0),(.int .i64 0),(.int .i64 0),(.int .i64 0),(.int .i64 0),(.int .i64 0),(.int .i64 0),(.int .i64 0),(.int .i64 0),(.int .i64 0),(.int .i64 0),(.int .i64 0),(.int .i64 0),(.int .i64 0),(.int .i64 0),(.int .i64 0),(.int .i64 0),(.int .i64 0),(.int .i64 0),(.int .i64 0),(.int .i64 0),(.int .i64 0),(.int .i64 0),(.int .i64 0),(.int .i64 0),(.int .i64 0),(.int .i64 0),(.int .i64 0),(.int .i64 0),(.int .i64 0),(.int .i64 0),(.int .i64 0)] [(0,(50,(t 37)))]),i 39 (.append 50 400 false (t 36) (t 38)),i 7 (.mov (t 39))]))))))
def c71:ACode:=(.seq (.ops [i 3 (.box (t 0)),i 6 (.mov (k (.slice none 0 0)))]) (.seq (.ops [i 12 (.loadN 50 (t 3)),i 13 (.buildSlice 1 [(.int .i64 0),(.int .i64 0),(.int .i64 0),(.int .i64 0),(.int .i64 0),(.int .i64 0),(.int .i64 0),(.int .i64 0),(.int .i64 0),(.int .i64 0),(.int .i64 0),(.int .i64 0),(.int .i64 0),(.int .i64 0),(.int .i64 0),(.int .i64 0),(.int .i64 0),(.int .i64 0),(.int .i64 0),(.int .i64 0),(.int .i64 0),(.int .i64 0),(.int .i64 0),(.int .i64 0),(.int .i64 0),(.int .i64 0),(.int .i64 0),(.int .i64 0),(.int .i64 0),(.int .i64 0),(.int .i64 0),(.int .i64 0),(.int .i64 0),(.int .i64 0),(.int .i64 0),(.int .i64 0),(.int .i64 0),(.int .i64 0),(.int .i64 0),(.int .i64 0),(.int .i64 0),(.int .i64 0),(.int .i64 0),(.int .i64 0),(.int .i64 0),(.int .i64 0),(.int .i64 0),(.int .i64 0),(.int .i64 0),(.int .i64 0)] [(0,(50,(t 12)))]),i 7 (.mov (t 13))]) (.block 0 (.loop l71_2))))
def a71:AFunc:=⟨40,[(.tmp 6)],c71⟩
theorem n71:a71.ntmps=40:=id rfl
theorem r71:a71.results=[(.tmp 6)]:=rfl
theorem b71:a71.body=c71:=rfl
def l72_1:ACode:=(.seq (.ops [i 8 (.bin .lss (t 7) (k (.int .i64 50)))]) (.seq (.cond (t 8) .skip (.exit 0)) (.seq (.block 1 (.seq (.ops [i 9 (.mov (t 7)),i 6 (.mov (t 9))]) (.ops [i 10 (.mov (t 6)),i 11 (.idxAddrA 50 1 (t 5) (t 10)),⟨none,none,(.store 1 (t 11) (k (.int .i64 (-1)))),none,[]⟩]))) (.ops [i 12 (.bin .add (t 7) (k (.int .i64 1))),i 7 (.mov (t 12))]))))
def c72:ACode:=(.seq (.ops [i 4 (.alloc [(.int .i64 0),(.int .i64 0),(.int .i64 0),(.int .i64 0),(.int .i64 0),(.int .i64 0),(.int .i64 0),(.int .i64 0),(.int .i64 0),(.int .i64 0),(.int .i64 0),(.int .i64 0),(.int .i64 0),(.int .i64 0),(.int .i64 0),(.int .i64 0),(.int .i64 0),(.int .i64 0),(.int .i64 0),(.int .i64 0),(.int .i64 0),(.int .i64 0),(.int .i64 0),(.int .i64 0),(.int .i64 0),(.int .i64 0),(.int .i64 0),(.int .i64 0),(.int .i64 0),(.int .i64 0),(.int .i64 0),(.int .i64 0),(.int .i64 0),(.int .i64 0),(.int .i64 0),(.int .i64 0),(.int .i64 0),(.int .i64 0),(.int .i64 0),(.int .i64 0),(.int .i64 0),(.int .i64 0),(.int .i64 0),(.int .i64 0),(.int .i64 0),(.int .i64 0),(.int .i64 0),(.int .i64 0),(.int .i64 0),(.int .i64 0)])]) (.seq (.ops [i 5 (.alloc [(.int .i64 0),(.int .i64 0),(.int .i64 0),(.int .i64 0),(.int .i64 0),(.int .i64 0),(.int .i64 0),(.int .i64 0),(.int .i64 0),(.int .i64 0),(.int .i64 0),(.int .i64 0),(.int .i64 0),(.int .i64 0),(.int .i64 0),(.int .i64 0),(.int .i64 0),(.int .i64 0),(.int .i64 0),(.int .i64 0),(.int .i64 0),(.int .i64 0),(.int .i64 0),(.int .i64 0),(.int .i64 0),(.int .i64 0),(.int .i64 0),(.int .i64 0),(.int .i64 0),(.int .i64 0),(.int .i64 0),(.int .i64 0),(.int .i64 0),(.int .i64 0),(.int .i64 0),(.int .i64 0),(.int .i64 0),(.int .i64 0),(.int .i64 0),(.int .i64 0),(.int .i64 0),(.int .i64 0),(.int .i64 0),(.int .i64 0),(.int .i64 0),(.int .i64 0),(.int .i64 0),(.int .i64 0),(.int .i64 0),(.int .i64 0)])]) (.seq (.seq (.ops [i 7 (.mov (k (.int .i64 0)))]) (.block 0 (.loop l72_1))) (.seq (.ops [i 13 (.mov (t 0)),i 14 (.mov (t 1)),i 15 (.idxAddrA 50 1 (t 5) (t 13)),⟨none,none,(.store 1 (t 15) (t 14)),none,[]⟩]) (.seq (.ops [i 16 (.loadN 50 (t 5)),⟨none,none,(.store 50 (t 4) (t 16)),none,[]⟩]) .ret)))))
def a72:AFunc:=⟨17,[(.cellN 50 4)],c72⟩
theorem n72:a72.ntmps=17:=id rfl
theorem r72:a72.results=[(.cellN 50 4)]:=rfl
theorem b72:a72.body=c72:=rfl
def c73:ACode:=(.seq (.ops [i 5 (.box (t 0)),i 6 (.box (t 1))]) (.seq (.drawn 0 [i 13 (.load1 (t 3)),i 14 (.fieldAddr 1 (t 5)),i 15 (.load1 (t 14)),i 16 (.lookup (.int .i64) (.int .i64 0) false (t 13) (t 15)),i 17 (.load1 (t 3)),i 18 (.fieldAddr 2 (t 5)),i 19 (.load1 (t 18)),i 20 (.lookup (.int .i64) (.int .i64 0) false (t 17) (t 19)),i 21 (.idxAddrA 50 1 (t 6) (t 20)),i 22 (.load1 (t 21)),i 8 (.mov (t 16)),i 9 (.mov (t 22))]) (.seq (.seq (.ops [i 23 (.mov (t 9)),i 24 (.bin .lss (t 23) (k (.int .i64 0)))]) (.cond (t 24) .ret .skip)) (.seq (.ops [i 26 (.loadN 8 (t 5)),i 27 (.mov (t 9)),i 28 (.call .any (.func 74) [(t 26),(t 27)]),i 25 (.mov (t 28)),i 29 (.extract 0 (t 25)),i 30 (.extract 1 (t 25)),i 10 (.alloc [(.int .i64 0),(.int .i64 0)]),⟨none,none,(.store 2 (t 10) (t 29)),none,[]⟩,i 11 (.mov (t 30))]) (.seq (.ops [i 31 (.fieldAddr 0 (t 10)),i 32 (.load1 (t 31)),i 33 (.fieldAddr 5 (t 5)),i 34 (.load1 (t 33)),i 35 (.bin .sub (t 32) (t 34)),i 12 (.mov (t 35))]) (.seq (.ops [i 36 (.mov (t 11)),i 37 (.mov (t 36)),⟨(some 38),(some (37,true)),(.mov (t 12)),none,[]⟩,⟨(some 39),(some (37,true)),(.load1 (t 4)),none,[]⟩,⟨(some 40),(some (37,true)),(.bin .sub (t 39) (k (.int .i64 86400))),none,[]⟩,⟨(some 41),(some (37,true)),(.bin .geq (t 38) (t 40)),none,[]⟩,i 42 (.pick (t 37) (t 41) (k (.bool false))),i 43 (.mov (t 42)),⟨(some 44),(some (43,true)),(.mov (t 12)),none,[]⟩,⟨(some 45),(some (43,true)),(.mov (t 2)),none,[]⟩,⟨(some 46),(some (43,true)),(.mov (t 8)),none,[]⟩,⟨(some 47),(some (43,true)),(.nilCheck (t 45)),none,[]⟩,⟨(some 48),(some (43,true)),(.idxAddrA 50 1 (t 47) (t 46)),none,[]⟩,⟨(some 49),(some (43,true)),(.load1 (t 48)),none,[]⟩,⟨(some 50),(some (43,true)),(.bin .gtr (t 44) (t 49)),none,[]⟩,i 51 (.pick (t 43) (t 50) (k (.bool false)))]) (.cond (t 51) (.ops [i 52 (.mov (t 2)),i 53 (.mov (t 8)),i 54 (.mov (t 12)),i 55 (.nilCheck (t 52)),i 56 (.idxAddrA 50 1 (t 55) (t 53)),⟨none,none,(.store 1 (t 56) (t 54)),none,[]⟩]) .skip)))))))
def a73:AFunc:=⟨57,[],c73⟩
def ga74_1:ACode:=(.ops [i 7 (.alloc [(.int .i64 0),(.int .i64 0)]),⟨none,none,(.store 2 (t 7) (t 31)),none,[]⟩])
def gb74_1:ACode:=(.block 1 (.seq (.ops [i 32 (.fieldAddr 1 (t 7)),i 33 (.load1 (t 32)),i 34 (.load1 (t 3)),i 35 (.bin .leq (t 33) (t 34))]) (.cond (t 35) (.seq (.ops [i 36 (.loadN 2 (t 7)),⟨none,none,(.store 2 (t 4) (t 36)),none,[]⟩,⟨none,none,(.store 1 (t 5) (k (.bool true))),none,[]⟩]) .retR) .skip)))
def c74:ACode:=(.seq (.seq (.ops [i 2 (.box (t 0)),i 3 (.box (t 1)),i 4 (.alloc [(.int .i64 0),(.int .i64 0)]),i 5 (.alloc [(.bool false)])]) (.seq (.seq (.ops [i 8 (.loadN 8 (t 2)),i 9 (.call .any (.func 89) [(t 8)]),i 10 (.un .not (t 9)),i 11 (.mov (t 10)),⟨(some 12),(some (11,false)),(.load1 (t 3)),none,[]⟩,⟨(some 13),(some (11,false)),(.fieldAddr 3 (t 2)),none,[]⟩,⟨(some 14),(some (11,false)),(.load1 (t 13)),none,[]⟩,⟨(some 15),(some (11,false)),(.fieldAddr 4 (t 2)),none,[]⟩,⟨(some 16),(some (11,false)),(.load1 (t 15)),none,[]⟩,⟨(some 17),(some (11,false)),(.bin .add (t 14) (t 16)),none,[]⟩,⟨(some 18),(some (11,false)),(.bin .lss (t 12) (t 17)),none,[]⟩,i 19 (.pick (t 11) (k (.bool true)) (t 18))]) (.cond (t 19) (.seq (.ops [i 20 (.build [(.int .i64 0),(.int .i64 0)] []),⟨none,none,(.store 2 (t 4) (t 20)),none,[]⟩,⟨none,none,(.store 1 (t 5) (k (.bool false))),none,[]⟩]) .retM) .skip)) (.seq (.ops [i 21 (.load1 (t 3)),i 22 (.minmax false [(t 21),(k (.int .i64 1051898399))]),⟨none,none,(.store 1 (t 3) (t 22)),none,[]⟩]) (.seq (.ops [i 23 (.load1 (t 3)),i 24 (.fieldAddr 4 (t 2)),i 25 (.load1 (t 24)),i 26 (.bin .sub (t 23) (t 25)),i 27 (.bin .quo (t 26) (k (.int .i64 1440))),i 6 (.mov (t 27))]) (.seq (.seq (.ops [i 28 (.loadN 8 (t 2)),i 29 (.mov (t 6)),i 30 (.call .any (.func 91) [(t 28),(t 29),(k (.int .i64 (-1)))])]) (.block 0 (.rangeF (t 30) [31] ga74_1 gb74_1))) (.seq (.ops [i 37 (.build [(.int .i64 0),(.int .i64 0)] []),⟨none,none,(.store 2 (t 4) (t 37)),none,[]⟩,⟨none,none,(.store 1 (t 5) (k (.bool false))),none,[]⟩]) .retM)))))) .retM)
def a74:AFunc:=⟨38,[(.cellN 2 4),(.cell1 5)],c74⟩
def l76_1:ACode:=(.seq (.ops [i 9 (.bin .lss (t 8) (t 7))]) (.seq (.cond (t 9) .skip (.exit 0)) (.seq (.block 1 (.seq (.ops [i 10 (.mov (t 8)),i 5 (.mov (t 10))]) (.seq (.ops [i 11 (.mov (t 1)),i 12 (.mov (t 0)),i 13 (.mov (t 5)),i 14 (.idxAddrS 50 (t 12) (t 13)),i 15 (.loadN 50 (t 14)),i 16 (.call .any (t 11) [(t 15)])]) (.cond (t 16) (.seq (.ops [i 17 (.mov (t 5)),i 4 (.mov (t 17))]) .ret) .skip)))) (.ops [i 18 (.bin .add (t 8) (k (.int .i64 1))),i 8 (.mov (t 18))]))))
def c76:ACode:=(.seq (.ops [i 4 (.mov (k (.int .i64 0)))]) (.seq (.seq (.ops [i 6 (.mov (t 0)),i 7 (.lenSlice (t 6)),i 8 (.mov (k (.int .i64 0)))]) (.block 0 (.loop l76_1))) (.seq (.ops [i 4 (.mov (k (.int .i64 (-1))))]) .ret)))
def a76:AFunc:=⟨19,[(.tmp 4)],c76⟩
def c77:ACode:=(.seq (.ops [i 3 (.box (t 0)),i 4 (.mov (k (.bool false)))]) (.seq (.drawn 0 [i 5 (.load1 (t 1)),i 6 (.idxAddrA 50 1 (t 3) (t 5)),i 7 (.load1 (t 6)),i 8 (.load1 (t 2)),i 9 (.bin .eql (t 7) (t 8)),i 4 (.mov (t 9))]) .ret))
def a77:AFunc:=⟨10,[(.tmp 4)],c77⟩
def l78_1:ACode:=(.seq (.ops [i 33 (.bin .lss (t 32) (t 31))]) (.seq (.cond (t 33) .skip (.exit 2)) (.seq (.block 3 (.seq (.ops [i 34 (.idxAddrS 8 (t 30) (t 32)),i 35 (.loadN 8 (t 34)),i 13 (.alloc [(.int .i64 0),(.int .i64 0),(.int .i64 0),(.int .i64 0),(.int .i64 0),(.int .i64 0),(.int .i64 0),(.int .u8 0)]),⟨none,none,(.store 8 (t 13) (t 35)),none,[]⟩]) (.seq (.ops [i 36 (.mov (t 1)),i 37 (.fieldAddr 2 (t 13)),i 38 (.load1 (t 37)),i 39 (.lookup (.int .i64) (.int .i64 0) false (t 36) (t 38)),i 40 (.idxAddrA 50 1 (t 10) (t 39)),i 41 (.load1 (t 40)),i 14 (.mov (t 41))]) (.seq (.seq (.ops [i 42 (.mov (t 14)),i 43 (.bin .lss (t 42) (k (.int .i64 0)))]) (.cond (t 43) (.exit 3) .skip)) (.seq (.ops [i 45 (.loadN 8 (t 13)),i 46 (.mov (t 14)),i 47 (.call .any (.func 74) [(t 45),(t 46)]),i 44 (.mov (t 47)),i 48 (.extract 0 (t 44)),i 49 (.extract 1 (t 44)),i 15 (.alloc [(.int .i64 0),(.int .i64 0)]),⟨none,none,(.store 2 (t 15) (t 48)),none,[]⟩,i 16 (.mov (t 49))]) (.seq (.ops [i 50 (.mov (t 16))]) (.cond (t 50) (.drawn 0 [i 51 (.mov (t 1)),i 52 (.fieldAddr 1 (t 13)),i 53 (.load1 (t 52)),i 54 (.lookup (.int .i64) (.int .i64 0) false (t 51) (t 53)),i 55 (.mov (t 1)),i 56 (.fieldAddr 1 (t 13)),i 57 (.load1 (t 56)),i 58 (.lookup (.int .i64) (.int .i64 0) false (t 55) (t 57)),i 59 (.idxAddrA 50 1 (t 11) (t 58)),i 60 (.load1 (t 59)),i 61 (.fieldAddr 0 (t 15)),i 62 (.load1 (t 61)),i 63 (.fieldAddr 5 (t 13)),i 64 (.load1 (t 63)),i 65 (.bin .sub (t 62) (t 64)),i 66 (.minmax true [(t 60),(t 65)]),i 67 (.idxAddrA 50 1 (t 11) (t 54)),⟨none,none,(.store 1 (t 67) (t 66)),none,[]⟩]) .skip))))))) (.ops [i 68 (.bin .add (t 32) (k (.int .i64 1))),i 32 (.mov (t 68))]))))
def l78_2:ACode:=(.seq (.ops [i 21 (.bin .lss (t 20) (t 19))]) (.seq (.cond (t 21) .skip (.exit 0)) (.seq (.block 1 (.seq (.drawn 2 [i 22 (.mov (t 9)),i 23 (.mov (t 9)),i 24 (.lenSlice (t 23)),i 25 (.bin .sub (t 24) (k (.int .i64 1))),i 26 (.idxAddrS 50 (t 22) (t 25)),⟨(some 27),none,(.loadN 50 (t 26)),none,[0,1]⟩,⟨(some 28),none,(.call .pure (.func 72) [(k (.int .i64 0)),(k (.int .i64 (-1)))]),none,[0,1]⟩,⟨(some 10),none,(.alloc [(.int .i64 0),(.int .i64 0),(.int .i64 0),(.int .i64 0),(.int .i64 0),(.int .i64 0),(.int .i64 0),(.int .i64 0),(.int .i64 0),(.int .i64 0),(.int .i64 0),(.int .i64 0),(.int .i64 0),(.int .i64 0),(.int .i64 0),(.int .i64 0),(.int .i64 0),(.int .i64 0),(.int .i64 0),(.int .i64 0),(.int .i64 0),(.int .i64 0),(.int .i64 0),(.int .i64 0),(.int .i64 0),(.int .i64 0),(.int .i64 0),(.int .i64 0),(.int .i64 0),(.int .i64 0),(.int .i64 0),(.int .i64 0),(.int .i64 0),(.int .i64 0),(.int .i64 0),(.int .i64 0),(.int .i64 0),(.int .i64 0),(.int .i64 0),(.int .i64 0),(.int .i64 0),(.int .i64 0),(.int .i64 0),(.int .i64 0),(.int .i64 0),(.int .i64 0),(.int .i64 0),(.int .i64 0),(.int .i64 0),(.int .i64 0)]),(some 0),[]⟩,⟨(some 11),none,(.alloc [(.int .i64 0),(.int .i64 0),(.int .i64 0),(.int .i64 0),(.int .i64 0),(.int .i64 0),(.int .i64 0),(.int .i64 0),(.int .i64 0),(.int .i64 0),(.int .i64 0),(.int .i64 0),(.int .i64 0),(.int .i64 0),(.int .i64 0),(.int .i64 0),(.int .i64 0),(.int .i64 0),(.int .i64 0),(.int .i64 0),(.int .i64 0),(.int .i64 0),(.int .i64 0),(.int .i64 0),(.int .i64 0),(.int .i64 0),(.int .i64 0),(.int .i64 0),(.int .i64 0),(.int .i64 0),(.int .i64 0),(.int .i64 0),(.int .i64 0),(.int .i64 0),(.int .i64 0),(.int .i64 0),(.int .i64 0),(.int .i64 0),(.int .i64 0),(.int .i64 0),(.int .i64 0),(.int .i64 0),(.int .i64 0),(.int .i64 0),(.int .i64 0),(.int .i64 0),(.int .i64 0),(.int .i64 0),(.int .i64 0),(.int .i64 0)]),(some 1),[]⟩,⟨none,none,(.store 50 (t 10) (t 27)),none,[]⟩,⟨none,none,(.store 50 (t 11) (t 28)),none,[]⟩]) (.seq (.seq (.ops [i 29 (.fieldAddr 1 (t 4)),i 30 (.load1 (t 29)),i 31 (.lenSlice (t 30)),i 32 (.mov (k (.int .i64 0)))]) (.block 2 (.loop l78_1))) (.ops [i 69 (.mov (t 9)),i 70 (.loadN 50 (t 11)),i 71 (.buildSlice 1 [(.int .i64 0),(.int .i64 0),(.int .i64 0),(.int .i64 0),(.int .i64 0),(.int .i64 0),(.int .i64 0),(.int .i64 0),(.int .i64 0),(.int .i64 0),(.int .i64 0),(.int .i64 0),(.int .i64 0),(.int .i64 0),(.int .i64 0),(.int .i64 0),(.int .i64 0),(.int .i64 0),(.int .i64 0),(.int .i64 0),(.int .i64 0),(.int .i64 0),(.int .i64 0),(.int .i64 0),(.int .i64 0),(.int .i64 0),(.int .i64 0),(.int .i64 0),(.int .i64 0),(.int .i64 0),(.int .i64 0),(.int .i64 0),(.int .i64 0),(.int .i64 0),(.int .i64 0),(.int .i64 0),(.int .i64 0),(.int .i64 0),(.int .i64 0),(.int .i64 0),(.int .i64 0),(.int .i64 0),(.int .i64 0),(.int .i64 0),(.int .i64 0),(.int .i64 0),(.int .i64 0),(.int .i64 0),(.int .i64 0),(.int .i64 0)] [(0,(50,(t 70)))]),i 72 (.append 50 400 false (t 69) (t 71)),i 9 (.mov (t 72))])))) (.ops [i 73 (.bin .add (t 20) (k (.int .i64 1))),i 20 (.mov (t 73))]))))
def c78:ACode:=(.seq (.ops [i 4 (.box (t 0)),i 6 (.box (t 2)),i 8 (.mov (k (.slice none 0 0)))]) (.seq (.ops [i 17 (.loadN 50 (t 6)),i 18 (.buildSlice 1 [(.int .i64 0),(.int .i64 0),(.int .i64 0),(.int .i64 0),(.int .i64 0),(.int .i64 0),(.int .i64 0),(.int .i64 0),(.int .i64 0),(.int .i64 0),(.int .i64 0),(.int .i64 0),(.int .i64 0),(.int .i64 0),(.int .i64 0),(.int .i64 0),(.int .i64 0),(.int .i64 0),(.int .i64 0),(.int .i64 0),(.int .i64 0),(.int .i64 0),(.int .i64 0),(.int .i64 0),(.int .i64 0),(.int .i64 0),(.int .i64 0),(.int .i64 0),(.int .i64 0),(.int .i64 0),(.int .i64 0),(.int .i64 0),(.int .i64 0),(.int .i64 0),(.int .i64 0),(.int .i64 0),(.int .i64 0),(.int .i64 0),(.int .i64 0),(.int .i64 0),(.int .i64 0),(.int .i64 0),(.int .i64 0),(.int .i64 0),(.int .i64 0),(.int .i64 0),(.int .i64 0),(.int .i64 0),(.int .i64 0),(.int .i64 0)] [(0,(50,(t 17)))]),i 9 (.mov (t 18))]) (.seq (.seq (.ops [i 19 (.mov (t 3)),i 20 (.mov (k (.int .i64 0)))]) (.block 0 (.loop l78_2))) (.seq (.ops [i 74 (.mov (t 9)),i 8 (.mov (t 74))]) .ret))))
def a78:AFunc:=⟨75,[(.tmp 8)],c78⟩
def l83_1:ACode:=(.seq (.seq (.ops [i 6 (.mov (t 5)),i 7 (.fieldAddr 0 (t 2)),i 8 (.load1 (t 7)),i 9 (.lenSlice (t 8)),i 10 (.bin .lss (t 6) (t 9))]) (.cond (t 10) .skip (.exit 0))) (.seq (.block 1 (.seq (.ops [i 13 (.fieldAddr 0 (t 2)),i 14 (.load1 (t 13)),i 15 (.mov (t 5)),i 16 (.idxAddrS 1 (t 14) (t 15)),i 17 (.load1 (t 16)),i 18 (.mov (t 1)),i 19 (.bin .eql (t 17) (t 18))]) (.cond (t 19) (.seq (.ops [i 20 (.mov (t 5)),i 4 (.mov (t 20))]) .ret) .skip))) (.ops [i 11 (.mov (t 5)),i 12 (.bin .add (t 11) (k (.int .i64 1))),i 5 (.mov (t 12))])))
def c83:ACode:=(.seq (.ops [i 2 (.box (t 0)),i 4 (.mov (k (.int .i64 0)))]) (.seq (.seq (.ops [i 5 (.mov (k (.int .i64 0)))]) (.block 0 (.loop l83_1))) (.seq (.ops [i 4 (.mov (k (.int .i64 (-1))))]) .ret)))
def a83:AFunc:=⟨21,[(.tmp 4)],c83⟩
theorem n83:a83.ntmps=21:=id rfl
theorem r83:a83.results=[(.tmp 4)]:=rfl
theorem b83:a83.body=c83:=rfl
def l84_1:ACode:=(.seq (.seq (.ops [i 13 (.mov (t 7)),i 14 (.mov (t 6)),i 15 (.bin .add (t 14) (k (.int .i64 30))),i 16 (.bin .lss (t 13) (t 15))]) (.cond (t 16) .skip (.exit 0))) (.seq (.block 1 (.seq (.ops [i 20 (.loadN 8 (t 2)),i 21 (.mov (t 7)),i 22 (.call .any (.func 92) [(t 20),(t 21)]),i 19 (.mov (t 22)),i 23 (.extract 0 (t 19)),i 24 (.extract 1 (t 19)),i 8 (.alloc [(.int .i64 0),(.int .i64 0)]),⟨none,none,(.store 2 (t 8) (t 23)),none,[]⟩,i 9 (.mov (t 24))]) (.seq (.ops [i 25 (.mov (t 9)),i 26 (.mov (t 25)),⟨(some 27),(some (26,true)),(.mov (t 1)),none,[]⟩,⟨(some 28),(some (26,true)),(.bin .lss (t 27) (k (.int .i64 0))),none,[]⟩,⟨(some 29),(some (26,true)),(.mov (t 28)),none,[]⟩,⟨(some 30),(some (29,false)),(.fieldAddr 0 (t 8)),none,[]⟩,⟨(some 31),(some (29,false)),(.load1 (t 30)),none,[]⟩,⟨(some 32),(some (29,false)),(.fieldAddr 5 (t 2)),none,[]⟩,⟨(some 33),(some (29,false)),(.load1 (t 32)),none,[]⟩,⟨(some 34),(some (29,false)),(.bin .sub (t 31) (t 33)),none,[]⟩,⟨(some 35),(some (29,false)),(.mov (t 1)),none,[]⟩,⟨(some 36),(some (29,false)),(.bin .geq (t 34) (t 35)),none,[]⟩,⟨(some 37),(some (26,true)),(.pick (t 29) (k (.bool true)) (t 36)),none,[]⟩,i 38 (.pick (t 26) (t 37) (k (.bool false)))]) (.cond (t 38) (.seq (.ops [i 39 (.loadN 2 (t 8)),⟨none,none,(.store 2 (t 4) (t 39)),none,[]⟩,i 5 (.mov (k (.bool true)))]) .ret) .skip)))) (.ops [i 17 (.mov (t 7)),i 18 (.bin .add (t 17) (k (.int .i64 1))),i 7 (.mov (t 18))])))
def c84:ACode:=(.seq (.ops [i 2 (.box (t 0)),i 4 (.alloc [(.int .i64 0),(.int .i64 0)]),i 5 (.mov (k (.bool false)))]) (.seq (.ops [i 10 (.mov (t 1)),i 11 (.call .any (.func 97) [(t 10)]),i 6 (.mov (t 11))]) (.seq (.seq (.ops [i 12 (.mov (t 6)),i 7 (.mov (t 12))]) (.block 0 (.loop l84_1))) (.seq (.ops [i 40 (.build [(.int .i64 0),(.int .i64 0)] []),⟨none,none,(.store 2 (t 4) (t 40)),none,[]⟩,i 5 (.mov (k (.bool false)))]) .ret))))
def a84:AFunc:=⟨41,[(.cellN 2 4),(.tmp 5)],c84⟩
theorem n84:a84.ntmps=41:=id rfl
theorem r84:a84.results=[(.cellN 2 4),(.tmp 5)]:=rfl
theorem b84:a84.body=c84:=rfl
def l85_1:ACode:=(.seq (.seq (.ops [i 7 (.mov (t 6)),i 8 (.fieldAddr 1 (t 2)),i 9 (.load1 (t 8)),i 10 (.lenSlice (t 9)),i 11 (.bin .lss (t 7) (t 10))]) (.cond (t 11) .skip (.exit 0))) (.seq (.block 1 (.seq (.ops [i 14 (.fieldAddr 1 (t 2)),i 15 (.load1 (t 14)),i 16 (.mov (t 6)),i 17 (.idxAddrS 8 (t 15) (t 16)),i 18 (.fieldAddr 0 (t 17)),i 19 (.load1 (t 18)),i 20 (.mov (t 1)),i 21 (.bin .eql (t 19) (t 20))]) (.cond (t 21) (.seq (.ops [i 22 (.fieldAddr 1 (t 2)),i 23 (.load1 (t 22)),i 24 (.mov (t 6)),i 25 (.idxAddrS 8 (t 23) (t 24)),i 26 (.loadN 8 (t 25)),⟨none,none,(.store 8 (t 4) (t 26)),none,[]⟩,i 5 (.mov (k (.bool true)))]) .ret) .skip))) (.ops [i 12 (.mov (t 6)),i 13 (.bin .add (t 12) (k (.int .i64 1))),i 6 (.mov (t 13))])))
def c85:ACode:=(.seq (.ops [i 2 (.box (t 0)),i 4 (.alloc [(.int .i64 0),(.int .i64 0),(.int .i64 0),(.int .i64 0),(.int .i64 0),(.int .i64 0),(.int .i64 0),(.int .u8 0)]),i 5 (.mov (k (.bool false)))]) (.seq (.seq (.ops [i 6 (.mov (k (.int .i64 0)))]) (.block 0 (.loop l85_1))) (.seq (.ops [i 27 (.build [(.int .i64 0),(.int .i64 0),(.int .i64 0),(.int .i64 0),(.int .i64 0),(.int .i64 0),(.int .i64 0),(.int .u8 0)] []),⟨none,none,(.store 8 (t 4) (t 27)),none,[]⟩,i 5 (.mov (k (.bool false)))]) .ret)))
def a85:AFunc:=⟨28,[(.cellN 8 4),(.tmp 5)],c85⟩
def l86_1:ACode:=(.seq (.ops [i 9 (.bin .lss (t 8) (t 7))]) (.seq (.cond (t 9) .skip (.exit 0)) (.seq (.block 1 (.seq (.ops [i 10 (.mov (t 8)),i 5 (.mov (t 10))]) (.seq (.ops [i 11 (.mov (t 1)),i 12 (.mov (t 0)),i 13 (.mov (t 5)),i 14 (.idxAddrS 8 (t 12) (t 13)),i 15 (.loadN 8 (t 14)),i 16 (.call .any (t 11) [(t 15)])]) (.cond (t 16) (.seq (.ops [i 17 (.mov (t 5)),i 4 (.mov (t 17))]) .ret) .skip)))) (.ops [i 18 (.bin .add (t 8) (k (.int .i64 1))),i 8 (.mov (t 18))]))))
def c86:ACode:=(.seq (.ops [i 4 (.mov (k (.int .i64 0)))]) (.seq (.seq (.ops [i 6 (.mov (t 0)),i 7 (.lenSlice (t 6)),i 8 (.mov (k (.int .i64 0)))]) (.block 0 (.loop l86_1))) (.seq (.ops [i 4 (.mov (k (.int .i64 (-1))))]) .ret)))
def a86:AFunc:=⟨19,[(.tmp 4)],c86⟩
def c87:ACode:=(.seq (.ops [i 2 (.box (t 0)),i 3 (.mov (k (.bool false)))]) (.seq (.ops [i 4 (.fieldAddr 0 (t 2)),i 5 (.load1 (t 4)),i 6 (.load1 (t 1)),i 7 (.bin .eql (t 5) (t 6)),i 3 (.mov (t 7))]) .ret))
def a87:AFunc:=⟨8,[(.tmp 3)],c87⟩
def l89_1:ACode:=(.seq (.ops [i 34 (.bin .lss (t 33) (k (.int .i64 8)))]) (.seq (.cond (t 34) .skip (.exit 0)) (.seq (.block 1 (.seq (.ops [i 35 (.idxA 8 3 true (t 32) (t 33)),i 5 (.alloc [(.int .i64 0),(.int .i64 0),(.int .i64 0)]),⟨none,none,(.store 3 (t 5) (t 35)),none,[]⟩]) (.seq (.ops [i 36 (.fieldAddr 0 (t 5)),i 37 (.load1 (t 36)),i 38 (.fieldAddr 1 (t 5)),i 39 (.load1 (t 38)),i 40 (.bin .lss (t 37) (t 39)),i 41 (.mov (t 40)),⟨(some 42),(some (41,false)),(.fieldAddr 0 (t 5)),none,[]⟩,⟨(some 43),(some (41,false)),(.load1 (t 42)),none,[]⟩,⟨(some 44),(some (41,false)),(.fieldAddr 2 (t 5)),none,[]⟩,⟨(some 45),(some (41,false)),(.load1 (t 44)),none,[]⟩,⟨(some 46),(some (41,false)),(.bin .gtr (t 43) (t 45)),none,[]⟩,i 47 (.pick (t 41) (k (.bool true)) (t 46))]) (.cond (t 47) (.seq (.ops [i 2 (.mov (k (.bool false)))]) .ret) .skip)))) (.ops [i 48 (.bin .add (t 33) (k (.int .i64 1))),i 33 (.mov (t 48))]))))
def c89:ACode:=(.seq (.ops [i 1 (.box (t 0)),i 2 (.mov (k (.bool false)))]) (.seq (.ops [i 6 (.fieldAddr 0 (t 1)),i 7 (.load1 (t 6)),i 8 (.build [(.int .i64 0),(.int .i64 0),(.int .i64 0)] [(0,(1,(t 7))),(1,(1,(k (.int .i64 1)))),(2,(1,(k (.int .i64 999999))))]),i 9 (.fieldAddr 1 (t 1)),i 10 (.load1 (t 9)),i 11 (.build [(.int .i64 0),(.int .i64 0),(.int .i64 0)] [(0,(1,(t 10))),(1,(1,(k (.int .i64 1)))),(2,(1,(k (.int .i64 999999))))]),i 12 (.fieldAddr 2 (t 1)),i 13 (.load1 (t 12)),i 14 (.build [(.int .i64 0),(.int .i64 0),(.int .i64 0)] [(0,(1,(t 13))),(1,(1,(k (.int .i64 1)))),(2,(1,(k (.int .i64 999999))))]),i 15 (.fieldAddr 3 (t 1)),i 16 (.load1 (t 15)),i 17 (.build [(.int .i64 0),(.int .i64 0),(.int .i64 0)] [(0,(1,(t 16))),(1,(1,(k (.int .i64 0)))),(2,(1,(k (.int .i64 1439))))]),i 18 (.fieldAddr 4 (t 1)),i 19 (.load1 (t 18)),i 20 (.build [(.int .i64 0),(.int .i64 0),(.int .i64 0)] [(0,(1,(t 19))),(1,(1,(k (.int .i64 1)))),(2,(1,(k (.int .i64 20160))))]),i 21 (.fieldAddr 5 (t 1)),i 22 (.load1 (t 21)),i 23 (.build [(.int .i64 0),(.int .i64 0),(.int .i64 0)] [(0,(1,(t 22))),(1,(1,(k (.int .i64 0)))),(2,(1,(k (.int .i64 10080))))]),i 24 (.fieldAddr 6 (t 1)),i 25 (.load1 (t 24)),i 26 (.build [(.int .i64 0),(.int .i64 0),(.int .i64 0)] [(0,(1,(t 25))),(1,(1,(k (.int .i64 0)))),(2,(1,(k (.int .i64 1000000000))))]),i 27 (.fieldAddr 7 (t 1)),i 28 (.load1 (t 27)),i 29 (.conv .i64 (t 28)),i 30 (.build [(.int .i64 0),(.int .i64 0),(.int .i64 0)] [(0,(1,(t 29))),(1,(1,(k (.int .i64 1)))),(2,(1,(k (.int .i64 127))))]),i 31 (.build [(.int .i64 0),(.int .i64 0),(.int .i64 0),(.int .i64 0),(.int .i64 0),(.int .i64 0),(.int .i64 0),(.int .i64 0),(.int .i64 0),(.int .i64 0),(.int .i64 0),(.int .i64 0),(.int .i64 0),(.int .i64 0),(.int .i64 0),(.int .i64 0),(.int .i64 0),(.int .i64 0),(.int .i64 0),(.int .i64 0),(.int .i64 0),(.int .i64 0),(.int .i64 0),(.int .i64 0)] [(0,(3,(t 8))),(3,(3,(t 11))),(6,(3,(t 14))),(9,(3,(t 17))),(12,(3,(t 20))),(15,(3,(t 23))),(18,(3,(t 26))),(21,(3,(t 30)))]),i 3 (.alloc [(.int .i64 0),(.int .i64 0),(.int .i64 0),(.int .i64 0),(.int .i64 0),(.int .i64 0),(.int .i64 0),(.int .i64 0),(.int .i64 0),(.int .i64 0),(.int .i64 0),(.int .i64 0),(.int .i64 0),(.int .i64 0),(.int .i64 0),(.int .i64 0),(.int .i64 0),(.int .i64 0),(.int .i64 0),(.int .i64 0),(.int .i64 0),(.int .i64 0),(.int .i64 0),(.int .i64 0)]),⟨none,none,(.store 24 (t 3) (t 31)),none,[]⟩]) (.seq (.seq (.ops [i 32 (.loadN 24 (t 3)),i 33 (.mov (k (.int .i64 0)))]) (.block 0 (.loop l89_1))) (.seq (.ops [i 49 (.fieldAddr 1 (t 1)),i 50 (.load1 (t 49)),i 51 (.fieldAddr 2 (t 1)),i 52 (.load1 (t 51)),i 53 (.bin .neq (t 50) (t 52)),i 2 (.mov (t 53))]) .ret))))
def a89:AFunc:=⟨54,[(.tmp 2)],c89⟩
theorem n89:a89.ntmps=54:=id rfl
theorem r89:a89.results=[(.tmp 2)]:=rfl
theorem b89:a89.body=c89:=rfl
def c90:ACode:=(.seq (.ops [i 1 (.box (t 0)),i 2 (.mov (k (.bool false)))]) (.seq (.ops [i 3 (.fieldAddr 0 (t 1)),i 4 (.load1 (t 3)),i 5 (.call .any (.func 99) [(t 4)]),i 6 (.mov (t 5)),⟨(some 7),(some (6,true)),(.fieldAddr 1 (t 1)),none,[]⟩,⟨(some 8),(some (6,true)),(.load1 (t 7)),none,[]⟩,⟨(some 9),(some (6,true)),(.call .any (.func 99) [(t 8)]),none,[]⟩,i 10 (.pick (t 6) (t 9) (k (.bool false))),i 11 (.mov (t 10)),⟨(some 12),(some (11,true)),(.fieldAddr 2 (t 1)),none,[]⟩,⟨(some 13),(some (11,true)),(.load1 (t 12)),none,[]⟩,⟨(some 14),(some (11,true)),(.call .any (.func 99) [(t 13)]),none,[]⟩,i 15 (.pick (t 11) (t 14) (k (.bool false))),i 16 (.mov (t 15)),⟨(some 17),(some (16,true)),(.fieldAddr 3 (t 1)),none,[]⟩,⟨(some 18),(some (16,true)),(.load1 (t 17)),none,[]⟩,⟨(some 19),(some (16,true)),(.bin .geq (t 18) (k (.int .u8 1))),none,[]⟩,i 20 (.pick (t 16) (t 19) (k (.bool false))),i 21 (.mov (t 20)),⟨(some 22),(some (21,true)),(.fieldAddr 3 (t 1)),none,[]⟩,⟨(some 23),(some (21,true)),(.load1 (t 22)),none,[]⟩,⟨(some 24),(some (21,true)),(.bin .leq (t 23) (k (.int .u8 4))),none,[]⟩,i 25 (.pick (t 21) (t 24) (k (.bool false))),i 26 (.mov (t 25)),⟨(some 27),(some (26,true)),(.fieldAddr 4 (t 1)),none,[]⟩,⟨(some 28),(some (26,true)),(.load1 (t 27)),none,[]⟩,⟨(some 29),(some (26,true)),(.call .any (.func 100) [(t 28)]),none,[]⟩,i 30 (.pick (t 26) (t 29) (k (.bool false))),i 31 (.mov (t 30)),⟨(some 32),(some (31,true)),(.fieldAddr 5 (t 1)),none,[]⟩,⟨(some 33),(some (31,true)),(.load1 (t 32)),none,[]⟩,⟨(some 34),(some (31,true)),(.call .any (.func 100) [(t 33)]),none,[]⟩,i 35 (.pick (t 31) (t 34) (k (.bool false))),i 2 (.mov (t 35))]) .ret))
def a90:AFunc:=⟨36,[(.tmp 2)],c90⟩
theorem n90:a90.ntmps=36:=id rfl
theorem r90:a90.results=[(.tmp 2)]:=rfl
theorem b90:a90.body=c90:=rfl
def c91:ACode:=(.seq (.ops [i 3 (.box (t 0)),i 4 (.box (t 1)),i 5 (.box (t 2)),i 6 (.mov (k .nilFunc))]) (.seq (.ops [i 7 (.makeFunc 101 [] [(t 4),(t 5),(t 3)]),i 6 (.mov (t 7))]) .ret))
def a91:AFunc:=⟨8,[(.tmp 6)],c91⟩
theorem n91:a91.ntmps=8:=id rfl
theorem r91:a91.results=[(.tmp 6)]:=rfl
theorem b91:a91.body=c91:=rfl
def c92:ACode:=(.seq (.ops [i 2 (.box (t 0)),i 4 (.alloc [(.int .i64 0),(.int .i64 0)]),i 5 (.mov (k (.bool false)))]) (.seq (.seq (.ops [i 7 (.loadN 8 (t 2)),i 8 (.call .any (.func 62) [(t 7)]),i 9 (.un .not (t 8)),i 10 (.mov (t 9)),⟨(some 11),(some (10,false)),(.mov (t 1)),none,[]⟩,⟨(some 12),(some (10,false)),(.call .any (.func 60) [(t 11),(k (.int .i64 0)),(k (.int .i64 730484))]),none,[]⟩,⟨(some 13),(some (10,false)),(.un .not (t 12)),none,[]⟩,i 14 (.pick (t 10) (k (.bool true)) (t 13)),i 15 (.mov (t 14)),⟨(some 16),(some (15,false)),(.loadN 8 (t 2)),none,[]⟩,⟨(some 17),(some (15,false)),(.mov (t 1)),none,[]⟩,⟨(some 18),(some (15,false)),(.bin .rem (t 17) (k (.int .i64 7))),none,[]⟩,⟨(some 19),(some (15,false)),(.call .any (.func 103) [(t 16),(t 18)]),none,[]⟩,⟨(some 20),(some (15,false)),(.un .not (t 19)),none,[]⟩,i 21 (.pick (t 15) (k (.bool true)) (t 20))]) (.cond (t 21) (.seq (.ops [i 22 (.build [(.int .i64 0),(.int .i64 0)] []),⟨none,none,(.store 2 (t 4) (t 22)),none,[]⟩,i 5 (.mov (k (.bool false)))]) .ret) .skip)) (.seq (.ops [i 23 (.mov (t 1)),i 24 (.bin .mul (t 23) (k (.int .i64 1440))),i 25 (.fieldAddr 3 (t 2)),i 26 (.load1 (t 25)),i 27 (.bin .add (t 24) (t 26)),i 6 (.mov (t 27))]) (.seq (.seq (.ops [i 28 (.mov (t 6)),i 29 (.fieldAddr 5 (t 2)),i 30 (.load1 (t 29)),i 31 (.bin .sub (t 28) (t 30)),i 32 (.bin .lss (t 31) (k (.int .i64 0))),i 33 (.mov (t 32)),⟨(some 34),(some (33,false)),(.mov (t 6)),none,[]⟩,⟨(some 35),(some (33,false)),(.fieldAddr 4 (t 2)),none,[]⟩,⟨(some 36),(some (33,false)),(.load1 (t 35)),none,[]⟩,⟨(some 37),(some (33,false)),(.bin .add (t 34) (t 36)),none,[]⟩,⟨(some 38),(some (33,false)),(.bin .gtr (t 37) (k (.int .i64 1051898399))),none,[]⟩,i 39 (.pick (t 33) (k (.bool true)) (t 38))]) (.cond (t 39) (.seq (.ops [i 40 (.build [(.int .i64 0),(.int .i64 0)] []),⟨none,none,(.store 2 (t 4) (t 40)),none,[]⟩,i 5 (.mov (k (.bool false)))]) .ret) .skip)) (.seq (.ops [i 41 (.mov (t 6)),i 42 (.mov (t 6)),i 43 (.fieldAddr 4 (t 2)),i 44 (.load1 (t 43)),i 45 (.bin .add (t 42) (t 44)),i 46 (.build [(.int .i64 0),(.int .i64 0)] [(0,(1,(t 41))),(1,(1,(t 45)))]),⟨none,none,(.store 2 (t 4) (t 46)),none,[]⟩,i 5 (.mov (k (.bool true)))]) .ret)))))
def a92:AFunc:=⟨47,[(.cellN 2 4),(.tmp 5)],c92⟩
theorem n92:a92.ntmps=47:=id rfl
theorem r92:a92.results=[(.cellN 2 4),(.tmp 5)]:=rfl
theorem b92:a92.body=c92:=rfl
def c93:ACode:=(.seq (.ops [i 2 (.mov (k (.slice none 0 0)))]) (.seq (.ops [i 3 (.mov (t 0)),i 4 (.call .any (.func 104) [(k (.slice none 0 0)),(t 3)]),i 2 (.mov (t 4))]) .ret))
def a93:AFunc:=⟨5,[(.tmp 2)],c93⟩
def l95_1:ACode:=(.seq (.ops [i 8 (.bin .lss (t 7) (t 6))]) (.seq (.cond (t 8) .skip (.exit 0)) (.seq (.block 1 (.seq (.ops [i 9 (.idxAddrS 8 (t 5) (t 7)),i 10 (.loadN 8 (t 9)),i 4 (.alloc [(.int .i64 0),(.int .i64 0),(.int .i64 0),(.int .i64 0),(.int .i64 0),(.int .i64 0),(.int .i64 0),(.int .u8 0)]),⟨none,none,(.store 8 (t 4) (t 10)),none,[]⟩]) (.seq (.ops [i 11 (.mov (t 0)),i 12 (.loadN 8 (t 4)),i 13 (.call .any (t 11) [(t 12)]),i 14 (.un .not (t 13))]) (.cond (t 14) .ret .skip)))) (.ops [i 15 (.bin .add (t 7) (k (.int .i64 1))),i 7 (.mov (t 15))]))))
def c95:ACode:=(.seq (.ops [i 5 (.load1 (t 1)),i 6 (.lenSlice (t 5)),i 7 (.mov (k (.int .i64 0)))]) (.block 0 (.loop l95_1)))
def a95:AFunc:=⟨16,[],c95⟩
def c97:ACode:=(.seq (.ops [i 2 (.mov (k (.int .i64 0)))]) (.seq (.seq (.ops [i 3 (.mov (t 0)),i 4 (.bin .lss (t 3) (k (.int .i64 0)))]) (.cond (t 4) (.seq (.ops [i 2 (.mov (k (.int .i64 0)))]) .ret) .skip)) (.seq (.seq (.ops [i 5 (.mov (t 0)),i 6 (.bin .gtr (t 5) (k (.int .i64 1051898399)))]) (.cond (t 6) (.seq (.ops [i 2 (.mov (k (.int .i64 730485)))]) .ret) .skip)) (.seq (.ops [i 7 (.mov (t 0)),i 8 (.bin .quo (t 7) (k (.int .i64 1440))),i 2 (.mov (t 8))]) .ret))))
def a97:AFunc:=⟨9,[(.tmp 2)],c97⟩
theorem n97:a97.ntmps=9:=id rfl
theorem r97:a97.results=[(.tmp 2)]:=rfl
theorem b97:a97.body=c97:=rfl
def c99:ACode:=(.seq (.ops [i 2 (.mov (k (.bool false)))]) (.seq (.ops [i 3 (.mov (t 0)),i 4 (.bin .geq (t 3) (k (.int .i64 1))),i 5 (.mov (t 4)),⟨(some 6),(some (5,true)),(.mov (t 0)),none,[]⟩,⟨(some 7),(some (5,true)),(.bin .leq (t 6) (k (.int .i64 999999))),none,[]⟩,i 8 (.pick (t 5) (t 7) (k (.bool false))),i 2 (.mov (t 8))]) .ret))
def a99:AFunc:=⟨9,[(.tmp 2)],c99⟩
theorem n99:a99.ntmps=9:=id rfl
theorem r99:a99.results=[(.tmp 2)]:=rfl
theorem b99:a99.body=c99:=rfl
def c100:ACode:=(.seq (.ops [i 2 (.mov (k (.bool false)))]) (.seq (.ops [i 3 (.mov (t 0)),i 4 (.bin .geq (t 3) (k (.int .i64 0))),i 5 (.mov (t 4)),⟨(some 6),(some (5,true)),(.mov (t 0)),none,[]⟩,⟨(some 7),(some (5,true)),(.bin .leq (t 6) (k (.int .i64 1051898399))),none,[]⟩,i 8 (.pick (t 5) (t 7) (k (.bool false))),i 2 (.mov (t 8))]) .ret))
def a100:AFunc:=⟨9,[(.tmp 2)],c100⟩
theorem n100:a100.ntmps=9:=id rfl
theorem r100:a100.results=[(.tmp 2)]:=rfl
theorem b100:a100.body=c100:=rfl
def l101_1:ACode:=(.seq (.seq (.ops [i 7 (.load1 (t 1)),i 8 (.bin .geq (t 7) (k (.int .i64 0))),i 9 (.mov (t 8)),⟨(some 10),(some (9,true)),(.load1 (t 1)),none,[]⟩,⟨(some 11),(some (9,true)),(.bin .leq (t 10) (k (.int .i64 730484))),none,[]⟩,i 12 (.pick (t 9) (t 11) (k (.bool false)))]) (.cond (t 12) .skip (.exit 0))) (.seq (.block 1 (.seq (.ops [i 17 (.loadN 8 (t 3)),i 18 (.load1 (t 1)),i 19 (.call .any (.func 102) [(t 17),(t 18)]),i 16 (.mov (t 19)),i 20 (.extract 0 (t 16)),i 21 (.extract 1 (t 16)),i 5 (.alloc [(.int .i64 0),(.int .i64 0)]),⟨none,none,(.store 2 (t 5) (t 20)),none,[]⟩,i 6 (.mov (t 21))]) (.seq (.ops [i 22 (.mov (t 6)),i 23 (.mov (t 22)),⟨(some 24),(some (23,true)),(.mov (t 0)),none,[]⟩,⟨(some 25),(some (23,true)),(.loadN 2 (t 5)),none,[]⟩,⟨(some 26),(some (23,true)),(.call .any (t 24) [(t 25)]),none,[]⟩,⟨(some 27),(some (23,true)),(.un .not (t 26)),none,[]⟩,i 28 (.pick (t 23) (t 27) (k (.bool false)))]) (.cond (t 28) .ret .skip)))) (.ops [i 13 (.load1 (t 1)),i 14 (.load1 (t 2)),i 15 (.bin .add (t 13) (t 14)),⟨none,none,(.store 1 (t 1) (t 15)),none,[]⟩])))
def c101:ACode:=(.block 0 (.loop l101_1))
def a101:AFunc:=⟨29,[],c101⟩
theorem n101:a101.ntmps=29:=id rfl
theorem r101:a101.results=[]:=rfl
theorem b101:a101.body=c101:=rfl
def c102:ACode:=(.seq (.ops [i 2 (.box (t 0)),i 4 (.alloc [(.int .i64 0),(.int .i64 0)]),i 5 (.mov (k (.bool false)))]) (.seq (.ops [i 7 (.mov (t 1)),i 8 (.bin .mul (k (.int .i64 1440)) (t 7)),i 9 (.fieldAddr 3 (t 2)),i 10 (.load1 (t 9)),i 11 (.bin .add (t 8) (t 10)),i 6 (.mov (t 11))]) (.seq (.seq (.ops [i 12 (.fieldAddr 7 (t 2)),i 13 (.load1 (t 12)),i 14 (.mov (t 1)),i 15 (.bin .rem (t 14) (k (.int .i64 7))),i 16 (.bin .shr (t 13) (t 15)),i 17 (.bin .and (t 16) (k (.int .u8 1))),i 18 (.bin .eql (t 17) (k (.int .u8 0))),i 19 (.mov (t 18)),⟨(some 20),(some (19,false)),(.mov (t 6)),none,[]⟩,⟨(some 21),(some (19,false)),(.fieldAddr 5 (t 2)),none,[]⟩,⟨(some 22),(some (19,false)),(.load1 (t 21)),none,[]⟩,⟨(some 23),(some (19,false)),(.bin .sub (t 20) (t 22)),none,[]⟩,⟨(some 24),(some (19,false)),(.bin .lss (t 23) (k (.int .i64 0))),none,[]⟩,i 25 (.pick (t 19) (k (.bool true)) (t 24)),i 26 (.mov (t 25)),⟨(some 27),(some (26,false)),(.mov (t 6)),none,[]⟩,⟨(some 28),(some (26,false)),(.fieldAddr 4 (t 2)),none,[]⟩,⟨(some 29),(some (26,false)),(.load1 (t 28)),none,[]⟩,⟨(some 30),(some (26,false)),(.bin .add (t 27) (t 29)),none,[]⟩,⟨(some 31),(some (26,false)),(.bin .gtr (t 30) (k (.int .i64 1051898399))),none,[]⟩,i 32 (.pick (t 26) (k (.bool true)) (t 31))]) (.cond (t 32) (.seq (.ops [i 33 (.build [(.int .i64 0),(.int .i64 0)] []),⟨none,none,(.store 2 (t 4) (t 33)),none,[]⟩,i 5 (.mov (k (.bool false)))]) .ret) .skip)) (.seq (.ops [i 34 (.mov (t 6)),i 35 (.mov (t 6)),i 36 (.fieldAddr 4 (t 2)),i 37 (.load1 (t 36)),i 38 (.bin .add (t 35) (t 37)),i 39 (.build [(.int .i64 0),(.int .i64 0)] [(0,(1,(t 34))),(1,(1,(t 38)))]),⟨none,none,(.store 2 (t 4) (t 39)),none,[]⟩,i 5 (.mov (k (.bool true)))]) .ret))))
def a102:AFunc:=⟨40,[(.cellN 2 4),(.tmp 5)],c102⟩
theorem n102:a102.ntmps=40:=id rfl
theorem r102:a102.results=[(.cellN 2 4),(.tmp 5)]:=rfl
theorem b102:a102.body=c102:=rfl
def l103_1:ACode:=(.seq (.seq (.ops [i 10 (.mov (t 6)),i 11 (.mov (t 1)),i 12 (.bin .lss (t 10) (t 11))]) (.cond (t 12) .skip (.exit 0))) (.seq (.block 1 (.ops [i 15 (.mov (t 5)),i 16 (.bin .quo (t 15) (k (.int .i64 2))),i 5 (.mov (t 16))])) (.ops [i 13 (.mov (t 6)),i 14 (.bin .add (t 13) (k (.int .i64 1))),i 6 (.mov (t 14))])))
def c103:ACode:=(.seq (.ops [i 2 (.box (t 0)),i 4 (.mov (k (.bool false)))]) (.seq (.ops [i 7 (.fieldAddr 7 (t 2)),i 8 (.load1 (t 7)),i 9 (.conv .i64 (t 8)),i 5 (.mov (t 9))]) (.seq (.seq (.ops [i 6 (.mov (k (.int .i64 0)))]) (.block 0 (.loop l103_1))) (.seq (.ops [i 17 (.mov (t 5)),i 18 (.bin .rem (t 17) (k (.int .i64 2))),i 19 (.bin .eql (t 18) (k (.int .i64 1))),i 4 (.mov (t 19))]) .ret))))
def a103:AFunc:=⟨20,[(.tmp 4)],c103⟩
theorem n103:a103.ntmps=20:=id rfl
theorem r103:a103.results=[(.tmp 4)]:=rfl
theorem b103:a103.body=c103:=rfl
def ga104_1:ACode:=(.ops [i 5 (.alloc [(.int .i64 0),(.int .i64 0),(.int .i64 0),(.int .i64 0),(.int .i64 0),(.int .i64 0),(.int .i64 0),(.int .u8 0)]),⟨none,none,(.store 8 (t 5) (t 7)),none,[]⟩])
def gb104_1:ACode:=(.block 1 (.ops [i 8 (.load1 (t 2)),i 9 (.loadN 8 (t 5)),i 10 (.buildSlice 1 [(.int .i64 0),(.int .i64 0),(.int .i64 0),(.int .i64 0),(.int .i64 0),(.int .i64 0),(.int .i64 0),(.int .u8 0)] [(0,(8,(t 9)))]),i 11 (.append 8 64 false (t 8) (t 10)),⟨none,none,(.store 1 (t 2) (t 11)),none,[]⟩]))
def c104:ACode:=(.seq (.seq (.ops [i 2 (.box (t 0)),i 4 (.mov (k (.slice none 0 0)))]) (.seq (.seq (.ops [i 6 (.mov (t 1))]) (.block 0 (.rangeF (t 6) [7] ga104_1 gb104_1))) (.seq (.ops [i 12 (.load1 (t 2)),i 4 (.mov (t 12))]) .retM))) .retM)
def a104:AFunc:=⟨13,[(.tmp 4)],c104⟩
def table:List (FuncId×AFunc):=[(3,a3),(6,a6),(7,a7),(8,a8),(9,a9),(10,a10),(11,a11),(12,a12),(13,a13),(14,a14),(15,a15),(16,a16),(17,a17),(18,a18),(19,a19),(20,a20),(21,a21),(22,a22),(23,a23),(24,a24),(25,a25),(31,a31),(32,a32),(33,a33),(34,a34),(35,a35),(36,a36),(37,a37),(38,a38),(39,a39),(40,a40),(41,a41),(42,a42),(43,a43),(44,a44),(45,a45),(46,a46),(47,a47),(48,a48),(49,a49),(56,a56),(57,a57),(58,a58),(59,a59),(60,a60),(61,a61),(62,a62),(63,a63),(64,a64),(65,a65),(66,a66),(67,a67),(68,a68),(69,a69),(70,a70),(71,a71),(72,a72),(73,a73),(74,a74),(76,a76),(77,a77),(78,a78),(83,a83),(84,a84),(85,a85),(86,a86),(87,a87),(89,a89),(90,a90),(91,a91),(92,a92),(93,a93),(95,a95),(97,a97),(99,a99),(100,a100),(101,a101),(102,a102),(103,a103),(104,a104)]
def tr (g:FuncId):Option AFunc:=table.lookup g
theorem e3:tr 3=some a3:=rfl
theorem e6:tr 6=some a6:=rfl
theorem e7:tr 7=some a7:=rfl
theorem e8:tr 8=some a8:=rfl
theorem e9:tr 9=some a9:=rfl
theorem e10:tr 10=some a10:=rfl
theorem e11:tr 11=some a11:=rfl
theorem e12:tr 12=some a12:=rfl
theorem e13:tr 13=some a13:=rfl
theorem e14:tr 14=some a14:=rfl
theorem e15:tr 15=some a15:=rfl
theorem e16:tr 16=some a16:=rfl
theorem e17:tr 17=some a17:=rfl
theorem e18:tr 18=some a18:=rfl
theorem e19:tr 19=some a19:=rfl
theorem e20:tr 20=some a20:=rfl
theorem e21:tr 21=some a21:=rfl
theorem e24:tr 24=some a24:=rfl
theorem e25:tr 25=some a25:=rfl
theorem e31:tr 31=some a31:=rfl
theorem e32:tr 32=some a32:=rfl
theorem e33:tr 33=some a33:=rfl
theorem e34:tr 34=some a34:=rfl
theorem e35:tr 35=some a35:=rfl
theorem e36:tr 36=some a36:=rfl
theorem e37:tr 37=some a37:=rfl
theorem e38:tr 38=some a38:=rfl
theorem e39:tr 39=some a39:=rfl
theorem e40:tr 40=some a40:=rfl
theorem e41:tr 41=some a41:=rfl
theorem e42:tr 42=some a42:=rfl
theorem e43:tr 43=some a43:=rfl
theorem e44:tr 44=some a44:=rfl
theorem e45:tr 45=some a45:=rfl
theorem e46:tr 46=some a46:=rfl
theorem e47:tr 47=some a47:=rfl
theorem e48:tr 48=some a48:=rfl
theorem e56:tr 56=some a56:=rfl
theorem e57:tr 57=some a57:=rfl
theorem e58:tr 58=some a58:=rfl
theorem e59:tr 59=some a59:=rfl
theorem e60:tr 60=some a60:=rfl
theorem e61:tr 61=some a61:=rfl
theorem e62:tr 62=some a62:=rfl
theorem e63:tr 63=some a63:=rfl
theorem e64:tr 64=some a64:=rfl
theorem e65:tr 65=some a65:=rfl
theorem e66:tr 66=some a66:=rfl
theorem e67:tr 67=some a67:=rfl
theorem e68:tr 68=some a68:=rfl
theorem e69:tr 69=some a69:=rfl
theorem e70:tr 70=some a70:=rfl
theorem e71:tr 71=some a71:=rfl
theorem e72:tr 72=some a72:=rfl
theorem e83:tr 83=some a83:=rfl
theorem e84:tr 84=some a84:=rfl
theorem e89:tr 89=some a89:=rfl
theorem e90:tr 90=some a90:=rfl
theorem e91:tr 91=some a91:=rfl
theorem e92:tr 92=some a92:=rfl
theorem e97:tr 97=some a97:=rfl
theorem e99:tr 99=some a99:=rfl
theorem e100:tr 100=some a100:=rfl
theorem e101:tr 101=some a101:=rfl
theorem e102:tr 102=some a102:=rfl
theorem e103:tr 103=some a103:=rfl
end Go.Proofs.Ytjmmhkodgileiab.Fn

set_option linter.unusedVariables false
set_option linter.unusedSimpArgs false
namespace Go.AM
section
variable {α:Type}
def gt [Inhabited α] (l:List α) (i:Nat):α:=l.getD i default
theorem gt_lt [Inhabited α] {l:List α} {i:Nat} (h:i<l.length):gt l i=l[i]:=by simp [gt,List.getD_eq_getElem?_getD,List.getElem?_eq_getElem h]
theorem gt_cons_succ [Inhabited α] {x:α} {l:List α} {i:Nat}:gt (x::l) (i+1)=gt l i:=by simp [gt]
theorem gt_append_left [Inhabited α] {l r:List α} {i:Nat} (h:i<l.length):gt (l++r) i=gt l i:=by
 simp [gt,List.getD_eq_getElem?_getD,List.getElem?_append_left h]
theorem gt_append_len [Inhabited α] {l r:List α} {i:Nat}:gt (l++r) (l.length+i)=gt r i:=by
 unfold gt
 rw [List.getD_eq_getElem?_getD,List.getD_eq_getElem?_getD,List.getElem?_append_right (by omega),Nat.add_sub_cancel_left]
theorem gt_mem [Inhabited α] {l:List α} {i:Nat} (h:i<l.length):gt l i∈l:=by rw [gt_lt h];exact List.getElem_mem h
def addrOf (p:Option Addr):Addr:=p.getD ⟨0,0,none⟩
def elt (p:Option Addr) (e i:Nat):Addr:=(addrOf p).add (i*e)
def Sl (H:Heap) (enc:α→List Value) (e:Nat) (p:Option Addr) (l:List α):Prop:=
 match p with
 | none=>l=[]
 | some a=>a.spot=none∧(l≠[]→∃ro c,hget H a.block=.cells ro c∧a.off+l.length*e≤c.length∧(c.drop a.off).take (l.length*e)=l.flatMap enc)
theorem hget_alive {H:Heap} {i:Nat} {ro:Bool} {c:List Value} (h:hget H i=.cells ro c):i<H.length:=by
 rcases Nat.lt_or_ge i H.length with h1 | h1
 ·exact h1
 ·unfold hget at h
  rw [List.getD_eq_getElem?_getD,List.getElem?_eq_none h1] at h
  cases h
def cellsOf:Blk→List Value | .cells _ c=>c | _=>[]
def isCells:Blk→Bool | .cells _ _=>true | _=>false
theorem Sl.app {H:Heap} {enc:α→List Value} {e:Nat} {p:Option Addr} {l:List α} (h:Sl H enc e p l) (X:Heap):Sl (H++X) enc e p l:=by
 cases p with
 | none=>exact h
 | some a=>
   refine ⟨h.1,fun hn=>?_⟩
   obtain ⟨ro,c,h2,h3⟩:=h.2 hn
   exact ⟨ro,c,by rw [hget_old (hget_alive h2)];exact h2,h3⟩
theorem Sl.sim {H G:Heap} {enc:α→List Value} {e:Nat} {p:Option Addr} {l:List α} (h:Sl H enc e p l) (hG:∀b ro c,hget H b=.cells ro c→hget G b=.cells ro c):Sl G enc e p l:=by
 cases p with
 | none=>exact h
 | some a=>
   refine ⟨h.1,fun hn=>?_⟩
   obtain ⟨ro,c,h2,h3⟩:=h.2 hn
   exact ⟨ro,c,hG _ _ _ h2,h3⟩
theorem flat_len {enc:α→List Value} {e:Nat} (he:∀x,(enc x).length=e) (l:List α):(l.flatMap enc).length=l.length*e:=by
 induction l with
 | nil=>simp
 | cons x l ih=>simp [ih,he,Nat.add_mul,Nat.add_comm]
theorem flat_drop {enc:α→List Value} {e:Nat} (he:∀x,(enc x).length=e):∀(l:List α) (i:Nat),i<l.length→[Inhabited α]→((l.flatMap enc).drop (i*e)).take e=enc (gt l i)
 | [],i,h,_=>by simp at h
 | x::l,0,_,_=>by
   rw [List.flatMap_cons,Nat.zero_mul,List.drop_zero,List.take_append_of_le_length (by rw [he];exact Nat.le_refl _),List.take_of_length_le (by rw [he];exact Nat.le_refl _)]
   rfl
 | x::l,i+1,h,_=>by
   rw [List.flatMap_cons,List.drop_append,List.drop_eq_nil_of_le (by rw [he,Nat.add_mul];omega),List.nil_append,he,show (i+1)*e-e=i*e by rw [Nat.add_mul];omega]
   have:=flat_drop he l i (by simpa using h)
   rw [this,gt_cons_succ]
variable [Inhabited α] {H:Heap} {enc:α→List Value} {e:Nat} {p:Option Addr} {l:List α}
theorem Sl.loadCells (h:Sl H enc e p l) (he:∀x,(enc x).length=e) {i:Nat} (hi:i<l.length):AM.loadCells H (elt p e i) e=some (enc (gt l i)):=by
 cases p with
 | none=>simp only [Sl] at h;subst h;simp at hi
 | some a=>
   obtain ⟨b,o,s⟩:=a
   obtain ⟨ro,c,h2,h4,h3⟩:=h.2 (by rintro rfl;simp at hi)
   have h1:=h.1
   simp only at h1 h2 h3 h4;subst h1
   have hie:i*e+e≤l.length*e:=by
    have:=Nat.mul_le_mul_right e (Nat.succ_le_of_lt hi)
    rw [Nat.succ_mul] at this;exact this
   have hf:=flat_drop he l i hi
   rw [←h3,List.drop_take,List.take_take,List.drop_drop] at hf
   simp only [elt,addrOf,Option.getD_some,addr_add,AM.loadCells,h2]
   rw [if_pos (by omega),←hf,Nat.min_eq_left (by omega)]
theorem Sl.loadCell (h:Sl H enc e p l) (he:∀x,(enc x).length=e) {i j:Nat} (hi:i<l.length) (hj:j<e):AM.loadCell H ((elt p e i).add j)=(enc (gt l i))[j]?:=by
 have h0:=h.loadCells he hi
 cases p with
 | none=>simp only [Sl] at h;subst h;simp at hi
 | some a=>
   obtain ⟨b,o,s⟩:=a
   obtain ⟨ro,c,h2,h4,h3⟩:=h.2 (by rintro rfl;simp at hi)
   have h1:=h.1
   simp only at h1 h2 h3 h4;subst h1
   simp only [elt,addrOf,Option.getD_some,addr_add,AM.loadCells,h2] at h0
   split at h0
   ·simp only [Option.some.injEq] at h0
    rw [←h0]
    simp only [elt,addrOf,Option.getD_some,addr_add,AM.loadCell,h2,List.getElem?_take,List.getElem?_drop,if_pos hj,Nat.add_assoc]
   ·cases h0
theorem Sl.loadCell0 (h:Sl H enc e p l) (he:∀x,(enc x).length=e) {i:Nat} (hi:i<l.length) (hj:0<e):AM.loadCell H (elt p e i)=(enc (gt l i))[0]?:=by
 rw [←h.loadCell he hi hj]
 congr 1
omit [Inhabited α] in
theorem Sl.idx (h:Sl H enc e p l) {i c:Nat} {k:IntKind} {H1:Heap} (hi:i<l.length):idxK e (.slice p l.length c) (.int k (i:Int)) H1=some (.pointer (some (elt p e i)),H1):=by
 cases p with
 | none=>simp only [Sl] at h;subst h;simp at hi
 | some a=>exact idxK_nat hi
end
theorem hget_set_eq {X:Heap} {j:Nat} {b:Blk} (h:j<X.length):hget (X.set j b) j=b:=by
 unfold hget;rw [List.getD_eq_getElem?_getD,List.getElem?_set_self h];rfl
theorem hget_set_ne {X:Heap} {i j:Nat} {b:Blk} (h:i≠j):hget (X.set j b) i=hget X i:=by
 unfold hget;rw [List.getD_eq_getElem?_getD,List.getD_eq_getElem?_getD,List.getElem?_set_ne (Ne.symm h)]
theorem idxK_zero {e len c:Nat} {p:Addr} {k:IntKind} {H:Heap} (h:0<len):idxK e (.slice (some p) len c) (.int k 0) H=some (.pointer (some (p.add 0)),H):=by
 have:=idxK_nat (e:=e) (n:=0) (len:=len) (c:=c) (p:=p) (k:=k) (H:=H) h
 rw [Nat.zero_mul] at this
 exact this
theorem keyOk_int {k:IntKind} {n:Int}:keyOk (.int k) (.int k n)=true:=by simp [keyOk]
theorem keyOk_str {b:ByteArray}:keyOk .str (.string b)=true:=id rfl
theorem findKey_pair {k k':IntKind} {a b c d:Int} {v:Value} {es:List (Value×Value)} {i:Nat}:findKey (.agg #[.int k a,.int k' b]) ((.agg #[.int k c,.int k' d],v)::es) i=if a=c∧b=d then some (some (i,v)) else findKey (.agg #[.int k a,.int k' b]) es (i+1):=by
 simp only [findKey,keyEq,intsEq,if_true,Option.map_some,Bool.and_true]
 by_cases h:a=c∧b=d
 ·obtain ⟨rfl,rfl⟩:=h
  simp
 ·rw [if_neg h]
  have e:((a == c)&&(b == d))=false:=by
   cases he:((a == c)&&(b == d)) with
   | false=>rfl
   | true=>
     simp only [Bool.and_eq_true,beq_iff_eq] at he
     exact absurd he h
  simp [e]
theorem findKey_nil {v:Value} {i:Nat}:findKey v [] i=some none:=rfl
theorem findKey_int {k:IntKind} {a b:Int} {v:Value} {es:List (Value×Value)} {i:Nat}:findKey (.int k a) ((.int k b,v)::es) i=if a=b then some (some (i,v)) else findKey (.int k a) es (i+1):=by
 simp only [findKey,keyEq,if_true]
 by_cases h:a=b
 ·simp [h]
 ·have e:(a == b)=false:=by simpa using h
  simp [h,e]
theorem mapEntries_some {H:Heap} {r:Nat}:mapEntries H (.map (some r))=(match hget H r with | .map es=>some es | _=>none):=rfl
theorem mapEntries_none {H:Heap}:mapEntries H (.map none)=some []:=rfl
theorem findKey_no {α:Type} {k:IntKind} {a:Int} {f:α→Int} {g:α→Value}:∀{l:List α} {i:Nat},(∀x∈l,f x≠a)→findKey (.int k a) (l.map fun x=>(.int k (f x),g x)) i=some none
 | [],_,_=>rfl
 | x::l,i,h=>by
   rw [List.map_cons,findKey_int,if_neg (fun e=>h x (by simp) e.symm)]
   exact findKey_no fun y hy=>h y (by simp [hy])
theorem findKey_yes {α:Type} {k:IntKind} {a:Int} {f:α→Int} {g:α→Value} {v:Value}:∀{l:List α} {i:Nat},(∃x∈l,f x=a)→(∀x∈l,f x=a→g x=v)→∃j,findKey (.int k a) (l.map fun x=>(.int k (f x),g x)) i=some (some (j,v))
 | [],_,h,_=>by obtain ⟨x,hx,_⟩:=h;simp at hx
 | x::l,i,h,hv=>by
   rw [List.map_cons,findKey_int]
   by_cases e:a=f x
   ·exact ⟨i,by rw [if_pos e,hv x (by simp) e.symm]⟩
   ·rw [if_neg e]
    refine findKey_yes ?_ fun y hy=>hv y (by simp [hy])
    obtain ⟨y,hy,hy2⟩:=h
    rcases List.mem_cons.1 hy with rfl | hy
    ·exact absurd hy2.symm e
    ·exact ⟨y,hy,hy2⟩
def Ext (H G:Heap):Prop:=∃X,G=H++X
section
variable {H G:Heap}
theorem Ext.refl:Ext H H:=⟨[],by simp⟩
theorem Ext.app (h:Ext H G) {X:Heap}:Ext H (G++X):=by
 obtain ⟨Y,rfl⟩:=h
 exact ⟨Y++X,by simp⟩
theorem Ext.trans {K:Heap} (h:Ext H G) (k:Ext G K):Ext H K:=by
 obtain ⟨Y,rfl⟩:=k
 exact h.app
theorem Ext.len (h:Ext H G):H.length≤G.length:=by
 obtain ⟨Y,rfl⟩:=h
 simp
theorem Ext.sl {α:Type} {enc:α→List Value} {e:Nat} {p:Option Addr} {l:List α} (h:Ext H G) (hs:Sl H enc e p l):Sl G enc e p l:=by
 obtain ⟨Y,rfl⟩:=h
 exact hs.app Y
theorem Ext.cells (h:Ext H G) {b:Nat} {ro:Bool} {c:List Value} (hs:hget H b=.cells ro c):hget G b=.cells ro c:=by
 obtain ⟨Y,rfl⟩:=h
 rw [hget_old (hget_alive hs)];exact hs
end
section
variable {E:Env} {af:AFunc} {lim:Nat} {K:List AItem} {fr:Nat→Value} {H:Heap} {R:Value→Heap→Prop} {b:ACode}
theorem Ret_rounds {S:Type} (m:S→Nat) (I:S→(Nat→Value)→Heap→Prop) (s:S) (h0:I s fr H)
  (step:∀s fr H,I s fr H→(∀s' fr' H',I s' fr' H'→m s'<m s→Ret E af lim (.inLoop b::K) fr' H' R)→Ret E af lim (.code b::.inLoop b::K) fr H R) :
  Ret E af lim (.code (.loop b)::K) fr H R:=by
 rw [Ret_loop,←Ret_inLoop]
 have key:∀n s fr H,m s≤n→I s fr H→Ret E af lim (.inLoop b::K) fr H R:=by
  intro n
  induction n with
  | zero=>
    intro s fr H hm hi
    rw [Ret_inLoop]
    exact step s fr H hi fun s' fr' H' _ hl=>absurd hl (by omega)
  | succ n ih=>
    intro s fr H hm hi
    rw [Ret_inLoop]
    exact step s fr H hi fun s' fr' H' hi' hl=>ih s' fr' H' (by omega) hi'
 exact key _ s fr H (Nat.le_refl _) h0
theorem CallR.mono {mp:Bool} {g:FuncId} {as:List Value} {Q Q':Value→Heap→Prop} (h:CallR E mp lim g as H Q) (hq:∀v H',Q v H'→Q' v H'):CallR E mp lim g as H Q':=by
 obtain ⟨n,L,h1,h2⟩:=h
 exact ⟨n,L,h1,h2.mono hq⟩
theorem Ret.mono {k:List AItem} {R':Value→Heap→Prop} (h:Ret E af lim k fr H R) (hq:∀v H',R v H'→R' v H'):Ret E af lim k fr H R':=by
 obtain ⟨n,L,h1,h2⟩:=h
 exact ⟨n,L,h1,h2.mono hq⟩
theorem Ret_pad {k:List AItem} (h:Ret E af lim k fr (H++[]) R):Ret E af lim k fr H R:=by rwa [List.append_nil] at h
theorem Ret_exit_eq {k k':List AItem} {id:Nat} (h:aExit id k=aExit id k'):Ret E af lim (.code (.exit id)::k) fr H R=Ret E af lim (.code (.exit id)::k') fr H R:=by
 cases hk:aExit id k' with
 | some K'=>rw [Ret_exit (h.trans hk),Ret_exit hk]
 | none=>
   have key:∀{k:List AItem},aExit id k=none→¬Ret E af lim (.code (.exit id)::k) fr H R:=by
    rintro k hk ⟨n,L,hx,_⟩
    cases n with
    | zero=>simp [aRun] at hx
    | succ n=>rw [aRun.eq_def] at hx;simp only [hk] at hx;cases hx
   exact propext ⟨fun q=>absurd q (key (h.trans hk)),fun q=>absurd q (key hk)⟩
theorem Ret_exit_code {id:Nat} {c:ACode}:Ret E af lim (.code (.exit id)::.code c::K) fr H R=Ret E af lim (.code (.exit id)::K) fr H R:=Ret_exit_eq (by simp [aExit])
theorem Ret_exit_loop {id:Nat} {c:ACode}:Ret E af lim (.code (.exit id)::.inLoop c::K) fr H R=Ret E af lim (.code (.exit id)::K) fr H R:=Ret_exit_eq (by simp [aExit])
theorem Ret_exit_other {id id':Nat} (h:id'≠id):Ret E af lim (.code (.exit id)::.inBlock id'::K) fr H R=Ret E af lim (.code (.exit id)::K) fr H R:=Ret_exit_eq (by simp [aExit,h])
theorem Ret_exit_here {id:Nat}:Ret E af lim (.code (.exit id)::.inBlock id::K) fr H R=Ret E af lim K fr H R:=Ret_exit (by simp [aExit])
def shutK (r:Option Heap) (f:Heap→Prop) (_:Bx f:=⟨⟩):Prop:=match r with | some H'=>f H' | none=>False
theorem shutK_some {f:Heap→Prop}:shutK (some H) f=f H:=rfl
theorem Ret_retM:Ret E af lim (.code .retM::K) fr H R=shutK (shut lim (marks K) H) fun H'=>opK ((result fr H' af.results).map (·,H')) R:=by
 rw [Ret_first (r:=match shut lim (marks K) H with | some H'=>(result fr H' af.results).map (·,H') | none=>none) fun n=>by rw [aRun.eq_def];simp only;cases shut lim (marks K) H<;>rfl]
 cases shut lim (marks K) H<;>rfl
theorem marks_nil:marks []=[]:=rfl
theorem marks_code {c:ACode}:marks (.code c::K)=marks K:=rfl
theorem marks_loop {c:ACode}:marks (.inLoop c::K)=marks K:=rfl
theorem marks_block {id:Nat}:marks (.inBlock id::K)=marks K:=rfl
theorem marks_mark {i:Nat}:marks (.mark i::K)=marks K++[i]:=rfl
theorem shut_nil:shut lim [] H=some H:=rfl
theorem shut_cons {i:Nat} {l:List Nat} (h:hget H i=.dfr) (hl:lim≤i):shut lim (i::l) H=shut lim l (H.set i .dead):=by simp only [shut,h,if_pos hl]
def endB (i:Nat) (j:Option ACode) (H:Heap) (b:Blk):Option (Value×Heap):=match b with | .loop x=>some (.bool j.isNone,H.set i (.loop { x with st:=if j.isNone then 0 else 2,pend:=j })) | _=>none
theorem endB_on {i st N:Nat} {p:Option ACode} {g:Nat→Value} {ps:List Nat} {a b:ACode}:endB i none H (.loop ⟨st,p,g,N,ps,a,b⟩)=some (.bool true,H.set i (.loop ⟨0,none,g,N,ps,a,b⟩)):=rfl
theorem endB_off {i st N:Nat} {p:Option ACode} {g:Nat→Value} {ps:List Nat} {a b c:ACode}:endB i (some c) H (.loop ⟨st,p,g,N,ps,a,b⟩)=some (.bool false,H.set i (.loop ⟨2,some c,g,N,ps,a,b⟩)):=rfl
theorem endRound_get {i:Nat} {j:Option ACode}:endRound i j H=endB i j H (hget H i):=by unfold endRound endB;cases hget H i<;>rfl
theorem Ret_round {i:Nat} (hl:lim≤i):Ret E af lim (.round i::K) fr H R=opK (endB i none H (hget H i)) R:=by
 rw [←endRound_get];exact Ret_first fun n=>by rw [aRun.eq_def];simp only [if_pos hl]
def begK (b:Blk) (f:LoopB→Prop) (_:Bx f:=⟨⟩):Prop:=match b with | .loop x=>if x.st=0 then f x else False | _=>False
theorem begK_loop {N:Nat} {p:Option ACode} {g:Nat→Value} {ps:List Nat} {a b:ACode} {f:LoopB→Prop}:begK (.loop ⟨0,p,g,N,ps,a,b⟩) f=f ⟨0,p,g,N,ps,a,b⟩:=by simp [begK]
theorem Ret_begin {i:Nat} (hl:lim≤i):Ret E af lim (.begin i::K) fr H R=begK (hget H i) fun x=>Ret E af lim K fr (H.set i (.loop { x with st:=1 })) R:=by
 unfold begK
 have never:(∀n,aRun E (n+1) af lim (.begin i::K) fr H=none)→Ret E af lim (.begin i::K) fr H R=False:=fun h=>by rw [Ret_first (r:=none) fun n=>(h n).trans rfl];rfl
 cases hb:hget H i with
 | loop x=>
   simp only
   split
   ·rename_i hs
    exact Ret.succ fun n=>by rw [aRun.eq_def];simp only [hb,if_pos (And.intro hs hl)]
   ·rename_i hs
    exact never fun n=>by rw [aRun.eq_def];simp only [hb,hs,false_and,if_false]
 | _=>exact never fun n=>by rw [aRun.eq_def];simp only [hb]
theorem Ret_never {k:List AItem} (h:∀n,aRun E (n+1) af lim k fr H=none):Ret E af lim k fr H R=False:=by rw [Ret_first (r:=none) fun n=>(h n).trans rfl];rfl
theorem Ret_retR_eq {k k':List AItem} (h:roundOf k=roundOf k'):Ret E af lim (.code .retR::k) fr H R=Ret E af lim (.code .retR::k') fr H R:=by
 rw [Ret_first (r:=match roundOf k with | some i=>if lim≤i then endRound i (some .retM) H else none | none=>none) fun n=>by rw [aRun.eq_def];simp only;cases roundOf k with | none=>rfl | some i=>simp only;split<;>rfl,
  Ret_first (k:=.code .retR::k') (r:=match roundOf k' with | some i=>if lim≤i then endRound i (some .retM) H else none | none=>none) fun n=>by rw [aRun.eq_def];simp only;cases roundOf k' with | none=>rfl | some i=>simp only;split<;>rfl,h]
theorem Ret_retR_code {c:ACode}:Ret E af lim (.code .retR::.code c::K) fr H R=Ret E af lim (.code .retR::K) fr H R:=Ret_retR_eq rfl
theorem Ret_retR_loop {c:ACode}:Ret E af lim (.code .retR::.inLoop c::K) fr H R=Ret E af lim (.code .retR::K) fr H R:=Ret_retR_eq rfl
theorem Ret_retR_block {id:Nat}:Ret E af lim (.code .retR::.inBlock id::K) fr H R=Ret E af lim (.code .retR::K) fr H R:=Ret_retR_eq rfl
theorem Ret_retR_round {i:Nat} (hl:lim≤i):Ret E af lim (.code .retR::.round i::K) fr H R=opK (endB i (some .retM) H (hget H i)) R:=by
 rw [←endRound_get];exact Ret_first fun n=>by rw [aRun.eq_def];simp only [roundOf,if_pos hl]
theorem Ret_exitR_eq {k k':List AItem} {id:Nat} (h:aExit id k=aExit id k') (h2:roundOf k=roundOf k'):Ret E af lim (.code (.exitR id)::k) fr H R=Ret E af lim (.code (.exitR id)::k') fr H R:=by
 cases hk:aExit id k' with
 | some K'=>
   exact (Ret.succ (k1:=K') (fr1:=fr) (H1:=H) fun n=>by rw [aRun.eq_def];simp only [h.trans hk]).trans (Ret.succ fun n=>by rw [aRun.eq_def];simp only [hk]).symm
 | none=>
   rw [Ret_first (r:=match roundOf k with | some i=>if lim≤i then endRound i (some (.exit id)) H else none | none=>none) fun n=>by rw [aRun.eq_def];simp only [h.trans hk];cases roundOf k with | none=>rfl | some i=>simp only;split<;>rfl,
    Ret_first (k:=.code (.exitR id)::k') (r:=match roundOf k' with | some i=>if lim≤i then endRound i (some (.exit id)) H else none | none=>none) fun n=>by rw [aRun.eq_def];simp only [hk];cases roundOf k' with | none=>rfl | some i=>simp only;split<;>rfl,h2]
theorem Ret_exitR_code {id:Nat} {c:ACode}:Ret E af lim (.code (.exitR id)::.code c::K) fr H R=Ret E af lim (.code (.exitR id)::K) fr H R:=Ret_exitR_eq (by simp [aExit]) rfl
theorem Ret_exitR_loop {id:Nat} {c:ACode}:Ret E af lim (.code (.exitR id)::.inLoop c::K) fr H R=Ret E af lim (.code (.exitR id)::K) fr H R:=Ret_exitR_eq (by simp [aExit]) rfl
theorem Ret_exitR_other {id id':Nat} (h:id'≠id):Ret E af lim (.code (.exitR id)::.inBlock id'::K) fr H R=Ret E af lim (.code (.exitR id)::K) fr H R:=Ret_exitR_eq (by simp [aExit,h]) rfl
theorem Ret_exitR_here {id:Nat}:Ret E af lim (.code (.exitR id)::.inBlock id::K) fr H R=Ret E af lim K fr H R:=Ret.succ fun n=>by rw [aRun.eq_def];simp [aExit]
theorem Ret_exitR_round {id i:Nat} (hl:lim≤i):Ret E af lim (.code (.exitR id)::.round i::[]) fr H R=opK (endB i (some (.exit id)) H (hget H i)) R:=by
 rw [←endRound_get];exact Ret_first fun n=>by rw [aRun.eq_def];simp only [aExit,roundOf,if_pos hl]
def pendI (x:LoopB):List AItem:=match x.pend with | none=>[] | some c=>[.code c]
theorem pendI_none {st N:Nat} {g:Nat→Value} {ps:List Nat} {a b:ACode}:pendI ⟨st,none,g,N,ps,a,b⟩=[]:=rfl
theorem pendI_some {st N:Nat} {g:Nat→Value} {ps:List Nat} {a b c:ACode}:pendI ⟨st,some c,g,N,ps,a,b⟩=[.code c]:=rfl
def calL (c:Option ((FuncId ⊕ Nat)×List Value)) (f:FuncId→List Value→Prop) (_:Bx f:=⟨⟩):Prop:=match c with | some (.inl g,as)=>f g as | _=>False
theorem calL_some {g:FuncId} {as:List Value} {f:FuncId→List Value→Prop}:calL (some (.inl g,as)) f=f g as:=rfl
def endK (b:Blk) (f:LoopB→Prop) (_:Bx f:=⟨⟩):Prop:=match b with | .loop x=>if x.st=1 then False else f x | _=>False
theorem endK_0 {N:Nat} {p:Option ACode} {g:Nat→Value} {ps:List Nat} {a b:ACode} {f:LoopB→Prop}:endK (.loop ⟨0,p,g,N,ps,a,b⟩) f=f ⟨0,p,g,N,ps,a,b⟩:=by simp [endK]
theorem endK_2 {N:Nat} {p:Option ACode} {g:Nat→Value} {ps:List Nat} {a b:ACode} {f:LoopB→Prop}:endK (.loop ⟨2,p,g,N,ps,a,b⟩) f=f ⟨2,p,g,N,ps,a,b⟩:=by simp [endK]
theorem endK_loop {x:LoopB} {f:LoopB→Prop} (h:x.st≠1):endK (.loop x) f=f x:=by simp [endK,h]
theorem Ret_rangeF0 {f:Operand} {ps:List Nat} {a b:ACode} {g:FuncId} {as:List Value} (hc:callee (ev fr f) [.func (.yield (H.length+1)) #[] #[]] = some (.inl g,as)) :
  Ret E af lim (.code (.rangeF f ps a b)::K) fr H R=CallR E false lim g as (H++[.dfr,.loop ⟨0,none,fr,af.ntmps,ps,a,b⟩]) fun _ H2=>
   endK (hget H2 (H.length+1)) fun x=>Ret E af lim (pendI x++(K++[.mark H.length])) fr (H2.set (H.length+1) .dead) R:=by
 let F:=fun (n:Nat) (r:Value×Heap)=>match hget r.2 (H.length+1) with
  | .loop x=>if x.st=1 then none else aRun E n af lim ((match x.pend with | none=>[] | some c=>[AItem.code c])++(K++[AItem.mark H.length])) fr (r.2.set (H.length+1) .dead)
  | _=>none
 have hF:∀n r s,F n r=some s→∃x,hget r.2 (H.length+1)=.loop x∧x.st≠1∧aRun E n af lim (pendI x++(K++[.mark H.length])) fr (r.2.set (H.length+1) .dead)=some s:=fun n r s h=>by
  simp only [F] at h
  split at h
  case h_2=>cases h
  rename_i x hb
  split at h
  ·cases h
  rename_i hst
  exact ⟨x,hb,hst,h⟩
 have hF':∀n r x s,hget r.2 (H.length+1)=.loop x→x.st≠1→aRun E n af lim (pendI x++(K++[.mark H.length])) fr (r.2.set (H.length+1) .dead)=some s→F n r=some s:=fun n r x s hb hst h=>by
  simp only [F,hb,if_neg hst]
  exact h
 have hne:∀n r s,F n r=some s→s≠[]:=fun n r s h=>by
  obtain ⟨x,_,_,h⟩:=hF n r s h
  exact aRun_ne E _ _ _ _ _ _ _ h
 have hmono:∀{n m r s},n≤m→F n r=some s→F m r=some s:=fun {n m r s} hnm h=>by
  obtain ⟨x,h1,h2,h3⟩:=hF n r s h
  exact hF' m r x s h1 h2 (aRun_le E hnm h3)
 have hrun:∀n,aRun E (n+1) af lim (.code (.rangeF f ps a b)::K) fr H=match callWith E (aRun E n) false lim (.inl g) as (H++[.dfr,.loop ⟨0,none,fr,af.ntmps,ps,a,b⟩]) with
   | some L=>bindL (F n) L
   | none=>none:=fun n=>by rw [aRun.eq_def];simp only [hc];rfl
 apply propext
 constructor
 ·rintro ⟨n,L,hx,hr⟩
  cases n with
  | zero=>simp [aRun] at hx
  | succ n=>
  rw [hrun] at hx
  split at hx
  case h_2=>cases hx
  rename_i L0 hcall
  refine ⟨n,L0,hcall,fun hd=>?_,fun r hr'=>?_⟩
  ·obtain ⟨y,hy⟩:=hr.1 hd
   exact bindL_one hx (fun x _ s hs=>hne n x s hs) hy
  ·obtain ⟨s,hs,hsub⟩:=bindL_fwd hx r hr'
   obtain ⟨x,h1,h2,h3⟩:=hF n r s hs
   rw [h1,endK_loop h2]
   refine ⟨n,s,h3,fun hd=>?_,fun q hq=>hr.2 q (hsub q hq)⟩
   obtain ⟨y,hy⟩:=hr.1 hd
   obtain ⟨z,hz⟩:=bindL_one hx (fun x _ s hs=>hne n x s hs) hy
   subst hz
   rw [List.mem_singleton] at hr'
   subst hr'
   simp only [bindL,hs,Option.some.injEq,List.append_nil] at hx
   exact ⟨y,hx.trans hy⟩
 ·rintro ⟨n,L0,hcall,hd,h2⟩
  have hall:∃N,∀r∈L0,∃s,F N r=some s∧Outs E.dt s R:=by
   clear hd hcall
   induction L0 with
   | nil=>exact ⟨0,fun r hr=>by cases hr⟩
   | cons y L0 ih=>
     obtain ⟨N,hN⟩:=ih fun r hr=>h2 r (by simp [hr])
     have hk:=h2 y (by simp)
     simp only [endK] at hk
     split at hk
     case h_2=>exact hk.elim
     rename_i x hb
     split at hk
     ·exact hk.elim
     rename_i hst
     obtain ⟨m,s,hx,hr⟩:=hk
     refine ⟨max N m,fun r hr'=>?_⟩
     rcases List.mem_cons.1 hr' with rfl | hr'
     ·exact ⟨s,hmono (Nat.le_max_right N m) (hF' m r x s hb hst hx),hr⟩
     ·obtain ⟨s',g1,g2⟩:=hN r hr'
      exact ⟨s',hmono (Nat.le_max_left N m) g1,g2⟩
  obtain ⟨N,hN⟩:=hall
  have e:callWith E (aRun E (max n N)) false lim (.inl g) as (H++[.dfr,.loop ⟨0,none,fr,af.ntmps,ps,a,b⟩])=some L0:=aCall_le E (Nat.le_max_left n N) _ _ _ _ _ _ hcall
  obtain ⟨L,hL⟩:=bindL_some (f:=F (max n N)) (l:=L0) fun r hr=>by
   obtain ⟨s,hs,_⟩:=hN r hr
   exact ⟨s,hmono (Nat.le_max_right n N) hs⟩
  refine ⟨max n N+1,L,by rw [hrun,e];exact hL,fun hdt=>?_,fun q hq=>?_⟩
  ·obtain ⟨y,rfl⟩:=hd hdt
   obtain ⟨s,hs,ho⟩:=hN y (by simp)
   have hs':=hmono (Nat.le_max_right n N) hs
   simp only [bindL,hs',Option.some.injEq,List.append_nil] at hL
   obtain ⟨z,hz⟩:=ho.1 hdt
   exact ⟨z,by rw [←hL,hz]⟩
  ·obtain ⟨r,hr,s,hs,hqs⟩:=bindL_back hL q hq
   obtain ⟨s',hs',ho⟩:=hN r hr
   have:=hmono (Nat.le_max_right n N) hs'
   rw [hs] at this
   cases this
   exact ho.2 q hqs
theorem Ret_rangeF {f:Operand} {ps:List Nat} {a b:ACode} :
  Ret E af lim (.code (.rangeF f ps a b)::K) fr H R=calL (callee (ev fr f) [.func (.yield (H.length+1)) #[] #[]]) fun g as=>CallR E false lim g as (H++[.dfr,.loop ⟨0,none,fr,af.ntmps,ps,a,b⟩]) fun _ H2=>
   endK (hget H2 (H.length+1)) fun x=>Ret E af lim (pendI x++(K++[.mark H.length])) fr (H2.set (H.length+1) .dead) R:=by
 unfold calL
 split
 ·rename_i g as hc;exact Ret_rangeF0 hc
 ·rename_i hc
  refine Ret_never fun n=>?_
  rw [aRun.eq_def]
  simp only
theorem CallY.det {mp:Bool} {i:Nat} {as:List Value} {Q:Value→Heap→Prop} {n:Nat} {v:Value} {H':Heap} (h:aCall E n mp lim (.inr i) as H=some [(v,H')]):CallY E mp lim i as H Q=Q v H':=by
 rw [←CallT_inr,CallT.all h,Outs_one]
theorem CallY.mono {mp:Bool} {i:Nat} {as:List Value} {Q Q':Value→Heap→Prop} (h:CallY E mp lim i as H Q) (hq:∀v H',Q v H'→Q' v H'):CallY E mp lim i as H Q':=by
 obtain ⟨n,L,h1,h2⟩:=h
 exact ⟨n,L,h1,h2.mono hq⟩
theorem CallY_run {i:Nat} {as:List Value} {Q:Value→Heap→Prop} {x:LoopB} (hb:hget H i=.loop x) (hl:lim≤i) (hlen:as.length=x.params.length) (hp:(x.params.all (·<x.N))=true) :
  CallY E false lim i as H Q=Ret E ⟨x.N,[],.skip⟩ lim [.code x.assign,.begin i,.code x.body,.round i] (setParams x.fr x.params as) H Q:=by
 unfold CallY Ret aCall callWith
 simp only [hb,if_pos (And.intro hl (And.intro hlen hp)),Bool.false_eq_true,if_false]
theorem Ret_code {c c':ACode} (h:c=c'):Ret E af lim (.code c::K) fr H R=Ret E af lim (.code c'::K) fr H R:=by rw [h]
theorem loadCell_lit {b o:Nat} {s:Option Nat}:AM.loadCell H ⟨b,o,s⟩=(match hget H b with | .cells _ c=>c[o]? | _=>none):=rfl
theorem loadCells_lit {b o n:Nat} {s:Option Nat}:AM.loadCells H ⟨b,o,s⟩ n=(match hget H b with | .cells _ c=>if o+n≤c.length then some ((c.drop o).take n) else none | _=>none):=rfl
theorem storeAt_lit {b o:Nat} {s:Option Nat} {vs:List Value}:AM.storeAt lim H ⟨b,o,s⟩ vs=(match hget H b with | .cells false c=>if lim≤b∧o+vs.length≤c.length then some (H.set b (.cells false (setAll c o vs))) else none | _=>none):=rfl
theorem CallR.eq {mp:Bool} {g:FuncId} {as:List Value} {Q:Value→Heap→Prop} {v:Value} {H':Heap} (h:CallR E mp lim g as H fun v' H1=>v'=v∧H1=H'):CallR E mp lim g as H Q=Q v H':=by
 obtain ⟨n,L,h1,h2⟩:=h
 rw [←CallT_inl,CallT.all h1]
 have hne:=aCall_ne E h1
 obtain ⟨x,hx⟩:=List.exists_mem_of_ne_nil _ hne
 have e:∀r∈L,r=(v,H'):=fun r hr=>by
  obtain ⟨a,b⟩:=h2.2 r hr
  exact Prod.ext a b
 apply propext
 constructor
 ·intro h
  have:=h.2 x hx
  rw [e x hx] at this
  exact this
 ·exact fun hq=>⟨h2.1,fun r hr=>by rw [e r hr];exact hq⟩
end
section
variable {p q:Prop} {t b:Bool}
theorem wantK_undef:wantK undef b p q=q:=by unfold undef wantK;rfl
theorem wantK_not:wantK (.bool (!t)) b p q=wantK (.bool t) (!b) p q:=by cases t<;>cases b<;>simp [wantK]
theorem condK_not:condK (.bool (!t)) p q=condK (.bool t) q p:=by cases t<;>rfl
end
theorem int_lt_cast {a b:Nat}:((a:Int)<(b:Int))=(a<b):=by simp
theorem int_le_cast {a b:Nat}:((a:Int)≤(b:Int))=(a≤b):=by simp
theorem int_zero_lt {a:Nat}:((0:Int)<(a:Int))=(0<a):=by simp
theorem wrap_id {n:Int} (h1:-2 ^ 63≤n) (h2:n<2 ^ 63):IntKind.i64.wrap n=n:=by
 by_cases h:0≤n
 ·have h1:n % 2 ^ 64=n:=Int.emod_eq_of_lt h (by omega)
  simp only [IntKind.wrap,IntKind.bits,IntKind.signed,h1]
  rw [if_neg (by simp;omega)]
 ·have h1:n % 2 ^ 64=n+2 ^ 64:=by
   rw [←Int.add_emod_right,Int.emod_eq_of_lt (by omega) (by omega)]
  simp only [IntKind.wrap,IntKind.bits,IntKind.signed,h1]
  rw [if_pos (by simp;omega)]
  omega
theorem hget_cells {H:Heap} {b:Nat} (h:isCells (hget H b)=true):∃ro,hget H b=.cells ro (cellsOf (hget H b)):=by
 cases hb:hget H b with
 | cells ro c=>exact ⟨ro,by simp [cellsOf]⟩
 | _=>rw [hb] at h;simp [isCells] at h
theorem Sl.lit {α:Type} {H:Heap} {enc:α→List Value} {e b:Nat} {l:List α} (he:∀x,(enc x).length=e) (h:isCells (hget H b)=true) (hc:cellsOf (hget H b)=l.flatMap enc):Sl H enc e (some ⟨b,0,none⟩) l:=by
 obtain ⟨ro,h1⟩:=hget_cells h
 refine ⟨rfl,fun _=>⟨ro,_,h1, ?_, ?_⟩⟩
 ·rw [hc,flat_len he];simp
 ·rw [hc,List.drop_zero,List.take_of_length_le (by rw [flat_len he];exact Nat.le_refl _)]
theorem cells_slice {a:Option Addr} {n c:Nat}:(Value.slice a n c).cells=#[.slice a n c]:=rfl
theorem cells_ptr {a:Option Addr}:(Value.pointer a).cells=#[.pointer a]:=rfl
theorem cells_str {s:ByteArray}:(Value.string s).cells=#[.string s]:=rfl
theorem arr1 {v:Value}:(#[v]:Array Value).toList=[v]:=rfl
theorem size1 {v:Value}:(#[v]:Array Value).size=1:=rfl
theorem cells_map {a:Option Nat}:(Value.map a).cells=#[.map a]:=rfl
theorem cells_func {f:Fn} {a b:Array Value}:(Value.func f a b).cells=#[.func f a b]:=rfl
theorem fillV_slice {off:Nat} {a:Option Addr} {n m:Nat} {c:List Value} (h:off<c.length):fillV off 1 (.slice a n m) c=some (c.set off (.slice a n m)):=fillV_one rfl rfl h
theorem fillV_ptr {off:Nat} {a:Option Addr} {c:List Value} (h:off<c.length):fillV off 1 (.pointer a) c=some (c.set off (.pointer a)):=fillV_one rfl rfl h
theorem fillV_str {off:Nat} {a:ByteArray} {c:List Value} (h:off<c.length):fillV off 1 (.string a) c=some (c.set off (.string a)):=fillV_one rfl rfl h
theorem fillV_map {off:Nat} {a:Option Nat} {c:List Value} (h:off<c.length):fillV off 1 (.map a) c=some (c.set off (.map a)):=fillV_one rfl rfl h
theorem pad_4:List.replicate 4 Blk.dead=[.dead,.dead,.dead,.dead]:=rfl
theorem pad_5:List.replicate 5 Blk.dead=[.dead,.dead,.dead,.dead,.dead]:=rfl
theorem pad_6:List.replicate 6 Blk.dead=[.dead,.dead,.dead,.dead,.dead,.dead]:=rfl
theorem pad_7:List.replicate 7 Blk.dead=[.dead,.dead,.dead,.dead,.dead,.dead,.dead]:=rfl
theorem pad_8:List.replicate 8 Blk.dead=[.dead,.dead,.dead,.dead,.dead,.dead,.dead,.dead]:=rfl
theorem pad_9:List.replicate 9 Blk.dead=[.dead,.dead,.dead,.dead,.dead,.dead,.dead,.dead,.dead]:=rfl
theorem pad_10:List.replicate 10 Blk.dead=[.dead,.dead,.dead,.dead,.dead,.dead,.dead,.dead,.dead,.dead]:=rfl
theorem pad_11:List.replicate 11 Blk.dead=[.dead,.dead,.dead,.dead,.dead,.dead,.dead,.dead,.dead,.dead,.dead]:=rfl
theorem pad_12:List.replicate 12 Blk.dead=[.dead,.dead,.dead,.dead,.dead,.dead,.dead,.dead,.dead,.dead,.dead,.dead]:=rfl
theorem bytesOf_nil:bytesOf []=some []:=rfl
theorem bytesOf_cons {n:Int} {l:List Value}:bytesOf (.int .u8 n::l)=(bytesOf l).map (UInt8.ofNat n.toNat::·):=by
 simp only [bytesOf];cases bytesOf l<;>rfl
theorem int_eq_cast {a b:Nat}:((a:Int)=(b:Int))=(a=b):=propext Int.ofNat_inj
theorem setAll_skip {v:Value} {c vs:List Value}:∀{o:Nat},setAll (v::c) (o+1) vs=v::setAll c o vs:=by
 induction vs generalizing c with
 | nil=>intro o;rfl
 | cons u vs ih=>intro o;rw [setAll_cons,setAll_cons,List.set_cons_succ];exact ih
theorem take_all {l:List Value} {n:Nat} (h:l.length=n):l.take n=l:=by subst h;exact List.take_length
theorem nat_not_neg {n:Nat}:((n:Int)<0)=False:=by simp
theorem setAll_full {c vs:List Value} (h:vs.length=c.length):setAll c 0 vs=vs:=by
 have key:∀(vs c pre:List Value),vs.length=c.length→setAll (pre++c) pre.length vs=pre++vs:=by
  intro vs
  induction vs with
  | nil=>intro c pre h;have:c=[]:=List.length_eq_zero_iff.1 h.symm;subst this;rfl
  | cons v vs ih=>
    intro c pre h
    match c,h with
    | x::c,h=>
      rw [setAll_cons]
      have e1:(pre++x::c).set pre.length v=(pre++[v])++c:=by simp
      rw [e1]
      have:=ih c (pre++[v]) (by simpa using h)
      rw [List.length_append] at this
      simp only [List.length_cons,List.length_nil,Nat.zero_add] at this
      rw [this];simp
 exact key vs c [] h
def b2sV (v:Value) (H:Heap):Option (Value×Heap):=match v with
 | .slice none n _=>if n=0 then some (.string .empty,H) else none
 | .slice (some a) n _=>match loadCells H a n with
   | some cs=>match bytesOf cs with
     | some bs=>some (.string ⟨bs.toArray⟩,H)
     | none=>none
   | none=>none
 | _=>none
theorem b2sV_some {a:Addr} {n c:Nat} {H:Heap}:b2sV (.slice (some a) n c) H=(match AM.loadCells H a n with
  | some cs=>match bytesOf cs with
    | some bs=>some (.string ⟨bs.toArray⟩,H)
    | none=>none
  | none=>none):=rfl
theorem on_b2sV {E:Env} {lim:Nat} {mask:List Nat} {fr:Nat→Value} {H:Heap} {Q:Value→Heap→Prop} {qx:Operand}:oK E lim none none mask (.b2s qx) fr H Q=opK (b2sV (ev fr qx) H) Q:=oK_none rfl
theorem ob_b2sV {E:Env} {lim b:Nat} {dest:Option Nat} {mask:List Nat} {fr:Nat→Value} {H:Heap} {Q:Value→Heap→Prop} {qx:Operand}:oK E lim (some b) dest mask (.b2s qx) fr H Q=opK (b2sV (ev fr qx) (maskH b mask H)) fun v H'=>Q v (unmaskH b mask H H'):=oK_some rfl
def unV:Operand→Value
 | .const v=>v
 | _=>undef
def sliceV (e:Nat) (v:Value) (lo hi mx:Option Value):Option Value:=aSliceS e unV v (lo.map .const) (hi.map .const) (mx.map .const)
theorem aSliceS_V {e:Nat} {ρ:Operand→Value} {v:Value} {lo hi mx:Option Operand}:aSliceS e ρ v lo hi mx=sliceV e v (lo.map ρ) (hi.map ρ) (mx.map ρ):=by
 unfold sliceV aSliceS
 cases v with
 | slice a n c=>cases lo<;>cases hi<;>cases mx<;>rfl
 | _=>rfl
def copyV (lim esz:Nat) (d x:Value) (H:Heap):Option (Value×Heap):=match d,lenOf x with
    | .slice base dl _,some sl=>match copyCells H esz (min sl dl) x with
      | some cs=>match base with
        | some a=>if min sl dl=0 then some (.int .i64 0,H) else (storeAt lim H a cs).map (.int .i64 (min sl dl:Nat),·)
        | none=>if dl=0 then some (.int .i64 0,H) else none
      | none=>none
    | _,_=>none
theorem on_copyV {E:Env} {lim e:Nat} {mask:List Nat} {fr:Nat→Value} {H:Heap} {Q:Value→Heap→Prop} {d x:Operand}:oK E lim none none mask (.copy e d x) fr H Q=opK (copyV lim e (ev fr d) (ev fr x) H) Q:=oK_none rfl
theorem ob_copyV {E:Env} {lim b e:Nat} {dest:Option Nat} {mask:List Nat} {fr:Nat→Value} {H:Heap} {Q:Value→Heap→Prop} {d x:Operand}:oK E lim (some b) dest mask (.copy e d x) fr H Q=opK (copyV lim e (ev fr d) (ev fr x) (maskH b mask H)) fun v H'=>Q v (unmaskH b mask H H'):=oK_some rfl
def sliceAV (n e:Nat) (v:Value) (lo hi mx:Option Value):Option Value:=match v with
 | .pointer (some a)=>match bounds unV n n (lo.map .const) (hi.map .const) (mx.map .const) with
   | some (l,h,m)=>if m<2 ^ 62 then some (.slice (some (if m=l then a else a.add (l*e))) (h-l) (m-l)) else none
   | none=>none
 | _=>none
theorem sliceA_V {lim n e:Nat} {dest:Option Nat} {ρ:Operand→Value} {x:Operand} {lo hi mx:Option Operand} {H:Heap}:aOp lim dest (.sliceA n e x lo hi mx) ρ H=(sliceAV n e (ρ x) (lo.map ρ) (hi.map ρ) (mx.map ρ)).map (·,H):=by
 have hb:bounds unV n n ((lo.map ρ).map .const) ((hi.map ρ).map .const) ((mx.map ρ).map .const)=bounds ρ n n lo hi mx:=by
  cases lo<;>cases hi<;>cases mx<;>rfl
 simp only [aOp,sliceAV,hb]
 cases ρ x with
 | pointer a=>
   cases a with
   | none=>rfl
   | some a=>
     simp only
     cases bounds ρ n n lo hi mx with
     | none=>rfl
     | some p=>
       obtain ⟨l,h,m⟩:=p
       simp only
       split<;>rfl
 | _=>rfl
theorem on_sliceAV {E:Env} {lim n e:Nat} {mask:List Nat} {fr:Nat→Value} {H:Heap} {Q:Value→Heap→Prop} {x:Operand} {lo hi mx:Option Operand}:oK E lim none none mask (.sliceA n e x lo hi mx) fr H Q=opK ((sliceAV n e (ev fr x) (lo.map (ev fr)) (hi.map (ev fr)) (mx.map (ev fr))).map (·,H)) Q:=by
 rw [oK_none rfl,sliceA_V]
theorem ob_sliceAV {E:Env} {lim b n e:Nat} {dest:Option Nat} {mask:List Nat} {fr:Nat→Value} {H:Heap} {Q:Value→Heap→Prop} {x:Operand} {lo hi mx:Option Operand}:oK E lim (some b) dest mask (.sliceA n e x lo hi mx) fr H Q=opK ((sliceAV n e (ev fr x) (lo.map (ev fr)) (hi.map (ev fr)) (mx.map (ev fr))).map (·,maskH b mask H)) fun v H'=>Q v (unmaskH b mask H H'):=by
 rw [oK_some rfl,sliceA_V]
def appendLV (lim:Nat) (dest:Option Nat) (esz bytes:Nat) (str:Bool) (s x:Value) (H:Heap):Option (Value×Heap):=match s with
    | .slice none n c=>aAppend lim dest esz bytes str (.slice none n c) x H
    | .slice (some a) n c=>if c=loose esz∨c=n then aAppend lim dest esz bytes str (.slice (some a) n c) x H else none
    | _=>none
theorem on_appendLV {E:Env} {lim e b:Nat} {str:Bool} {mask:List Nat} {fr:Nat→Value} {H:Heap} {Q:Value→Heap→Prop} {s x:Operand}:oK E lim none none mask (.appendL e b str s x) fr H Q=opK (appendLV lim none e b str (ev fr s) (ev fr x) H) Q:=oK_none rfl
theorem ob_appendLV {E:Env} {lim e b' b:Nat} {str:Bool} {dest:Option Nat} {mask:List Nat} {fr:Nat→Value} {H:Heap} {Q:Value→Heap→Prop} {s x:Operand}:oK E lim (some b) dest mask (.appendL e b' str s x) fr H Q=opK (appendLV lim (dest.map (b+·)) e b' str (ev fr s) (ev fr x) (maskH b mask H)) fun v H'=>Q v (unmaskH b mask H H'):=oK_some rfl
theorem appendLV_none {lim e b n c:Nat} {str:Bool} {dest:Option Nat} {x:Value} {H:Heap}:appendLV lim dest e b str (.slice none n c) x H=aAppend lim dest e b str (.slice none n c) x H:=rfl
theorem appendLV_some {lim e b n c:Nat} {str:Bool} {dest:Option Nat} {x:Value} {H:Heap} {a:Addr}:appendLV lim dest e b str (.slice (some a) n c) x H=if c=loose e∨c=n then aAppend lim dest e b str (.slice (some a) n c) x H else none:=rfl
section
variable {α:Type}
variable [Inhabited α] {enc:α→List Value} {G X:Heap} {B e i:Nat} {d:Array α} {p:Option Addr} {lim:Nat}
omit [Inhabited α] in
theorem flat_set (he:∀x,(enc x).length=e) (y:α):∀(l:List α) (i:Nat),i<l.length→setAll (l.flatMap enc) (i*e) (enc y)=(l.set i y).flatMap enc:=by
 have key:∀(vs a b c:List Value) ,vs.length=b.length→setAll (a++b++c) a.length vs=a++vs++c:=by
  intro vs
  induction vs with
  | nil=>intro a b c h;simp at h;have:b=[]:=List.length_eq_zero_iff.1 h.symm;subst this;rfl
  | cons v vs ih=>
    intro a b c h
    match b,h with
    | x::b,h=>
      rw [setAll_cons]
      have e1:(a++x::b++c).set a.length v=(a++[v])++b++c:=by simp
      rw [e1]
      have:=ih (a++[v]) b c (by simpa using h)
      rw [List.length_append] at this
      simp only [List.length_cons,List.length_nil,Nat.zero_add] at this
      rw [this];simp
 intro l i hi
 have e1:l.flatMap enc=(l.take i).flatMap enc++enc l[i]++(l.drop (i+1)).flatMap enc:=by
  have e0:l=l.take i++l[i]::l.drop (i+1):=by rw [←List.drop_eq_getElem_cons hi,List.take_append_drop]
  have:=congrArg (List.flatMap enc) e0
  rw [List.flatMap_append,List.flatMap_cons] at this
  rw [this,List.append_assoc]
 have e2:(l.set i y).flatMap enc=(l.take i).flatMap enc++enc y++(l.drop (i+1)).flatMap enc:=by
  rw [List.set_eq_take_append_cons_drop,if_pos hi];simp
 have e3:i*e=((l.take i).flatMap enc).length:=by rw [flat_len he,List.length_take,Nat.min_eq_left (by omega)]
 rw [e1,e2,e3]
 exact key _ _ _ _ (by rw [he,he])
end
end Go.AM

set_option linter.unusedVariables false
set_option linter.unusedSimpArgs false
set_option linter.defProp false
namespace Go.AM
set_option maxRecDepth 100000
def SB:=And.intro @Ret_seq (And.intro @wantK_tt (And.intro @wantK_ff (And.intro @wantK_tf (And.intro @wantK_ft (And.intro @condK_tt (And.intro @condK_ff (And.intro @int_beq (And.intro @int_bne (And.intro @not_dec (And.intro @fillParts_cons (And.intro @fillParts_nil (And.intro @fillK_some (And.intro @fillV_int (And.intro @fillV_bool (And.intro @fillV_agg (And.intro @setAll_nil (And.intro @setAll_cons (And.intro @Ret_cops (And.intro @Ret_exit_code (And.intro @Ret_exit_loop (And.intro @Ret_exit_other (And.intro @Ret_exit_here (And.intro @Ret_skip (And.intro @Ret_block (And.intro @Ret_inBlock (And.intro @Ret_cond (And.intro @Ret_is (And.intro @Ret_in (And.intro @false_and (And.intro @and_false (And.intro @Ret_ops_nil (And.intro @Ret_ret (And.intro @decide_true (And.intro @gK_none (And.intro @gK_some (And.intro @on_mov (And.intro @on_pick (And.intro @on_bin (And.intro @on_eqv (And.intro @on_un (And.intro @on_conv (And.intro @on_alloc (And.intro @on_box (And.intro @on_build (And.intro @on_buildSlice (And.intro @on_load1 (And.intro @on_loadN (And.intro @on_store (And.intro @on_nilCheck (And.intro @on_fieldAddr (And.intro @on_field1 (And.intro @on_fieldN (And.intro @on_idxAddrA (And.intro @on_idxAddrS (And.intro @on_idxA (And.intro @on_idxStr (And.intro @on_sliceS (And.intro @on_sliceStr (And.intro @on_lenStr (And.intro @on_lenSlice (And.intro @on_lenMap (And.intro @on_lenK (And.intro @on_append (And.intro @on_append0 (And.intro @on_minmax (And.intro @on_makeSlice (And.intro @on_makeMap (And.intro @on_lookup (And.intro @on_mapUpdate (And.intro @on_delete (And.intro @on_clear (And.intro @on_makeFunc (And.intro @on_extract (And.intro @on_strId (And.intro @on_rowMark (And.intro @ob_mov (And.intro @ob_pick (And.intro @ob_bin (And.intro @ob_eqv (And.intro @ob_un (And.intro @ob_conv (And.intro @ob_alloc (And.intro @ob_box (And.intro @ob_build (And.intro @ob_buildSlice (And.intro @ob_load1 (And.intro @ob_loadN (And.intro @ob_store (And.intro @ob_storeD (And.intro @ob_nilCheck (And.intro @ob_fieldAddr (And.intro @ob_field1 (And.intro @ob_fieldN (And.intro @ob_idxAddrA (And.intro @ob_idxAddrS (And.intro @ob_idxA (And.intro @ob_idxStr (And.intro @ob_sliceS (And.intro @ob_sliceStr (And.intro @ob_lenStr (And.intro @ob_lenSlice (And.intro @ob_lenMap (And.intro @ob_lenK (And.intro @ob_append (And.intro @ob_append0 (And.intro @ob_minmax (And.intro @ob_makeSlice (And.intro @ob_makeMap (And.intro @ob_lookup (And.intro @ob_mapUpdate (And.intro @ob_delete (And.intro @ob_clear (And.intro @ob_makeFunc (And.intro @ob_extract (And.intro @ob_strId (And.intro @ob_rowMark (And.intro @oK_call (And.intro @oK_callB (And.intro @oK_mapsB (And.intro @oK_range (And.intro @oK_next (And.intro @oK_entry (And.intro @on_capSlice (And.intro @ob_capSlice (And.intro @on_growNil (And.intro @ob_growNil (And.intro @calK_some (And.intro @pure_any (And.intro @pure_pure (And.intro @pure_mk (And.intro @lim_any (And.intro @lim_pure (And.intro @lim_mk (And.intro @CallT_inl (And.intro @CallT_inr (And.intro @Ret_retM (And.intro @marks_nil (And.intro @marks_code (And.intro @marks_loop (And.intro @marks_block (And.intro @marks_mark (And.intro @shut_nil (And.intro @shut_cons (And.intro @shutK_some (And.intro @Ret_round (And.intro @Ret_begin (And.intro @begK_loop (And.intro @endB_on (And.intro @endB_off (And.intro @Ret_retR_code (And.intro @Ret_retR_loop (And.intro @Ret_retR_block (And.intro @Ret_retR_round (And.intro @Ret_exitR_code (And.intro @Ret_exitR_loop (And.intro @Ret_exitR_other (And.intro @Ret_exitR_here (And.intro @Ret_exitR_round (And.intro @calL_some (And.intro @endK_0 (And.intro @endK_2 (And.intro @pendI_none (And.intro @pendI_some (And.intro @Ret_rangeF (And.intro @List.map_cons.{0,0} (And.intro @List.map_nil.{0,0} (And.intro @Option.map_none.{0,0} (And.intro @mask_nil (And.intro @mask_cons (And.intro @unmask_cons (And.intro @pad_one (And.intro @pad_zero (And.intro @pad_two (And.intro @pad_three (And.intro @Ret_drawn (And.intro @Nat.add_assoc (And.intro @unmask_nil (And.intro @unmask_mask (And.intro @ev_tmp (And.intro @ev_const (And.intro @ev_func (And.intro @upd_same (And.intro @upd_ne (And.intro @not_false_eq_true (And.intro @opK_some (And.intro @Option.map_some.{0,0} (And.intro @List.getD_cons_zero.{0} (And.intro @List.getD_cons_succ.{0} (And.intro @decide_false (And.intro @Bool.false_eq_true (And.intro @not_true_eq_false (And.intro @and_true (And.intro @true_and (And.intro @hget_new (And.intro @hget_new0 (And.intro @hget_old (And.intro @set_new (And.intro @set_new0 (And.intro @List.set_cons_zero.{0} (And.intro @List.set_cons_succ.{0} (And.intro @List.append_assoc.{0} (And.intro @List.cons_append.{0} (And.intro @List.nil_append.{0} (And.intro @storeAt_lit (And.intro @loadCell_lit (And.intro @loadCells_lit (And.intro @idxK_nat (And.intro @List.length_cons.{0} (And.intro @List.length_nil.{0} (And.intro @addr_add (And.intro @List.drop_zero.{0} (And.intro @List.drop_succ_cons.{0} (And.intro @List.take_succ_cons.{0} (And.intro @List.take_zero.{0} (And.intro @Nat.le_refl (And.intro @Nat.le_add_right (And.intro @Nat.zero_add (And.intro @Nat.add_zero (And.intro @result_fin (And.intro @resAll_nil (And.intro @resAll_cons (And.intro @consK_some (And.intro @finK_one (And.intro @finK_more (And.intro @finK_nil (And.intro @cells_agg (And.intro @cells_int (And.intro @cells_bool (And.intro @arr_list (And.intro @arr_size (And.intro @Option.some.injEq.{0} (And.intro @Prod.mk.injEq.{0,0} (And.intro @List.length_append.{0} (And.intro @List.getElem?_cons_zero.{0} (And.intro @List.getElem?_cons_succ.{0} (And.intro @Nat.lt_irrefl (And.intro @and_self (And.intro @int_lt_cast (And.intro @int_le_cast (And.intro @wantK_not (And.intro @condK_not (And.intro @Bool.not_true (And.intro @Bool.not_false (And.intro @Nat.le_add_right_of_le (And.intro @int_zero_lt (And.intro @wantK_undef (And.intro @keyOk_int (And.intro @keyOk_str (And.intro @findKey_nil (And.intro @findKey_int (And.intro @mapEntries_some (And.intro @mapEntries_none (And.intro @Int.cast_ofNat_Int (And.intro @idxK_zero (And.intro @Ret_nil (And.intro @cells_slice (And.intro @cells_ptr (And.intro @cells_str (And.intro @cells_map (And.intro @cells_func (And.intro @arr1 (And.intro @size1 (And.intro @fillV_slice (And.intro @fillV_ptr (And.intro @fillV_str (And.intro @fillV_map (And.intro @nat_not_neg (And.intro @setAll_full (And.intro @Option.isNone_none.{0} (And.intro @Option.isNone_some.{0} (And.intro @Int.toNat_natCast (And.intro @take_all (And.intro @setAll_skip (And.intro @pad_4 (And.intro @pad_5 (And.intro @pad_6 (And.intro @pad_7 (And.intro @pad_8 (And.intro @pad_9 (And.intro @pad_10 (And.intro @pad_11 (And.intro @pad_12 (And.intro @bytesOf_cons (And.intro @bytesOf_nil (And.intro @int_eq_cast (And.intro @on_b2sV (And.intro @ob_b2sV (And.intro @b2sV_some (And.intro @aSliceS_V (And.intro @on_copyV (And.intro @ob_copyV (And.intro @on_sliceAV (And.intro @ob_sliceAV (And.intro @on_appendLV (And.intro @ob_appendLV (And.intro @appendLV_none (@appendLV_some)))))))))))))))))))))))))))))))))))))))))))))))))))))))))))))))))))))))))))))))))))))))))))))))))))))))))))))))))))))))))))))))))))))))))))))))))))))))))))))))))))))))))))))))))))))))))))))))))))))))))))))))))))))))))))))))))))))))))))))))))))))))))))))))))))))))))))))))))))))))))))))))))))))))))
theorem frame0_at {args:List Value} {t:Nat}:frame0 args t=args.getD t undef:=id rfl
def FB:=And.intro @upd_same (And.intro @upd_ne (And.intro @ne_eq.{1} (And.intro @not_false_eq_true (And.intro @frame0_at (And.intro @List.getD_cons_zero.{0} @List.getD_cons_succ.{0})))))
end Go.AM

set_option linter.unusedVariables false
set_option linter.unusedSimpArgs false
namespace Go.AM
section
variable {G G' K:Heap} {R:Nat} {b:Blk}
structure Mut (G G':Heap) (R:Nat):Prop where
 len:G'.length=G.length
 other:∀j,j≠R→hget G' j=hget G j
theorem Mut.ext {H:Heap} (h:Mut G G' R) (hE:Ext H G) (hR:H.length≤R):Ext H G':=by
 obtain ⟨Y,rfl⟩:=hE
 refine ⟨G'.drop H.length, ?_⟩
 apply List.ext_getElem
 ·have:=h.len;simp at this⊢;omega
 intro i h1 h2
 have hl:=h.len
 simp at hl
 by_cases hi:i<H.length
 ·rw [List.getElem_append_left hi]
  have:=h.other i (by omega)
  unfold hget at this
  rw [List.getD_eq_getElem?_getD,List.getD_eq_getElem?_getD,List.getElem?_eq_getElem h1,List.getElem?_eq_getElem (by simp;omega)] at this
  simp only [Option.getD_some] at this
  rw [this,List.getElem_append_left hi]
 ·rw [List.getElem_append_right (by omega),List.getElem_drop]
  congr 1
  omega
theorem Mut.cells (h:Mut G G' R) {j:Nat} {ro:Bool} {c:List Value} (hj:hget G j=.cells ro c) (hne:j≠R):hget G' j=.cells ro c:=by rw [h.other j hne];exact hj
theorem Mut.alive (h:Mut G G' R) {j:Nat} {B:Blk} (hj:hget G j=B) (hne:j≠R):hget G' j=B:=by rw [h.other j hne];exact hj
theorem Mut.sl {α:Type} {enc:α→List Value} {e:Nat} {p:Option Addr} {l:List α} (h:Mut G G' R) (hs:Sl G enc e p l) (hp:∀a,p=some a→l≠[]→a.block≠R):Sl G' enc e p l:=by
 cases p with
 | none=>exact hs
 | some a=>
   refine ⟨hs.1,fun hn=>?_⟩
   obtain ⟨ro,c,h2,h3⟩:=hs.2 hn
   exact ⟨ro,c,h.cells h2 (hp a rfl hn),h3⟩
theorem mut_set (hR:R<G.length) (b:Blk):∃G',(∀X:Heap,(G++X).set R b=G'++X)∧hget G' R=b∧Mut G G' R:=
 ⟨G.set R b,fun X=>List.set_append_left _ _ hR,hget_set_eq hR,by simp,fun j hj=>hget_set_ne hj⟩
end
def Own {α:Type} (lim:Nat) (G:Heap) (enc:α→List Value) (e:Nat) (p:Option Addr) (cap:Nat) (l:List α):Prop:=
 (l=[]∧p=none∧cap=0)∨∃R,p=some ⟨R,0,none⟩∧cap=loose e∧hget G R=.cells false (l.flatMap enc)∧lim≤R
section
variable {α:Type} {lim e bytes cap:Nat} {G:Heap} {enc:α→List Value} {p:Option Addr} {l m:List α}
theorem Own.nil:Own lim G enc e none 0 []:=.inl ⟨rfl,rfl,rfl⟩
theorem Own.app (h:Own lim G enc e p cap l) (X:Heap):Own lim (G++X) enc e p cap l:=by
 rcases h with h | ⟨R,h1,h2,h3,h4⟩
 ·exact .inl h
 ·exact .inr ⟨R,h1,h2,by rw [hget_old (hget_alive h3)];exact h3,h4⟩
theorem Own.mut {G':Heap} {R:Nat} (h:Own lim G enc e p cap l) (hm:Mut G G' R) (hp:∀a,p=some a→a.block≠R):Own lim G' enc e p cap l:=by
 rcases h with h | ⟨R',h1,h2,h3,h4⟩
 ·exact .inl h
 ·exact .inr ⟨R',h1,h2,hm.cells h3 (hp _ h1),h4⟩
theorem Own.new {R:Nat} (hR:hget G R=.cells false (l.flatMap enc)) (hl:lim≤R):Own lim G enc e (some ⟨R,0,none⟩) (loose e) l:=.inr ⟨R,rfl,rfl,hR,hl⟩
theorem Own.sl (h:Own lim G enc e p cap l) (he:∀x,(enc x).length=e):Sl G enc e p l:=by
 rcases h with ⟨h1,h2,_⟩ | ⟨R,h1,h2,h3,h4⟩
 ·subst h1 h2;rfl
 ·subst h1;exact Sl.lit he (by rw [h3];rfl) (by rw [h3];rfl)
theorem Own.le (h:Own lim G enc e p cap l) {lim':Nat} (hl:lim'≤lim):Own lim' G enc e p cap l:=by
 rcases h with h | ⟨R,h1,h2,h3,h4⟩
 ·exact .inl h
 ·exact .inr ⟨R,h1,h2,h3,by omega⟩
theorem Own.block (h:Own lim G enc e p cap l) {a:Addr} (ha:p=some a):lim≤a.block∧a.block<G.length:=by
 rcases h with ⟨h1,h2,h3⟩ | ⟨R,h1,h2,h3,h4⟩
 ·rw [h2] at ha;cases ha
 ·rw [h1] at ha;cases ha;exact ⟨h4,hget_alive h3⟩
theorem Sl.cells (hs:Sl G enc e p m) (hm:m≠[]):∃a,p=some a∧AM.loadCells G a (m.length*e)=some (m.flatMap enc):=by
 cases p with
 | none=>exact absurd hs hm
 | some a=>
   obtain ⟨k1,k2⟩:=hs
   obtain ⟨ro,cs,k3,k4,k5⟩:=k2 hm
   refine ⟨a,rfl, ?_⟩
   obtain ⟨ab,ao,as'⟩:=a
   simp only [loadCells_lit]
   simp only at k3 k4 k5
   simp only [k3]
   rw [if_pos k4,k5]
theorem Own.push {lim':Nat} (h:Own lim G enc e p cap l) (hll:lim'≤lim) (he:∀x,(enc x).length=e) (he0:e≠0) (m:List α) (hm:m≠[]) (hb:(l.length+m.length)*bytes≤maxBytes) (hn:l.length+m.length<2 ^ 61) :
  ∃(G':Heap) (R:Nat),(p=none→R=G.length)∧(∀a,p=some a→R=a.block)∧Mut G G' R∧(∀j,j≠R→hget G' j=hget G j)∧(∀H0:Heap,Ext H0 G→H0.length≤lim→Ext H0 G')∧
   (∀(X:Heap) (px:Option Addr) (k:Nat),Sl (G++X) enc e px m→aAppend lim' none e bytes false (.slice p l.length cap) (.slice px m.length k) (G++X)=some (.slice (some ⟨G.length+X.length,0,none⟩) (l.length+m.length) (loose e),G'++(X++[.cells false ((l++m).flatMap enc)]))):=by
 have hm0:¬m.length=0:=by intro q;exact hm (List.length_eq_zero_iff.1 q)
 rcases h with ⟨h1,h2,h3⟩ | ⟨R,h1,h2,h3,h4⟩
 ·subst h1 h2 h3
  refine ⟨G,G.length,fun _=>rfl,fun a h=>(by cases h),⟨rfl,fun j _=>rfl⟩,fun j _=>rfl,fun H0 h _=>h,fun X px k hx=>?_⟩
  obtain ⟨a,rfl,hl⟩:=hx.cells hm
  simp only [List.length_nil,Nat.zero_add] at hb hn
  simp only [aAppend,firstCells,lenOf,hl,hm0,if_false,Bool.false_eq_true,List.length_nil,Nat.zero_add]
  rw [if_neg (by omega)]
  simp [place]
 ·subst h1 h2
  have hRl:=hget_alive h3
  refine ⟨G.set R .dead,R,fun h=>(by cases h),fun a h=>(by cases h;rfl),⟨by simp,fun j hj=>hget_set_ne hj⟩,fun j hj=>hget_set_ne hj,fun H0 h hl=>Mut.ext (R:=R) ⟨by simp,fun j hj=>hget_set_ne hj⟩ h (by omega),fun X px k hx=>?_⟩
  obtain ⟨a,rfl,hl⟩:=hx.cells hm
  have hR':hget (G++X) R=.cells false (l.flatMap enc):=by rw [hget_old hRl];exact h3
  have hold:AM.loadCells (G++X) ⟨R,0,none⟩ (l.length*e)=some (l.flatMap enc):=by
   simp only [loadCells_lit,hR',Nat.zero_add,flat_len he,Nat.le_refl,if_true,List.drop_zero]
   rw [List.take_of_length_le (by rw [flat_len he];exact Nat.le_refl _)]
  simp only [aAppend,firstCells,lenOf,hl,hold,hR',hm0,if_false,Bool.false_eq_true,if_true]
  rw [if_neg (by unfold loose;omega)]
  simp [show lim'≤R by omega,place,List.set_append_left _ _ hRl,List.append_assoc]
theorem Own.push1 {lim':Nat} (h:Own lim G enc e p cap l) (hll:lim'≤lim) (he:∀x,(enc x).length=e) (he0:e≠0) (x:α) (hb:(l.length+1)*bytes≤maxBytes) (hn:l.length+1<2 ^ 61) :
  ∃(G':Heap) (R:Nat),(p=none→R=G.length)∧(∀a,p=some a→R=a.block)∧Mut G G' R∧(∀H0:Heap,Ext H0 G→H0.length≤lim→Ext H0 G')∧
   (∀(X:Heap) (b k:Nat),hget (G++X) b=.cells false (enc x)→aAppend lim' none e bytes false (.slice p l.length cap) (.slice (some ⟨b,0,none⟩) 1 k) (G++X)=some (.slice (some ⟨G.length+X.length,0,none⟩) (l.length+1) (loose e),G'++(X++[.cells false ((l++[x]).flatMap enc)]))):=by
 obtain ⟨G',R,h1,h2,h3,_,h4,h5⟩:=h.push hll he he0 [x] (by simp) (by simpa using hb) (by simpa using hn)
 refine ⟨G',R,h1,h2,h3,h4,fun X b k hx=>?_⟩
 exact h5 X (some ⟨b,0,none⟩) k (Sl.lit he (by rw [hx];rfl) (by rw [hx];simp [cellsOf]))
def boundsV (len cap:Nat) (lo hi mx:Option Value):Option (Nat×Nat×Nat):=bounds (fun o=>match o with | .const v=>v | _=>undef) len cap (lo.map .const) (hi.map .const) (mx.map .const)
theorem bounds_V {ρ:Operand→Value} {len cap:Nat} {lo hi mx:Option Operand}:bounds ρ len cap lo hi mx=boundsV len cap (lo.map ρ) (hi.map ρ) (mx.map ρ):=by
 unfold boundsV
 cases lo<;>cases hi<;>cases mx<;>rfl
theorem bound_int {n:Int} {m:Nat} {kk:IntKind} (h0:0≤n) (h:n≤(m:Int)):bound (.int kk n) m=some n.toNat:=by
 simp only [bound];rw [if_pos ⟨h0,h⟩]
section
variable {len:Nat} {k1 k2 k3:IntKind} {l h x:Int}
theorem bv_010 (h0:0≤h) (h1:h≤(cap:Int)):boundsV len cap none (some (.int k1 h)) none=some (0,h.toNat,cap):=by
 delta boundsV bounds;simp only [Option.map_some,Option.map_none,bound_int h0 h1]
end
end
def hdC:ACode→ACode
 | .seq a _=>a
 | c=>c
def tlC:ACode→ACode
 | .seq _ b=>b
 | _=>.skip
end Go.AM

