/-
  Joined texts, 4 of 7. A part of the claim that the last text states.
-/
import Derived.Sort.AssemblyPlain
import Derived.Test.YtjmmhkodgileiabPA3
namespace Go.Proofs.Ytjmmhkodgileiab.Fn
open Go.AM Go.AM.Sym
set_option maxRecDepth 100000
def pure:List FuncId:=[4,7,14,24,32,35,57,58,59,63,70,72,74,76,77,86,87,89,90,99,100,102]
def pf:FuncId→Bool:=fun f=>pure.contains f
def l4_1:ACode:=(.seq (.ops [i 186 (.bin .lss (t 185) (t 184))]) (.seq (.cond (t 186) .skip (.exit 5)) (.seq (.block 6 (.seq (.ops [i 187 (.mov (t 185)),i 188 (.idxAddrS 1 (t 183) (t 185)),i 189 (.load1 (t 188)),i 23 (.mov (t 187)),i 24 (.mov (t 189))]) (.seq (.ops [i 190 (.mov (t 24)),i 191 (.fieldAddr 0 (t 17)),i 192 (.fieldAddr 1 (t 191)),i 193 (.load1 (t 192)),i 194 (.bin .eql (t 190) (t 193)),i 195 (.mov (t 194)),⟨(some 196),(some (195,true)),(.mov (t 21)),none,[]⟩,⟨(some 197),(some (195,true)),(.mov (t 23)),none,[]⟩,⟨(some 198),(some (195,true)),(.idxAddrS 1 (t 196) (t 197)),none,[]⟩,⟨(some 199),(some (195,true)),(.load1 (t 198)),none,[]⟩,⟨(some 200),(some (195,true)),(.bin .geq (t 199) (k (.int .i64 0))),none,[]⟩,i 201 (.pick (t 195) (t 200) (k (.bool false)))]) (.cond (t 201) (.drawn 0 [i 202 (.mov (t 21)),i 203 (.mov (t 23)),i 204 (.idxAddrS 1 (t 202) (t 203)),i 205 (.load1 (t 204)),i 206 (.fieldAddr 6 (t 17)),i 207 (.load1 (t 206)),i 208 (.bin .sub (t 205) (t 207)),i 209 (.minmax true [(t 208),(k (.int .i64 0))]),i 210 (.minmax false [(t 209),(k (.int .i64 60))]),i 20 (.mov (t 210))]) .skip)))) (.ops [i 211 (.bin .add (t 185) (k (.int .i64 1))),i 185 (.mov (t 211))]))))
def l4_2:ACode:=(.seq (.ops [i 93 (.bin .lss (t 92) (t 91))]) (.seq (.cond (t 93) .skip (.exit 2)) (.seq (.block 3 (.seq (.ops [i 94 (.mov (t 92)),i 95 (.idxAddrS 3 (t 90) (t 92)),i 96 (.loadN 3 (t 95)),i 15 (.alloc [(.int .i64 0),(.int .i64 0),(.int .i64 0)]),i 14 (.mov (t 94)),⟨none,none,(.store 3 (t 15) (t 96)),none,[]⟩]) (.seq (.drawn 2 [i 97 (.mov (t 8)),i 98 (.mov (t 9)),i 99 (.mov (t 14)),i 100 (.idxAddrS 1 (t 98) (t 99)),⟨(some 101),none,(.load1 (t 100)),none,[0,1]⟩,i 102 (.idxAddrS 7 (t 97) (t 101)),⟨(some 103),none,(.loadN 7 (t 102)),none,[0,1]⟩,i 104 (.mov (t 8)),i 105 (.mov (t 9)),i 106 (.mov (t 14)),i 107 (.bin .add (t 106) (k (.int .i64 1))),i 108 (.idxAddrS 1 (t 105) (t 107)),⟨(some 109),none,(.load1 (t 108)),none,[0,1]⟩,i 110 (.idxAddrS 7 (t 104) (t 109)),⟨(some 111),none,(.loadN 7 (t 110)),none,[0,1]⟩,⟨(some 16),none,(.alloc [(.int .i64 0),(.int .i64 0),(.int .i64 0),(.int .u8 0),(.int .i64 0),(.int .i64 0),(.int .i64 0)]),(some 0),[]⟩,⟨(some 17),none,(.alloc [(.int .i64 0),(.int .i64 0),(.int .i64 0),(.int .u8 0),(.int .i64 0),(.int .i64 0),(.int .i64 0)]),(some 1),[]⟩,⟨none,none,(.storeD 7 (t 16) (t 103)),(some 0),[]⟩,⟨none,none,(.storeD 7 (t 17) (t 111)),(some 1),[]⟩]) (.seq (.ops [i 113 (.loadN 2 (t 7)),i 114 (.loadN 7 (t 16)),i 115 (.loadN 7 (t 17)),i 116 (.call .any (.func 14) [(t 113),(t 114),(t 115)]),i 112 (.mov (t 116)),i 117 (.extract 0 (t 112)),i 118 (.extract 1 (t 112)),i 18 (.mov (t 117)),i 19 (.mov (t 118))]) (.seq (.seq (.drawn 0 [i 119 (.mov (t 19)),i 120 (.bin .neq (t 119) (k (.int .i64 0))),i 121 (.mov (t 120)),⟨(some 122),(some (121,false)),(.loadN 3 (t 15)),none,[]⟩,⟨(some 123),(some (121,false)),(.mov (t 9)),none,[]⟩,⟨(some 124),(some (121,false)),(.mov (t 14)),none,[]⟩,⟨(some 125),(some (121,false)),(.idxAddrS 1 (t 123) (t 124)),none,[]⟩,⟨(some 126),(some (121,false)),(.load1 (t 125)),none,[]⟩,⟨(some 127),(some (121,false)),(.mov (t 9)),none,[]⟩,⟨(some 128),(some (121,false)),(.mov (t 14)),none,[]⟩,⟨(some 129),(some (121,false)),(.bin .add (t 128) (k (.int .i64 1))),none,[]⟩,⟨(some 130),(some (121,false)),(.idxAddrS 1 (t 127) (t 129)),none,[]⟩,⟨(some 131),(some (121,false)),(.load1 (t 130)),none,[]⟩,⟨(some 132),(some (121,false)),(.mov (t 18)),none,[]⟩,⟨(some 133),(some (121,false)),(.build [(.int .i64 0),(.int .i64 0),(.int .i64 0)] [(0,(1,(t 126))),(1,(1,(t 131))),(2,(1,(t 132)))]),none,[]⟩,⟨(some 134),(some (121,false)),(.eqv true (.agg [(.int .i64),(.int .i64),(.int .i64)]) (t 122) (t 133)),none,[]⟩,i 135 (.pick (t 121) (k (.bool true)) (t 134))]) (.cond (t 135) (.seq (.ops [i 6 (.mov (k (.bool false)))]) .ret) .skip)) (.seq (.ops [i 136 (.mov (t 13)),i 137 (.mov (t 18)),i 138 (.bin .add (t 136) (t 137)),i 13 (.mov (t 138))]) (.seq (.ops [i 20 (.mov (k (.int .i64 80)))]) (.seq (.seq (.ops [i 139 (.fieldAddr 0 (t 16)),i 140 (.fieldAddr 3 (t 139)),i 141 (.load1 (t 140)),i 142 (.bin .neq (t 141) (k (.int .u8 4)))]) (.cond (t 142) (.block 4 (.seq (.ops [i 144 (.fieldAddr 0 (t 16)),i 145 (.fieldAddr 1 (t 144)),i 146 (.load1 (t 145)),i 147 (.fieldAddr 0 (t 17)),i 148 (.fieldAddr 1 (t 147)),i 149 (.load1 (t 148)),i 150 (.bin .eql (t 146) (t 149)),i 143 (.mov (t 150))]) (.cond (t 143) (.ops [i 20 (.mov (k (.int .i64 0)))]) (.seq (.ops [i 152 (.fieldAddr 0 (t 16)),i 153 (.fieldAddr 1 (t 152)),i 154 (.load1 (t 153)),i 155 (.bin .lss (t 154) (k (.int .i64 6))),i 156 (.mov (t 155)),⟨(some 157),(some (156,true)),(.fieldAddr 0 (t 17)),none,[]⟩,⟨(some 158),(some (156,true)),(.fieldAddr 1 (t 157)),none,[]⟩,⟨(some 159),(some (156,true)),(.load1 (t 158)),none,[]⟩,⟨(some 160),(some (156,true)),(.bin .lss (t 159) (k (.int .i64 6))),none,[]⟩,i 161 (.pick (t 156) (t 160) (k (.bool false))),i 151 (.mov (t 161))]) (.cond (t 151) (.seq (.ops [i 163 (.loadN 2 (t 7)),i 164 (.fieldAddr 0 (t 16)),i 165 (.fieldAddr 1 (t 164)),i 166 (.load1 (t 165)),i 167 (.fieldAddr 6 (t 16)),i 168 (.load1 (t 167)),i 169 (.call .any (.func 25) [(t 163),(t 166),(t 168)]),i 162 (.mov (t 169)),i 170 (.extract 0 (t 162)),i 171 (.extract 1 (t 162)),i 21 (.mov (t 170)),i 22 (.mov (t 171))]) (.seq (.seq (.ops [i 172 (.mov (t 22)),i 173 (.bin .neq (t 172) (k (.int .i64 0))),i 174 (.mov (t 173)),⟨(some 175),(some (174,false)),(.mov (t 21)),none,[]⟩,⟨(some 176),(some (174,false)),(.lenSlice (t 175)),none,[]⟩,⟨(some 177),(some (174,false)),(.fieldAddr 0 (t 7)),none,[]⟩,⟨(some 178),(some (174,false)),(.load1 (t 177)),none,[]⟩,⟨(some 179),(some (174,false)),(.lenSlice (t 178)),none,[]⟩,⟨(some 180),(some (174,false)),(.bin .neq (t 176) (t 179)),none,[]⟩,i 181 (.pick (t 174) (k (.bool true)) (t 180))]) (.cond (t 181) (.seq (.ops [i 6 (.mov (k (.bool false)))]) .ret) .skip)) (.seq (.ops [i 182 (.fieldAddr 0 (t 7)),i 183 (.load1 (t 182)),i 184 (.lenSlice (t 183)),i 185 (.mov (k (.int .i64 0)))]) (.block 5 (.loop l4_1))))) .skip))))) .skip)) (.seq (.ops [i 212 (.mov (t 18)),i 213 (.mov (t 20)),i 214 (.bin .neq (t 212) (t 213))]) (.cond (t 214) (.seq (.ops [i 6 (.mov (k (.bool false)))]) .ret) .skip)))))))))) (.ops [i 215 (.bin .add (t 92) (k (.int .i64 1))),i 92 (.mov (t 215))]))))
def l4_3:ACode:=(.seq (.ops [i 32 (.bin .lss (t 31) (t 30))]) (.seq (.cond (t 32) .skip (.exit 0)) (.seq (.block 1 (.seq (.ops [i 33 (.mov (t 31)),i 10 (.mov (t 33))]) (.seq (.ops [i 34 (.mov (t 2)),i 35 (.mov (t 10)),i 36 (.bin .shr (t 34) (t 35)),i 37 (.bin .and (t 36) (k (.int .u16 1))),i 38 (.bin .eql (t 37) (k (.int .u16 1)))]) (.cond (t 38) (.ops [i 39 (.mov (t 9)),i 40 (.mov (t 10)),i 41 (.buildSlice 1 [(.int .i64 0)] [(0,(1,(t 40)))]),i 42 (.append 1 8 false (t 39) (t 41)),i 9 (.mov (t 42))]) .skip)))) (.ops [i 43 (.bin .add (t 31) (k (.int .i64 1))),i 31 (.mov (t 43))]))))
def c4:ACode:=(.seq (.ops [i 6 (.mov (k (.bool false)))]) (.seq (.ops [i 25 (.mov (t 0)),i 26 (.call .any (.func 22) [(t 25)]),i 27 (.mov (t 1)),i 28 (.call .any (.func 23) [(t 27),(k (.int .i64 10))]),i 7 (.alloc [(.slice none 0 0),(.slice none 0 0)]),⟨none,none,(.store 2 (t 7) (t 26)),none,[]⟩,i 8 (.mov (t 28))]) (.seq (.ops [i 9 (.mov (k (.slice none 0 0)))]) (.seq (.seq (.ops [i 29 (.mov (t 8)),i 30 (.lenSlice (t 29)),i 31 (.mov (k (.int .i64 0)))]) (.block 0 (.loop l4_3))) (.seq (.ops [i 45 (.loadN 2 (t 7)),i 46 (.mov (t 8)),i 47 (.mov (t 9)),i 48 (.call .any (.func 11) [(t 45),(t 46),(t 47)]),i 44 (.mov (t 48)),i 49 (.extract 0 (t 44)),i 50 (.extract 1 (t 44)),i 11 (.alloc [(.slice none 0 0),(.slice none 0 0),(.int .i64 0)]),⟨none,none,(.store 3 (t 11) (t 49)),none,[]⟩,i 12 (.mov (t 50))]) (.seq (.seq (.ops [i 51 (.mov (t 9)),i 52 (.lenSlice (t 51)),i 53 (.bin .eql (t 52) (k (.int .i64 0))),i 54 (.mov (t 53)),⟨(some 55),(some (54,true)),(.mov (t 8)),none,[]⟩,⟨(some 56),(some (54,true)),(.lenSlice (t 55)),none,[]⟩,⟨(some 57),(some (54,true)),(.bin .gtr (t 56) (k (.int .i64 0))),none,[]⟩,i 58 (.pick (t 54) (t 57) (k (.bool false)))]) (.cond (t 58) (.seq (.ops [i 59 (.mov (t 12)),i 60 (.bin .eql (t 59) (k (.int .i64 2))),i 61 (.mov (t 60)),⟨(some 62),(some (61,true)),(.call .any (.func 7) []),none,[]⟩,i 63 (.pick (t 61) (t 62) (k (.bool false))),i 6 (.mov (t 63))]) .ret) .skip)) (.seq (.seq (.ops [i 64 (.mov (t 12)),i 65 (.bin .neq (t 64) (k (.int .i64 0))),i 66 (.mov (t 65)),⟨(some 67),(some (66,false)),(.fieldAddr 0 (t 11)),none,[]⟩,⟨(some 68),(some (66,false)),(.load1 (t 67)),none,[]⟩,⟨(some 69),(some (66,false)),(.mov (t 9)),none,[]⟩,⟨(some 70),(some (66,false)),(.call .any (.func 24) [(t 68),(t 69)]),none,[]⟩,⟨(some 71),(some (66,false)),(.un .not (t 70)),none,[]⟩,i 72 (.pick (t 66) (k (.bool true)) (t 71)),i 73 (.mov (t 72)),⟨(some 74),(some (73,false)),(.fieldAddr 1 (t 11)),none,[]⟩,⟨(some 75),(some (73,false)),(.load1 (t 74)),none,[]⟩,⟨(some 76),(some (73,false)),(.lenSlice (t 75)),none,[]⟩,⟨(some 77),(some (73,false)),(.mov (t 9)),none,[]⟩,⟨(some 78),(some (73,false)),(.lenSlice (t 77)),none,[]⟩,⟨(some 79),(some (73,false)),(.bin .sub (t 78) (k (.int .i64 1))),none,[]⟩,⟨(some 80),(some (73,false)),(.minmax true [(t 79),(k (.int .i64 0))]),none,[]⟩,⟨(some 81),(some (73,false)),(.bin .neq (t 76) (t 80)),none,[]⟩,i 82 (.pick (t 73) (k (.bool true)) (t 81))]) (.cond (t 82) (.seq (.ops [i 6 (.mov (k (.bool false)))]) .ret) .skip)) (.seq (.ops [i 83 (.mov (t 8)),i 84 (.lenSlice (t 83)),i 85 (.mov (t 9)),i 86 (.lenSlice (t 85)),i 87 (.bin .sub (t 84) (t 86)),i 88 (.bin .mul (k (.int .i64 30)) (t 87)),i 13 (.mov (t 88))]) (.seq (.seq (.ops [i 89 (.fieldAddr 1 (t 11)),i 90 (.load1 (t 89)),i 91 (.lenSlice (t 90)),i 92 (.mov (k (.int .i64 0)))]) (.block 2 (.loop l4_2))) (.seq (.ops [i 216 (.fieldAddr 2 (t 11)),i 217 (.load1 (t 216)),i 218 (.mov (t 13)),i 219 (.bin .eql (t 217) (t 218)),i 220 (.mov (t 219)),⟨(some 221),(some (220,true)),(.call .any (.func 7) []),none,[]⟩,i 222 (.pick (t 220) (t 221) (k (.bool false))),i 6 (.mov (t 222))]) .ret))))))))))
def a4:AFunc:=⟨223,[(.tmp 6)],c4⟩
theorem n4:a4.ntmps=223:=id rfl
theorem r4:a4.results=[(.tmp 6)]:=rfl
theorem b4:a4.body=c4:=rfl
def c7:ACode:=(.seq (.ops [i 0 (.mov (k (.bool false)))]) (.seq (.ops [i 15 (.call .any (.func 31) []),i 1 (.alloc [(.slice none 0 0),(.slice none 0 0)]),⟨none,none,(.store 2 (t 1) (t 15)),none,[]⟩]) (.seq (.drawn 0 [i 17 (.loadN 2 (t 1)),i 18 (.call .pure (.func 32) [(k (.int .i64 1)),(k (.int .i64 500))]),i 19 (.call .pure (.func 32) [(k (.int .i64 2)),(k (.int .i64 660))]),i 20 (.call .pure (.func 14) [(t 17),(t 18),(t 19)]),i 16 (.mov (t 20)),i 21 (.extract 0 (t 16)),i 22 (.extract 1 (t 16)),i 2 (.mov (t 21)),i 3 (.mov (t 22))]) (.seq (.drawn 0 [i 24 (.loadN 2 (t 1)),i 25 (.call .pure (.func 32) [(k (.int .i64 1)),(k (.int .i64 500))]),i 26 (.call .pure (.func 32) [(k (.int .i64 2)),(k (.int .i64 650))]),i 27 (.call .pure (.func 14) [(t 24),(t 25),(t 26)]),i 23 (.mov (t 27)),i 28 (.extract 0 (t 23)),i 29 (.extract 1 (t 23)),i 4 (.mov (t 28)),i 5 (.mov (t 29))]) (.seq (.drawn 0 [i 31 (.loadN 2 (t 1)),i 32 (.call .pure (.func 32) [(k (.int .i64 1)),(k (.int .i64 200))]),i 33 (.call .pure (.func 32) [(k (.int .i64 2)),(k (.int .i64 300))]),i 34 (.call .pure (.func 14) [(t 31),(t 32),(t 33)]),i 30 (.mov (t 34)),i 35 (.extract 0 (t 30)),i 36 (.extract 1 (t 30)),i 6 (.mov (t 35)),i 7 (.mov (t 36))]) (.seq (.drawn 0 [i 38 (.loadN 2 (t 1)),i 39 (.call .pure (.func 32) [(k (.int .i64 2)),(k (.int .i64 500))]),i 40 (.call .pure (.func 32) [(k (.int .i64 1)),(k (.int .i64 5000))]),i 41 (.call .pure (.func 14) [(t 38),(t 39),(t 40)]),i 37 (.mov (t 41)),i 42 (.extract 0 (t 37)),i 43 (.extract 1 (t 37)),i 8 (.mov (t 42)),i 9 (.mov (t 43))]) (.seq (.ops [i 44 (.call .any (.func 32) [(k (.int .i64 1)),(k (.int .i64 500))]),i 45 (.call .any (.func 32) [(k (.int .i64 2)),(k (.int .i64 510))]),i 46 (.call .any (.func 32) [(k (.int .i64 2)),(k (.int .i64 660))]),i 47 (.buildSlice 3 [(.int .i64 0),(.int .i64 0),(.int .i64 0),(.int .u8 0),(.int .i64 0),(.int .i64 0),(.int .i64 0),(.int .i64 0),(.int .i64 0),(.int .i64 0),(.int .u8 0),(.int .i64 0),(.int .i64 0),(.int .i64 0),(.int .i64 0),(.int .i64 0),(.int .i64 0),(.int .u8 0),(.int .i64 0),(.int .i64 0),(.int .i64 0)] [(0,(7,(t 44))),(7,(7,(t 45))),(14,(7,(t 46)))]),i 10 (.mov (t 47))]) (.seq (.ops [i 49 (.loadN 2 (t 1)),i 50 (.mov (t 10)),i 51 (.call .any (.func 10) [(t 49),(t 50)]),i 48 (.mov (t 51)),i 52 (.extract 0 (t 48)),i 53 (.extract 1 (t 48)),i 11 (.alloc [(.slice none 0 0),(.slice none 0 0),(.int .i64 0)]),⟨none,none,(.store 3 (t 11) (t 52)),none,[]⟩,i 12 (.mov (t 53))]) (.seq (.ops [i 55 (.loadN 2 (t 1)),i 56 (.mov (t 10)),i 57 (.buildSlice 3 [(.int .i64 0),(.int .i64 0),(.int .i64 0)] [(0,(1,(k (.int .i64 0)))),(1,(1,(k (.int .i64 1)))),(2,(1,(k (.int .i64 2))))]),i 58 (.call .any (.func 11) [(t 55),(t 56),(t 57)]),i 54 (.mov (t 58)),i 59 (.extract 0 (t 54)),i 60 (.extract 1 (t 54)),i 13 (.alloc [(.slice none 0 0),(.slice none 0 0),(.int .i64 0)]),⟨none,none,(.store 3 (t 13) (t 59)),none,[]⟩,i 14 (.mov (t 60))]) (.seq (.ops [i 61 (.mov (t 3)),i 62 (.mov (t 5)),i 63 (.bin .add (t 61) (t 62)),i 64 (.mov (t 7)),i 65 (.bin .add (t 63) (t 64)),i 66 (.mov (t 9)),i 67 (.bin .add (t 65) (t 66)),i 68 (.mov (t 12)),i 69 (.bin .add (t 67) (t 68)),i 70 (.mov (t 14)),i 71 (.bin .add (t 69) (t 70)),i 72 (.bin .eql (t 71) (k (.int .i64 0))),i 73 (.mov (t 72)),⟨(some 74),(some (73,true)),(.mov (t 2)),none,[]⟩,⟨(some 75),(some (73,true)),(.bin .eql (t 74) (k (.int .i64 0))),none,[]⟩,i 76 (.pick (t 73) (t 75) (k (.bool false))),i 77 (.mov (t 76)),⟨(some 78),(some (77,true)),(.mov (t 4)),none,[]⟩,⟨(some 79),(some (77,true)),(.bin .eql (t 78) (k (.int .i64 10))),none,[]⟩,i 80 (.pick (t 77) (t 79) (k (.bool false))),i 81 (.mov (t 80)),⟨(some 82),(some (81,true)),(.mov (t 6)),none,[]⟩,⟨(some 83),(some (81,true)),(.bin .eql (t 82) (k (.int .i64 60))),none,[]⟩,i 84 (.pick (t 81) (t 83) (k (.bool false))),i 85 (.mov (t 84)),⟨(some 86),(some (85,true)),(.mov (t 8)),none,[]⟩,⟨(some 87),(some (85,true)),(.bin .eql (t 86) (k (.int .i64 80))),none,[]⟩,i 88 (.pick (t 85) (t 87) (k (.bool false))),i 89 (.mov (t 88)),⟨(some 90),(some (89,true)),(.fieldAddr 2 (t 11)),none,[]⟩,⟨(some 91),(some (89,true)),(.load1 (t 90)),none,[]⟩,⟨(some 92),(some (89,true)),(.bin .eql (t 91) (k (.int .i64 30))),none,[]⟩,i 93 (.pick (t 89) (t 92) (k (.bool false))),i 94 (.mov (t 93)),⟨(some 95),(some (94,true)),(.fieldAddr 0 (t 11)),none,[]⟩,⟨(some 96),(some (94,true)),(.load1 (t 95)),none,[]⟩,⟨(some 97),(some (94,true)),(.buildSlice 2 [(.int .i64 0),(.int .i64 0)] [(0,(1,(k (.int .i64 0)))),(1,(1,(k (.int .i64 2))))]),none,[]⟩,⟨(some 98),(some (94,true)),(.call .any (.func 24) [(t 96),(t 97)]),none,[]⟩,i 99 (.pick (t 94) (t 98) (k (.bool false))),i 100 (.mov (t 99)),⟨(some 101),(some (100,true)),(.fieldAddr 1 (t 11)),none,[]⟩,⟨(some 102),(some (100,true)),(.load1 (t 101)),none,[]⟩,⟨(some 103),(some (100,true)),(.lenSlice (t 102)),none,[]⟩,⟨(some 104),(some (100,true)),(.bin .eql (t 103) (k (.int .i64 1))),none,[]⟩,i 105 (.pick (t 100) (t 104) (k (.bool false))),i 106 (.mov (t 105)),⟨(some 107),(some (106,true)),(.fieldAddr 1 (t 11)),none,[]⟩,⟨(some 108),(some (106,true)),(.load1 (t 107)),none,[]⟩,⟨(some 109),(some (106,true)),(.idxAddrS 3 (t 108) (k (.int .i64 0))),none,[]⟩,⟨(some 110),(some (106,true)),(.loadN 3 (t 109)),none,[]⟩,⟨(some 111),(some (106,true)),(.build [(.int .i64 0),(.int .i64 0),(.int .i64 0)] [(0,(1,(k (.int .i64 0)))),(1,(1,(k (.int .i64 2))))]),none,[]⟩,⟨(some 112),(some (106,true)),(.eqv false (.agg [(.int .i64),(.int .i64),(.int .i64)]) (t 110) (t 111)),none,[]⟩,i 113 (.pick (t 106) (t 112) (k (.bool false))),i 114 (.mov (t 113)),⟨(some 115),(some (114,true)),(.fieldAddr 2 (t 13)),none,[]⟩,⟨(some 116),(some (114,true)),(.load1 (t 115)),none,[]⟩,⟨(some 117),(some (114,true)),(.bin .eql (t 116) (k (.int .i64 60))),none,[]⟩,i 118 (.pick (t 114) (t 117) (k (.bool false))),i 0 (.mov (t 118))]) .ret))))))))))
def a7:AFunc:=⟨119,[(.tmp 0)],c7⟩
theorem n7:a7.ntmps=119:=id rfl
theorem r7:a7.results=[(.tmp 0)]:=rfl
theorem b7:a7.body=c7:=rfl
def c10:ACode:=(.seq (.ops [i 2 (.box (t 0)),i 4 (.alloc [(.slice none 0 0),(.slice none 0 0),(.int .i64 0)]),i 5 (.mov (k (.int .i64 0)))]) (.seq (.seq (.ops [i 8 (.loadN 2 (t 2)),i 9 (.mov (t 1)),i 10 (.call .any (.func 35) [(t 8),(t 9)]),i 6 (.mov (t 10))]) (.seq (.ops [i 11 (.mov (t 6)),i 12 (.bin .neq (t 11) (k (.int .i64 0)))]) (.cond (t 12) (.seq (.ops [i 13 (.build [(.slice none 0 0),(.slice none 0 0),(.int .i64 0)] []),i 14 (.mov (t 6)),⟨none,none,(.store 3 (t 4) (t 13)),none,[]⟩,i 5 (.mov (t 14))]) .ret) .skip))) (.seq (.ops [i 15 (.loadN 2 (t 2)),i 16 (.call .any (.func 36) [(t 15)]),i 7 (.mov (t 16))]) (.seq (.ops [i 17 (.mov (t 7)),i 18 (.mov (t 1)),i 19 (.mov (t 7)),i 20 (.mov (t 1)),i 21 (.call .any (.func 38) [(t 19),(t 20)]),i 22 (.call .any (.func 37) [(t 17),(t 18),(t 21)]),⟨none,none,(.store 3 (t 4) (t 22)),none,[]⟩,i 5 (.mov (k (.int .i64 0)))]) .ret))))
def a10:AFunc:=⟨23,[(.cellN 3 4),(.tmp 5)],c10⟩
theorem n10:a10.ntmps=23:=id rfl
theorem r10:a10.results=[(.cellN 3 4),(.tmp 5)]:=rfl
theorem b10:a10.body=c10:=rfl
def l11_1:ACode:=(.seq (.ops [i 30 (.bin .lss (t 29) (t 28))]) (.seq (.cond (t 30) .skip (.exit 0)) (.seq (.block 1 (.seq (.ops [i 31 (.mov (t 29)),i 32 (.idxAddrS 1 (t 27) (t 29)),i 33 (.load1 (t 32)),i 9 (.mov (t 31)),i 10 (.mov (t 33))]) (.seq (.ops [i 34 (.mov (t 10)),i 35 (.bin .lss (t 34) (k (.int .i64 0))),i 36 (.mov (t 35)),⟨(some 37),(some (36,false)),(.mov (t 10)),none,[]⟩,⟨(some 38),(some (36,false)),(.mov (t 1)),none,[]⟩,⟨(some 39),(some (36,false)),(.lenSlice (t 38)),none,[]⟩,⟨(some 40),(some (36,false)),(.bin .geq (t 37) (t 39)),none,[]⟩,i 41 (.pick (t 36) (k (.bool true)) (t 40)),i 42 (.mov (t 41)),⟨(some 43),(some (42,false)),(.mov (t 9)),none,[]⟩,⟨(some 44),(some (42,false)),(.bin .gtr (t 43) (k (.int .i64 0))),none,[]⟩,⟨(some 45),(some (42,false)),(.mov (t 44)),none,[]⟩,⟨(some 46),(some (45,true)),(.mov (t 10)),none,[]⟩,⟨(some 47),(some (45,true)),(.mov (t 2)),none,[]⟩,⟨(some 48),(some (45,true)),(.mov (t 9)),none,[]⟩,⟨(some 49),(some (45,true)),(.bin .sub (t 48) (k (.int .i64 1))),none,[]⟩,⟨(some 50),(some (45,true)),(.idxAddrS 1 (t 47) (t 49)),none,[]⟩,⟨(some 51),(some (45,true)),(.load1 (t 50)),none,[]⟩,⟨(some 52),(some (45,true)),(.bin .leq (t 46) (t 51)),none,[]⟩,⟨(some 53),(some (42,false)),(.pick (t 45) (t 52) (k (.bool false))),none,[]⟩,i 54 (.pick (t 42) (k (.bool true)) (t 53))]) (.cond (t 54) (.seq (.ops [i 55 (.build [(.slice none 0 0),(.slice none 0 0),(.int .i64 0)] []),⟨none,none,(.store 3 (t 6) (t 55)),none,[]⟩,i 7 (.mov (k (.int .i64 2)))]) .ret) .skip)))) (.ops [i 56 (.bin .add (t 29) (k (.int .i64 1))),i 29 (.mov (t 56))]))))
def c11:ACode:=(.seq (.ops [i 3 (.box (t 0)),i 6 (.alloc [(.slice none 0 0),(.slice none 0 0),(.int .i64 0)]),i 7 (.mov (k (.int .i64 0)))]) (.seq (.seq (.ops [i 11 (.loadN 2 (t 3)),i 12 (.mov (t 1)),i 13 (.call .any (.func 35) [(t 11),(t 12)]),i 8 (.mov (t 13))]) (.seq (.ops [i 14 (.mov (t 8)),i 15 (.bin .neq (t 14) (k (.int .i64 0)))]) (.cond (t 15) (.seq (.ops [i 16 (.build [(.slice none 0 0),(.slice none 0 0),(.int .i64 0)] []),i 17 (.mov (t 8)),⟨none,none,(.store 3 (t 6) (t 16)),none,[]⟩,i 7 (.mov (t 17))]) .ret) .skip))) (.seq (.seq (.ops [i 18 (.mov (t 2)),i 19 (.lenSlice (t 18)),i 20 (.bin .eql (t 19) (k (.int .i64 0))),i 21 (.mov (t 20)),⟨(some 22),(some (21,true)),(.mov (t 1)),none,[]⟩,⟨(some 23),(some (21,true)),(.lenSlice (t 22)),none,[]⟩,⟨(some 24),(some (21,true)),(.bin .gtr (t 23) (k (.int .i64 0))),none,[]⟩,i 25 (.pick (t 21) (t 24) (k (.bool false)))]) (.cond (t 25) (.seq (.ops [i 26 (.build [(.slice none 0 0),(.slice none 0 0),(.int .i64 0)] []),⟨none,none,(.store 3 (t 6) (t 26)),none,[]⟩,i 7 (.mov (k (.int .i64 2)))]) .ret) .skip)) (.seq (.seq (.ops [i 27 (.mov (t 2)),i 28 (.lenSlice (t 27)),i 29 (.mov (k (.int .i64 0)))]) (.block 0 (.loop l11_1))) (.seq (.ops [i 57 (.loadN 2 (t 3)),i 58 (.call .any (.func 36) [(t 57)]),i 59 (.mov (t 1)),i 60 (.mov (t 2)),i 61 (.call .any (.func 37) [(t 58),(t 59),(t 60)]),⟨none,none,(.store 3 (t 6) (t 61)),none,[]⟩,i 7 (.mov (k (.int .i64 0)))]) .ret)))))
def a11:AFunc:=⟨62,[(.cellN 3 6),(.tmp 7)],c11⟩
theorem n11:a11.ntmps=62:=id rfl
theorem r11:a11.results=[(.cellN 3 6),(.tmp 7)]:=rfl
theorem b11:a11.body=c11:=rfl
def c14:ACode:=(.seq (.ops [i 3 (.box (t 0)),i 4 (.box (t 1)),i 5 (.box (t 2)),i 6 (.mov (k (.int .i64 0))),i 7 (.mov (k (.int .i64 0)))]) (.seq (.seq (.ops [i 9 (.loadN 2 (t 3)),i 10 (.loadN 7 (t 4)),i 11 (.loadN 7 (t 5)),i 12 (.buildSlice 2 [(.int .i64 0),(.int .i64 0),(.int .i64 0),(.int .u8 0),(.int .i64 0),(.int .i64 0),(.int .i64 0),(.int .i64 0),(.int .i64 0),(.int .i64 0),(.int .u8 0),(.int .i64 0),(.int .i64 0),(.int .i64 0)] [(0,(7,(t 10))),(7,(7,(t 11)))]),i 13 (.call .any (.func 35) [(t 9),(t 12)]),i 8 (.mov (t 13))]) (.seq (.ops [i 14 (.mov (t 8)),i 15 (.bin .neq (t 14) (k (.int .i64 0)))]) (.cond (t 15) (.seq (.ops [i 16 (.mov (t 8)),i 6 (.mov (k (.int .i64 0))),i 7 (.mov (t 16))]) .ret) .skip))) (.seq (.drawn 0 [i 17 (.loadN 2 (t 3)),i 19 (.loadN 7 (t 4)),i 20 (.loadN 7 (t 5)),i 18 (.call .mk (.func 36) [(t 17)]),i 21 (.call .any (.func 41) [(t 18),(t 19),(t 20)]),i 6 (.mov (t 21)),i 7 (.mov (k (.int .i64 0)))]) .ret)))
def a14:AFunc:=⟨22,[(.tmp 6),(.tmp 7)],c14⟩
theorem n14:a14.ntmps=22:=id rfl
theorem r14:a14.results=[(.tmp 6),(.tmp 7)]:=rfl
theorem b14:a14.body=c14:=rfl
def l22_1:ACode:=(.seq (.ops [i 16 (.bin .lss (t 15) (t 14))]) (.seq (.cond (t 16) .skip (.exit 0)) (.seq (.block 1 (.seq (.ops [i 17 (.mov (t 15)),i 18 (.idxAddrS 6 (t 13) (t 15)),i 19 (.loadN 6 (t 18)),i 5 (.alloc [(.int .u8 0),(.int .u8 0),(.int .u8 0),(.int .u8 0),(.int .u8 0),(.int .u8 0)]),i 4 (.mov (t 17)),⟨none,none,(.store 6 (t 5) (t 19)),none,[]⟩]) (.seq (.ops [i 20 (.mov (t 4)),i 21 (.bin .add (t 20) (k (.int .i64 1))),i 22 (.fieldAddr 0 (t 5)),i 23 (.load1 (t 22)),i 24 (.conv .i64 (t 23)),i 25 (.bin .rem (t 24) (k (.int .i64 5))),i 26 (.bin .add (k (.int .i64 1)) (t 25)),i 27 (.fieldAddr 1 (t 5)),i 28 (.load1 (t 27)),i 29 (.conv .i64 (t 28)),i 30 (.bin .rem (t 29) (k (.int .i64 5))),i 31 (.bin .add (k (.int .i64 1)) (t 30)),i 32 (.fieldAddr 2 (t 5)),i 33 (.load1 (t 32)),i 34 (.conv .i64 (t 33)),i 35 (.bin .mul (t 34) (k (.int .i64 5))),i 36 (.fieldAddr 3 (t 5)),i 37 (.load1 (t 36)),i 38 (.conv .i64 (t 37)),i 39 (.bin .add (k (.int .i64 1)) (t 38)),i 40 (.fieldAddr 4 (t 5)),i 41 (.load1 (t 40)),i 42 (.conv .i64 (t 41)),i 43 (.bin .rem (t 42) (k (.int .i64 60))),i 44 (.fieldAddr 5 (t 5)),i 45 (.load1 (t 44)),i 46 (.bin .rem (t 45) (k (.int .u8 127))),i 47 (.bin .add (t 46) (k (.int .u8 1))),i 48 (.build [(.int .i64 0),(.int .i64 0),(.int .i64 0),(.int .i64 0),(.int .i64 0),(.int .i64 0),(.int .i64 0),(.int .u8 0)] [(0,(1,(t 21))),(1,(1,(t 26))),(2,(1,(t 31))),(3,(1,(t 35))),(4,(1,(t 39))),(5,(1,(t 43))),(6,(1,(k (.int .i64 1000)))),(7,(1,(t 47)))]),i 6 (.alloc [(.int .i64 0),(.int .i64 0),(.int .i64 0),(.int .i64 0),(.int .i64 0),(.int .i64 0),(.int .i64 0),(.int .u8 0)]),⟨none,none,(.store 8 (t 6) (t 48)),none,[]⟩]) (.seq (.ops [i 49 (.fieldAddr 1 (t 6)),i 50 (.load1 (t 49)),i 51 (.fieldAddr 2 (t 6)),i 52 (.load1 (t 51)),i 53 (.bin .neq (t 50) (t 52))]) (.cond (t 53) (.ops [i 54 (.fieldAddr 1 (t 3)),i 55 (.load1 (t 54)),i 56 (.loadN 8 (t 6)),i 57 (.buildSlice 1 [(.int .i64 0),(.int .i64 0),(.int .i64 0),(.int .i64 0),(.int .i64 0),(.int .i64 0),(.int .i64 0),(.int .u8 0)] [(0,(8,(t 56)))]),i 58 (.append 8 64 false (t 55) (t 57)),i 59 (.fieldAddr 1 (t 3)),⟨none,none,(.store 1 (t 59) (t 58)),none,[]⟩]) .skip))))) (.ops [i 60 (.bin .add (t 15) (k (.int .i64 1))),i 15 (.mov (t 60))]))))
def c22:ACode:=(.seq (.ops [i 2 (.alloc [(.slice none 0 0),(.slice none 0 0)])]) (.seq (.ops [i 7 (.buildSlice 5 [(.int .i64 0),(.int .i64 0),(.int .i64 0),(.int .i64 0),(.int .i64 0)] [(0,(1,(k (.int .i64 3)))),(1,(1,(k (.int .i64 1)))),(2,(1,(k (.int .i64 5)))),(3,(1,(k (.int .i64 2)))),(4,(1,(k (.int .i64 4))))]),i 8 (.build [(.slice none 0 0),(.slice none 0 0)] [(0,(1,(t 7)))]),i 3 (.alloc [(.slice none 0 0),(.slice none 0 0)]),⟨none,none,(.store 2 (t 3) (t 8)),none,[]⟩]) (.seq (.seq (.ops [i 9 (.mov (t 0)),i 10 (.mov (t 0)),i 11 (.lenSlice (t 10)),i 12 (.minmax false [(t 11),(k (.int .i64 10))]),i 13 (.sliceS 6 (t 9) none (some (t 12)) none),i 14 (.lenSlice (t 13)),i 15 (.mov (k (.int .i64 0)))]) (.block 0 (.loop l22_1))) (.seq (.ops [i 61 (.loadN 2 (t 3)),⟨none,none,(.store 2 (t 2) (t 61)),none,[]⟩]) .ret))))
def a22:AFunc:=⟨62,[(.cellN 2 2)],c22⟩
theorem n22:a22.ntmps=62:=id rfl
theorem r22:a22.results=[(.cellN 2 2)]:=rfl
theorem b22:a22.body=c22:=rfl
def l23_1:ACode:=(.seq (.ops [i 18 (.bin .lss (t 17) (t 16))]) (.seq (.cond (t 18) .skip (.exit 0)) (.seq (.block 1 (.seq (.ops [i 19 (.idxAddrS 3 (t 15) (t 17)),i 20 (.loadN 3 (t 19)),i 8 (.alloc [(.int .u8 0),(.int .u8 0),(.int .u16 0)]),⟨none,none,(.store 3 (t 8) (t 20)),none,[]⟩]) (.seq (.ops [i 21 (.mov (t 6)),i 22 (.fieldAddr 2 (t 8)),i 23 (.load1 (t 22)),i 24 (.conv .i64 (t 23)),i 25 (.bin .rem (t 24) (k (.int .i64 2000))),i 26 (.bin .add (t 21) (t 25)),i 6 (.mov (t 26))]) (.seq (.ops [i 27 (.fieldAddr 0 (t 8)),i 28 (.load1 (t 27)),i 29 (.conv .i64 (t 28)),i 30 (.bin .rem (t 29) (k (.int .i64 6))),i 31 (.bin .add (k (.int .i64 1)) (t 30)),i 32 (.mov (t 6)),i 33 (.call .any (.func 32) [(t 31),(t 32)]),i 9 (.alloc [(.int .i64 0),(.int .i64 0),(.int .i64 0),(.int .u8 0),(.int .i64 0),(.int .i64 0),(.int .i64 0)]),⟨none,none,(.store 7 (t 9) (t 33)),none,[]⟩]) (.seq (.ops [i 34 (.buildSlice 5 [(.int .u8 0),(.int .u8 0),(.int .u8 0),(.int .u8 0),(.int .u8 0)] [(0,(1,(k (.int .u8 1)))),(1,(1,(k (.int .u8 2)))),(2,(1,(k (.int .u8 3)))),(3,(1,(k (.int .u8 2)))),(4,(1,(k (.int .u8 4))))]),i 35 (.fieldAddr 1 (t 8)),i 36 (.load1 (t 35)),i 37 (.bin .rem (t 36) (k (.int .u8 5))),i 38 (.idxAddrS 1 (t 34) (t 37)),i 39 (.load1 (t 38)),i 40 (.fieldAddr 0 (t 9)),i 41 (.fieldAddr 3 (t 40)),⟨none,none,(.store 1 (t 41) (t 39)),none,[]⟩]) (.ops [i 42 (.mov (t 5)),i 43 (.loadN 7 (t 9)),i 44 (.buildSlice 1 [(.int .i64 0),(.int .i64 0),(.int .i64 0),(.int .u8 0),(.int .i64 0),(.int .i64 0),(.int .i64 0)] [(0,(7,(t 43)))]),i 45 (.append 7 56 false (t 42) (t 44)),i 5 (.mov (t 45))])))))) (.ops [i 46 (.bin .add (t 17) (k (.int .i64 1))),i 17 (.mov (t 46))]))))
def c23:ACode:=(.seq (.ops [i 4 (.mov (k (.slice none 0 0)))]) (.seq (.ops [i 5 (.mov (k (.slice none 0 0)))]) (.seq (.ops [i 6 (.mov (k (.int .i64 14400)))]) (.seq (.seq (.ops [i 10 (.mov (t 0)),i 11 (.mov (t 0)),i 12 (.lenSlice (t 11)),i 13 (.mov (t 1)),i 14 (.minmax false [(t 12),(t 13)]),i 15 (.sliceS 3 (t 10) none (some (t 14)) none),i 16 (.lenSlice (t 15)),i 17 (.mov (k (.int .i64 0)))]) (.block 0 (.loop l23_1))) (.seq (.ops [i 47 (.mov (t 5)),i 4 (.mov (t 47))]) .ret)))))
def a23:AFunc:=⟨48,[(.tmp 4)],c23⟩
theorem n23:a23.ntmps=48:=id rfl
theorem r23:a23.results=[(.tmp 4)]:=rfl
theorem b23:a23.body=c23:=rfl
def l24_1:ACode:=(.seq (.seq (.ops [i 11 (.mov (t 5)),i 12 (.mov (t 0)),i 13 (.lenSlice (t 12)),i 14 (.bin .lss (t 11) (t 13))]) (.cond (t 14) .skip (.exit 0))) (.seq (.block 1 (.seq (.drawn 0 [i 17 (.mov (t 0)),i 18 (.mov (t 5)),i 19 (.idxAddrS 1 (t 17) (t 18)),i 20 (.load1 (t 19)),i 21 (.mov (t 1)),i 22 (.mov (t 5)),i 23 (.idxAddrS 1 (t 21) (t 22)),i 24 (.load1 (t 23)),i 25 (.bin .neq (t 20) (t 24))]) (.cond (t 25) (.seq (.ops [i 4 (.mov (k (.bool false)))]) .ret) .skip))) (.ops [i 15 (.mov (t 5)),i 16 (.bin .add (t 15) (k (.int .i64 1))),i 5 (.mov (t 16))])))
def c24:ACode:=(.seq (.ops [i 4 (.mov (k (.bool false)))]) (.seq (.seq (.ops [i 6 (.mov (t 0)),i 7 (.lenSlice (t 6)),i 8 (.mov (t 1)),i 9 (.lenSlice (t 8)),i 10 (.bin .neq (t 7) (t 9))]) (.cond (t 10) (.seq (.ops [i 4 (.mov (k (.bool false)))]) .ret) .skip)) (.seq (.seq (.ops [i 5 (.mov (k (.int .i64 0)))]) (.block 0 (.loop l24_1))) (.seq (.ops [i 4 (.mov (k (.bool true)))]) .ret))))
def a24:AFunc:=⟨26,[(.tmp 4)],c24⟩
theorem n24:a24.ntmps=26:=id rfl
theorem r24:a24.results=[(.tmp 4)]:=rfl
theorem b24:a24.body=c24:=rfl
def c25:ACode:=(.seq (.ops [i 3 (.box (t 0)),i 6 (.mov (k (.slice none 0 0))),i 7 (.mov (k (.int .i64 0)))]) (.seq (.ops [i 13 (.loadN 2 (t 3)),i 14 (.mov (t 1)),i 15 (.mov (t 1)),i 16 (.mov (t 2)),i 17 (.call .any (.func 46) [(t 13),(t 14),(t 15),(t 16)]),i 12 (.mov (t 17)),i 18 (.extract 0 (t 12)),i 19 (.extract 1 (t 12)),i 8 (.mov (t 18)),i 9 (.mov (t 19))]) (.seq (.seq (.ops [i 20 (.mov (t 9)),i 21 (.bin .neq (t 20) (k (.int .i64 0)))]) (.cond (t 21) (.seq (.ops [i 22 (.mov (t 9)),i 6 (.mov (k (.slice none 0 0))),i 7 (.mov (t 22))]) .ret) .skip)) (.seq (.ops [i 23 (.loadN 2 (t 3)),i 24 (.mov (t 8)),i 25 (.mov (t 1)),i 26 (.mov (t 2)),i 27 (.call .any (.func 47) [(t 23),(t 24),(t 25),(t 26)]),i 10 (.mov (t 27))]) (.seq (.ops [i 28 (.mov (t 10)),i 29 (.mov (t 10)),i 30 (.lenSlice (t 29)),i 31 (.bin .sub (t 30) (k (.int .i64 1))),i 32 (.idxAddrS 50 (t 28) (t 31)),i 33 (.loadN 50 (t 32)),i 11 (.alloc [(.int .i64 0),(.int .i64 0),(.int .i64 0),(.int .i64 0),(.int .i64 0),(.int .i64 0),(.int .i64 0),(.int .i64 0),(.int .i64 0),(.int .i64 0),(.int .i64 0),(.int .i64 0),(.int .i64 0),(.int .i64 0),(.int .i64 0),(.int .i64 0),(.int .i64 0),(.int .i64 0),(.int .i64 0),(.int .i64 0),(.int .i64 0),(.int .i64 0),(.int .i64 0),(.int .i64 0),(.int .i64 0),(.int .i64 0),(.int .i64 0),(.int .i64 0),(.int .i64 0),(.int .i64 0),(.int .i64 0),(.int .i64 0),(.int .i64 0),(.int .i64 0),(.int .i64 0),(.int .i64 0),(.int .i64 0),(.int .i64 0),(.int .i64 0),(.int .i64 0),(.int .i64 0),(.int .i64 0),(.int .i64 0),(.int .i64 0),(.int .i64 0),(.int .i64 0),(.int .i64 0),(.int .i64 0),(.int .i64 0),(.int .i64 0)]),⟨none,none,(.store 50 (t 11) (t 33)),none,[]⟩]) (.seq (.ops [i 34 (.fieldAddr 0 (t 3)),i 35 (.load1 (t 34)),i 36 (.lenSlice (t 35)),i 37 (.sliceA 50 1 (t 11) none (some (t 36)) none),i 38 (.call .any (.func 48) [(t 37)]),i 6 (.mov (t 38)),i 7 (.mov (k (.int .i64 0)))]) .ret))))))
def a25:AFunc:=⟨39,[(.tmp 6),(.tmp 7)],c25⟩
theorem n25:a25.ntmps=39:=id rfl
theorem r25:a25.results=[(.tmp 6),(.tmp 7)]:=rfl
theorem b25:a25.body=c25:=rfl
def c31:ACode:=(.seq (.ops [i 0 (.alloc [(.slice none 0 0),(.slice none 0 0)])]) (.seq (.ops [i 1 (.buildSlice 2 [(.int .i64 0),(.int .i64 0)] [(0,(1,(k (.int .i64 1)))),(1,(1,(k (.int .i64 2))))]),i 2 (.build [(.int .i64 0),(.int .i64 0),(.int .i64 0),(.int .i64 0),(.int .i64 0),(.int .i64 0),(.int .i64 0),(.int .u8 0)] [(0,(1,(k (.int .i64 1)))),(1,(1,(k (.int .i64 1)))),(2,(1,(k (.int .i64 2)))),(3,(1,(k (.int .i64 600)))),(4,(1,(k (.int .i64 60)))),(6,(1,(k (.int .i64 1000)))),(7,(1,(k (.int .u8 127))))]),i 3 (.buildSlice 1 [(.int .i64 0),(.int .i64 0),(.int .i64 0),(.int .i64 0),(.int .i64 0),(.int .i64 0),(.int .i64 0),(.int .u8 0)] [(0,(8,(t 2)))]),i 4 (.build [(.slice none 0 0),(.slice none 0 0)] [(0,(1,(t 1))),(1,(1,(t 3)))]),⟨none,none,(.store 2 (t 0) (t 4)),none,[]⟩]) .ret))
def a31:AFunc:=⟨5,[(.cellN 2 0)],c31⟩
theorem n31:a31.ntmps=5:=id rfl
theorem r31:a31.results=[(.cellN 2 0)]:=rfl
theorem b31:a31.body=c31:=rfl
def c32:ACode:=(.seq (.ops [i 4 (.alloc [(.int .i64 0),(.int .i64 0),(.int .i64 0),(.int .u8 0),(.int .i64 0),(.int .i64 0),(.int .i64 0)])]) (.seq (.ops [i 5 (.mov (t 0)),i 6 (.mov (t 1)),i 7 (.mov (t 1)),i 8 (.build [(.int .i64 0),(.int .i64 0),(.int .i64 0),(.int .u8 0),(.int .i64 0),(.int .i64 0)] [(0,(1,(k (.int .i64 7)))),(1,(1,(t 5))),(2,(1,(k (.int .i64 1)))),(3,(1,(k (.int .u8 2)))),(4,(1,(t 6))),(5,(1,(t 7)))]),i 9 (.mov (t 1)),i 10 (.build [(.int .i64 0),(.int .i64 0),(.int .i64 0),(.int .u8 0),(.int .i64 0),(.int .i64 0),(.int .i64 0)] [(0,(6,(t 8))),(6,(1,(t 9)))]),⟨none,none,(.store 7 (t 4) (t 10)),none,[]⟩]) .ret))
def a32:AFunc:=⟨11,[(.cellN 7 4)],c32⟩
theorem n32:a32.ntmps=11:=id rfl
theorem r32:a32.results=[(.cellN 7 4)]:=rfl
theorem b32:a32.body=c32:=rfl
def l35_1:ACode:=(.seq (.ops [i 19 (.bin .lss (t 18) (t 17))]) (.seq (.cond (t 19) .skip (.exit 0)) (.seq (.block 1 (.seq (.ops [i 20 (.mov (t 18)),i 21 (.idxAddrS 7 (t 16) (t 18)),i 22 (.loadN 7 (t 21)),i 7 (.alloc [(.int .i64 0),(.int .i64 0),(.int .i64 0),(.int .u8 0),(.int .i64 0),(.int .i64 0),(.int .i64 0)]),i 6 (.mov (t 20)),⟨none,none,(.store 7 (t 7) (t 22)),none,[]⟩]) (.block 2 (.seq (.seq (.ops [i 24 (.fieldAddr 0 (t 7)),i 25 (.loadN 6 (t 24)),i 26 (.buildSlice 1 [(.int .i64 0),(.int .i64 0),(.int .i64 0),(.int .u8 0),(.int .i64 0),(.int .i64 0)] [(0,(6,(t 25)))]),i 27 (.call .any (.func 58) [(t 26)]),i 28 (.un .not (t 27)),i 23 (.mov (t 28))]) (.cond (t 23) .skip (.seq (.ops [i 29 (.fieldAddr 6 (t 7)),i 30 (.load1 (t 29)),i 31 (.bin .lss (t 30) (k (.int .i64 0))),i 23 (.mov (t 31))]) (.cond (t 23) .skip (.ops [i 32 (.fieldAddr 6 (t 7)),i 33 (.load1 (t 32)),i 34 (.bin .gtr (t 33) (k (.int .i64 1051898399))),i 23 (.mov (t 34))]))))) (.cond (t 23) (.seq (.ops [i 4 (.mov (k (.int .i64 2)))]) .ret) (.seq (.drawn 0 [i 36 (.mov (t 6)),i 37 (.bin .gtr (t 36) (k (.int .i64 0))),i 38 (.mov (t 37)),⟨(some 39),(some (38,true)),(.fieldAddr 0 (t 7)),none,[]⟩,⟨(some 40),(some (38,true)),(.fieldAddr 0 (t 39)),none,[]⟩,⟨(some 41),(some (38,true)),(.load1 (t 40)),none,[]⟩,⟨(some 42),(some (38,true)),(.mov (t 1)),none,[]⟩,⟨(some 43),(some (38,true)),(.idxAddrS 7 (t 42) (k (.int .i64 0))),none,[]⟩,⟨(some 44),(some (38,true)),(.fieldAddr 0 (t 43)),none,[]⟩,⟨(some 45),(some (38,true)),(.fieldAddr 0 (t 44)),none,[]⟩,⟨(some 46),(some (38,true)),(.load1 (t 45)),none,[]⟩,⟨(some 47),(some (38,true)),(.bin .neq (t 41) (t 46)),none,[]⟩,⟨(some 48),(some (38,true)),(.mov (t 47)),none,[]⟩,⟨(some 49),(some (48,false)),(.fieldAddr 6 (t 7)),none,[]⟩,⟨(some 50),(some (48,false)),(.load1 (t 49)),none,[]⟩,⟨(some 51),(some (48,false)),(.mov (t 1)),none,[]⟩,⟨(some 52),(some (48,false)),(.mov (t 6)),none,[]⟩,⟨(some 53),(some (48,false)),(.bin .sub (t 52) (k (.int .i64 1))),none,[]⟩,⟨(some 54),(some (48,false)),(.idxAddrS 7 (t 51) (t 53)),none,[]⟩,⟨(some 55),(some (48,false)),(.fieldAddr 6 (t 54)),none,[]⟩,⟨(some 56),(some (48,false)),(.load1 (t 55)),none,[]⟩,⟨(some 57),(some (48,false)),(.bin .lss (t 50) (t 56)),none,[]⟩,⟨(some 58),(some (38,true)),(.pick (t 48) (k (.bool true)) (t 57)),none,[]⟩,i 59 (.pick (t 38) (t 58) (k (.bool false))),i 35 (.mov (t 59))]) (.cond (t 35) (.seq (.ops [i 4 (.mov (k (.int .i64 2)))]) .ret) .skip))))))) (.ops [i 60 (.bin .add (t 18) (k (.int .i64 1))),i 18 (.mov (t 60))]))))
def c35:ACode:=(.seq (.ops [i 2 (.box (t 0)),i 4 (.mov (k (.int .i64 0)))]) (.seq (.seq (.ops [i 8 (.loadN 2 (t 2)),i 9 (.call .any (.func 57) [(t 8)]),i 5 (.mov (t 9))]) (.seq (.ops [i 10 (.mov (t 5)),i 11 (.bin .neq (t 10) (k (.int .i64 0)))]) (.cond (t 11) (.seq (.ops [i 12 (.mov (t 5)),i 4 (.mov (t 12))]) .ret) .skip))) (.seq (.seq (.ops [i 13 (.mov (t 1)),i 14 (.lenSlice (t 13)),i 15 (.bin .gtr (t 14) (k (.int .i64 40)))]) (.cond (t 15) (.seq (.ops [i 4 (.mov (k (.int .i64 5)))]) .ret) .skip)) (.seq (.seq (.ops [i 16 (.mov (t 1)),i 17 (.lenSlice (t 16)),i 18 (.mov (k (.int .i64 0)))]) (.block 0 (.loop l35_1))) (.seq (.ops [i 4 (.mov (k (.int .i64 0)))]) .ret)))))
def a35:AFunc:=⟨61,[(.tmp 4)],c35⟩
theorem n35:a35.ntmps=61:=id rfl
theorem r35:a35.results=[(.tmp 4)]:=rfl
theorem b35:a35.body=c35:=rfl
def c36:ACode:=(.seq (.ops [i 1 (.box (t 0)),i 2 (.mov (k (.pointer none)))]) (.seq (.ops [i 3 (.loadN 2 (t 1)),i 4 (.makeMap none),i 5 (.build [(.slice none 0 0),(.slice none 0 0),(.map none)] [(0,(2,(t 3))),(2,(1,(t 4)))]),i 6 (.box (t 5)),i 2 (.mov (t 6))]) .ret))
def a36:AFunc:=⟨7,[(.tmp 2)],c36⟩
theorem n36:a36.ntmps=7:=id rfl
theorem r36:a36.results=[(.tmp 2)]:=rfl
theorem b36:a36.body=c36:=rfl
def l37_1:ACode:=(.seq (.seq (.ops [i 19 (.mov (t 8)),i 20 (.mov (t 2)),i 21 (.lenSlice (t 20)),i 22 (.bin .lss (t 19) (t 21))]) (.cond (t 22) .skip (.exit 0))) (.seq (.block 1 (.seq (.drawn 1 [i 25 (.mov (t 2)),i 26 (.mov (t 8)),i 27 (.bin .sub (t 26) (k (.int .i64 1))),i 28 (.idxAddrS 1 (t 25) (t 27)),⟨(some 29),none,(.load1 (t 28)),none,[0]⟩,i 30 (.mov (t 2)),i 31 (.mov (t 8)),i 32 (.idxAddrS 1 (t 30) (t 31)),⟨(some 33),none,(.load1 (t 32)),none,[0]⟩,i 34 (.build [(.int .i64 0),(.int .i64 0),(.int .i64 0)] [(0,(1,(t 29))),(1,(1,(t 33)))]),⟨(some 9),none,(.alloc [(.int .i64 0),(.int .i64 0),(.int .i64 0)]),(some 0),[]⟩,⟨none,none,(.store 3 (t 9) (t 34)),none,[]⟩]) (.seq (.drawn 0 [i 35 (.mov (t 0)),i 36 (.mov (t 1)),i 37 (.fieldAddr 0 (t 9)),i 38 (.load1 (t 37)),i 39 (.idxAddrS 7 (t 36) (t 38)),i 40 (.loadN 7 (t 39)),i 41 (.mov (t 1)),i 42 (.fieldAddr 1 (t 9)),i 43 (.load1 (t 42)),i 44 (.idxAddrS 7 (t 41) (t 43)),i 45 (.loadN 7 (t 44)),i 46 (.call .any (.func 41) [(t 35),(t 40),(t 45)]),i 47 (.fieldAddr 2 (t 9)),⟨none,none,(.store 1 (t 47) (t 46)),none,[]⟩]) (.seq (.ops [i 48 (.fieldAddr 2 (t 7)),i 49 (.load1 (t 48)),i 50 (.fieldAddr 2 (t 9)),i 51 (.load1 (t 50)),i 52 (.bin .add (t 49) (t 51)),i 53 (.fieldAddr 2 (t 7)),⟨none,none,(.store 1 (t 53) (t 52)),none,[]⟩]) (.ops [i 54 (.fieldAddr 1 (t 7)),i 55 (.load1 (t 54)),i 56 (.loadN 3 (t 9)),i 57 (.buildSlice 1 [(.int .i64 0),(.int .i64 0),(.int .i64 0)] [(0,(3,(t 56)))]),i 58 (.append 3 24 false (t 55) (t 57)),i 59 (.fieldAddr 1 (t 7)),⟨none,none,(.store 1 (t 59) (t 58)),none,[]⟩]))))) (.ops [i 23 (.mov (t 8)),i 24 (.bin .add (t 23) (k (.int .i64 1))),i 8 (.mov (t 24))])))
def c37:ACode:=(.seq (.ops [i 6 (.alloc [(.slice none 0 0),(.slice none 0 0),(.int .i64 0)])]) (.seq (.ops [i 10 (.mov (t 2)),i 11 (.call .any (.func 48) [(t 10)]),i 12 (.mov (t 1)),i 13 (.lenSlice (t 12)),i 14 (.mov (t 2)),i 15 (.lenSlice (t 14)),i 16 (.bin .sub (t 13) (t 15)),i 17 (.bin .mul (k (.int .i64 30)) (t 16)),i 18 (.build [(.slice none 0 0),(.slice none 0 0),(.int .i64 0)] [(0,(1,(t 11))),(2,(1,(t 17)))]),i 7 (.alloc [(.slice none 0 0),(.slice none 0 0),(.int .i64 0)]),⟨none,none,(.store 3 (t 7) (t 18)),none,[]⟩]) (.seq (.seq (.ops [i 8 (.mov (k (.int .i64 1)))]) (.block 0 (.loop l37_1))) (.seq (.ops [i 60 (.loadN 3 (t 7)),⟨none,none,(.store 3 (t 6) (t 60)),none,[]⟩]) .ret))))
def a37:AFunc:=⟨61,[(.cellN 3 6)],c37⟩
theorem n37:a37.ntmps=61:=id rfl
theorem r37:a37.results=[(.cellN 3 6)]:=rfl
theorem b37:a37.body=c37:=rfl
def l38_1:ACode:=(.seq (.seq (.ops [i 119 (.mov (t 16)),i 120 (.bin .geq (t 119) (k (.int .i64 0)))]) (.cond (t 120) .skip (.exit 6))) (.seq (.block 7 (.ops [i 126 (.mov (t 15)),i 127 (.mov (t 16)),i 128 (.buildSlice 1 [(.int .i64 0)] [(0,(1,(t 127)))]),i 129 (.append 1 8 false (t 126) (t 128)),i 15 (.mov (t 129))])) (.ops [i 121 (.mov (t 5)),i 122 (.mov (t 16)),i 123 (.idxAddrS 3 (t 121) (t 122)),i 124 (.fieldAddr 2 (t 123)),i 125 (.load1 (t 124)),i 16 (.mov (t 125))])))
def l38_2:ACode:=(.seq (.seq (.ops [i 87 (.mov (t 13)),i 88 (.bin .geq (t 87) (k (.int .i64 0)))]) (.cond (t 88) .skip (.exit 4))) (.seq (.block 5 (.seq (.drawn 1 [i 91 (.mov (t 13)),i 92 (.bin .mul (k (.int .i64 30)) (t 91)),i 93 (.mov (t 5)),i 94 (.mov (t 13)),i 95 (.idxAddrS 3 (t 93) (t 94)),i 96 (.fieldAddr 0 (t 95)),⟨(some 97),none,(.load1 (t 96)),none,[0]⟩,i 98 (.bin .add (t 92) (t 97)),i 99 (.mov (t 5)),i 100 (.mov (t 13)),i 101 (.idxAddrS 3 (t 99) (t 100)),i 102 (.fieldAddr 1 (t 101)),⟨(some 103),none,(.load1 (t 102)),none,[0]⟩,i 104 (.mov (t 13)),i 105 (.build [(.int .i64 0),(.int .i64 0),(.int .i64 0)] [(0,(1,(t 98))),(1,(1,(t 103))),(2,(1,(t 104)))]),⟨(some 14),none,(.alloc [(.int .i64 0),(.int .i64 0),(.int .i64 0)]),(some 0),[]⟩,⟨none,none,(.store 3 (t 14) (t 105)),none,[]⟩]) (.seq (.ops [i 106 (.fieldAddr 2 (t 12)),i 107 (.load1 (t 106)),i 108 (.bin .lss (t 107) (k (.int .i64 0))),i 109 (.mov (t 108)),⟨(some 110),(some (109,false)),(.mov (t 6)),none,[]⟩,⟨(some 111),(some (109,false)),(.loadN 3 (t 12)),none,[]⟩,⟨(some 112),(some (109,false)),(.loadN 3 (t 14)),none,[]⟩,⟨(some 113),(some (109,false)),(.call .any (t 110) [(t 111),(t 112)]),none,[]⟩,⟨(some 114),(some (109,false)),(.un .not (t 113)),none,[]⟩,i 115 (.pick (t 109) (k (.bool true)) (t 114))]) (.cond (t 115) (.ops [i 116 (.loadN 3 (t 14)),⟨none,none,(.store 3 (t 12) (t 116)),none,[]⟩]) .skip)))) (.ops [i 89 (.mov (t 13)),i 90 (.bin .sub (t 89) (k (.int .i64 1))),i 13 (.mov (t 90))])))
def l38_3:ACode:=(.seq (.seq (.ops [i 37 (.mov (t 9)),i 38 (.mov (t 7)),i 39 (.bin .gtr (t 37) (t 38))]) (.cond (t 39) .skip (.exit 2))) (.seq (.block 3 (.seq (.ops [i 42 (.mov (t 9)),i 43 (.mov (t 7)),i 44 (.bin .sub (t 42) (t 43)),i 45 (.bin .sub (t 44) (k (.int .i64 1))),i 46 (.bin .mul (k (.int .i64 30)) (t 45)),i 10 (.mov (t 46))]) (.seq (.drawn 1 [i 47 (.mov (t 0)),i 48 (.mov (t 1)),i 49 (.mov (t 7)),i 50 (.idxAddrS 7 (t 48) (t 49)),⟨(some 51),none,(.loadN 7 (t 50)),none,[0]⟩,i 52 (.mov (t 1)),i 53 (.mov (t 9)),i 54 (.idxAddrS 7 (t 52) (t 53)),⟨(some 55),none,(.loadN 7 (t 54)),none,[0]⟩,i 57 (.mov (t 10)),i 59 (.mov (t 5)),i 60 (.mov (t 9)),i 61 (.idxAddrS 3 (t 59) (t 60)),i 62 (.fieldAddr 0 (t 61)),⟨(some 63),none,(.load1 (t 62)),none,[0]⟩,i 65 (.mov (t 5)),i 66 (.mov (t 9)),i 67 (.idxAddrS 3 (t 65) (t 66)),i 68 (.fieldAddr 1 (t 67)),⟨(some 69),none,(.load1 (t 68)),none,[0]⟩,i 70 (.bin .add (t 69) (k (.int .i64 1))),i 71 (.mov (t 9)),⟨(some 11),none,(.alloc [(.int .i64 0),(.int .i64 0),(.int .i64 0)]),(some 0),[]⟩,⟨(some 56),none,(.call .maps (.func 41) [(t 47),(t 51),(t 55)]),none,[0]⟩,i 58 (.bin .add (t 56) (t 57)),i 64 (.bin .add (t 58) (t 63)),i 72 (.build [(.int .i64 0),(.int .i64 0),(.int .i64 0)] [(0,(1,(t 64))),(1,(1,(t 70))),(2,(1,(t 71)))]),⟨none,none,(.store 3 (t 11) (t 72)),none,[]⟩]) (.seq (.ops [i 73 (.mov (t 6)),i 74 (.loadN 3 (t 8)),i 75 (.loadN 3 (t 11)),i 76 (.call .any (t 73) [(t 74),(t 75)]),i 77 (.un .not (t 76))]) (.cond (t 77) (.ops [i 78 (.loadN 3 (t 11)),⟨none,none,(.store 3 (t 8) (t 78)),none,[]⟩]) .skip))))) (.ops [i 40 (.mov (t 9)),i 41 (.bin .sub (t 40) (k (.int .i64 1))),i 9 (.mov (t 41))])))
def l38_4:ACode:=(.seq (.seq (.ops [i 23 (.mov (t 7)),i 24 (.bin .geq (t 23) (k (.int .i64 0)))]) (.cond (t 24) .skip (.exit 0))) (.seq (.block 1 (.seq (.ops [i 27 (.mov (t 1)),i 28 (.lenSlice (t 27)),i 29 (.bin .sub (t 28) (k (.int .i64 1))),i 30 (.mov (t 7)),i 31 (.bin .sub (t 29) (t 30)),i 32 (.bin .mul (k (.int .i64 30)) (t 31)),i 33 (.build [(.int .i64 0),(.int .i64 0),(.int .i64 0)] [(0,(1,(t 32))),(1,(1,(k (.int .i64 1)))),(2,(1,(k (.int .i64 (-1)))))]),i 8 (.alloc [(.int .i64 0),(.int .i64 0),(.int .i64 0)]),⟨none,none,(.store 3 (t 8) (t 33)),none,[]⟩]) (.seq (.seq (.ops [i 34 (.mov (t 1)),i 35 (.lenSlice (t 34)),i 36 (.bin .sub (t 35) (k (.int .i64 1))),i 9 (.mov (t 36))]) (.block 2 (.loop l38_3))) (.ops [i 79 (.mov (t 5)),i 80 (.mov (t 7)),i 81 (.loadN 3 (t 8)),i 82 (.idxAddrS 3 (t 79) (t 80)),⟨none,none,(.store 3 (t 82) (t 81)),none,[]⟩])))) (.ops [i 25 (.mov (t 7)),i 26 (.bin .sub (t 25) (k (.int .i64 1))),i 7 (.mov (t 26))])))
def c38:ACode:=(.seq (.ops [i 4 (.mov (k (.slice none 0 0)))]) (.seq (.ops [i 17 (.mov (t 1)),i 18 (.lenSlice (t 17)),i 19 (.makeSlice 3 24 [(.int .i64 0),(.int .i64 0),(.int .i64 0)] (t 18) (t 18)),i 5 (.mov (t 19))]) (.seq (.ops [i 6 (.mov (.func 59))]) (.seq (.seq (.ops [i 20 (.mov (t 1)),i 21 (.lenSlice (t 20)),i 22 (.bin .sub (t 21) (k (.int .i64 1))),i 7 (.mov (t 22))]) (.block 0 (.loop l38_4))) (.seq (.ops [i 83 (.build [(.int .i64 0),(.int .i64 0),(.int .i64 0)] [(2,(1,(k (.int .i64 (-1)))))]),i 12 (.alloc [(.int .i64 0),(.int .i64 0),(.int .i64 0)]),⟨none,none,(.store 3 (t 12) (t 83)),none,[]⟩]) (.seq (.seq (.ops [i 84 (.mov (t 1)),i 85 (.lenSlice (t 84)),i 86 (.bin .sub (t 85) (k (.int .i64 1))),i 13 (.mov (t 86))]) (.block 4 (.loop l38_2))) (.seq (.ops [i 15 (.mov (k (.slice none 0 0)))]) (.seq (.seq (.ops [i 117 (.fieldAddr 2 (t 12)),i 118 (.load1 (t 117)),i 16 (.mov (t 118))]) (.block 6 (.loop l38_1))) (.seq (.ops [i 130 (.mov (t 15)),i 4 (.mov (t 130))]) .ret)))))))))
def a38:AFunc:=⟨131,[(.tmp 4)],c38⟩
theorem n38:a38.ntmps=131:=id rfl
theorem r38:a38.results=[(.tmp 4)]:=rfl
theorem b38:a38.body=c38:=rfl
def c41:ACode:=(.seq (.ops [i 4 (.box (t 1)),i 5 (.box (t 2)),i 6 (.mov (k (.int .i64 0)))]) (.seq (.block 0 (.seq (.ops [i 10 (.fieldAddr 0 (t 4)),i 11 (.fieldAddr 3 (t 10)),i 12 (.load1 (t 11)),i 13 (.bin .eql (t 12) (k (.int .u8 4))),i 9 (.mov (t 13))]) (.cond (t 9) (.seq (.ops [i 6 (.mov (k (.int .i64 80)))]) .ret) (.seq (.ops [i 15 (.fieldAddr 0 (t 4)),i 16 (.fieldAddr 1 (t 15)),i 17 (.load1 (t 16)),i 18 (.fieldAddr 0 (t 5)),i 19 (.fieldAddr 1 (t 18)),i 20 (.load1 (t 19)),i 21 (.bin .eql (t 17) (t 20)),i 14 (.mov (t 21))]) (.cond (t 14) (.seq (.ops [i 6 (.mov (k (.int .i64 0)))]) .ret) .skip))))) (.seq (.drawn 0 [i 22 (.mov (t 0)),i 23 (.nilCheck (t 22)),i 24 (.fieldAddr 0 (t 23)),i 25 (.fieldAddr 0 (t 24)),i 26 (.load1 (t 25)),i 27 (.fieldAddr 0 (t 5)),i 28 (.fieldAddr 1 (t 27)),i 29 (.load1 (t 28)),i 30 (.call .pure (.func 63) [(t 26),(t 29)]),i 7 (.mov (t 30))]) (.seq (.seq (.ops [i 31 (.mov (t 7)),i 32 (.bin .lss (t 31) (k (.int .i64 0)))]) (.cond (t 32) (.seq (.ops [i 6 (.mov (k (.int .i64 80)))]) .ret) .skip)) (.seq (.ops [i 33 (.mov (t 0)),i 34 (.fieldAddr 0 (t 4)),i 35 (.fieldAddr 1 (t 34)),i 36 (.load1 (t 35)),i 37 (.fieldAddr 6 (t 4)),i 38 (.load1 (t 37)),i 39 (.call .any (.func 64) [(t 33),(t 36),(t 38)]),i 8 (.mov (t 39))]) (.seq (.seq (.ops [i 40 (.mov (t 7)),i 41 (.mov (t 8)),i 42 (.lenSlice (t 41)),i 43 (.bin .geq (t 40) (t 42)),i 44 (.mov (t 43)),⟨(some 45),(some (44,false)),(.mov (t 8)),none,[]⟩,⟨(some 46),(some (44,false)),(.mov (t 7)),none,[]⟩,⟨(some 47),(some (44,false)),(.idxAddrS 1 (t 45) (t 46)),none,[]⟩,⟨(some 48),(some (44,false)),(.load1 (t 47)),none,[]⟩,⟨(some 49),(some (44,false)),(.bin .lss (t 48) (k (.int .i64 0))),none,[]⟩,i 50 (.pick (t 44) (k (.bool true)) (t 49))]) (.cond (t 50) (.seq (.ops [i 6 (.mov (k (.int .i64 80)))]) .ret) .skip)) (.seq (.drawn 0 [i 51 (.mov (t 8)),i 52 (.mov (t 7)),i 53 (.idxAddrS 1 (t 51) (t 52)),i 54 (.load1 (t 53)),i 55 (.fieldAddr 6 (t 5)),i 56 (.load1 (t 55)),i 57 (.bin .sub (t 54) (t 56)),i 58 (.minmax true [(t 57),(k (.int .i64 0))]),i 59 (.minmax false [(t 58),(k (.int .i64 60))]),i 6 (.mov (t 59))]) .ret)))))))
def a41:AFunc:=⟨60,[(.tmp 6)],c41⟩
theorem n41:a41.ntmps=60:=id rfl
theorem r41:a41.results=[(.tmp 6)]:=rfl
theorem b41:a41.body=c41:=rfl
def c46:ACode:=(.seq (.ops [i 4 (.box (t 0)),i 8 (.mov (k (.map none))),i 9 (.mov (k (.int .i64 0)))]) (.seq (.seq (.ops [i 16 (.loadN 2 (t 4)),i 17 (.call .any (.func 57) [(t 16)]),i 10 (.mov (t 17))]) (.seq (.ops [i 18 (.mov (t 10)),i 19 (.bin .neq (t 18) (k (.int .i64 0)))]) (.cond (t 19) (.seq (.ops [i 20 (.mov (t 10)),i 8 (.mov (k (.map none))),i 9 (.mov (t 20))]) .ret) .skip))) (.seq (.ops [i 21 (.loadN 2 (t 4)),i 22 (.call .any (.func 68) [(t 21)]),i 11 (.mov (t 22))]) (.seq (.ops [i 24 (.mov (t 11)),i 25 (.mov (t 1)),i 26 (.lookup (.int .i64) (.int .i64 0) true (t 24) (t 25)),i 23 (.mov (t 26)),i 27 (.extract 0 (t 23)),i 28 (.extract 1 (t 23)),i 12 (.mov (t 27)),i 13 (.mov (t 28))]) (.seq (.ops [i 30 (.mov (t 11)),i 31 (.mov (t 2)),i 32 (.lookup (.int .i64) (.int .i64 0) true (t 30) (t 31)),i 29 (.mov (t 32)),i 33 (.extract 0 (t 29)),i 34 (.extract 1 (t 29)),i 14 (.mov (t 33)),i 15 (.mov (t 34))]) (.seq (.seq (.ops [i 35 (.mov (t 13)),i 36 (.un .not (t 35)),i 37 (.mov (t 36)),⟨(some 38),(some (37,false)),(.mov (t 15)),none,[]⟩,⟨(some 39),(some (37,false)),(.un .not (t 38)),none,[]⟩,i 40 (.pick (t 37) (k (.bool true)) (t 39)),i 41 (.mov (t 40)),⟨(some 42),(some (41,false)),(.mov (t 3)),none,[]⟩,⟨(some 43),(some (41,false)),(.bin .lss (t 42) (k (.int .i64 0))),none,[]⟩,i 44 (.pick (t 41) (k (.bool true)) (t 43)),i 45 (.mov (t 44)),⟨(some 46),(some (45,false)),(.mov (t 3)),none,[]⟩,⟨(some 47),(some (45,false)),(.bin .gtr (t 46) (k (.int .i64 1051898399))),none,[]⟩,i 48 (.pick (t 45) (k (.bool true)) (t 47))]) (.cond (t 48) (.seq (.ops [i 8 (.mov (k (.map none))),i 9 (.mov (k (.int .i64 2)))]) .ret) .skip)) (.seq (.ops [i 49 (.mov (t 11)),i 8 (.mov (t 49)),i 9 (.mov (k (.int .i64 0)))]) .ret)))))))
def a46:AFunc:=⟨50,[(.tmp 8),(.tmp 9)],c46⟩
theorem n46:a46.ntmps=50:=id rfl
theorem r46:a46.results=[(.tmp 8),(.tmp 9)]:=rfl
theorem b46:a46.body=c46:=rfl
def c47:ACode:=(.seq (.ops [i 4 (.box (t 0)),i 5 (.box (t 1)),i 7 (.box (t 3)),i 8 (.mov (k (.slice none 0 0)))]) (.seq (.ops [i 10 (.makeFunc 69 [] [(t 5),(t 7)]),i 9 (.mov (t 10))]) (.seq (.drawn 0 [i 11 (.load1 (t 5)),i 12 (.mov (t 2)),i 13 (.lookup (.int .i64) (.int .i64 0) false (t 11) (t 12)),i 14 (.load1 (t 7)),i 15 (.call .pure (.func 72) [(t 13),(t 14)]),i 16 (.fieldAddr 1 (t 4)),i 17 (.load1 (t 16)),i 18 (.mov (t 9)),i 19 (.call .any (.func 71) [(t 15),(t 17),(t 18)]),i 8 (.mov (t 19))]) .ret)))
def a47:AFunc:=⟨20,[(.tmp 8)],c47⟩
theorem n47:a47.ntmps=20:=id rfl
theorem r47:a47.results=[(.tmp 8)]:=rfl
theorem b47:a47.body=c47:=rfl
def c48:ACode:=(.seq (.ops [i 2 (.mov (k (.slice none 0 0)))]) (.seq (.seq (.ops [i 3 (.mov (t 0)),i 4 (.eqv false .slice (t 3) (k (.slice none 0 0)))]) (.cond (t 4) (.seq (.ops [i 2 (.mov (k (.slice none 0 0)))]) .ret) .skip)) (.seq (.ops [i 5 (.buildSlice 0 [] []),i 6 (.mov (t 0)),i 7 (.append 1 8 false (t 5) (t 6)),i 2 (.mov (t 7))]) .ret)))
def a48:AFunc:=⟨8,[(.tmp 2)],c48⟩
theorem n48:a48.ntmps=8:=id rfl
theorem r48:a48.results=[(.tmp 2)]:=rfl
theorem b48:a48.body=c48:=rfl
def c49:ACode:=(.seq (.ops [i 3 (.box (t 0)),i 5 (.box (t 2)),i 6 (.mov (k (.slice none 0 0))),i 7 (.mov (k (.int .i64 0)))]) (.seq (.ops [i 14 (.loadN 2 (t 3)),i 15 (.mov (t 1)),i 16 (.mov (t 1)),i 17 (.load1 (t 5)),i 18 (.call .any (.func 46) [(t 14),(t 15),(t 16),(t 17)]),i 13 (.mov (t 18)),i 19 (.extract 0 (t 13)),i 20 (.extract 1 (t 13)),i 8 (.alloc [(.map none)]),⟨none,none,(.store 1 (t 8) (t 19)),none,[]⟩,i 9 (.mov (t 20))]) (.seq (.seq (.ops [i 21 (.mov (t 9)),i 22 (.bin .neq (t 21) (k (.int .i64 0)))]) (.cond (t 22) (.seq (.ops [i 23 (.mov (t 9)),i 6 (.mov (k (.slice none 0 0))),i 7 (.mov (t 23))]) .ret) .skip)) (.seq (.ops [i 24 (.makeFunc 73 [] [(t 8),(t 5)]),i 10 (.mov (t 24))]) (.seq (.drawn 0 [i 25 (.load1 (t 8)),i 26 (.mov (t 1)),i 27 (.lookup (.int .i64) (.int .i64 0) false (t 25) (t 26)),i 28 (.load1 (t 5)),i 29 (.call .pure (.func 72) [(t 27),(t 28)]),i 30 (.fieldAddr 1 (t 3)),i 31 (.load1 (t 30)),i 32 (.mov (t 10)),i 33 (.call .any (.func 71) [(t 29),(t 31),(t 32)]),i 11 (.mov (t 33))]) (.seq (.ops [i 34 (.mov (t 11)),i 35 (.mov (t 11)),i 36 (.lenSlice (t 35)),i 37 (.bin .sub (t 36) (k (.int .i64 1))),i 38 (.idxAddrS 50 (t 34) (t 37)),i 39 (.loadN 50 (t 38)),i 12 (.alloc [(.int .i64 0),(.int .i64 0),(.int .i64 0),(.int .i64 0),(.int .i64 0),(.int .i64 0),(.int .i64 0),(.int .i64 0),(.int .i64 0),(.int .i64 0),(.int .i64 0),(.int .i64 0),(.int .i64 0),(.int .i64 0),(.int .i64 0),(.int .i64 0),(.int .i64 0),(.int .i64 0),(.int .i64 0),(.int .i64 0),(.int .i64 0),(.int .i64 0),(.int .i64 0),(.int .i64 0),(.int .i64 0),(.int .i64 0),(.int .i64 0),(.int .i64 0),(.int .i64 0),(.int .i64 0),(.int .i64 0),(.int .i64 0),(.int .i64 0),(.int .i64 0),(.int .i64 0),(.int .i64 0),(.int .i64 0),(.int .i64 0),(.int .i64 0),(.int .i64 0),(.int .i64 0),(.int .i64 0),(.int .i64 0),(.int .i64 0),(.int .i64 0),(.int .i64 0),(.int .i64 0),(.int .i64 0),(.int .i64 0),(.int .i64 0)]),⟨none,none,(.store 50 (t 12) (t 39)),none,[]⟩]) (.seq (.ops [i 40 (.fieldAddr 0 (t 3)),i 41 (.load1 (t 40)),i 42 (.lenSlice (t 41)),i 43 (.sliceA 50 1 (t 12) none (some (t 42)) none),i 44 (.call .any (.func 48) [(t 43)]),i 6 (.mov (t 44)),i 7 (.mov (k (.int .i64 0)))]) .ret)))))))
def a49:AFunc:=⟨45,[(.tmp 6),(.tmp 7)],c49⟩
def l57_1:ACode:=(.seq (.ops [i 52 (.bin .lss (t 51) (t 50))]) (.seq (.cond (t 52) .skip (.exit 2)) (.seq (.block 3 (.seq (.ops [i 53 (.idxAddrS 8 (t 49) (t 51)),i 54 (.loadN 8 (t 53)),i 8 (.alloc [(.int .i64 0),(.int .i64 0),(.int .i64 0),(.int .i64 0),(.int .i64 0),(.int .i64 0),(.int .i64 0),(.int .u8 0)]),⟨none,none,(.store 8 (t 8) (t 54)),none,[]⟩]) (.seq (.seq (.ops [i 55 (.loadN 8 (t 8)),i 56 (.call .any (.func 89) [(t 55)]),i 57 (.un .not (t 56)),i 58 (.mov (t 57)),⟨(some 59),(some (58,false)),(.mov (t 6)),none,[]⟩,⟨(some 60),(some (58,false)),(.fieldAddr 0 (t 8)),none,[]⟩,⟨(some 61),(some (58,false)),(.load1 (t 60)),none,[]⟩,⟨(some 62),(some (58,false)),(.lookup (.int .i64) (.bool false) false (t 59) (t 61)),none,[]⟩,i 63 (.pick (t 58) (k (.bool true)) (t 62)),i 64 (.mov (t 63)),⟨(some 65),(some (64,false)),(.mov (t 3)),none,[]⟩,⟨(some 66),(some (64,false)),(.fieldAddr 1 (t 8)),none,[]⟩,⟨(some 67),(some (64,false)),(.load1 (t 66)),none,[]⟩,⟨(some 68),(some (64,false)),(.lookup (.int .i64) (.bool false) false (t 65) (t 67)),none,[]⟩,⟨(some 69),(some (64,false)),(.un .not (t 68)),none,[]⟩,i 70 (.pick (t 64) (k (.bool true)) (t 69)),i 71 (.mov (t 70)),⟨(some 72),(some (71,false)),(.mov (t 3)),none,[]⟩,⟨(some 73),(some (71,false)),(.fieldAddr 2 (t 8)),none,[]⟩,⟨(some 74),(some (71,false)),(.load1 (t 73)),none,[]⟩,⟨(some 75),(some (71,false)),(.lookup (.int .i64) (.bool false) false (t 72) (t 74)),none,[]⟩,⟨(some 76),(some (71,false)),(.un .not (t 75)),none,[]⟩,i 77 (.pick (t 71) (k (.bool true)) (t 76))]) (.cond (t 77) (.seq (.ops [i 2 (.mov (k (.int .i64 321)))]) .ret) .skip)) (.ops [i 78 (.mov (t 6)),i 79 (.fieldAddr 0 (t 8)),i 80 (.load1 (t 79)),⟨none,none,(.mapUpdate (.int .i64) (t 78) (t 80) (k (.bool true))),none,[]⟩])))) (.ops [i 81 (.bin .add (t 51) (k (.int .i64 1))),i 51 (.mov (t 81))]))))
def l57_2:ACode:=(.seq (.ops [i 27 (.bin .lss (t 26) (t 25))]) (.seq (.cond (t 27) .skip (.exit 0)) (.seq (.block 1 (.seq (.ops [i 28 (.idxAddrS 1 (t 24) (t 26)),i 29 (.load1 (t 28)),i 5 (.mov (t 29))]) (.seq (.seq (.ops [i 30 (.mov (t 5)),i 31 (.bin .lss (t 30) (k (.int .i64 1))),i 32 (.mov (t 31)),⟨(some 33),(some (32,false)),(.mov (t 5)),none,[]⟩,⟨(some 34),(some (32,false)),(.bin .gtr (t 33) (k (.int .i64 999999))),none,[]⟩,i 35 (.pick (t 32) (k (.bool true)) (t 34)),i 36 (.mov (t 35)),⟨(some 37),(some (36,false)),(.mov (t 3)),none,[]⟩,⟨(some 38),(some (36,false)),(.mov (t 5)),none,[]⟩,⟨(some 39),(some (36,false)),(.lookup (.int .i64) (.bool false) false (t 37) (t 38)),none,[]⟩,i 40 (.pick (t 36) (k (.bool true)) (t 39))]) (.cond (t 40) (.seq (.ops [i 2 (.mov (k (.int .i64 320)))]) .ret) .skip)) (.ops [i 41 (.mov (t 3)),i 42 (.mov (t 5)),⟨none,none,(.mapUpdate (.int .i64) (t 41) (t 42) (k (.bool true))),none,[]⟩])))) (.ops [i 43 (.bin .add (t 26) (k (.int .i64 1))),i 26 (.mov (t 43))]))))
def c57:ACode:=(.seq (.ops [i 1 (.box (t 0)),i 2 (.mov (k (.int .i64 0)))]) (.seq (.seq (.ops [i 9 (.fieldAddr 0 (t 1)),i 10 (.load1 (t 9)),i 11 (.lenSlice (t 10)),i 12 (.bin .gtr (t 11) (k (.int .i64 50))),i 13 (.mov (t 12)),⟨(some 14),(some (13,false)),(.fieldAddr 1 (t 1)),none,[]⟩,⟨(some 15),(some (13,false)),(.load1 (t 14)),none,[]⟩,⟨(some 16),(some (13,false)),(.lenSlice (t 15)),none,[]⟩,⟨(some 17),(some (13,false)),(.bin .gtr (t 16) (k (.int .i64 200))),none,[]⟩,i 18 (.pick (t 13) (k (.bool true)) (t 17))]) (.cond (t 18) (.seq (.ops [i 2 (.mov (k (.int .i64 5)))]) .ret) .skip)) (.seq (.ops [i 19 (.fieldAddr 0 (t 1)),i 20 (.load1 (t 19)),i 21 (.lenSlice (t 20)),i 22 (.makeMap (some (t 21))),i 3 (.mov (t 22))]) (.seq (.seq (.ops [i 23 (.fieldAddr 0 (t 1)),i 24 (.load1 (t 23)),i 25 (.lenSlice (t 24)),i 26 (.mov (k (.int .i64 0)))]) (.block 0 (.loop l57_2))) (.seq (.ops [i 44 (.fieldAddr 1 (t 1)),i 45 (.load1 (t 44)),i 46 (.lenSlice (t 45)),i 47 (.makeMap (some (t 46))),i 6 (.mov (t 47))]) (.seq (.seq (.ops [i 48 (.fieldAddr 1 (t 1)),i 49 (.load1 (t 48)),i 50 (.lenSlice (t 49)),i 51 (.mov (k (.int .i64 0)))]) (.block 2 (.loop l57_1))) (.seq (.ops [i 2 (.mov (k (.int .i64 0)))]) .ret)))))))
def a57:AFunc:=⟨82,[(.tmp 2)],c57⟩
theorem n57:a57.ntmps=82:=id rfl
theorem r57:a57.results=[(.tmp 2)]:=rfl
theorem b57:a57.body=c57:=rfl
def l58_1:ACode:=(.seq (.ops [i 11 (.bin .lss (t 10) (t 9))]) (.seq (.cond (t 11) .skip (.exit 0)) (.seq (.block 1 (.seq (.ops [i 12 (.idxAddrS 6 (t 8) (t 10)),i 13 (.loadN 6 (t 12)),i 4 (.alloc [(.int .i64 0),(.int .i64 0),(.int .i64 0),(.int .u8 0),(.int .i64 0),(.int .i64 0)]),⟨none,none,(.store 6 (t 4) (t 13)),none,[]⟩]) (.seq (.ops [i 14 (.loadN 6 (t 4)),i 15 (.call .any (.func 90) [(t 14)]),i 16 (.un .not (t 15))]) (.cond (t 16) (.seq (.ops [i 2 (.mov (k (.bool false)))]) .ret) .skip)))) (.ops [i 17 (.bin .add (t 10) (k (.int .i64 1))),i 10 (.mov (t 17))]))))
def c58:ACode:=(.seq (.ops [i 2 (.mov (k (.bool false)))]) (.seq (.seq (.ops [i 5 (.mov (t 0)),i 6 (.lenSlice (t 5)),i 7 (.bin .gtr (t 6) (k (.int .i64 2000)))]) (.cond (t 7) (.seq (.ops [i 2 (.mov (k (.bool false)))]) .ret) .skip)) (.seq (.seq (.ops [i 8 (.mov (t 0)),i 9 (.lenSlice (t 8)),i 10 (.mov (k (.int .i64 0)))]) (.block 0 (.loop l58_1))) (.seq (.ops [i 2 (.mov (k (.bool true)))]) .ret))))
def a58:AFunc:=⟨18,[(.tmp 2)],c58⟩
theorem n58:a58.ntmps=18:=id rfl
theorem r58:a58.results=[(.tmp 2)]:=rfl
theorem b58:a58.body=c58:=rfl
def c59:ACode:=(.seq (.ops [i 2 (.box (t 0)),i 3 (.box (t 1)),i 4 (.mov (k (.bool false)))]) (.seq (.ops [i 5 (.fieldAddr 0 (t 2)),i 6 (.load1 (t 5)),i 7 (.fieldAddr 0 (t 3)),i 8 (.load1 (t 7)),i 9 (.bin .lss (t 6) (t 8)),i 10 (.mov (t 9)),⟨(some 11),(some (10,false)),(.fieldAddr 0 (t 2)),none,[]⟩,⟨(some 12),(some (10,false)),(.load1 (t 11)),none,[]⟩,⟨(some 13),(some (10,false)),(.fieldAddr 0 (t 3)),none,[]⟩,⟨(some 14),(some (10,false)),(.load1 (t 13)),none,[]⟩,⟨(some 15),(some (10,false)),(.bin .eql (t 12) (t 14)),none,[]⟩,⟨(some 16),(some (10,false)),(.mov (t 15)),none,[]⟩,⟨(some 17),(some (16,true)),(.fieldAddr 1 (t 2)),none,[]⟩,⟨(some 18),(some (16,true)),(.load1 (t 17)),none,[]⟩,⟨(some 19),(some (16,true)),(.fieldAddr 1 (t 3)),none,[]⟩,⟨(some 20),(some (16,true)),(.load1 (t 19)),none,[]⟩,⟨(some 21),(some (16,true)),(.bin .gtr (t 18) (t 20)),none,[]⟩,⟨(some 22),(some (10,false)),(.pick (t 16) (t 21) (k (.bool false))),none,[]⟩,i 23 (.pick (t 10) (k (.bool true)) (t 22)),i 4 (.mov (t 23))]) .ret))
def a59:AFunc:=⟨24,[(.tmp 4)],c59⟩
theorem n59:a59.ntmps=24:=id rfl
theorem r59:a59.results=[(.tmp 4)]:=rfl
theorem b59:a59.body=c59:=rfl
def l63_1:ACode:=(.seq (.ops [i 9 (.bin .lss (t 8) (t 7))]) (.seq (.cond (t 9) .skip (.exit 0)) (.seq (.block 1 (.seq (.ops [i 10 (.mov (t 8)),i 5 (.mov (t 10))]) (.seq (.ops [i 11 (.mov (t 1)),i 12 (.mov (t 0)),i 13 (.mov (t 5)),i 14 (.idxAddrS 1 (t 12) (t 13)),i 15 (.load1 (t 14)),i 16 (.bin .eql (t 11) (t 15))]) (.cond (t 16) (.seq (.ops [i 17 (.mov (t 5)),i 4 (.mov (t 17))]) .ret) .skip)))) (.ops [i 18 (.bin .add (t 8) (k (.int .i64 1))),i 8 (.mov (t 18))]))))
def c63:ACode:=(.seq (.ops [i 4 (.mov (k (.int .i64 0)))]) (.seq (.seq (.ops [i 6 (.mov (t 0)),i 7 (.lenSlice (t 6)),i 8 (.mov (k (.int .i64 0)))]) (.block 0 (.loop l63_1))) (.seq (.ops [i 4 (.mov (k (.int .i64 (-1))))]) .ret)))
def a63:AFunc:=⟨19,[(.tmp 4)],c63⟩
theorem n63:a63.ntmps=19:=id rfl
theorem r63:a63.results=[(.tmp 4)]:=rfl
theorem b63:a63.body=c63:=rfl
def c64:ACode:=(.seq (.ops [i 6 (.mov (k (.slice none 0 0)))]) (.seq (.ops [i 11 (.mov (t 1)),i 12 (.mov (t 2)),i 13 (.build [(.int .i64 0),(.int .i64 0)] [(0,(1,(t 11))),(1,(1,(t 12)))]),i 7 (.alloc [(.int .i64 0),(.int .i64 0)]),⟨none,none,(.store 2 (t 7) (t 13)),none,[]⟩]) (.seq (.drawn 0 [i 15 (.mov (t 0)),i 16 (.nilCheck (t 15)),i 17 (.fieldAddr 2 (t 16)),i 18 (.load1 (t 17)),i 19 (.loadN 2 (t 7)),i 20 (.lookup (.ints [.i64,.i64]) (.slice none 0 0) true (t 18) (t 19)),i 14 (.mov (t 20)),i 21 (.extract 0 (t 14)),i 22 (.extract 1 (t 14)),i 8 (.mov (t 21)),i 9 (.mov (t 22))]) (.seq (.seq (.ops [i 23 (.mov (t 9)),i 24 (.un .not (t 23))]) (.cond (t 24) (.seq (.ops [i 10 (.mov (k (.int .i64 0)))]) (.seq (.seq (.ops [i 26 (.mov (t 0)),i 27 (.nilCheck (t 26)),i 28 (.fieldAddr 0 (t 27)),i 29 (.loadN 2 (t 28)),i 30 (.mov (t 1)),i 31 (.mov (t 2)),i 32 (.call .any (.func 25) [(t 29),(t 30),(t 31)]),i 25 (.mov (t 32)),i 33 (.extract 0 (t 25)),i 34 (.extract 1 (t 25)),i 8 (.mov (t 33)),i 10 (.mov (t 34))]) (.seq (.ops [i 35 (.mov (t 10)),i 36 (.bin .neq (t 35) (k (.int .i64 0)))]) (.cond (t 36) (.ops [i 8 (.mov (k (.slice none 0 0)))]) .skip))) (.drawn 0 [i 37 (.mov (t 0)),i 38 (.nilCheck (t 37)),i 39 (.fieldAddr 2 (t 38)),i 40 (.load1 (t 39)),i 41 (.loadN 2 (t 7)),i 42 (.mov (t 8)),⟨none,none,(.mapUpdate (.ints [.i64,.i64]) (t 40) (t 41) (t 42)),none,[]⟩]))) .skip)) (.seq (.ops [i 43 (.mov (t 8)),i 6 (.mov (t 43))]) .ret)))))
def a64:AFunc:=⟨44,[(.tmp 6)],c64⟩
theorem n64:a64.ntmps=44:=id rfl
theorem r64:a64.results=[(.tmp 6)]:=rfl
theorem b64:a64.body=c64:=rfl
def l68_1:ACode:=(.seq (.ops [i 14 (.bin .lss (t 13) (t 12))]) (.seq (.cond (t 14) .skip (.exit 0)) (.seq (.block 1 (.seq (.ops [i 15 (.mov (t 13)),i 16 (.idxAddrS 1 (t 11) (t 13)),i 17 (.load1 (t 16)),i 4 (.mov (t 15)),i 5 (.mov (t 17))]) (.ops [i 18 (.mov (t 3)),i 19 (.mov (t 5)),i 20 (.mov (t 4)),⟨none,none,(.mapUpdate (.int .i64) (t 18) (t 19) (t 20)),none,[]⟩]))) (.ops [i 21 (.bin .add (t 13) (k (.int .i64 1))),i 13 (.mov (t 21))]))))
def c68:ACode:=(.seq (.ops [i 1 (.box (t 0)),i 2 (.mov (k (.map none)))]) (.seq (.ops [i 6 (.fieldAddr 0 (t 1)),i 7 (.load1 (t 6)),i 8 (.lenSlice (t 7)),i 9 (.makeMap (some (t 8))),i 3 (.mov (t 9))]) (.seq (.seq (.ops [i 10 (.fieldAddr 0 (t 1)),i 11 (.load1 (t 10)),i 12 (.lenSlice (t 11)),i 13 (.mov (k (.int .i64 0)))]) (.block 0 (.loop l68_1))) (.seq (.ops [i 22 (.mov (t 3)),i 2 (.mov (t 22))]) .ret))))
def a68:AFunc:=⟨23,[(.tmp 2)],c68⟩
theorem n68:a68.ntmps=23:=id rfl
theorem r68:a68.results=[(.tmp 2)]:=rfl
theorem b68:a68.body=c68:=rfl
def c69:ACode:=(.seq (.ops [i 5 (.box (t 0)),i 6 (.box (t 1))]) (.seq (.drawn 0 [i 12 (.load1 (t 3)),i 13 (.fieldAddr 1 (t 5)),i 14 (.load1 (t 13)),i 15 (.lookup (.int .i64) (.int .i64 0) false (t 12) (t 14)),i 16 (.idxAddrA 50 1 (t 6) (t 15)),i 17 (.load1 (t 16)),i 18 (.load1 (t 3)),i 19 (.fieldAddr 2 (t 5)),i 20 (.load1 (t 19)),i 21 (.lookup (.int .i64) (.int .i64 0) false (t 18) (t 20)),i 8 (.mov (t 17)),i 9 (.mov (t 21))]) (.seq (.seq (.ops [i 22 (.mov (t 8)),i 23 (.bin .lss (t 22) (k (.int .i64 0)))]) (.cond (t 23) .ret .skip)) (.seq (.ops [i 25 (.loadN 8 (t 5)),i 26 (.mov (t 8)),i 27 (.call .any (.func 70) [(t 25),(t 26)]),i 24 (.mov (t 27)),i 28 (.extract 0 (t 24)),i 29 (.extract 1 (t 24)),i 10 (.alloc [(.int .i64 0),(.int .i64 0)]),⟨none,none,(.store 2 (t 10) (t 28)),none,[]⟩,i 11 (.mov (t 29))]) (.seq (.drawn 0 [i 30 (.mov (t 11)),i 31 (.mov (t 30)),⟨(some 32),(some (31,true)),(.fieldAddr 1 (t 10)),none,[]⟩,⟨(some 33),(some (31,true)),(.load1 (t 32)),none,[]⟩,⟨(some 34),(some (31,true)),(.load1 (t 4)),none,[]⟩,⟨(some 35),(some (31,true)),(.bin .add (t 34) (k (.int .i64 86400))),none,[]⟩,⟨(some 36),(some (31,true)),(.bin .leq (t 33) (t 35)),none,[]⟩,i 37 (.pick (t 31) (t 36) (k (.bool false))),i 38 (.mov (t 37)),⟨(some 39),(some (38,true)),(.mov (t 2)),none,[]⟩,⟨(some 40),(some (38,true)),(.mov (t 9)),none,[]⟩,⟨(some 41),(some (38,true)),(.nilCheck (t 39)),none,[]⟩,⟨(some 42),(some (38,true)),(.idxAddrA 50 1 (t 41) (t 40)),none,[]⟩,⟨(some 43),(some (38,true)),(.load1 (t 42)),none,[]⟩,⟨(some 44),(some (38,true)),(.bin .lss (t 43) (k (.int .i64 0))),none,[]⟩,⟨(some 45),(some (38,true)),(.mov (t 44)),none,[]⟩,⟨(some 46),(some (45,false)),(.fieldAddr 1 (t 10)),none,[]⟩,⟨(some 47),(some (45,false)),(.load1 (t 46)),none,[]⟩,⟨(some 48),(some (45,false)),(.mov (t 2)),none,[]⟩,⟨(some 49),(some (45,false)),(.mov (t 9)),none,[]⟩,⟨(some 50),(some (45,false)),(.nilCheck (t 48)),none,[]⟩,⟨(some 51),(some (45,false)),(.idxAddrA 50 1 (t 50) (t 49)),none,[]⟩,⟨(some 52),(some (45,false)),(.load1 (t 51)),none,[]⟩,⟨(some 53),(some (45,false)),(.bin .lss (t 47) (t 52)),none,[]⟩,⟨(some 54),(some (38,true)),(.pick (t 45) (k (.bool true)) (t 53)),none,[]⟩,i 55 (.pick (t 38) (t 54) (k (.bool false)))]) (.cond (t 55) (.drawn 0 [i 56 (.mov (t 2)),i 57 (.mov (t 9)),i 58 (.fieldAddr 1 (t 10)),i 59 (.load1 (t 58)),i 60 (.nilCheck (t 56)),i 61 (.idxAddrA 50 1 (t 60) (t 57)),⟨none,none,(.store 1 (t 61) (t 59)),none,[]⟩]) .skip))))))
def a69:AFunc:=⟨62,[],c69⟩
theorem n69:a69.ntmps=62:=id rfl
theorem r69:a69.results=[]:=rfl
theorem b69:a69.body=c69:=rfl
def ga70_1:ACode:=(.ops [i 7 (.alloc [(.int .i64 0),(.int .i64 0)]),⟨none,none,(.store 2 (t 7) (t 26)),none,[]⟩])
def gb70_1:ACode:=(.block 1 (.seq (.ops [i 27 (.fieldAddr 0 (t 7)),i 28 (.load1 (t 27)),i 29 (.fieldAddr 5 (t 2)),i 30 (.load1 (t 29)),i 31 (.bin .sub (t 28) (t 30)),i 32 (.load1 (t 3)),i 33 (.bin .geq (t 31) (t 32))]) (.cond (t 33) (.seq (.ops [i 34 (.loadN 2 (t 7)),⟨none,none,(.store 2 (t 4) (t 34)),none,[]⟩,⟨none,none,(.store 1 (t 5) (k (.bool true))),none,[]⟩]) .retR) .skip)))
def c70:ACode:=(.seq (.seq (.ops [i 2 (.box (t 0)),i 3 (.box (t 1)),i 4 (.alloc [(.int .i64 0),(.int .i64 0)]),i 5 (.alloc [(.bool false)])]) (.seq (.seq (.ops [i 8 (.loadN 8 (t 2)),i 9 (.call .any (.func 89) [(t 8)]),i 10 (.un .not (t 9)),i 11 (.mov (t 10)),⟨(some 12),(some (11,false)),(.load1 (t 3)),none,[]⟩,⟨(some 13),(some (11,false)),(.bin .gtr (t 12) (k (.int .i64 1051898399))),none,[]⟩,i 14 (.pick (t 11) (k (.bool true)) (t 13))]) (.cond (t 14) (.seq (.ops [i 15 (.build [(.int .i64 0),(.int .i64 0)] []),⟨none,none,(.store 2 (t 4) (t 15)),none,[]⟩,⟨none,none,(.store 1 (t 5) (k (.bool false))),none,[]⟩]) .retM) .skip)) (.seq (.ops [i 16 (.load1 (t 3)),i 17 (.minmax true [(t 16),(k (.int .i64 0))]),⟨none,none,(.store 1 (t 3) (t 17)),none,[]⟩]) (.seq (.ops [i 18 (.load1 (t 3)),i 19 (.fieldAddr 5 (t 2)),i 20 (.load1 (t 19)),i 21 (.bin .add (t 18) (t 20)),i 22 (.bin .quo (t 21) (k (.int .i64 1440))),i 6 (.mov (t 22))]) (.seq (.seq (.ops [i 23 (.loadN 8 (t 2)),i 24 (.mov (t 6)),i 25 (.call .any (.func 91) [(t 23),(t 24),(k (.int .i64 1))])]) (.block 0 (.rangeF (t 25) [26] ga70_1 gb70_1))) (.seq (.ops [i 35 (.build [(.int .i64 0),(.int .i64 0)] []),⟨none,none,(.store 2 (t 4) (t 35)),none,[]⟩,⟨none,none,(.store 1 (t 5) (k (.bool false))),none,[]⟩]) .retM)))))) .retM)
def a70:AFunc:=⟨36,[(.cellN 2 4),(.cell1 5)],c70⟩
theorem n70:a70.ntmps=36:=id rfl
theorem r70:a70.results=[(.cellN 2 4),(.cell1 5)]:=rfl
theorem b70:a70.body=c70:=rfl
def l71_1:ACode:=(.seq (.ops [i 24 (.bin .lss (t 23) (t 22))]) (.seq (.cond (t 24) .skip (.exit 2)) (.seq (.block 3 (.seq (.ops [i 25 (.idxAddrS 8 (t 21) (t 23)),i 26 (.loadN 8 (t 25)),i 11 (.alloc [(.int .i64 0),(.int .i64 0),(.int .i64 0),(.int .i64 0),(.int .i64 0),(.int .i64 0),(.int .i64 0),(.int .u8 0)]),⟨none,none,(.store 8 (t 11) (t 26)),none,[]⟩]) (.ops [i 27 (.mov (t 2)),i 28 (.loadN 8 (t 11)),i 29 (.loadN 50 (t 8)),i 30 (.call .any (t 27) [(t 28),(t 29),(t 9)])]))) (.ops [i 31 (.bin .add (t 23) (k (.int .i64 1))),i 23 (.mov (t 31))]))))
def l71_2:ACode:=(.block 1 (.seq (.ops [i 14 (.mov (t 7)),i 15 (.mov (t 7)),i 16 (.lenSlice (t 15)),i 17 (.bin .sub (t 16) (k (.int .i64 1))),i 18 (.idxAddrS 50 (t 14) (t 17)),i 19 (.loadN 50 (t 18)),i 8 (.alloc [(.int .i64 0),(.int .i64 0),(.int .i64 0),(.int .i64 0),(.int .i64 0),(.int .i64 0),(.int .i64 0),(.int .i64 0),(.int .i64 0),(.int .i64 0),(.int .i64 0),(.int .i64 0),(.int .i64 0),(.int .i64 0),(.int .i64 0),(.int .i64 0),(.int .i64 0),(.int .i64 0),(.int .i64 0),(.int .i64 0),(.int .i64 0),(.int .i64 0),(.int .i64 0),(.int .i64 0),(.int .i64 0),(.int .i64 0),(.int .i64 0),(.int .i64 0),(.int .i64 0),(.int .i64 0),(.int .i64 0),(.int .i64 0),(.int .i64 0),(.int .i64 0),(.int .i64 0),(.int .i64 0),(.int .i64 0),(.int .i64 0),(.int .i64 0),(.int .i64 0),(.int .i64 0),(.int .i64 0),(.int .i64 0),(.int .i64 0),(.int .i64 0),(.int .i64 0),(.int .i64 0),(.int .i64 0),(.int .i64 0),(.int .i64 0)]),⟨none,none,(.store 50 (t 8) (t 19)),none,[]⟩]) (.seq (.ops [i 20 (.loadN 50 (t 8)),i 9 (.alloc [(.int .i64 0),(.int .i64 0),(.int .i64 0),(.int .i64 0),(.int .i64 0),(.int .i64 0),(.int .i64 0),(.int .i64 0),(.int .i64 0),(.int .i64 0),(.int .i64 0),(.int .i64 0),(.int .i64 0),(.int .i64 0),(.int .i64 0),(.int .i64 0),(.int .i64 0),(.int .i64 0),(.int .i64 0),(.int .i64 0),(.int .i64 0),(.int .i64 0),(.int .i64 0),(.int .i64 0),(.int .i64 0),(.int .i64 0),(.int .i64 0),(.int .i64 0),(.int .i64 0),(.int .i64 0),(.int .i64 0),(.int .i64 0),(.int .i64 0),(.int .i64 0),(.int .i64 0),(.int .i64 0),(.int .i64 0),(.int .i64 0),(.int .i64 0),(.int .i64 0),(.int .i64 0),(.int .i64 0),(.int .i64 0),(.int .i64 0),(.int .i64 0),(.int .i64 0),(.int .i64 0),(.int .i64 0),(.int .i64 0),(.int .i64 0)]),⟨none,none,(.store 50 (t 9) (t 20)),none,[]⟩]) (.seq (.seq (.ops [i 21 (.mov (t 1)),i 22 (.lenSlice (t 21)),i 23 (.mov (k (.int .i64 0)))]) (.block 2 (.loop l71_1))) (.seq (.seq (.ops [i 32 (.loadN 50 (t 9)),i 33 (.loadN 50 (t 8)),i 34 (.eqv false (.agg [(.int .i64),(.int .i64),(.int .i64),(.int .i64),(.int .i64),(.int .i64),(.int .i64),(.int .i64),(.int .i64),(.int .i64),(.int .i64),(.int .i64),(.int .i64),(.int .i64),(.int .i64),(.int .i64),(.int .i64),(.int .i64),(.int .i64),(.int .i64),(.int .i64),(.int .i64),(.int .i64),(.int .i64),(.int .i64),(.int .i64),(.int .i64),(.int .i64),(.int .i64),(.int .i64),(.int .i64),(.int .i64),(.int .i64),(.int .i64),(.int .i64),(.int .i64),(.int .i64),(.int .i64),(.int .i64),(.int .i64),(.int .i64),(.int .i64),(.int .i64),(.int .i64),(.int .i64),(.int .i64),(.int .i64),(.int .i64),(.int .i64),(.int .i64)]) (t 32) (t 33))]) (.cond (t 34) (.seq (.ops [i 35 (.mov (t 7)),i 6 (.mov (t 35))]) .ret) .skip)) (.ops [i 36 (.mov (t 7)),i 37 (.loadN 50 (t 9)),i 38 (.buildSlice 1 [(.int .i64 0),(.int .i64 0),(.int .i64 0),(.int .i64 0),(.int .i64 0),(.int .i64 0),(.int .i64 0),(.int .i64 0),(.int .i64 0),(.int .i64 0),(.int .i64 0),(.int .i64 0),(.int .i64 0),(.int .i64 0),(.int .i64 0),(.int .i64 0),(.int .i64 0),(.int .i64 0),(.int .i64 0),(.int .i64 0),(.int .i64 0),(.int .i64 0),(.int .i64 0),(.int .i64 0),(.int .i64 0),(.int .i64 0),(.int .i64 0),(.int .i64 0),(.int .i64 0),(.int .i64 0),(.int .i64 0),(.int .i64 0),(.int .i64 0),(.int .i64 0),(.int .i64 0),(.int .i64 0),(.int .i64 0),(.int .i64 0),(.int .i64 0),(.int .i64 0),(.int .i64 0),(.int .i64 0),(.int .i64 0),(.int .i64 0),(.int .i64 0),(.int .i64 0),(.int .i64 0),(.int .i64 0),(.int .i64 0),(.int .i64 0)] [(0,(50,(t 37)))]),i 39 (.append 50 400 false (t 36) (t 38)),i 7 (.mov (t 39))]))))))
def c71:ACode:=(.seq (.ops [i 3 (.box (t 0)),i 6 (.mov (k (.slice none 0 0)))]) (.seq (.ops [i 12 (.loadN 50 (t 3)),i 13 (.buildSlice 1 [(.int .i64 0),(.int .i64 0),(.int .i64 0),(.int .i64 0),(.int .i64 0),(.int .i64 0),(.int .i64 0),(.int .i64 0),(.int .i64 0),(.int .i64 0),(.int .i64 0),(.int .i64 0),(.int .i64 0),(.int .i64 0),(.int .i64 0),(.int .i64 0),(.int .i64 0),(.int .i64 0),(.int .i64 0),(.int .i64 0),(.int .i64 0),(.int .i64 0),(.int .i64 0),(.int .i64 0),(.int .i64 0),(.int .i64 0),(.int .i64 0),(.int .i64 0),(.int .i64 0),(.int .i64 0),(.int .i64 0),(.int .i64 0),(.int .i64 0),(.int .i64 0),(.int .i64 0),(.int .i64 0),(.int .i64 0),(.int .i64 0),(.int .i64 0),(.int .i64 0),(.int .i64 0),(.int .i64 0),(.int .i64 0),(.int .i64 0),(.int .i64 0),(.int .i64 0),(.int .i64 0),(.int .i64 0),(.int .i64 0),(.int .i64 0)] [(0,(50,(t 12)))]),i 7 (.mov (t 13))]) (.block 0 (.loop l71_2))))
def a71:AFunc:=⟨40,[(.tmp 6)],c71⟩
theorem n71:a71.ntmps=40:=id rfl
theorem r71:a71.results=[(.tmp 6)]:=rfl
theorem b71:a71.body=c71:=rfl
def l72_1:ACode:=(.seq (.ops [i 8 (.bin .lss (t 7) (k (.int .i64 50)))]) (.seq (.cond (t 8) .skip (.exit 0)) (.seq (.block 1 (.seq (.ops [i 9 (.mov (t 7)),i 6 (.mov (t 9))]) (.ops [i 10 (.mov (t 6)),i 11 (.idxAddrA 50 1 (t 5) (t 10)),⟨none,none,(.store 1 (t 11) (k (.int .i64 (-1)))),none,[]⟩]))) (.ops [i 12 (.bin .add (t 7) (k (.int .i64 1))),i 7 (.mov (t 12))]))))
def c72:ACode:=(.seq (.ops [i 4 (.alloc [(.int .i64 0),(.int .i64 0),(.int .i64 0),(.int .i64 0),(.int .i64 0),(.int .i64 0),(.int .i64 0),(.int .i64 0),(.int .i64 0),(.int .i64 0),(.int .i64 0),(.int .i64 0),(.int .i64 0),(.int .i64 0),(.int .i64 0),(.int .i64 0),(.int .i64 0),(.int .i64 0),(.int .i64 0),(.int .i64 0),(.int .i64 0),(.int .i64 0),(.int .i64 0),(.int .i64 0),(.int .i64 0),(.int .i64 0),(.int .i64 0),(.int .i64 0),(.int .i64 0),(.int .i64 0),(.int .i64 0),(.int .i64 0),(.int .i64 0),(.int .i64 0),(.int .i64 0),(.int .i64 0),(.int .i64 0),(.int .i64 0),(.int .i64 0),(.int .i64 0),(.int .i64 0),(.int .i64 0),(.int .i64 0),(.int .i64 0),(.int .i64 0),(.int .i64 0),(.int .i64 0),(.int .i64 0),(.int .i64 0),(.int .i64 0)])]) (.seq (.ops [i 5 (.alloc [(.int .i64 0),(.int .i64 0),(.int .i64 0),(.int .i64 0),(.int .i64 0),(.int .i64 0),(.int .i64 0),(.int .i64 0),(.int .i64 0),(.int .i64 0),(.int .i64 0),(.int .i64 0),(.int .i64 0),(.int .i64 0),(.int .i64 0),(.int .i64 0),(.int .i64 0),(.int .i64 0),(.int .i64 0),(.int .i64 0),(.int .i64 0),(.int .i64 0),(.int .i64 0),(.int .i64 0),(.int .i64 0),(.int .i64 0),(.int .i64 0),(.int .i64 0),(.int .i64 0),(.int .i64 0),(.int .i64 0),(.int .i64 0),(.int .i64 0),(.int .i64 0),(.int .i64 0),(.int .i64 0),(.int .i64 0),(.int .i64 0),(.int .i64 0),(.int .i64 0),(.int .i64 0),(.int .i64 0),(.int .i64 0),(.int .i64 0),(.int .i64 0),(.int .i64 0),(.int .i64 0),(.int .i64 0),(.int .i64 0),(.int .i64 0)])]) (.seq (.seq (.ops [i 7 (.mov (k (.int .i64 0)))]) (.block 0 (.loop l72_1))) (.seq (.ops [i 13 (.mov (t 0)),i 14 (.mov (t 1)),i 15 (.idxAddrA 50 1 (t 5) (t 13)),⟨none,none,(.store 1 (t 15) (t 14)),none,[]⟩]) (.seq (.ops [i 16 (.loadN 50 (t 5)),⟨none,none,(.store 50 (t 4) (t 16)),none,[]⟩]) .ret)))))
def a72:AFunc:=⟨17,[(.cellN 50 4)],c72⟩
theorem n72:a72.ntmps=17:=id rfl
theorem r72:a72.results=[(.cellN 50 4)]:=rfl
theorem b72:a72.body=c72:=rfl
def c73:ACode:=(.seq (.ops [i 5 (.box (t 0)),i 6 (.box (t 1))]) (.seq (.drawn 0 [i 13 (.load1 (t 3)),i 14 (.fieldAddr 1 (t 5)),i 15 (.load1 (t 14)),i 16 (.lookup (.int .i64) (.int .i64 0) false (t 13) (t 15)),i 17 (.load1 (t 3)),i 18 (.fieldAddr 2 (t 5)),i 19 (.load1 (t 18)),i 20 (.lookup (.int .i64) (.int .i64 0) false (t 17) (t 19)),i 21 (.idxAddrA 50 1 (t 6) (t 20)),i 22 (.load1 (t 21)),i 8 (.mov (t 16)),i 9 (.mov (t 22))]) (.seq (.seq (.ops [i 23 (.mov (t 9)),i 24 (.bin .lss (t 23) (k (.int .i64 0)))]) (.cond (t 24) .ret .skip)) (.seq (.ops [i 26 (.loadN 8 (t 5)),i 27 (.mov (t 9)),i 28 (.call .any (.func 74) [(t 26),(t 27)]),i 25 (.mov (t 28)),i 29 (.extract 0 (t 25)),i 30 (.extract 1 (t 25)),i 10 (.alloc [(.int .i64 0),(.int .i64 0)]),⟨none,none,(.store 2 (t 10) (t 29)),none,[]⟩,i 11 (.mov (t 30))]) (.seq (.ops [i 31 (.fieldAddr 0 (t 10)),i 32 (.load1 (t 31)),i 33 (.fieldAddr 5 (t 5)),i 34 (.load1 (t 33)),i 35 (.bin .sub (t 32) (t 34)),i 12 (.mov (t 35))]) (.seq (.ops [i 36 (.mov (t 11)),i 37 (.mov (t 36)),⟨(some 38),(some (37,true)),(.mov (t 12)),none,[]⟩,⟨(some 39),(some (37,true)),(.load1 (t 4)),none,[]⟩,⟨(some 40),(some (37,true)),(.bin .sub (t 39) (k (.int .i64 86400))),none,[]⟩,⟨(some 41),(some (37,true)),(.bin .geq (t 38) (t 40)),none,[]⟩,i 42 (.pick (t 37) (t 41) (k (.bool false))),i 43 (.mov (t 42)),⟨(some 44),(some (43,true)),(.mov (t 12)),none,[]⟩,⟨(some 45),(some (43,true)),(.mov (t 2)),none,[]⟩,⟨(some 46),(some (43,true)),(.mov (t 8)),none,[]⟩,⟨(some 47),(some (43,true)),(.nilCheck (t 45)),none,[]⟩,⟨(some 48),(some (43,true)),(.idxAddrA 50 1 (t 47) (t 46)),none,[]⟩,⟨(some 49),(some (43,true)),(.load1 (t 48)),none,[]⟩,⟨(some 50),(some (43,true)),(.bin .gtr (t 44) (t 49)),none,[]⟩,i 51 (.pick (t 43) (t 50) (k (.bool false)))]) (.cond (t 51) (.ops [i 52 (.mov (t 2)),i 53 (.mov (t 8)),i 54 (.mov (t 12)),i 55 (.nilCheck (t 52)),i 56 (.idxAddrA 50 1 (t 55) (t 53)),⟨none,none,(.store 1 (t 56) (t 54)),none,[]⟩]) .skip)))))))
def a73:AFunc:=⟨57,[],c73⟩
def ga74_1:ACode:=(.ops [i 7 (.alloc [(.int .i64 0),(.int .i64 0)]),⟨none,none,(.store 2 (t 7) (t 31)),none,[]⟩])
def gb74_1:ACode:=(.block 1 (.seq (.ops [i 32 (.fieldAddr 1 (t 7)),i 33 (.load1 (t 32)),i 34 (.load1 (t 3)),i 35 (.bin .leq (t 33) (t 34))]) (.cond (t 35) (.seq (.ops [i 36 (.loadN 2 (t 7)),⟨none,none,(.store 2 (t 4) (t 36)),none,[]⟩,⟨none,none,(.store 1 (t 5) (k (.bool true))),none,[]⟩]) .retR) .skip)))
def c74:ACode:=(.seq (.seq (.ops [i 2 (.box (t 0)),i 3 (.box (t 1)),i 4 (.alloc [(.int .i64 0),(.int .i64 0)]),i 5 (.alloc [(.bool false)])]) (.seq (.seq (.ops [i 8 (.loadN 8 (t 2)),i 9 (.call .any (.func 89) [(t 8)]),i 10 (.un .not (t 9)),i 11 (.mov (t 10)),⟨(some 12),(some (11,false)),(.load1 (t 3)),none,[]⟩,⟨(some 13),(some (11,false)),(.fieldAddr 3 (t 2)),none,[]⟩,⟨(some 14),(some (11,false)),(.load1 (t 13)),none,[]⟩,⟨(some 15),(some (11,false)),(.fieldAddr 4 (t 2)),none,[]⟩,⟨(some 16),(some (11,false)),(.load1 (t 15)),none,[]⟩,⟨(some 17),(some (11,false)),(.bin .add (t 14) (t 16)),none,[]⟩,⟨(some 18),(some (11,false)),(.bin .lss (t 12) (t 17)),none,[]⟩,i 19 (.pick (t 11) (k (.bool true)) (t 18))]) (.cond (t 19) (.seq (.ops [i 20 (.build [(.int .i64 0),(.int .i64 0)] []),⟨none,none,(.store 2 (t 4) (t 20)),none,[]⟩,⟨none,none,(.store 1 (t 5) (k (.bool false))),none,[]⟩]) .retM) .skip)) (.seq (.ops [i 21 (.load1 (t 3)),i 22 (.minmax false [(t 21),(k (.int .i64 1051898399))]),⟨none,none,(.store 1 (t 3) (t 22)),none,[]⟩]) (.seq (.ops [i 23 (.load1 (t 3)),i 24 (.fieldAddr 4 (t 2)),i 25 (.load1 (t 24)),i 26 (.bin .sub (t 23) (t 25)),i 27 (.bin .quo (t 26) (k (.int .i64 1440))),i 6 (.mov (t 27))]) (.seq (.seq (.ops [i 28 (.loadN 8 (t 2)),i 29 (.mov (t 6)),i 30 (.call .any (.func 91) [(t 28),(t 29),(k (.int .i64 (-1)))])]) (.block 0 (.rangeF (t 30) [31] ga74_1 gb74_1))) (.seq (.ops [i 37 (.build [(.int .i64 0),(.int .i64 0)] []),⟨none,none,(.store 2 (t 4) (t 37)),none,[]⟩,⟨none,none,(.store 1 (t 5) (k (.bool false))),none,[]⟩]) .retM)))))) .retM)
def a74:AFunc:=⟨38,[(.cellN 2 4),(.cell1 5)],c74⟩
def l76_1:ACode:=(.seq (.ops [i 9 (.bin .lss (t 8) (t 7))]) (.seq (.cond (t 9) .skip (.exit 0)) (.seq (.block 1 (.seq (.ops [i 10 (.mov (t 8)),i 5 (.mov (t 10))]) (.seq (.ops [i 11 (.mov (t 1)),i 12 (.mov (t 0)),i 13 (.mov (t 5)),i 14 (.idxAddrS 50 (t 12) (t 13)),i 15 (.loadN 50 (t 14)),i 16 (.call .any (t 11) [(t 15)])]) (.cond (t 16) (.seq (.ops [i 17 (.mov (t 5)),i 4 (.mov (t 17))]) .ret) .skip)))) (.ops [i 18 (.bin .add (t 8) (k (.int .i64 1))),i 8 (.mov (t 18))]))))
def c76:ACode:=(.seq (.ops [i 4 (.mov (k (.int .i64 0)))]) (.seq (.seq (.ops [i 6 (.mov (t 0)),i 7 (.lenSlice (t 6)),i 8 (.mov (k (.int .i64 0)))]) (.block 0 (.loop l76_1))) (.seq (.ops [i 4 (.mov (k (.int .i64 (-1))))]) .ret)))
def a76:AFunc:=⟨19,[(.tmp 4)],c76⟩
def c77:ACode:=(.seq (.ops [i 3 (.box (t 0)),i 4 (.mov (k (.bool false)))]) (.seq (.drawn 0 [i 5 (.load1 (t 1)),i 6 (.idxAddrA 50 1 (t 3) (t 5)),i 7 (.load1 (t 6)),i 8 (.load1 (t 2)),i 9 (.bin .eql (t 7) (t 8)),i 4 (.mov (t 9))]) .ret))
def a77:AFunc:=⟨10,[(.tmp 4)],c77⟩
def l78_1:ACode:=(.seq (.ops [i 33 (.bin .lss (t 32) (t 31))]) (.seq (.cond (t 33) .skip (.exit 2)) (.seq (.block 3 (.seq (.ops [i 34 (.idxAddrS 8 (t 30) (t 32)),i 35 (.loadN 8 (t 34)),i 13 (.alloc [(.int .i64 0),(.int .i64 0),(.int .i64 0),(.int .i64 0),(.int .i64 0),(.int .i64 0),(.int .i64 0),(.int .u8 0)]),⟨none,none,(.store 8 (t 13) (t 35)),none,[]⟩]) (.seq (.ops [i 36 (.mov (t 1)),i 37 (.fieldAddr 2 (t 13)),i 38 (.load1 (t 37)),i 39 (.lookup (.int .i64) (.int .i64 0) false (t 36) (t 38)),i 40 (.idxAddrA 50 1 (t 10) (t 39)),i 41 (.load1 (t 40)),i 14 (.mov (t 41))]) (.seq (.seq (.ops [i 42 (.mov (t 14)),i 43 (.bin .lss (t 42) (k (.int .i64 0)))]) (.cond (t 43) (.exit 3) .skip)) (.seq (.ops [i 45 (.loadN 8 (t 13)),i 46 (.mov (t 14)),i 47 (.call .any (.func 74) [(t 45),(t 46)]),i 44 (.mov (t 47)),i 48 (.extract 0 (t 44)),i 49 (.extract 1 (t 44)),i 15 (.alloc [(.int .i64 0),(.int .i64 0)]),⟨none,none,(.store 2 (t 15) (t 48)),none,[]⟩,i 16 (.mov (t 49))]) (.seq (.ops [i 50 (.mov (t 16))]) (.cond (t 50) (.drawn 0 [i 51 (.mov (t 1)),i 52 (.fieldAddr 1 (t 13)),i 53 (.load1 (t 52)),i 54 (.lookup (.int .i64) (.int .i64 0) false (t 51) (t 53)),i 55 (.mov (t 1)),i 56 (.fieldAddr 1 (t 13)),i 57 (.load1 (t 56)),i 58 (.lookup (.int .i64) (.int .i64 0) false (t 55) (t 57)),i 59 (.idxAddrA 50 1 (t 11) (t 58)),i 60 (.load1 (t 59)),i 61 (.fieldAddr 0 (t 15)),i 62 (.load1 (t 61)),i 63 (.fieldAddr 5 (t 13)),i 64 (.load1 (t 63)),i 65 (.bin .sub (t 62) (t 64)),i 66 (.minmax true [(t 60),(t 65)]),i 67 (.idxAddrA 50 1 (t 11) (t 54)),⟨none,none,(.store 1 (t 67) (t 66)),none,[]⟩]) .skip))))))) (.ops [i 68 (.bin .add (t 32) (k (.int .i64 1))),i 32 (.mov (t 68))]))))
def l78_2:ACode:=(.seq (.ops [i 21 (.bin .lss (t 20) (t 19))]) (.seq (.cond (t 21) .skip (.exit 0)) (.seq (.block 1 (.seq (.drawn 2 [i 22 (.mov (t 9)),i 23 (.mov (t 9)),i 24 (.lenSlice (t 23)),i 25 (.bin .sub (t 24) (k (.int .i64 1))),i 26 (.idxAddrS 50 (t 22) (t 25)),⟨(some 27),none,(.loadN 50 (t 26)),none,[0,1]⟩,⟨(some 28),none,(.call .pure (.func 72) [(k (.int .i64 0)),(k (.int .i64 (-1)))]),none,[0,1]⟩,⟨(some 10),none,(.alloc [(.int .i64 0),(.int .i64 0),(.int .i64 0),(.int .i64 0),(.int .i64 0),(.int .i64 0),(.int .i64 0),(.int .i64 0),(.int .i64 0),(.int .i64 0),(.int .i64 0),(.int .i64 0),(.int .i64 0),(.int .i64 0),(.int .i64 0),(.int .i64 0),(.int .i64 0),(.int .i64 0),(.int .i64 0),(.int .i64 0),(.int .i64 0),(.int .i64 0),(.int .i64 0),(.int .i64 0),(.int .i64 0),(.int .i64 0),(.int .i64 0),(.int .i64 0),(.int .i64 0),(.int .i64 0),(.int .i64 0),(.int .i64 0),(.int .i64 0),(.int .i64 0),(.int .i64 0),(.int .i64 0),(.int .i64 0),(.int .i64 0),(.int .i64 0),(.int .i64 0),(.int .i64 0),(.int .i64 0),(.int .i64 0),(.int .i64 0),(.int .i64 0),(.int .i64 0),(.int .i64 0),(.int .i64 0),(.int .i64 0),(.int .i64 0)]),(some 0),[]⟩,⟨(some 11),none,(.alloc [(.int .i64 0),(.int .i64 0),(.int .i64 0),(.int .i64 0),(.int .i64 0),(.int .i64 0),(.int .i64 0),(.int .i64 0),(.int .i64 0),(.int .i64 0),(.int .i64 0),(.int .i64 0),(.int .i64 0),(.int .i64 0),(.int .i64 0),(.int .i64 0),(.int .i64 0),(.int .i64 0),(.int .i64 0),(.int .i64 0),(.int .i64 0),(.int .i64 0),(.int .i64 0),(.int .i64 0),(.int .i64 0),(.int .i64 0),(.int .i64 0),(.int .i64 0),(.int .i64 0),(.int .i64 0),(.int .i64 0),(.int .i64 0),(.int .i64 0),(.int .i64 0),(.int .i64 0),(.int .i64 0),(.int .i64 0),(.int .i64 0),(.int .i64 0),(.int .i64 0),(.int .i64 0),(.int .i64 0),(.int .i64 0),(.int .i64 0),(.int .i64 0),(.int .i64 0),(.int .i64 0),(.int .i64 0),(.int .i64 0),(.int .i64 0)]),(some 1),[]⟩,⟨none,none,(.store 50 (t 10) (t 27)),none,[]⟩,⟨none,none,(.store 50 (t 11) (t 28)),none,[]⟩]) (.seq (.seq (.ops [i 29 (.fieldAddr 1 (t 4)),i 30 (.load1 (t 29)),i 31 (.lenSlice (t 30)),i 32 (.mov (k (.int .i64 0)))]) (.block 2 (.loop l78_1))) (.ops [i 69 (.mov (t 9)),i 70 (.loadN 50 (t 11)),i 71 (.buildSlice 1 [(.int .i64 0),(.int .i64 0),(.int .i64 0),(.int .i64 0),(.int .i64 0),(.int .i64 0),(.int .i64 0),(.int .i64 0),(.int .i64 0),(.int .i64 0),(.int .i64 0),(.int .i64 0),(.int .i64 0),(.int .i64 0),(.int .i64 0),(.int .i64 0),(.int .i64 0),(.int .i64 0),(.int .i64 0),(.int .i64 0),(.int .i64 0),(.int .i64 0),(.int .i64 0),(.int .i64 0),(.int .i64 0),(.int .i64 0),(.int .i64 0),(.int .i64 0),(.int .i64 0),(.int .i64 0),(.int .i64 0),(.int .i64 0),(.int .i64 0),(.int .i64 0),(.int .i64 0),(.int .i64 0),(.int .i64 0),(.int .i64 0),(.int .i64 0),(.int .i64 0),(.int .i64 0),(.int .i64 0),(.int .i64 0),(.int .i64 0),(.int .i64 0),(.int .i64 0),(.int .i64 0),(.int .i64 0),(.int .i64 0),(.int .i64 0)] [(0,(50,(t 70)))]),i 72 (.append 50 400 false (t 69) (t 71)),i 9 (.mov (t 72))])))) (.ops [i 73 (.bin .add (t 20) (k (.int .i64 1))),i 20 (.mov (t 73))]))))
def c78:ACode:=(.seq (.ops [i 4 (.box (t 0)),i 6 (.box (t 2)),i 8 (.mov (k (.slice none 0 0)))]) (.seq (.ops [i 17 (.loadN 50 (t 6)),i 18 (.buildSlice 1 [(.int .i64 0),(.int .i64 0),(.int .i64 0),(.int .i64 0),(.int .i64 0),(.int .i64 0),(.int .i64 0),(.int .i64 0),(.int .i64 0),(.int .i64 0),(.int .i64 0),(.int .i64 0),(.int .i64 0),(.int .i64 0),(.int .i64 0),(.int .i64 0),(.int .i64 0),(.int .i64 0),(.int .i64 0),(.int .i64 0),(.int .i64 0),(.int .i64 0),(.int .i64 0),(.int .i64 0),(.int .i64 0),(.int .i64 0),(.int .i64 0),(.int .i64 0),(.int .i64 0),(.int .i64 0),(.int .i64 0),(.int .i64 0),(.int .i64 0),(.int .i64 0),(.int .i64 0),(.int .i64 0),(.int .i64 0),(.int .i64 0),(.int .i64 0),(.int .i64 0),(.int .i64 0),(.int .i64 0),(.int .i64 0),(.int .i64 0),(.int .i64 0),(.int .i64 0),(.int .i64 0),(.int .i64 0),(.int .i64 0),(.int .i64 0)] [(0,(50,(t 17)))]),i 9 (.mov (t 18))]) (.seq (.seq (.ops [i 19 (.mov (t 3)),i 20 (.mov (k (.int .i64 0)))]) (.block 0 (.loop l78_2))) (.seq (.ops [i 74 (.mov (t 9)),i 8 (.mov (t 74))]) .ret))))
def a78:AFunc:=⟨75,[(.tmp 8)],c78⟩
def l86_1:ACode:=(.seq (.ops [i 9 (.bin .lss (t 8) (t 7))]) (.seq (.cond (t 9) .skip (.exit 0)) (.seq (.block 1 (.seq (.ops [i 10 (.mov (t 8)),i 5 (.mov (t 10))]) (.seq (.ops [i 11 (.mov (t 1)),i 12 (.mov (t 0)),i 13 (.mov (t 5)),i 14 (.idxAddrS 8 (t 12) (t 13)),i 15 (.loadN 8 (t 14)),i 16 (.call .any (t 11) [(t 15)])]) (.cond (t 16) (.seq (.ops [i 17 (.mov (t 5)),i 4 (.mov (t 17))]) .ret) .skip)))) (.ops [i 18 (.bin .add (t 8) (k (.int .i64 1))),i 8 (.mov (t 18))]))))
def c86:ACode:=(.seq (.ops [i 4 (.mov (k (.int .i64 0)))]) (.seq (.seq (.ops [i 6 (.mov (t 0)),i 7 (.lenSlice (t 6)),i 8 (.mov (k (.int .i64 0)))]) (.block 0 (.loop l86_1))) (.seq (.ops [i 4 (.mov (k (.int .i64 (-1))))]) .ret)))
def a86:AFunc:=⟨19,[(.tmp 4)],c86⟩
def c87:ACode:=(.seq (.ops [i 2 (.box (t 0)),i 3 (.mov (k (.bool false)))]) (.seq (.ops [i 4 (.fieldAddr 0 (t 2)),i 5 (.load1 (t 4)),i 6 (.load1 (t 1)),i 7 (.bin .eql (t 5) (t 6)),i 3 (.mov (t 7))]) .ret))
def a87:AFunc:=⟨8,[(.tmp 3)],c87⟩
def l89_1:ACode:=(.seq (.ops [i 34 (.bin .lss (t 33) (k (.int .i64 8)))]) (.seq (.cond (t 34) .skip (.exit 0)) (.seq (.block 1 (.seq (.ops [i 35 (.idxA 8 3 true (t 32) (t 33)),i 5 (.alloc [(.int .i64 0),(.int .i64 0),(.int .i64 0)]),⟨none,none,(.store 3 (t 5) (t 35)),none,[]⟩]) (.seq (.ops [i 36 (.fieldAddr 0 (t 5)),i 37 (.load1 (t 36)),i 38 (.fieldAddr 1 (t 5)),i 39 (.load1 (t 38)),i 40 (.bin .lss (t 37) (t 39)),i 41 (.mov (t 40)),⟨(some 42),(some (41,false)),(.fieldAddr 0 (t 5)),none,[]⟩,⟨(some 43),(some (41,false)),(.load1 (t 42)),none,[]⟩,⟨(some 44),(some (41,false)),(.fieldAddr 2 (t 5)),none,[]⟩,⟨(some 45),(some (41,false)),(.load1 (t 44)),none,[]⟩,⟨(some 46),(some (41,false)),(.bin .gtr (t 43) (t 45)),none,[]⟩,i 47 (.pick (t 41) (k (.bool true)) (t 46))]) (.cond (t 47) (.seq (.ops [i 2 (.mov (k (.bool false)))]) .ret) .skip)))) (.ops [i 48 (.bin .add (t 33) (k (.int .i64 1))),i 33 (.mov (t 48))]))))
def c89:ACode:=(.seq (.ops [i 1 (.box (t 0)),i 2 (.mov (k (.bool false)))]) (.seq (.ops [i 6 (.fieldAddr 0 (t 1)),i 7 (.load1 (t 6)),i 8 (.build [(.int .i64 0),(.int .i64 0),(.int .i64 0)] [(0,(1,(t 7))),(1,(1,(k (.int .i64 1)))),(2,(1,(k (.int .i64 999999))))]),i 9 (.fieldAddr 1 (t 1)),i 10 (.load1 (t 9)),i 11 (.build [(.int .i64 0),(.int .i64 0),(.int .i64 0)] [(0,(1,(t 10))),(1,(1,(k (.int .i64 1)))),(2,(1,(k (.int .i64 999999))))]),i 12 (.fieldAddr 2 (t 1)),i 13 (.load1 (t 12)),i 14 (.build [(.int .i64 0),(.int .i64 0),(.int .i64 0)] [(0,(1,(t 13))),(1,(1,(k (.int .i64 1)))),(2,(1,(k (.int .i64 999999))))]),i 15 (.fieldAddr 3 (t 1)),i 16 (.load1 (t 15)),i 17 (.build [(.int .i64 0),(.int .i64 0),(.int .i64 0)] [(0,(1,(t 16))),(1,(1,(k (.int .i64 0)))),(2,(1,(k (.int .i64 1439))))]),i 18 (.fieldAddr 4 (t 1)),i 19 (.load1 (t 18)),i 20 (.build [(.int .i64 0),(.int .i64 0),(.int .i64 0)] [(0,(1,(t 19))),(1,(1,(k (.int .i64 1)))),(2,(1,(k (.int .i64 20160))))]),i 21 (.fieldAddr 5 (t 1)),i 22 (.load1 (t 21)),i 23 (.build [(.int .i64 0),(.int .i64 0),(.int .i64 0)] [(0,(1,(t 22))),(1,(1,(k (.int .i64 0)))),(2,(1,(k (.int .i64 10080))))]),i 24 (.fieldAddr 6 (t 1)),i 25 (.load1 (t 24)),i 26 (.build [(.int .i64 0),(.int .i64 0),(.int .i64 0)] [(0,(1,(t 25))),(1,(1,(k (.int .i64 0)))),(2,(1,(k (.int .i64 1000000000))))]),i 27 (.fieldAddr 7 (t 1)),i 28 (.load1 (t 27)),i 29 (.conv .i64 (t 28)),i 30 (.build [(.int .i64 0),(.int .i64 0),(.int .i64 0)] [(0,(1,(t 29))),(1,(1,(k (.int .i64 1)))),(2,(1,(k (.int .i64 127))))]),i 31 (.build [(.int .i64 0),(.int .i64 0),(.int .i64 0),(.int .i64 0),(.int .i64 0),(.int .i64 0),(.int .i64 0),(.int .i64 0),(.int .i64 0),(.int .i64 0),(.int .i64 0),(.int .i64 0),(.int .i64 0),(.int .i64 0),(.int .i64 0),(.int .i64 0),(.int .i64 0),(.int .i64 0),(.int .i64 0),(.int .i64 0),(.int .i64 0),(.int .i64 0),(.int .i64 0),(.int .i64 0)] [(0,(3,(t 8))),(3,(3,(t 11))),(6,(3,(t 14))),(9,(3,(t 17))),(12,(3,(t 20))),(15,(3,(t 23))),(18,(3,(t 26))),(21,(3,(t 30)))]),i 3 (.alloc [(.int .i64 0),(.int .i64 0),(.int .i64 0),(.int .i64 0),(.int .i64 0),(.int .i64 0),(.int .i64 0),(.int .i64 0),(.int .i64 0),(.int .i64 0),(.int .i64 0),(.int .i64 0),(.int .i64 0),(.int .i64 0),(.int .i64 0),(.int .i64 0),(.int .i64 0),(.int .i64 0),(.int .i64 0),(.int .i64 0),(.int .i64 0),(.int .i64 0),(.int .i64 0),(.int .i64 0)]),⟨none,none,(.store 24 (t 3) (t 31)),none,[]⟩]) (.seq (.seq (.ops [i 32 (.loadN 24 (t 3)),i 33 (.mov (k (.int .i64 0)))]) (.block 0 (.loop l89_1))) (.seq (.ops [i 49 (.fieldAddr 1 (t 1)),i 50 (.load1 (t 49)),i 51 (.fieldAddr 2 (t 1)),i 52 (.load1 (t 51)),i 53 (.bin .neq (t 50) (t 52)),i 2 (.mov (t 53))]) .ret))))
def a89:AFunc:=⟨54,[(.tmp 2)],c89⟩
theorem n89:a89.ntmps=54:=id rfl
theorem r89:a89.results=[(.tmp 2)]:=rfl
theorem b89:a89.body=c89:=rfl
def c90:ACode:=(.seq (.ops [i 1 (.box (t 0)),i 2 (.mov (k (.bool false)))]) (.seq (.ops [i 3 (.fieldAddr 0 (t 1)),i 4 (.load1 (t 3)),i 5 (.call .any (.func 99) [(t 4)]),i 6 (.mov (t 5)),⟨(some 7),(some (6,true)),(.fieldAddr 1 (t 1)),none,[]⟩,⟨(some 8),(some (6,true)),(.load1 (t 7)),none,[]⟩,⟨(some 9),(some (6,true)),(.call .any (.func 99) [(t 8)]),none,[]⟩,i 10 (.pick (t 6) (t 9) (k (.bool false))),i 11 (.mov (t 10)),⟨(some 12),(some (11,true)),(.fieldAddr 2 (t 1)),none,[]⟩,⟨(some 13),(some (11,true)),(.load1 (t 12)),none,[]⟩,⟨(some 14),(some (11,true)),(.call .any (.func 99) [(t 13)]),none,[]⟩,i 15 (.pick (t 11) (t 14) (k (.bool false))),i 16 (.mov (t 15)),⟨(some 17),(some (16,true)),(.fieldAddr 3 (t 1)),none,[]⟩,⟨(some 18),(some (16,true)),(.load1 (t 17)),none,[]⟩,⟨(some 19),(some (16,true)),(.bin .geq (t 18) (k (.int .u8 1))),none,[]⟩,i 20 (.pick (t 16) (t 19) (k (.bool false))),i 21 (.mov (t 20)),⟨(some 22),(some (21,true)),(.fieldAddr 3 (t 1)),none,[]⟩,⟨(some 23),(some (21,true)),(.load1 (t 22)),none,[]⟩,⟨(some 24),(some (21,true)),(.bin .leq (t 23) (k (.int .u8 4))),none,[]⟩,i 25 (.pick (t 21) (t 24) (k (.bool false))),i 26 (.mov (t 25)),⟨(some 27),(some (26,true)),(.fieldAddr 4 (t 1)),none,[]⟩,⟨(some 28),(some (26,true)),(.load1 (t 27)),none,[]⟩,⟨(some 29),(some (26,true)),(.call .any (.func 100) [(t 28)]),none,[]⟩,i 30 (.pick (t 26) (t 29) (k (.bool false))),i 31 (.mov (t 30)),⟨(some 32),(some (31,true)),(.fieldAddr 5 (t 1)),none,[]⟩,⟨(some 33),(some (31,true)),(.load1 (t 32)),none,[]⟩,⟨(some 34),(some (31,true)),(.call .any (.func 100) [(t 33)]),none,[]⟩,i 35 (.pick (t 31) (t 34) (k (.bool false))),i 2 (.mov (t 35))]) .ret))
def a90:AFunc:=⟨36,[(.tmp 2)],c90⟩
theorem n90:a90.ntmps=36:=id rfl
theorem r90:a90.results=[(.tmp 2)]:=rfl
theorem b90:a90.body=c90:=rfl
def c91:ACode:=(.seq (.ops [i 3 (.box (t 0)),i 4 (.box (t 1)),i 5 (.box (t 2)),i 6 (.mov (k .nilFunc))]) (.seq (.ops [i 7 (.makeFunc 101 [] [(t 4),(t 5),(t 3)]),i 6 (.mov (t 7))]) .ret))
def a91:AFunc:=⟨8,[(.tmp 6)],c91⟩
theorem n91:a91.ntmps=8:=id rfl
theorem r91:a91.results=[(.tmp 6)]:=rfl
theorem b91:a91.body=c91:=rfl
def c93:ACode:=(.seq (.ops [i 2 (.mov (k (.slice none 0 0)))]) (.seq (.ops [i 3 (.mov (t 0)),i 4 (.call .any (.func 104) [(k (.slice none 0 0)),(t 3)]),i 2 (.mov (t 4))]) .ret))
def a93:AFunc:=⟨5,[(.tmp 2)],c93⟩
def l95_1:ACode:=(.seq (.ops [i 8 (.bin .lss (t 7) (t 6))]) (.seq (.cond (t 8) .skip (.exit 0)) (.seq (.block 1 (.seq (.ops [i 9 (.idxAddrS 8 (t 5) (t 7)),i 10 (.loadN 8 (t 9)),i 4 (.alloc [(.int .i64 0),(.int .i64 0),(.int .i64 0),(.int .i64 0),(.int .i64 0),(.int .i64 0),(.int .i64 0),(.int .u8 0)]),⟨none,none,(.store 8 (t 4) (t 10)),none,[]⟩]) (.seq (.ops [i 11 (.mov (t 0)),i 12 (.loadN 8 (t 4)),i 13 (.call .any (t 11) [(t 12)]),i 14 (.un .not (t 13))]) (.cond (t 14) .ret .skip)))) (.ops [i 15 (.bin .add (t 7) (k (.int .i64 1))),i 7 (.mov (t 15))]))))
def c95:ACode:=(.seq (.ops [i 5 (.load1 (t 1)),i 6 (.lenSlice (t 5)),i 7 (.mov (k (.int .i64 0)))]) (.block 0 (.loop l95_1)))
def a95:AFunc:=⟨16,[],c95⟩
def c99:ACode:=(.seq (.ops [i 2 (.mov (k (.bool false)))]) (.seq (.ops [i 3 (.mov (t 0)),i 4 (.bin .geq (t 3) (k (.int .i64 1))),i 5 (.mov (t 4)),⟨(some 6),(some (5,true)),(.mov (t 0)),none,[]⟩,⟨(some 7),(some (5,true)),(.bin .leq (t 6) (k (.int .i64 999999))),none,[]⟩,i 8 (.pick (t 5) (t 7) (k (.bool false))),i 2 (.mov (t 8))]) .ret))
def a99:AFunc:=⟨9,[(.tmp 2)],c99⟩
theorem n99:a99.ntmps=9:=id rfl
theorem r99:a99.results=[(.tmp 2)]:=rfl
theorem b99:a99.body=c99:=rfl
def c100:ACode:=(.seq (.ops [i 2 (.mov (k (.bool false)))]) (.seq (.ops [i 3 (.mov (t 0)),i 4 (.bin .geq (t 3) (k (.int .i64 0))),i 5 (.mov (t 4)),⟨(some 6),(some (5,true)),(.mov (t 0)),none,[]⟩,⟨(some 7),(some (5,true)),(.bin .leq (t 6) (k (.int .i64 1051898399))),none,[]⟩,i 8 (.pick (t 5) (t 7) (k (.bool false))),i 2 (.mov (t 8))]) .ret))
def a100:AFunc:=⟨9,[(.tmp 2)],c100⟩
theorem n100:a100.ntmps=9:=id rfl
theorem r100:a100.results=[(.tmp 2)]:=rfl
theorem b100:a100.body=c100:=rfl
def l101_1:ACode:=(.seq (.seq (.ops [i 7 (.load1 (t 1)),i 8 (.bin .geq (t 7) (k (.int .i64 0))),i 9 (.mov (t 8)),⟨(some 10),(some (9,true)),(.load1 (t 1)),none,[]⟩,⟨(some 11),(some (9,true)),(.bin .leq (t 10) (k (.int .i64 730484))),none,[]⟩,i 12 (.pick (t 9) (t 11) (k (.bool false)))]) (.cond (t 12) .skip (.exit 0))) (.seq (.block 1 (.seq (.ops [i 17 (.loadN 8 (t 3)),i 18 (.load1 (t 1)),i 19 (.call .any (.func 102) [(t 17),(t 18)]),i 16 (.mov (t 19)),i 20 (.extract 0 (t 16)),i 21 (.extract 1 (t 16)),i 5 (.alloc [(.int .i64 0),(.int .i64 0)]),⟨none,none,(.store 2 (t 5) (t 20)),none,[]⟩,i 6 (.mov (t 21))]) (.seq (.ops [i 22 (.mov (t 6)),i 23 (.mov (t 22)),⟨(some 24),(some (23,true)),(.mov (t 0)),none,[]⟩,⟨(some 25),(some (23,true)),(.loadN 2 (t 5)),none,[]⟩,⟨(some 26),(some (23,true)),(.call .any (t 24) [(t 25)]),none,[]⟩,⟨(some 27),(some (23,true)),(.un .not (t 26)),none,[]⟩,i 28 (.pick (t 23) (t 27) (k (.bool false)))]) (.cond (t 28) .ret .skip)))) (.ops [i 13 (.load1 (t 1)),i 14 (.load1 (t 2)),i 15 (.bin .add (t 13) (t 14)),⟨none,none,(.store 1 (t 1) (t 15)),none,[]⟩])))
def c101:ACode:=(.block 0 (.loop l101_1))
def a101:AFunc:=⟨29,[],c101⟩
theorem n101:a101.ntmps=29:=id rfl
theorem r101:a101.results=[]:=rfl
theorem b101:a101.body=c101:=rfl
def c102:ACode:=(.seq (.ops [i 2 (.box (t 0)),i 4 (.alloc [(.int .i64 0),(.int .i64 0)]),i 5 (.mov (k (.bool false)))]) (.seq (.ops [i 7 (.mov (t 1)),i 8 (.bin .mul (k (.int .i64 1440)) (t 7)),i 9 (.fieldAddr 3 (t 2)),i 10 (.load1 (t 9)),i 11 (.bin .add (t 8) (t 10)),i 6 (.mov (t 11))]) (.seq (.seq (.ops [i 12 (.fieldAddr 7 (t 2)),i 13 (.load1 (t 12)),i 14 (.mov (t 1)),i 15 (.bin .rem (t 14) (k (.int .i64 7))),i 16 (.bin .shr (t 13) (t 15)),i 17 (.bin .and (t 16) (k (.int .u8 1))),i 18 (.bin .eql (t 17) (k (.int .u8 0))),i 19 (.mov (t 18)),⟨(some 20),(some (19,false)),(.mov (t 6)),none,[]⟩,⟨(some 21),(some (19,false)),(.fieldAddr 5 (t 2)),none,[]⟩,⟨(some 22),(some (19,false)),(.load1 (t 21)),none,[]⟩,⟨(some 23),(some (19,false)),(.bin .sub (t 20) (t 22)),none,[]⟩,⟨(some 24),(some (19,false)),(.bin .lss (t 23) (k (.int .i64 0))),none,[]⟩,i 25 (.pick (t 19) (k (.bool true)) (t 24)),i 26 (.mov (t 25)),⟨(some 27),(some (26,false)),(.mov (t 6)),none,[]⟩,⟨(some 28),(some (26,false)),(.fieldAddr 4 (t 2)),none,[]⟩,⟨(some 29),(some (26,false)),(.load1 (t 28)),none,[]⟩,⟨(some 30),(some (26,false)),(.bin .add (t 27) (t 29)),none,[]⟩,⟨(some 31),(some (26,false)),(.bin .gtr (t 30) (k (.int .i64 1051898399))),none,[]⟩,i 32 (.pick (t 26) (k (.bool true)) (t 31))]) (.cond (t 32) (.seq (.ops [i 33 (.build [(.int .i64 0),(.int .i64 0)] []),⟨none,none,(.store 2 (t 4) (t 33)),none,[]⟩,i 5 (.mov (k (.bool false)))]) .ret) .skip)) (.seq (.ops [i 34 (.mov (t 6)),i 35 (.mov (t 6)),i 36 (.fieldAddr 4 (t 2)),i 37 (.load1 (t 36)),i 38 (.bin .add (t 35) (t 37)),i 39 (.build [(.int .i64 0),(.int .i64 0)] [(0,(1,(t 34))),(1,(1,(t 38)))]),⟨none,none,(.store 2 (t 4) (t 39)),none,[]⟩,i 5 (.mov (k (.bool true)))]) .ret))))
def a102:AFunc:=⟨40,[(.cellN 2 4),(.tmp 5)],c102⟩
theorem n102:a102.ntmps=40:=id rfl
theorem r102:a102.results=[(.cellN 2 4),(.tmp 5)]:=rfl
theorem b102:a102.body=c102:=rfl
def ga104_1:ACode:=(.ops [i 5 (.alloc [(.int .i64 0),(.int .i64 0),(.int .i64 0),(.int .i64 0),(.int .i64 0),(.int .i64 0),(.int .i64 0),(.int .u8 0)]),⟨none,none,(.store 8 (t 5) (t 7)),none,[]⟩])
def gb104_1:ACode:=(.block 1 (.ops [i 8 (.load1 (t 2)),i 9 (.loadN 8 (t 5)),i 10 (.buildSlice 1 [(.int .i64 0),(.int .i64 0),(.int .i64 0),(.int .i64 0),(.int .i64 0),(.int .i64 0),(.int .i64 0),(.int .u8 0)] [(0,(8,(t 9)))]),i 11 (.append 8 64 false (t 8) (t 10)),⟨none,none,(.store 1 (t 2) (t 11)),none,[]⟩]))
def c104:ACode:=(.seq (.seq (.ops [i 2 (.box (t 0)),i 4 (.mov (k (.slice none 0 0)))]) (.seq (.seq (.ops [i 6 (.mov (t 1))]) (.block 0 (.rangeF (t 6) [7] ga104_1 gb104_1))) (.seq (.ops [i 12 (.load1 (t 2)),i 4 (.mov (t 12))]) .retM))) .retM)
def a104:AFunc:=⟨13,[(.tmp 4)],c104⟩
def table:List (FuncId×AFunc):=[(4,a4),(7,a7),(10,a10),(11,a11),(14,a14),(22,a22),(23,a23),(24,a24),(25,a25),(31,a31),(32,a32),(35,a35),(36,a36),(37,a37),(38,a38),(41,a41),(46,a46),(47,a47),(48,a48),(49,a49),(57,a57),(58,a58),(59,a59),(63,a63),(64,a64),(68,a68),(69,a69),(70,a70),(71,a71),(72,a72),(73,a73),(74,a74),(76,a76),(77,a77),(78,a78),(86,a86),(87,a87),(89,a89),(90,a90),(91,a91),(93,a93),(95,a95),(99,a99),(100,a100),(101,a101),(102,a102),(104,a104)]
def tr (g:FuncId):Option AFunc:=table.lookup g
theorem e4:tr 4=some a4:=rfl
theorem e7:tr 7=some a7:=rfl
theorem e10:tr 10=some a10:=rfl
theorem e11:tr 11=some a11:=rfl
theorem e14:tr 14=some a14:=rfl
theorem e22:tr 22=some a22:=rfl
theorem e23:tr 23=some a23:=rfl
theorem e24:tr 24=some a24:=rfl
theorem e25:tr 25=some a25:=rfl
theorem e31:tr 31=some a31:=rfl
theorem e32:tr 32=some a32:=rfl
theorem e35:tr 35=some a35:=rfl
theorem e36:tr 36=some a36:=rfl
theorem e37:tr 37=some a37:=rfl
theorem e38:tr 38=some a38:=rfl
theorem e41:tr 41=some a41:=rfl
theorem e46:tr 46=some a46:=rfl
theorem e47:tr 47=some a47:=rfl
theorem e48:tr 48=some a48:=rfl
theorem e57:tr 57=some a57:=rfl
theorem e58:tr 58=some a58:=rfl
theorem e59:tr 59=some a59:=rfl
theorem e63:tr 63=some a63:=rfl
theorem e64:tr 64=some a64:=rfl
theorem e68:tr 68=some a68:=rfl
theorem e69:tr 69=some a69:=rfl
theorem e70:tr 70=some a70:=rfl
theorem e71:tr 71=some a71:=rfl
theorem e72:tr 72=some a72:=rfl
theorem e89:tr 89=some a89:=rfl
theorem e90:tr 90=some a90:=rfl
theorem e91:tr 91=some a91:=rfl
theorem e99:tr 99=some a99:=rfl
theorem e100:tr 100=some a100:=rfl
theorem e101:tr 101=some a101:=rfl
theorem e102:tr 102=some a102:=rfl
end Go.Proofs.Ytjmmhkodgileiab.Fn

set_option linter.unusedVariables false
set_option linter.unusedSimpArgs false
namespace Go.AM
section
variable {α:Type}
def gt [Inhabited α] (l:List α) (i:Nat):α:=l.getD i default
theorem gt_lt [Inhabited α] {l:List α} {i:Nat} (h:i<l.length):gt l i=l[i]:=by simp [gt,List.getD_eq_getElem?_getD,List.getElem?_eq_getElem h]
theorem gt_cons_succ [Inhabited α] {x:α} {l:List α} {i:Nat}:gt (x::l) (i+1)=gt l i:=by simp [gt]
theorem gt_mem [Inhabited α] {l:List α} {i:Nat} (h:i<l.length):gt l i∈l:=by rw [gt_lt h];exact List.getElem_mem h
def addrOf (p:Option Addr):Addr:=p.getD ⟨0,0,none⟩
def elt (p:Option Addr) (e i:Nat):Addr:=(addrOf p).add (i*e)
def Sl (H:Heap) (enc:α→List Value) (e:Nat) (p:Option Addr) (l:List α):Prop:=
 match p with
 | none=>l=[]
 | some a=>a.spot=none∧(l≠[]→∃ro c,hget H a.block=.cells ro c∧a.off+l.length*e≤c.length∧(c.drop a.off).take (l.length*e)=l.flatMap enc)
theorem hget_alive {H:Heap} {i:Nat} {ro:Bool} {c:List Value} (h:hget H i=.cells ro c):i<H.length:=by
 rcases Nat.lt_or_ge i H.length with h1 | h1
 ·exact h1
 ·unfold hget at h
  rw [List.getD_eq_getElem?_getD,List.getElem?_eq_none h1] at h
  cases h
def cellsOf:Blk→List Value | .cells _ c=>c | _=>[]
def isCells:Blk→Bool | .cells _ _=>true | _=>false
theorem Sl.app {H:Heap} {enc:α→List Value} {e:Nat} {p:Option Addr} {l:List α} (h:Sl H enc e p l) (X:Heap):Sl (H++X) enc e p l:=by
 cases p with
 | none=>exact h
 | some a=>
   refine ⟨h.1,fun hn=>?_⟩
   obtain ⟨ro,c,h2,h3⟩:=h.2 hn
   exact ⟨ro,c,by rw [hget_old (hget_alive h2)];exact h2,h3⟩
theorem Sl.sim {H G:Heap} {enc:α→List Value} {e:Nat} {p:Option Addr} {l:List α} (h:Sl H enc e p l) (hG:∀b ro c,hget H b=.cells ro c→hget G b=.cells ro c):Sl G enc e p l:=by
 cases p with
 | none=>exact h
 | some a=>
   refine ⟨h.1,fun hn=>?_⟩
   obtain ⟨ro,c,h2,h3⟩:=h.2 hn
   exact ⟨ro,c,hG _ _ _ h2,h3⟩
theorem flat_len {enc:α→List Value} {e:Nat} (he:∀x,(enc x).length=e) (l:List α):(l.flatMap enc).length=l.length*e:=by
 induction l with
 | nil=>simp
 | cons x l ih=>simp [ih,he,Nat.add_mul,Nat.add_comm]
theorem flat_drop {enc:α→List Value} {e:Nat} (he:∀x,(enc x).length=e):∀(l:List α) (i:Nat),i<l.length→[Inhabited α]→((l.flatMap enc).drop (i*e)).take e=enc (gt l i)
 | [],i,h,_=>by simp at h
 | x::l,0,_,_=>by
   rw [List.flatMap_cons,Nat.zero_mul,List.drop_zero,List.take_append_of_le_length (by rw [he];exact Nat.le_refl _),List.take_of_length_le (by rw [he];exact Nat.le_refl _)]
   rfl
 | x::l,i+1,h,_=>by
   rw [List.flatMap_cons,List.drop_append,List.drop_eq_nil_of_le (by rw [he,Nat.add_mul];omega),List.nil_append,he,show (i+1)*e-e=i*e by rw [Nat.add_mul];omega]
   have:=flat_drop he l i (by simpa using h)
   rw [this,gt_cons_succ]
variable [Inhabited α] {H:Heap} {enc:α→List Value} {e:Nat} {p:Option Addr} {l:List α}
theorem Sl.loadCells (h:Sl H enc e p l) (he:∀x,(enc x).length=e) {i:Nat} (hi:i<l.length):AM.loadCells H (elt p e i) e=some (enc (gt l i)):=by
 cases p with
 | none=>simp only [Sl] at h;subst h;simp at hi
 | some a=>
   obtain ⟨b,o,s⟩:=a
   obtain ⟨ro,c,h2,h4,h3⟩:=h.2 (by rintro rfl;simp at hi)
   have h1:=h.1
   simp only at h1 h2 h3 h4;subst h1
   have hie:i*e+e≤l.length*e:=by
    have:=Nat.mul_le_mul_right e (Nat.succ_le_of_lt hi)
    rw [Nat.succ_mul] at this;exact this
   have hf:=flat_drop he l i hi
   rw [←h3,List.drop_take,List.take_take,List.drop_drop] at hf
   simp only [elt,addrOf,Option.getD_some,addr_add,AM.loadCells,h2]
   rw [if_pos (by omega),←hf,Nat.min_eq_left (by omega)]
theorem Sl.loadCell (h:Sl H enc e p l) (he:∀x,(enc x).length=e) {i j:Nat} (hi:i<l.length) (hj:j<e):AM.loadCell H ((elt p e i).add j)=(enc (gt l i))[j]?:=by
 have h0:=h.loadCells he hi
 cases p with
 | none=>simp only [Sl] at h;subst h;simp at hi
 | some a=>
   obtain ⟨b,o,s⟩:=a
   obtain ⟨ro,c,h2,h4,h3⟩:=h.2 (by rintro rfl;simp at hi)
   have h1:=h.1
   simp only at h1 h2 h3 h4;subst h1
   simp only [elt,addrOf,Option.getD_some,addr_add,AM.loadCells,h2] at h0
   split at h0
   ·simp only [Option.some.injEq] at h0
    rw [←h0]
    simp only [elt,addrOf,Option.getD_some,addr_add,AM.loadCell,h2,List.getElem?_take,List.getElem?_drop,if_pos hj,Nat.add_assoc]
   ·cases h0
theorem Sl.loadCell0 (h:Sl H enc e p l) (he:∀x,(enc x).length=e) {i:Nat} (hi:i<l.length) (hj:0<e):AM.loadCell H (elt p e i)=(enc (gt l i))[0]?:=by
 rw [←h.loadCell he hi hj]
 congr 1
omit [Inhabited α] in
theorem Sl.idx (h:Sl H enc e p l) {i c:Nat} {k:IntKind} {H1:Heap} (hi:i<l.length):idxK e (.slice p l.length c) (.int k (i:Int)) H1=some (.pointer (some (elt p e i)),H1):=by
 cases p with
 | none=>simp only [Sl] at h;subst h;simp at hi
 | some a=>exact idxK_nat hi
end
theorem hget_set_eq {X:Heap} {j:Nat} {b:Blk} (h:j<X.length):hget (X.set j b) j=b:=by
 unfold hget;rw [List.getD_eq_getElem?_getD,List.getElem?_set_self h];rfl
theorem hget_set_ne {X:Heap} {i j:Nat} {b:Blk} (h:i≠j):hget (X.set j b) i=hget X i:=by
 unfold hget;rw [List.getD_eq_getElem?_getD,List.getD_eq_getElem?_getD,List.getElem?_set_ne (Ne.symm h)]
theorem idxK_zero {e len c:Nat} {p:Addr} {k:IntKind} {H:Heap} (h:0<len):idxK e (.slice (some p) len c) (.int k 0) H=some (.pointer (some (p.add 0)),H):=by
 have:=idxK_nat (e:=e) (n:=0) (len:=len) (c:=c) (p:=p) (k:=k) (H:=H) h
 rw [Nat.zero_mul] at this
 exact this
theorem keyOk_int {k:IntKind} {n:Int}:keyOk (.int k) (.int k n)=true:=by simp [keyOk]
theorem keyOk_str {b:ByteArray}:keyOk .str (.string b)=true:=id rfl
theorem findKey_pair {k k':IntKind} {a b c d:Int} {v:Value} {es:List (Value×Value)} {i:Nat}:findKey (.agg #[.int k a,.int k' b]) ((.agg #[.int k c,.int k' d],v)::es) i=if a=c∧b=d then some (some (i,v)) else findKey (.agg #[.int k a,.int k' b]) es (i+1):=by
 simp only [findKey,keyEq,intsEq,if_true,Option.map_some,Bool.and_true]
 by_cases h:a=c∧b=d
 ·obtain ⟨rfl,rfl⟩:=h
  simp
 ·rw [if_neg h]
  have e:((a == c)&&(b == d))=false:=by
   cases he:((a == c)&&(b == d)) with
   | false=>rfl
   | true=>
     simp only [Bool.and_eq_true,beq_iff_eq] at he
     exact absurd he h
  simp [e]
theorem findKey_nil {v:Value} {i:Nat}:findKey v [] i=some none:=rfl
theorem findKey_int {k:IntKind} {a b:Int} {v:Value} {es:List (Value×Value)} {i:Nat}:findKey (.int k a) ((.int k b,v)::es) i=if a=b then some (some (i,v)) else findKey (.int k a) es (i+1):=by
 simp only [findKey,keyEq,if_true]
 by_cases h:a=b
 ·simp [h]
 ·have e:(a == b)=false:=by simpa using h
  simp [h,e]
theorem mapEntries_some {H:Heap} {r:Nat}:mapEntries H (.map (some r))=(match hget H r with | .map es=>some es | _=>none):=rfl
theorem mapEntries_none {H:Heap}:mapEntries H (.map none)=some []:=rfl
theorem findKey_no {α:Type} {k:IntKind} {a:Int} {f:α→Int} {g:α→Value}:∀{l:List α} {i:Nat},(∀x∈l,f x≠a)→findKey (.int k a) (l.map fun x=>(.int k (f x),g x)) i=some none
 | [],_,_=>rfl
 | x::l,i,h=>by
   rw [List.map_cons,findKey_int,if_neg (fun e=>h x (by simp) e.symm)]
   exact findKey_no fun y hy=>h y (by simp [hy])
theorem findKey_yes {α:Type} {k:IntKind} {a:Int} {f:α→Int} {g:α→Value} {v:Value}:∀{l:List α} {i:Nat},(∃x∈l,f x=a)→(∀x∈l,f x=a→g x=v)→∃j,findKey (.int k a) (l.map fun x=>(.int k (f x),g x)) i=some (some (j,v))
 | [],_,h,_=>by obtain ⟨x,hx,_⟩:=h;simp at hx
 | x::l,i,h,hv=>by
   rw [List.map_cons,findKey_int]
   by_cases e:a=f x
   ·exact ⟨i,by rw [if_pos e,hv x (by simp) e.symm]⟩
   ·rw [if_neg e]
    refine findKey_yes ?_ fun y hy=>hv y (by simp [hy])
    obtain ⟨y,hy,hy2⟩:=h
    rcases List.mem_cons.1 hy with rfl | hy
    ·exact absurd hy2.symm e
    ·exact ⟨y,hy,hy2⟩
def Ext (H G:Heap):Prop:=∃X,G=H++X
section
variable {H G:Heap}
theorem Ext.refl:Ext H H:=⟨[],by simp⟩
theorem Ext.app (h:Ext H G) {X:Heap}:Ext H (G++X):=by
 obtain ⟨Y,rfl⟩:=h
 exact ⟨Y++X,by simp⟩
theorem Ext.trans {K:Heap} (h:Ext H G) (k:Ext G K):Ext H K:=by
 obtain ⟨Y,rfl⟩:=k
 exact h.app
theorem Ext.len (h:Ext H G):H.length≤G.length:=by
 obtain ⟨Y,rfl⟩:=h
 simp
theorem Ext.sl {α:Type} {enc:α→List Value} {e:Nat} {p:Option Addr} {l:List α} (h:Ext H G) (hs:Sl H enc e p l):Sl G enc e p l:=by
 obtain ⟨Y,rfl⟩:=h
 exact hs.app Y
theorem Ext.cells (h:Ext H G) {b:Nat} {ro:Bool} {c:List Value} (hs:hget H b=.cells ro c):hget G b=.cells ro c:=by
 obtain ⟨Y,rfl⟩:=h
 rw [hget_old (hget_alive hs)];exact hs
end
section
variable {E:Env} {af:AFunc} {lim:Nat} {K:List AItem} {fr:Nat→Value} {H:Heap} {R:Value→Heap→Prop} {b:ACode}
theorem Ret_rounds {S:Type} (m:S→Nat) (I:S→(Nat→Value)→Heap→Prop) (s:S) (h0:I s fr H)
  (step:∀s fr H,I s fr H→(∀s' fr' H',I s' fr' H'→m s'<m s→Ret E af lim (.inLoop b::K) fr' H' R)→Ret E af lim (.code b::.inLoop b::K) fr H R) :
  Ret E af lim (.code (.loop b)::K) fr H R:=by
 rw [Ret_loop,←Ret_inLoop]
 have key:∀n s fr H,m s≤n→I s fr H→Ret E af lim (.inLoop b::K) fr H R:=by
  intro n
  induction n with
  | zero=>
    intro s fr H hm hi
    rw [Ret_inLoop]
    exact step s fr H hi fun s' fr' H' _ hl=>absurd hl (by omega)
  | succ n ih=>
    intro s fr H hm hi
    rw [Ret_inLoop]
    exact step s fr H hi fun s' fr' H' hi' hl=>ih s' fr' H' (by omega) hi'
 exact key _ s fr H (Nat.le_refl _) h0
theorem CallR.mono {mp:Bool} {g:FuncId} {as:List Value} {Q Q':Value→Heap→Prop} (h:CallR E mp lim g as H Q) (hq:∀v H',Q v H'→Q' v H'):CallR E mp lim g as H Q':=by
 obtain ⟨n,L,h1,h2⟩:=h
 exact ⟨n,L,h1,h2.mono hq⟩
theorem Ret.mono {k:List AItem} {R':Value→Heap→Prop} (h:Ret E af lim k fr H R) (hq:∀v H',R v H'→R' v H'):Ret E af lim k fr H R':=by
 obtain ⟨n,L,h1,h2⟩:=h
 exact ⟨n,L,h1,h2.mono hq⟩
theorem Ret_pad {k:List AItem} (h:Ret E af lim k fr (H++[]) R):Ret E af lim k fr H R:=by rwa [List.append_nil] at h
theorem Ret_exit_eq {k k':List AItem} {id:Nat} (h:aExit id k=aExit id k'):Ret E af lim (.code (.exit id)::k) fr H R=Ret E af lim (.code (.exit id)::k') fr H R:=by
 cases hk:aExit id k' with
 | some K'=>rw [Ret_exit (h.trans hk),Ret_exit hk]
 | none=>
   have key:∀{k:List AItem},aExit id k=none→¬Ret E af lim (.code (.exit id)::k) fr H R:=by
    rintro k hk ⟨n,L,hx,_⟩
    cases n with
    | zero=>simp [aRun] at hx
    | succ n=>rw [aRun.eq_def] at hx;simp only [hk] at hx;cases hx
   exact propext ⟨fun q=>absurd q (key (h.trans hk)),fun q=>absurd q (key hk)⟩
theorem Ret_exit_code {id:Nat} {c:ACode}:Ret E af lim (.code (.exit id)::.code c::K) fr H R=Ret E af lim (.code (.exit id)::K) fr H R:=Ret_exit_eq (by simp [aExit])
theorem Ret_exit_loop {id:Nat} {c:ACode}:Ret E af lim (.code (.exit id)::.inLoop c::K) fr H R=Ret E af lim (.code (.exit id)::K) fr H R:=Ret_exit_eq (by simp [aExit])
theorem Ret_exit_other {id id':Nat} (h:id'≠id):Ret E af lim (.code (.exit id)::.inBlock id'::K) fr H R=Ret E af lim (.code (.exit id)::K) fr H R:=Ret_exit_eq (by simp [aExit,h])
theorem Ret_exit_here {id:Nat}:Ret E af lim (.code (.exit id)::.inBlock id::K) fr H R=Ret E af lim K fr H R:=Ret_exit (by simp [aExit])
def shutK (r:Option Heap) (f:Heap→Prop) (_:Bx f:=⟨⟩):Prop:=match r with | some H'=>f H' | none=>False
theorem shutK_some {f:Heap→Prop}:shutK (some H) f=f H:=rfl
theorem Ret_retM:Ret E af lim (.code .retM::K) fr H R=shutK (shut lim (marks K) H) fun H'=>opK ((result fr H' af.results).map (·,H')) R:=by
 rw [Ret_first (r:=match shut lim (marks K) H with | some H'=>(result fr H' af.results).map (·,H') | none=>none) fun n=>by rw [aRun.eq_def];simp only;cases shut lim (marks K) H<;>rfl]
 cases shut lim (marks K) H<;>rfl
theorem marks_nil:marks []=[]:=rfl
theorem marks_code {c:ACode}:marks (.code c::K)=marks K:=rfl
theorem marks_loop {c:ACode}:marks (.inLoop c::K)=marks K:=rfl
theorem marks_block {id:Nat}:marks (.inBlock id::K)=marks K:=rfl
theorem marks_mark {i:Nat}:marks (.mark i::K)=marks K++[i]:=rfl
theorem shut_nil:shut lim [] H=some H:=rfl
theorem shut_cons {i:Nat} {l:List Nat} (h:hget H i=.dfr) (hl:lim≤i):shut lim (i::l) H=shut lim l (H.set i .dead):=by simp only [shut,h,if_pos hl]
def endB (i:Nat) (j:Option ACode) (H:Heap) (b:Blk):Option (Value×Heap):=match b with | .loop x=>some (.bool j.isNone,H.set i (.loop { x with st:=if j.isNone then 0 else 2,pend:=j })) | _=>none
theorem endB_on {i st N:Nat} {p:Option ACode} {g:Nat→Value} {ps:List Nat} {a b:ACode}:endB i none H (.loop ⟨st,p,g,N,ps,a,b⟩)=some (.bool true,H.set i (.loop ⟨0,none,g,N,ps,a,b⟩)):=rfl
theorem endB_off {i st N:Nat} {p:Option ACode} {g:Nat→Value} {ps:List Nat} {a b c:ACode}:endB i (some c) H (.loop ⟨st,p,g,N,ps,a,b⟩)=some (.bool false,H.set i (.loop ⟨2,some c,g,N,ps,a,b⟩)):=rfl
theorem endRound_get {i:Nat} {j:Option ACode}:endRound i j H=endB i j H (hget H i):=by unfold endRound endB;cases hget H i<;>rfl
theorem Ret_round {i:Nat} (hl:lim≤i):Ret E af lim (.round i::K) fr H R=opK (endB i none H (hget H i)) R:=by
 rw [←endRound_get];exact Ret_first fun n=>by rw [aRun.eq_def];simp only [if_pos hl]
def begK (b:Blk) (f:LoopB→Prop) (_:Bx f:=⟨⟩):Prop:=match b with | .loop x=>if x.st=0 then f x else False | _=>False
theorem begK_loop {N:Nat} {p:Option ACode} {g:Nat→Value} {ps:List Nat} {a b:ACode} {f:LoopB→Prop}:begK (.loop ⟨0,p,g,N,ps,a,b⟩) f=f ⟨0,p,g,N,ps,a,b⟩:=by simp [begK]
theorem Ret_begin {i:Nat} (hl:lim≤i):Ret E af lim (.begin i::K) fr H R=begK (hget H i) fun x=>Ret E af lim K fr (H.set i (.loop { x with st:=1 })) R:=by
 unfold begK
 have never:(∀n,aRun E (n+1) af lim (.begin i::K) fr H=none)→Ret E af lim (.begin i::K) fr H R=False:=fun h=>by rw [Ret_first (r:=none) fun n=>(h n).trans rfl];rfl
 cases hb:hget H i with
 | loop x=>
   simp only
   split
   ·rename_i hs
    exact Ret.succ fun n=>by rw [aRun.eq_def];simp only [hb,if_pos (And.intro hs hl)]
   ·rename_i hs
    exact never fun n=>by rw [aRun.eq_def];simp only [hb,hs,false_and,if_false]
 | _=>exact never fun n=>by rw [aRun.eq_def];simp only [hb]
theorem Ret_never {k:List AItem} (h:∀n,aRun E (n+1) af lim k fr H=none):Ret E af lim k fr H R=False:=by rw [Ret_first (r:=none) fun n=>(h n).trans rfl];rfl
theorem Ret_retR_eq {k k':List AItem} (h:roundOf k=roundOf k'):Ret E af lim (.code .retR::k) fr H R=Ret E af lim (.code .retR::k') fr H R:=by
 rw [Ret_first (r:=match roundOf k with | some i=>if lim≤i then endRound i (some .retM) H else none | none=>none) fun n=>by rw [aRun.eq_def];simp only;cases roundOf k with | none=>rfl | some i=>simp only;split<;>rfl,
  Ret_first (k:=.code .retR::k') (r:=match roundOf k' with | some i=>if lim≤i then endRound i (some .retM) H else none | none=>none) fun n=>by rw [aRun.eq_def];simp only;cases roundOf k' with | none=>rfl | some i=>simp only;split<;>rfl,h]
theorem Ret_retR_code {c:ACode}:Ret E af lim (.code .retR::.code c::K) fr H R=Ret E af lim (.code .retR::K) fr H R:=Ret_retR_eq rfl
theorem Ret_retR_loop {c:ACode}:Ret E af lim (.code .retR::.inLoop c::K) fr H R=Ret E af lim (.code .retR::K) fr H R:=Ret_retR_eq rfl
theorem Ret_retR_block {id:Nat}:Ret E af lim (.code .retR::.inBlock id::K) fr H R=Ret E af lim (.code .retR::K) fr H R:=Ret_retR_eq rfl
theorem Ret_retR_round {i:Nat} (hl:lim≤i):Ret E af lim (.code .retR::.round i::K) fr H R=opK (endB i (some .retM) H (hget H i)) R:=by
 rw [←endRound_get];exact Ret_first fun n=>by rw [aRun.eq_def];simp only [roundOf,if_pos hl]
theorem Ret_exitR_eq {k k':List AItem} {id:Nat} (h:aExit id k=aExit id k') (h2:roundOf k=roundOf k'):Ret E af lim (.code (.exitR id)::k) fr H R=Ret E af lim (.code (.exitR id)::k') fr H R:=by
 cases hk:aExit id k' with
 | some K'=>
   exact (Ret.succ (k1:=K') (fr1:=fr) (H1:=H) fun n=>by rw [aRun.eq_def];simp only [h.trans hk]).trans (Ret.succ fun n=>by rw [aRun.eq_def];simp only [hk]).symm
 | none=>
   rw [Ret_first (r:=match roundOf k with | some i=>if lim≤i then endRound i (some (.exit id)) H else none | none=>none) fun n=>by rw [aRun.eq_def];simp only [h.trans hk];cases roundOf k with | none=>rfl | some i=>simp only;split<;>rfl,
    Ret_first (k:=.code (.exitR id)::k') (r:=match roundOf k' with | some i=>if lim≤i then endRound i (some (.exit id)) H else none | none=>none) fun n=>by rw [aRun.eq_def];simp only [hk];cases roundOf k' with | none=>rfl | some i=>simp only;split<;>rfl,h2]
theorem Ret_exitR_code {id:Nat} {c:ACode}:Ret E af lim (.code (.exitR id)::.code c::K) fr H R=Ret E af lim (.code (.exitR id)::K) fr H R:=Ret_exitR_eq (by simp [aExit]) rfl
theorem Ret_exitR_loop {id:Nat} {c:ACode}:Ret E af lim (.code (.exitR id)::.inLoop c::K) fr H R=Ret E af lim (.code (.exitR id)::K) fr H R:=Ret_exitR_eq (by simp [aExit]) rfl
theorem Ret_exitR_other {id id':Nat} (h:id'≠id):Ret E af lim (.code (.exitR id)::.inBlock id'::K) fr H R=Ret E af lim (.code (.exitR id)::K) fr H R:=Ret_exitR_eq (by simp [aExit,h]) rfl
theorem Ret_exitR_here {id:Nat}:Ret E af lim (.code (.exitR id)::.inBlock id::K) fr H R=Ret E af lim K fr H R:=Ret.succ fun n=>by rw [aRun.eq_def];simp [aExit]
theorem Ret_exitR_round {id i:Nat} (hl:lim≤i):Ret E af lim (.code (.exitR id)::.round i::[]) fr H R=opK (endB i (some (.exit id)) H (hget H i)) R:=by
 rw [←endRound_get];exact Ret_first fun n=>by rw [aRun.eq_def];simp only [aExit,roundOf,if_pos hl]
def pendI (x:LoopB):List AItem:=match x.pend with | none=>[] | some c=>[.code c]
theorem pendI_none {st N:Nat} {g:Nat→Value} {ps:List Nat} {a b:ACode}:pendI ⟨st,none,g,N,ps,a,b⟩=[]:=rfl
theorem pendI_some {st N:Nat} {g:Nat→Value} {ps:List Nat} {a b c:ACode}:pendI ⟨st,some c,g,N,ps,a,b⟩=[.code c]:=rfl
def calL (c:Option ((FuncId ⊕ Nat)×List Value)) (f:FuncId→List Value→Prop) (_:Bx f:=⟨⟩):Prop:=match c with | some (.inl g,as)=>f g as | _=>False
theorem calL_some {g:FuncId} {as:List Value} {f:FuncId→List Value→Prop}:calL (some (.inl g,as)) f=f g as:=rfl
def endK (b:Blk) (f:LoopB→Prop) (_:Bx f:=⟨⟩):Prop:=match b with | .loop x=>if x.st=1 then False else f x | _=>False
theorem endK_0 {N:Nat} {p:Option ACode} {g:Nat→Value} {ps:List Nat} {a b:ACode} {f:LoopB→Prop}:endK (.loop ⟨0,p,g,N,ps,a,b⟩) f=f ⟨0,p,g,N,ps,a,b⟩:=by simp [endK]
theorem endK_2 {N:Nat} {p:Option ACode} {g:Nat→Value} {ps:List Nat} {a b:ACode} {f:LoopB→Prop}:endK (.loop ⟨2,p,g,N,ps,a,b⟩) f=f ⟨2,p,g,N,ps,a,b⟩:=by simp [endK]
theorem endK_loop {x:LoopB} {f:LoopB→Prop} (h:x.st≠1):endK (.loop x) f=f x:=by simp [endK,h]
theorem Ret_rangeF0 {f:Operand} {ps:List Nat} {a b:ACode} {g:FuncId} {as:List Value} (hc:callee (ev fr f) [.func (.yield (H.length+1)) #[] #[]] = some (.inl g,as)) :
  Ret E af lim (.code (.rangeF f ps a b)::K) fr H R=CallR E false lim g as (H++[.dfr,.loop ⟨0,none,fr,af.ntmps,ps,a,b⟩]) fun _ H2=>
   endK (hget H2 (H.length+1)) fun x=>Ret E af lim (pendI x++(K++[.mark H.length])) fr (H2.set (H.length+1) .dead) R:=by
 let F:=fun (n:Nat) (r:Value×Heap)=>match hget r.2 (H.length+1) with
  | .loop x=>if x.st=1 then none else aRun E n af lim ((match x.pend with | none=>[] | some c=>[AItem.code c])++(K++[AItem.mark H.length])) fr (r.2.set (H.length+1) .dead)
  | _=>none
 have hF:∀n r s,F n r=some s→∃x,hget r.2 (H.length+1)=.loop x∧x.st≠1∧aRun E n af lim (pendI x++(K++[.mark H.length])) fr (r.2.set (H.length+1) .dead)=some s:=fun n r s h=>by
  simp only [F] at h
  split at h
  case h_2=>cases h
  rename_i x hb
  split at h
  ·cases h
  rename_i hst
  exact ⟨x,hb,hst,h⟩
 have hF':∀n r x s,hget r.2 (H.length+1)=.loop x→x.st≠1→aRun E n af lim (pendI x++(K++[.mark H.length])) fr (r.2.set (H.length+1) .dead)=some s→F n r=some s:=fun n r x s hb hst h=>by
  simp only [F,hb,if_neg hst]
  exact h
 have hne:∀n r s,F n r=some s→s≠[]:=fun n r s h=>by
  obtain ⟨x,_,_,h⟩:=hF n r s h
  exact aRun_ne E _ _ _ _ _ _ _ h
 have hmono:∀{n m r s},n≤m→F n r=some s→F m r=some s:=fun {n m r s} hnm h=>by
  obtain ⟨x,h1,h2,h3⟩:=hF n r s h
  exact hF' m r x s h1 h2 (aRun_le E hnm h3)
 have hrun:∀n,aRun E (n+1) af lim (.code (.rangeF f ps a b)::K) fr H=match callWith E (aRun E n) false lim (.inl g) as (H++[.dfr,.loop ⟨0,none,fr,af.ntmps,ps,a,b⟩]) with
   | some L=>bindL (F n) L
   | none=>none:=fun n=>by rw [aRun.eq_def];simp only [hc];rfl
 apply propext
 constructor
 ·rintro ⟨n,L,hx,hr⟩
  cases n with
  | zero=>simp [aRun] at hx
  | succ n=>
  rw [hrun] at hx
  split at hx
  case h_2=>cases hx
  rename_i L0 hcall
  refine ⟨n,L0,hcall,fun hd=>?_,fun r hr'=>?_⟩
  ·obtain ⟨y,hy⟩:=hr.1 hd
   exact bindL_one hx (fun x _ s hs=>hne n x s hs) hy
  ·obtain ⟨s,hs,hsub⟩:=bindL_fwd hx r hr'
   obtain ⟨x,h1,h2,h3⟩:=hF n r s hs
   rw [h1,endK_loop h2]
   refine ⟨n,s,h3,fun hd=>?_,fun q hq=>hr.2 q (hsub q hq)⟩
   obtain ⟨y,hy⟩:=hr.1 hd
   obtain ⟨z,hz⟩:=bindL_one hx (fun x _ s hs=>hne n x s hs) hy
   subst hz
   rw [List.mem_singleton] at hr'
   subst hr'
   simp only [bindL,hs,Option.some.injEq,List.append_nil] at hx
   exact ⟨y,hx.trans hy⟩
 ·rintro ⟨n,L0,hcall,hd,h2⟩
  have hall:∃N,∀r∈L0,∃s,F N r=some s∧Outs E.dt s R:=by
   clear hd hcall
   induction L0 with
   | nil=>exact ⟨0,fun r hr=>by cases hr⟩
   | cons y L0 ih=>
     obtain ⟨N,hN⟩:=ih fun r hr=>h2 r (by simp [hr])
     have hk:=h2 y (by simp)
     simp only [endK] at hk
     split at hk
     case h_2=>exact hk.elim
     rename_i x hb
     split at hk
     ·exact hk.elim
     rename_i hst
     obtain ⟨m,s,hx,hr⟩:=hk
     refine ⟨max N m,fun r hr'=>?_⟩
     rcases List.mem_cons.1 hr' with rfl | hr'
     ·exact ⟨s,hmono (Nat.le_max_right N m) (hF' m r x s hb hst hx),hr⟩
     ·obtain ⟨s',g1,g2⟩:=hN r hr'
      exact ⟨s',hmono (Nat.le_max_left N m) g1,g2⟩
  obtain ⟨N,hN⟩:=hall
  have e:callWith E (aRun E (max n N)) false lim (.inl g) as (H++[.dfr,.loop ⟨0,none,fr,af.ntmps,ps,a,b⟩])=some L0:=aCall_le E (Nat.le_max_left n N) _ _ _ _ _ _ hcall
  obtain ⟨L,hL⟩:=bindL_some (f:=F (max n N)) (l:=L0) fun r hr=>by
   obtain ⟨s,hs,_⟩:=hN r hr
   exact ⟨s,hmono (Nat.le_max_right n N) hs⟩
  refine ⟨max n N+1,L,by rw [hrun,e];exact hL,fun hdt=>?_,fun q hq=>?_⟩
  ·obtain ⟨y,rfl⟩:=hd hdt
   obtain ⟨s,hs,ho⟩:=hN y (by simp)
   have hs':=hmono (Nat.le_max_right n N) hs
   simp only [bindL,hs',Option.some.injEq,List.append_nil] at hL
   obtain ⟨z,hz⟩:=ho.1 hdt
   exact ⟨z,by rw [←hL,hz]⟩
  ·obtain ⟨r,hr,s,hs,hqs⟩:=bindL_back hL q hq
   obtain ⟨s',hs',ho⟩:=hN r hr
   have:=hmono (Nat.le_max_right n N) hs'
   rw [hs] at this
   cases this
   exact ho.2 q hqs
theorem Ret_rangeF {f:Operand} {ps:List Nat} {a b:ACode} :
  Ret E af lim (.code (.rangeF f ps a b)::K) fr H R=calL (callee (ev fr f) [.func (.yield (H.length+1)) #[] #[]]) fun g as=>CallR E false lim g as (H++[.dfr,.loop ⟨0,none,fr,af.ntmps,ps,a,b⟩]) fun _ H2=>
   endK (hget H2 (H.length+1)) fun x=>Ret E af lim (pendI x++(K++[.mark H.length])) fr (H2.set (H.length+1) .dead) R:=by
 unfold calL
 split
 ·rename_i g as hc;exact Ret_rangeF0 hc
 ·rename_i hc
  refine Ret_never fun n=>?_
  rw [aRun.eq_def]
  simp only
theorem CallY.det {mp:Bool} {i:Nat} {as:List Value} {Q:Value→Heap→Prop} {n:Nat} {v:Value} {H':Heap} (h:aCall E n mp lim (.inr i) as H=some [(v,H')]):CallY E mp lim i as H Q=Q v H':=by
 rw [←CallT_inr,CallT.all h,Outs_one]
theorem CallY.mono {mp:Bool} {i:Nat} {as:List Value} {Q Q':Value→Heap→Prop} (h:CallY E mp lim i as H Q) (hq:∀v H',Q v H'→Q' v H'):CallY E mp lim i as H Q':=by
 obtain ⟨n,L,h1,h2⟩:=h
 exact ⟨n,L,h1,h2.mono hq⟩
theorem CallY_run {i:Nat} {as:List Value} {Q:Value→Heap→Prop} {x:LoopB} (hb:hget H i=.loop x) (hl:lim≤i) (hlen:as.length=x.params.length) (hp:(x.params.all (·<x.N))=true) :
  CallY E false lim i as H Q=Ret E ⟨x.N,[],.skip⟩ lim [.code x.assign,.begin i,.code x.body,.round i] (setParams x.fr x.params as) H Q:=by
 unfold CallY Ret aCall callWith
 simp only [hb,if_pos (And.intro hl (And.intro hlen hp)),Bool.false_eq_true,if_false]
theorem Ret_code {c c':ACode} (h:c=c'):Ret E af lim (.code c::K) fr H R=Ret E af lim (.code c'::K) fr H R:=by rw [h]
theorem loadCell_lit {b o:Nat} {s:Option Nat}:AM.loadCell H ⟨b,o,s⟩=(match hget H b with | .cells _ c=>c[o]? | _=>none):=rfl
theorem loadCells_lit {b o n:Nat} {s:Option Nat}:AM.loadCells H ⟨b,o,s⟩ n=(match hget H b with | .cells _ c=>if o+n≤c.length then some ((c.drop o).take n) else none | _=>none):=rfl
theorem storeAt_lit {b o:Nat} {s:Option Nat} {vs:List Value}:AM.storeAt lim H ⟨b,o,s⟩ vs=(match hget H b with | .cells false c=>if lim≤b∧o+vs.length≤c.length then some (H.set b (.cells false (setAll c o vs))) else none | _=>none):=rfl
theorem CallR.eq {mp:Bool} {g:FuncId} {as:List Value} {Q:Value→Heap→Prop} {v:Value} {H':Heap} (h:CallR E mp lim g as H fun v' H1=>v'=v∧H1=H'):CallR E mp lim g as H Q=Q v H':=by
 obtain ⟨n,L,h1,h2⟩:=h
 rw [←CallT_inl,CallT.all h1]
 have hne:=aCall_ne E h1
 obtain ⟨x,hx⟩:=List.exists_mem_of_ne_nil _ hne
 have e:∀r∈L,r=(v,H'):=fun r hr=>by
  obtain ⟨a,b⟩:=h2.2 r hr
  exact Prod.ext a b
 apply propext
 constructor
 ·intro h
  have:=h.2 x hx
  rw [e x hx] at this
  exact this
 ·exact fun hq=>⟨h2.1,fun r hr=>by rw [e r hr];exact hq⟩
end
section
variable {p q:Prop} {t b:Bool}
theorem wantK_undef:wantK undef b p q=q:=by unfold undef wantK;rfl
theorem wantK_not:wantK (.bool (!t)) b p q=wantK (.bool t) (!b) p q:=by cases t<;>cases b<;>simp [wantK]
theorem condK_not:condK (.bool (!t)) p q=condK (.bool t) q p:=by cases t<;>rfl
end
theorem int_lt_cast {a b:Nat}:((a:Int)<(b:Int))=(a<b):=by simp
theorem int_le_cast {a b:Nat}:((a:Int)≤(b:Int))=(a≤b):=by simp
theorem int_zero_lt {a:Nat}:((0:Int)<(a:Int))=(0<a):=by simp
theorem wrap_id {n:Int} (h1:-2 ^ 63≤n) (h2:n<2 ^ 63):IntKind.i64.wrap n=n:=by
 by_cases h:0≤n
 ·have h1:n % 2 ^ 64=n:=Int.emod_eq_of_lt h (by omega)
  simp only [IntKind.wrap,IntKind.bits,IntKind.signed,h1]
  rw [if_neg (by simp;omega)]
 ·have h1:n % 2 ^ 64=n+2 ^ 64:=by
   rw [←Int.add_emod_right,Int.emod_eq_of_lt (by omega) (by omega)]
  simp only [IntKind.wrap,IntKind.bits,IntKind.signed,h1]
  rw [if_pos (by simp;omega)]
  omega
theorem hget_cells {H:Heap} {b:Nat} (h:isCells (hget H b)=true):∃ro,hget H b=.cells ro (cellsOf (hget H b)):=by
 cases hb:hget H b with
 | cells ro c=>exact ⟨ro,by simp [cellsOf]⟩
 | _=>rw [hb] at h;simp [isCells] at h
theorem Sl.lit {α:Type} {H:Heap} {enc:α→List Value} {e b:Nat} {l:List α} (he:∀x,(enc x).length=e) (h:isCells (hget H b)=true) (hc:cellsOf (hget H b)=l.flatMap enc):Sl H enc e (some ⟨b,0,none⟩) l:=by
 obtain ⟨ro,h1⟩:=hget_cells h
 refine ⟨rfl,fun _=>⟨ro,_,h1, ?_, ?_⟩⟩
 ·rw [hc,flat_len he];simp
 ·rw [hc,List.drop_zero,List.take_of_length_le (by rw [flat_len he];exact Nat.le_refl _)]
theorem cells_slice {a:Option Addr} {n c:Nat}:(Value.slice a n c).cells=#[.slice a n c]:=rfl
theorem cells_ptr {a:Option Addr}:(Value.pointer a).cells=#[.pointer a]:=rfl
theorem cells_str {s:ByteArray}:(Value.string s).cells=#[.string s]:=rfl
theorem arr1 {v:Value}:(#[v]:Array Value).toList=[v]:=rfl
theorem size1 {v:Value}:(#[v]:Array Value).size=1:=rfl
theorem cells_map {a:Option Nat}:(Value.map a).cells=#[.map a]:=rfl
theorem cells_func {f:Fn} {a b:Array Value}:(Value.func f a b).cells=#[.func f a b]:=rfl
theorem fillV_slice {off:Nat} {a:Option Addr} {n m:Nat} {c:List Value} (h:off<c.length):fillV off 1 (.slice a n m) c=some (c.set off (.slice a n m)):=fillV_one rfl rfl h
theorem fillV_ptr {off:Nat} {a:Option Addr} {c:List Value} (h:off<c.length):fillV off 1 (.pointer a) c=some (c.set off (.pointer a)):=fillV_one rfl rfl h
theorem fillV_str {off:Nat} {a:ByteArray} {c:List Value} (h:off<c.length):fillV off 1 (.string a) c=some (c.set off (.string a)):=fillV_one rfl rfl h
theorem fillV_map {off:Nat} {a:Option Nat} {c:List Value} (h:off<c.length):fillV off 1 (.map a) c=some (c.set off (.map a)):=fillV_one rfl rfl h
theorem pad_4:List.replicate 4 Blk.dead=[.dead,.dead,.dead,.dead]:=rfl
theorem pad_5:List.replicate 5 Blk.dead=[.dead,.dead,.dead,.dead,.dead]:=rfl
theorem pad_6:List.replicate 6 Blk.dead=[.dead,.dead,.dead,.dead,.dead,.dead]:=rfl
theorem pad_7:List.replicate 7 Blk.dead=[.dead,.dead,.dead,.dead,.dead,.dead,.dead]:=rfl
theorem pad_8:List.replicate 8 Blk.dead=[.dead,.dead,.dead,.dead,.dead,.dead,.dead,.dead]:=rfl
theorem pad_9:List.replicate 9 Blk.dead=[.dead,.dead,.dead,.dead,.dead,.dead,.dead,.dead,.dead]:=rfl
theorem pad_10:List.replicate 10 Blk.dead=[.dead,.dead,.dead,.dead,.dead,.dead,.dead,.dead,.dead,.dead]:=rfl
theorem pad_11:List.replicate 11 Blk.dead=[.dead,.dead,.dead,.dead,.dead,.dead,.dead,.dead,.dead,.dead,.dead]:=rfl
theorem pad_12:List.replicate 12 Blk.dead=[.dead,.dead,.dead,.dead,.dead,.dead,.dead,.dead,.dead,.dead,.dead,.dead]:=rfl
theorem bytesOf_nil:bytesOf []=some []:=rfl
theorem bytesOf_cons {n:Int} {l:List Value}:bytesOf (.int .u8 n::l)=(bytesOf l).map (UInt8.ofNat n.toNat::·):=by
 simp only [bytesOf];cases bytesOf l<;>rfl
theorem int_eq_cast {a b:Nat}:((a:Int)=(b:Int))=(a=b):=propext Int.ofNat_inj
theorem setAll_skip {v:Value} {c vs:List Value}:∀{o:Nat},setAll (v::c) (o+1) vs=v::setAll c o vs:=by
 induction vs generalizing c with
 | nil=>intro o;rfl
 | cons u vs ih=>intro o;rw [setAll_cons,setAll_cons,List.set_cons_succ];exact ih
theorem take_all {l:List Value} {n:Nat} (h:l.length=n):l.take n=l:=by subst h;exact List.take_length
theorem nat_not_neg {n:Nat}:((n:Int)<0)=False:=by simp
theorem setAll_full {c vs:List Value} (h:vs.length=c.length):setAll c 0 vs=vs:=by
 have key:∀(vs c pre:List Value),vs.length=c.length→setAll (pre++c) pre.length vs=pre++vs:=by
  intro vs
  induction vs with
  | nil=>intro c pre h;have:c=[]:=List.length_eq_zero_iff.1 h.symm;subst this;rfl
  | cons v vs ih=>
    intro c pre h
    match c,h with
    | x::c,h=>
      rw [setAll_cons]
      have e1:(pre++x::c).set pre.length v=(pre++[v])++c:=by simp
      rw [e1]
      have:=ih c (pre++[v]) (by simpa using h)
      rw [List.length_append] at this
      simp only [List.length_cons,List.length_nil,Nat.zero_add] at this
      rw [this];simp
 exact key vs c [] h
def b2sV (v:Value) (H:Heap):Option (Value×Heap):=match v with
 | .slice none n _=>if n=0 then some (.string .empty,H) else none
 | .slice (some a) n _=>match loadCells H a n with
   | some cs=>match bytesOf cs with
     | some bs=>some (.string ⟨bs.toArray⟩,H)
     | none=>none
   | none=>none
 | _=>none
theorem b2sV_some {a:Addr} {n c:Nat} {H:Heap}:b2sV (.slice (some a) n c) H=(match AM.loadCells H a n with
  | some cs=>match bytesOf cs with
    | some bs=>some (.string ⟨bs.toArray⟩,H)
    | none=>none
  | none=>none):=rfl
theorem on_b2sV {E:Env} {lim:Nat} {mask:List Nat} {fr:Nat→Value} {H:Heap} {Q:Value→Heap→Prop} {qx:Operand}:oK E lim none none mask (.b2s qx) fr H Q=opK (b2sV (ev fr qx) H) Q:=oK_none rfl
theorem ob_b2sV {E:Env} {lim b:Nat} {dest:Option Nat} {mask:List Nat} {fr:Nat→Value} {H:Heap} {Q:Value→Heap→Prop} {qx:Operand}:oK E lim (some b) dest mask (.b2s qx) fr H Q=opK (b2sV (ev fr qx) (maskH b mask H)) fun v H'=>Q v (unmaskH b mask H H'):=oK_some rfl
def unV:Operand→Value
 | .const v=>v
 | _=>undef
def sliceV (e:Nat) (v:Value) (lo hi mx:Option Value):Option Value:=aSliceS e unV v (lo.map .const) (hi.map .const) (mx.map .const)
theorem aSliceS_V {e:Nat} {ρ:Operand→Value} {v:Value} {lo hi mx:Option Operand}:aSliceS e ρ v lo hi mx=sliceV e v (lo.map ρ) (hi.map ρ) (mx.map ρ):=by
 unfold sliceV aSliceS
 cases v with
 | slice a n c=>cases lo<;>cases hi<;>cases mx<;>rfl
 | _=>rfl
def copyV (lim esz:Nat) (d x:Value) (H:Heap):Option (Value×Heap):=match d,lenOf x with
    | .slice base dl _,some sl=>match copyCells H esz (min sl dl) x with
      | some cs=>match base with
        | some a=>if min sl dl=0 then some (.int .i64 0,H) else (storeAt lim H a cs).map (.int .i64 (min sl dl:Nat),·)
        | none=>if dl=0 then some (.int .i64 0,H) else none
      | none=>none
    | _,_=>none
theorem on_copyV {E:Env} {lim e:Nat} {mask:List Nat} {fr:Nat→Value} {H:Heap} {Q:Value→Heap→Prop} {d x:Operand}:oK E lim none none mask (.copy e d x) fr H Q=opK (copyV lim e (ev fr d) (ev fr x) H) Q:=oK_none rfl
theorem ob_copyV {E:Env} {lim b e:Nat} {dest:Option Nat} {mask:List Nat} {fr:Nat→Value} {H:Heap} {Q:Value→Heap→Prop} {d x:Operand}:oK E lim (some b) dest mask (.copy e d x) fr H Q=opK (copyV lim e (ev fr d) (ev fr x) (maskH b mask H)) fun v H'=>Q v (unmaskH b mask H H'):=oK_some rfl
def sliceAV (n e:Nat) (v:Value) (lo hi mx:Option Value):Option Value:=match v with
 | .pointer (some a)=>match bounds unV n n (lo.map .const) (hi.map .const) (mx.map .const) with
   | some (l,h,m)=>if m<2 ^ 62 then some (.slice (some (if m=l then a else a.add (l*e))) (h-l) (m-l)) else none
   | none=>none
 | _=>none
theorem sliceA_V {lim n e:Nat} {dest:Option Nat} {ρ:Operand→Value} {x:Operand} {lo hi mx:Option Operand} {H:Heap}:aOp lim dest (.sliceA n e x lo hi mx) ρ H=(sliceAV n e (ρ x) (lo.map ρ) (hi.map ρ) (mx.map ρ)).map (·,H):=by
 have hb:bounds unV n n ((lo.map ρ).map .const) ((hi.map ρ).map .const) ((mx.map ρ).map .const)=bounds ρ n n lo hi mx:=by
  cases lo<;>cases hi<;>cases mx<;>rfl
 simp only [aOp,sliceAV,hb]
 cases ρ x with
 | pointer a=>
   cases a with
   | none=>rfl
   | some a=>
     simp only
     cases bounds ρ n n lo hi mx with
     | none=>rfl
     | some p=>
       obtain ⟨l,h,m⟩:=p
       simp only
       split<;>rfl
 | _=>rfl
theorem on_sliceAV {E:Env} {lim n e:Nat} {mask:List Nat} {fr:Nat→Value} {H:Heap} {Q:Value→Heap→Prop} {x:Operand} {lo hi mx:Option Operand}:oK E lim none none mask (.sliceA n e x lo hi mx) fr H Q=opK ((sliceAV n e (ev fr x) (lo.map (ev fr)) (hi.map (ev fr)) (mx.map (ev fr))).map (·,H)) Q:=by
 rw [oK_none rfl,sliceA_V]
theorem ob_sliceAV {E:Env} {lim b n e:Nat} {dest:Option Nat} {mask:List Nat} {fr:Nat→Value} {H:Heap} {Q:Value→Heap→Prop} {x:Operand} {lo hi mx:Option Operand}:oK E lim (some b) dest mask (.sliceA n e x lo hi mx) fr H Q=opK ((sliceAV n e (ev fr x) (lo.map (ev fr)) (hi.map (ev fr)) (mx.map (ev fr))).map (·,maskH b mask H)) fun v H'=>Q v (unmaskH b mask H H'):=by
 rw [oK_some rfl,sliceA_V]
def appendLV (lim:Nat) (dest:Option Nat) (esz bytes:Nat) (str:Bool) (s x:Value) (H:Heap):Option (Value×Heap):=match s with
    | .slice none n c=>aAppend lim dest esz bytes str (.slice none n c) x H
    | .slice (some a) n c=>if c=loose esz∨c=n then aAppend lim dest esz bytes str (.slice (some a) n c) x H else none
    | _=>none
theorem on_appendLV {E:Env} {lim e b:Nat} {str:Bool} {mask:List Nat} {fr:Nat→Value} {H:Heap} {Q:Value→Heap→Prop} {s x:Operand}:oK E lim none none mask (.appendL e b str s x) fr H Q=opK (appendLV lim none e b str (ev fr s) (ev fr x) H) Q:=oK_none rfl
theorem ob_appendLV {E:Env} {lim e b' b:Nat} {str:Bool} {dest:Option Nat} {mask:List Nat} {fr:Nat→Value} {H:Heap} {Q:Value→Heap→Prop} {s x:Operand}:oK E lim (some b) dest mask (.appendL e b' str s x) fr H Q=opK (appendLV lim (dest.map (b+·)) e b' str (ev fr s) (ev fr x) (maskH b mask H)) fun v H'=>Q v (unmaskH b mask H H'):=oK_some rfl
theorem appendLV_none {lim e b n c:Nat} {str:Bool} {dest:Option Nat} {x:Value} {H:Heap}:appendLV lim dest e b str (.slice none n c) x H=aAppend lim dest e b str (.slice none n c) x H:=rfl
theorem appendLV_some {lim e b n c:Nat} {str:Bool} {dest:Option Nat} {x:Value} {H:Heap} {a:Addr}:appendLV lim dest e b str (.slice (some a) n c) x H=if c=loose e∨c=n then aAppend lim dest e b str (.slice (some a) n c) x H else none:=rfl
section
variable {α:Type}
variable [Inhabited α] {enc:α→List Value} {G X:Heap} {B e i:Nat} {d:Array α} {p:Option Addr} {lim:Nat}
omit [Inhabited α] in
theorem flat_set (he:∀x,(enc x).length=e) (y:α):∀(l:List α) (i:Nat),i<l.length→setAll (l.flatMap enc) (i*e) (enc y)=(l.set i y).flatMap enc:=by
 have key:∀(vs a b c:List Value) ,vs.length=b.length→setAll (a++b++c) a.length vs=a++vs++c:=by
  intro vs
  induction vs with
  | nil=>intro a b c h;simp at h;have:b=[]:=List.length_eq_zero_iff.1 h.symm;subst this;rfl
  | cons v vs ih=>
    intro a b c h
    match b,h with
    | x::b,h=>
      rw [setAll_cons]
      have e1:(a++x::b++c).set a.length v=(a++[v])++b++c:=by simp
      rw [e1]
      have:=ih (a++[v]) b c (by simpa using h)
      rw [List.length_append] at this
      simp only [List.length_cons,List.length_nil,Nat.zero_add] at this
      rw [this];simp
 intro l i hi
 have e1:l.flatMap enc=(l.take i).flatMap enc++enc l[i]++(l.drop (i+1)).flatMap enc:=by
  have e0:l=l.take i++l[i]::l.drop (i+1):=by rw [←List.drop_eq_getElem_cons hi,List.take_append_drop]
  have:=congrArg (List.flatMap enc) e0
  rw [List.flatMap_append,List.flatMap_cons] at this
  rw [this,List.append_assoc]
 have e2:(l.set i y).flatMap enc=(l.take i).flatMap enc++enc y++(l.drop (i+1)).flatMap enc:=by
  rw [List.set_eq_take_append_cons_drop,if_pos hi];simp
 have e3:i*e=((l.take i).flatMap enc).length:=by rw [flat_len he,List.length_take,Nat.min_eq_left (by omega)]
 rw [e1,e2,e3]
 exact key _ _ _ _ (by rw [he,he])
end
end Go.AM

set_option linter.unusedVariables false
set_option linter.unusedSimpArgs false
set_option linter.defProp false
namespace Go.AM
set_option maxRecDepth 100000
def SB:=And.intro @Ret_seq (And.intro @wantK_tt (And.intro @wantK_ff (And.intro @wantK_tf (And.intro @wantK_ft (And.intro @condK_tt (And.intro @condK_ff (And.intro @int_beq (And.intro @int_bne (And.intro @not_dec (And.intro @fillParts_cons (And.intro @fillParts_nil (And.intro @fillK_some (And.intro @fillV_int (And.intro @fillV_bool (And.intro @fillV_agg (And.intro @setAll_nil (And.intro @setAll_cons (And.intro @Ret_cops (And.intro @Ret_exit_code (And.intro @Ret_exit_loop (And.intro @Ret_exit_other (And.intro @Ret_exit_here (And.intro @Ret_skip (And.intro @Ret_block (And.intro @Ret_inBlock (And.intro @Ret_cond (And.intro @Ret_is (And.intro @Ret_in (And.intro @false_and (And.intro @and_false (And.intro @Ret_ops_nil (And.intro @Ret_ret (And.intro @decide_true (And.intro @gK_none (And.intro @gK_some (And.intro @on_mov (And.intro @on_pick (And.intro @on_bin (And.intro @on_eqv (And.intro @on_un (And.intro @on_conv (And.intro @on_alloc (And.intro @on_box (And.intro @on_build (And.intro @on_buildSlice (And.intro @on_load1 (And.intro @on_loadN (And.intro @on_store (And.intro @on_nilCheck (And.intro @on_fieldAddr (And.intro @on_field1 (And.intro @on_fieldN (And.intro @on_idxAddrA (And.intro @on_idxAddrS (And.intro @on_idxA (And.intro @on_idxStr (And.intro @on_sliceS (And.intro @on_sliceStr (And.intro @on_lenStr (And.intro @on_lenSlice (And.intro @on_lenMap (And.intro @on_lenK (And.intro @on_append (And.intro @on_append0 (And.intro @on_minmax (And.intro @on_makeSlice (And.intro @on_makeMap (And.intro @on_lookup (And.intro @on_mapUpdate (And.intro @on_delete (And.intro @on_clear (And.intro @on_makeFunc (And.intro @on_extract (And.intro @on_strId (And.intro @on_rowMark (And.intro @ob_mov (And.intro @ob_pick (And.intro @ob_bin (And.intro @ob_eqv (And.intro @ob_un (And.intro @ob_conv (And.intro @ob_alloc (And.intro @ob_box (And.intro @ob_build (And.intro @ob_buildSlice (And.intro @ob_load1 (And.intro @ob_loadN (And.intro @ob_store (And.intro @ob_storeD (And.intro @ob_nilCheck (And.intro @ob_fieldAddr (And.intro @ob_field1 (And.intro @ob_fieldN (And.intro @ob_idxAddrA (And.intro @ob_idxAddrS (And.intro @ob_idxA (And.intro @ob_idxStr (And.intro @ob_sliceS (And.intro @ob_sliceStr (And.intro @ob_lenStr (And.intro @ob_lenSlice (And.intro @ob_lenMap (And.intro @ob_lenK (And.intro @ob_append (And.intro @ob_append0 (And.intro @ob_minmax (And.intro @ob_makeSlice (And.intro @ob_makeMap (And.intro @ob_lookup (And.intro @ob_mapUpdate (And.intro @ob_delete (And.intro @ob_clear (And.intro @ob_makeFunc (And.intro @ob_extract (And.intro @ob_strId (And.intro @ob_rowMark (And.intro @oK_call (And.intro @oK_callB (And.intro @oK_mapsB (And.intro @oK_range (And.intro @oK_next (And.intro @oK_entry (And.intro @on_capSlice (And.intro @ob_capSlice (And.intro @on_growNil (And.intro @ob_growNil (And.intro @calK_some (And.intro @pure_any (And.intro @pure_pure (And.intro @pure_mk (And.intro @lim_any (And.intro @lim_pure (And.intro @lim_mk (And.intro @CallT_inl (And.intro @CallT_inr (And.intro @Ret_retM (And.intro @marks_nil (And.intro @marks_code (And.intro @marks_loop (And.intro @marks_block (And.intro @marks_mark (And.intro @shut_nil (And.intro @shut_cons (And.intro @shutK_some (And.intro @Ret_round (And.intro @Ret_begin (And.intro @begK_loop (And.intro @endB_on (And.intro @endB_off (And.intro @Ret_retR_code (And.intro @Ret_retR_loop (And.intro @Ret_retR_block (And.intro @Ret_retR_round (And.intro @Ret_exitR_code (And.intro @Ret_exitR_loop (And.intro @Ret_exitR_other (And.intro @Ret_exitR_here (And.intro @Ret_exitR_round (And.intro @calL_some (And.intro @endK_0 (And.intro @endK_2 (And.intro @pendI_none (And.intro @pendI_some (And.intro @Ret_rangeF (And.intro @List.map_cons.{0,0} (And.intro @List.map_nil.{0,0} (And.intro @Option.map_none.{0,0} (And.intro @mask_nil (And.intro @mask_cons (And.intro @unmask_cons (And.intro @pad_one (And.intro @pad_zero (And.intro @pad_two (And.intro @pad_three (And.intro @Ret_drawn (And.intro @Nat.add_assoc (And.intro @unmask_nil (And.intro @unmask_mask (And.intro @ev_tmp (And.intro @ev_const (And.intro @ev_func (And.intro @upd_same (And.intro @upd_ne (And.intro @not_false_eq_true (And.intro @opK_some (And.intro @Option.map_some.{0,0} (And.intro @List.getD_cons_zero.{0} (And.intro @List.getD_cons_succ.{0} (And.intro @decide_false (And.intro @Bool.false_eq_true (And.intro @not_true_eq_false (And.intro @and_true (And.intro @true_and (And.intro @hget_new (And.intro @hget_new0 (And.intro @hget_old (And.intro @set_new (And.intro @set_new0 (And.intro @List.set_cons_zero.{0} (And.intro @List.set_cons_succ.{0} (And.intro @List.append_assoc.{0} (And.intro @List.cons_append.{0} (And.intro @List.nil_append.{0} (And.intro @storeAt_lit (And.intro @loadCell_lit (And.intro @loadCells_lit (And.intro @idxK_nat (And.intro @List.length_cons.{0} (And.intro @List.length_nil.{0} (And.intro @addr_add (And.intro @List.drop_zero.{0} (And.intro @List.drop_succ_cons.{0} (And.intro @List.take_succ_cons.{0} (And.intro @List.take_zero.{0} (And.intro @Nat.le_refl (And.intro @Nat.le_add_right (And.intro @Nat.zero_add (And.intro @Nat.add_zero (And.intro @result_fin (And.intro @resAll_nil (And.intro @resAll_cons (And.intro @consK_some (And.intro @finK_one (And.intro @finK_more (And.intro @finK_nil (And.intro @cells_agg (And.intro @cells_int (And.intro @cells_bool (And.intro @arr_list (And.intro @arr_size (And.intro @Option.some.injEq.{0} (And.intro @Prod.mk.injEq.{0,0} (And.intro @List.length_append.{0} (And.intro @List.getElem?_cons_zero.{0} (And.intro @List.getElem?_cons_succ.{0} (And.intro @Nat.lt_irrefl (And.intro @and_self (And.intro @int_lt_cast (And.intro @int_le_cast (And.intro @wantK_not (And.intro @condK_not (And.intro @Bool.not_true (And.intro @Bool.not_false (And.intro @Nat.le_add_right_of_le (And.intro @int_zero_lt (And.intro @wantK_undef (And.intro @keyOk_int (And.intro @keyOk_str (And.intro @findKey_nil (And.intro @findKey_int (And.intro @mapEntries_some (And.intro @mapEntries_none (And.intro @Int.cast_ofNat_Int (And.intro @idxK_zero (And.intro @Ret_nil (And.intro @cells_slice (And.intro @cells_ptr (And.intro @cells_str (And.intro @cells_map (And.intro @cells_func (And.intro @arr1 (And.intro @size1 (And.intro @fillV_slice (And.intro @fillV_ptr (And.intro @fillV_str (And.intro @fillV_map (And.intro @nat_not_neg (And.intro @setAll_full (And.intro @Option.isNone_none.{0} (And.intro @Option.isNone_some.{0} (And.intro @Int.toNat_natCast (And.intro @take_all (And.intro @setAll_skip (And.intro @pad_4 (And.intro @pad_5 (And.intro @pad_6 (And.intro @pad_7 (And.intro @pad_8 (And.intro @pad_9 (And.intro @pad_10 (And.intro @pad_11 (And.intro @pad_12 (And.intro @bytesOf_cons (And.intro @bytesOf_nil (And.intro @int_eq_cast (And.intro @on_b2sV (And.intro @ob_b2sV (And.intro @b2sV_some (And.intro @aSliceS_V (And.intro @on_copyV (And.intro @ob_copyV (And.intro @on_sliceAV (And.intro @ob_sliceAV (And.intro @on_appendLV (And.intro @ob_appendLV (And.intro @appendLV_none (@appendLV_some)))))))))))))))))))))))))))))))))))))))))))))))))))))))))))))))))))))))))))))))))))))))))))))))))))))))))))))))))))))))))))))))))))))))))))))))))))))))))))))))))))))))))))))))))))))))))))))))))))))))))))))))))))))))))))))))))))))))))))))))))))))))))))))))))))))))))))))))))))))))))))))))))))))))))
theorem frame0_at {args:List Value} {t:Nat}:frame0 args t=args.getD t undef:=id rfl
def FB:=And.intro @upd_same (And.intro @upd_ne (And.intro @ne_eq.{1} (And.intro @not_false_eq_true (And.intro @frame0_at (And.intro @List.getD_cons_zero.{0} @List.getD_cons_succ.{0})))))
end Go.AM

set_option linter.unusedVariables false
set_option linter.unusedSimpArgs false
namespace Go.AM
section
variable {G G' K:Heap} {R:Nat} {b:Blk}
structure Mut (G G':Heap) (R:Nat):Prop where
 len:G'.length=G.length
 other:∀j,j≠R→hget G' j=hget G j
theorem Mut.ext {H:Heap} (h:Mut G G' R) (hE:Ext H G) (hR:H.length≤R):Ext H G':=by
 obtain ⟨Y,rfl⟩:=hE
 refine ⟨G'.drop H.length, ?_⟩
 apply List.ext_getElem
 ·have:=h.len;simp at this⊢;omega
 intro i h1 h2
 have hl:=h.len
 simp at hl
 by_cases hi:i<H.length
 ·rw [List.getElem_append_left hi]
  have:=h.other i (by omega)
  unfold hget at this
  rw [List.getD_eq_getElem?_getD,List.getD_eq_getElem?_getD,List.getElem?_eq_getElem h1,List.getElem?_eq_getElem (by simp;omega)] at this
  simp only [Option.getD_some] at this
  rw [this,List.getElem_append_left hi]
 ·rw [List.getElem_append_right (by omega),List.getElem_drop]
  congr 1
  omega
theorem Mut.cells (h:Mut G G' R) {j:Nat} {ro:Bool} {c:List Value} (hj:hget G j=.cells ro c) (hne:j≠R):hget G' j=.cells ro c:=by rw [h.other j hne];exact hj
theorem Mut.alive (h:Mut G G' R) {j:Nat} {B:Blk} (hj:hget G j=B) (hne:j≠R):hget G' j=B:=by rw [h.other j hne];exact hj
theorem Mut.sl {α:Type} {enc:α→List Value} {e:Nat} {p:Option Addr} {l:List α} (h:Mut G G' R) (hs:Sl G enc e p l) (hp:∀a,p=some a→l≠[]→a.block≠R):Sl G' enc e p l:=by
 cases p with
 | none=>exact hs
 | some a=>
   refine ⟨hs.1,fun hn=>?_⟩
   obtain ⟨ro,c,h2,h3⟩:=hs.2 hn
   exact ⟨ro,c,h.cells h2 (hp a rfl hn),h3⟩
theorem mut_set (hR:R<G.length) (b:Blk):∃G',(∀X:Heap,(G++X).set R b=G'++X)∧hget G' R=b∧Mut G G' R:=
 ⟨G.set R b,fun X=>List.set_append_left _ _ hR,hget_set_eq hR,by simp,fun j hj=>hget_set_ne hj⟩
end
def Own {α:Type} (lim:Nat) (G:Heap) (enc:α→List Value) (e:Nat) (p:Option Addr) (cap:Nat) (l:List α):Prop:=
 (l=[]∧p=none∧cap=0)∨∃R,p=some ⟨R,0,none⟩∧cap=loose e∧hget G R=.cells false (l.flatMap enc)∧lim≤R
section
variable {α:Type} {lim e bytes cap:Nat} {G:Heap} {enc:α→List Value} {p:Option Addr} {l m:List α}
theorem Own.nil:Own lim G enc e none 0 []:=.inl ⟨rfl,rfl,rfl⟩
theorem Own.app (h:Own lim G enc e p cap l) (X:Heap):Own lim (G++X) enc e p cap l:=by
 rcases h with h | ⟨R,h1,h2,h3,h4⟩
 ·exact .inl h
 ·exact .inr ⟨R,h1,h2,by rw [hget_old (hget_alive h3)];exact h3,h4⟩
theorem Own.mut {G':Heap} {R:Nat} (h:Own lim G enc e p cap l) (hm:Mut G G' R) (hp:∀a,p=some a→a.block≠R):Own lim G' enc e p cap l:=by
 rcases h with h | ⟨R',h1,h2,h3,h4⟩
 ·exact .inl h
 ·exact .inr ⟨R',h1,h2,hm.cells h3 (hp _ h1),h4⟩
theorem Own.new {R:Nat} (hR:hget G R=.cells false (l.flatMap enc)) (hl:lim≤R):Own lim G enc e (some ⟨R,0,none⟩) (loose e) l:=.inr ⟨R,rfl,rfl,hR,hl⟩
theorem Own.sl (h:Own lim G enc e p cap l) (he:∀x,(enc x).length=e):Sl G enc e p l:=by
 rcases h with ⟨h1,h2,_⟩ | ⟨R,h1,h2,h3,h4⟩
 ·subst h1 h2;rfl
 ·subst h1;exact Sl.lit he (by rw [h3];rfl) (by rw [h3];rfl)
theorem Own.le (h:Own lim G enc e p cap l) {lim':Nat} (hl:lim'≤lim):Own lim' G enc e p cap l:=by
 rcases h with h | ⟨R,h1,h2,h3,h4⟩
 ·exact .inl h
 ·exact .inr ⟨R,h1,h2,h3,by omega⟩
theorem Own.block (h:Own lim G enc e p cap l) {a:Addr} (ha:p=some a):lim≤a.block∧a.block<G.length:=by
 rcases h with ⟨h1,h2,h3⟩ | ⟨R,h1,h2,h3,h4⟩
 ·rw [h2] at ha;cases ha
 ·rw [h1] at ha;cases ha;exact ⟨h4,hget_alive h3⟩
theorem Sl.cells (hs:Sl G enc e p m) (hm:m≠[]):∃a,p=some a∧AM.loadCells G a (m.length*e)=some (m.flatMap enc):=by
 cases p with
 | none=>exact absurd hs hm
 | some a=>
   obtain ⟨k1,k2⟩:=hs
   obtain ⟨ro,cs,k3,k4,k5⟩:=k2 hm
   refine ⟨a,rfl, ?_⟩
   obtain ⟨ab,ao,as'⟩:=a
   simp only [loadCells_lit]
   simp only at k3 k4 k5
   simp only [k3]
   rw [if_pos k4,k5]
theorem Own.push {lim':Nat} (h:Own lim G enc e p cap l) (hll:lim'≤lim) (he:∀x,(enc x).length=e) (he0:e≠0) (m:List α) (hm:m≠[]) (hb:(l.length+m.length)*bytes≤maxBytes) (hn:l.length+m.length<2 ^ 61) :
  ∃(G':Heap) (R:Nat),(p=none→R=G.length)∧(∀a,p=some a→R=a.block)∧Mut G G' R∧(∀j,j≠R→hget G' j=hget G j)∧(∀H0:Heap,Ext H0 G→H0.length≤lim→Ext H0 G')∧
   (∀(X:Heap) (px:Option Addr) (k:Nat),Sl (G++X) enc e px m→aAppend lim' none e bytes false (.slice p l.length cap) (.slice px m.length k) (G++X)=some (.slice (some ⟨G.length+X.length,0,none⟩) (l.length+m.length) (loose e),G'++(X++[.cells false ((l++m).flatMap enc)]))):=by
 have hm0:¬m.length=0:=by intro q;exact hm (List.length_eq_zero_iff.1 q)
 rcases h with ⟨h1,h2,h3⟩ | ⟨R,h1,h2,h3,h4⟩
 ·subst h1 h2 h3
  refine ⟨G,G.length,fun _=>rfl,fun a h=>(by cases h),⟨rfl,fun j _=>rfl⟩,fun j _=>rfl,fun H0 h _=>h,fun X px k hx=>?_⟩
  obtain ⟨a,rfl,hl⟩:=hx.cells hm
  simp only [List.length_nil,Nat.zero_add] at hb hn
  simp only [aAppend,firstCells,lenOf,hl,hm0,if_false,Bool.false_eq_true,List.length_nil,Nat.zero_add]
  rw [if_neg (by omega)]
  simp [place]
 ·subst h1 h2
  have hRl:=hget_alive h3
  refine ⟨G.set R .dead,R,fun h=>(by cases h),fun a h=>(by cases h;rfl),⟨by simp,fun j hj=>hget_set_ne hj⟩,fun j hj=>hget_set_ne hj,fun H0 h hl=>Mut.ext (R:=R) ⟨by simp,fun j hj=>hget_set_ne hj⟩ h (by omega),fun X px k hx=>?_⟩
  obtain ⟨a,rfl,hl⟩:=hx.cells hm
  have hR':hget (G++X) R=.cells false (l.flatMap enc):=by rw [hget_old hRl];exact h3
  have hold:AM.loadCells (G++X) ⟨R,0,none⟩ (l.length*e)=some (l.flatMap enc):=by
   simp only [loadCells_lit,hR',Nat.zero_add,flat_len he,Nat.le_refl,if_true,List.drop_zero]
   rw [List.take_of_length_le (by rw [flat_len he];exact Nat.le_refl _)]
  simp only [aAppend,firstCells,lenOf,hl,hold,hR',hm0,if_false,Bool.false_eq_true,if_true]
  rw [if_neg (by unfold loose;omega)]
  simp [show lim'≤R by omega,place,List.set_append_left _ _ hRl,List.append_assoc]
theorem Own.push1 {lim':Nat} (h:Own lim G enc e p cap l) (hll:lim'≤lim) (he:∀x,(enc x).length=e) (he0:e≠0) (x:α) (hb:(l.length+1)*bytes≤maxBytes) (hn:l.length+1<2 ^ 61) :
  ∃(G':Heap) (R:Nat),(p=none→R=G.length)∧(∀a,p=some a→R=a.block)∧Mut G G' R∧(∀H0:Heap,Ext H0 G→H0.length≤lim→Ext H0 G')∧
   (∀(X:Heap) (b k:Nat),hget (G++X) b=.cells false (enc x)→aAppend lim' none e bytes false (.slice p l.length cap) (.slice (some ⟨b,0,none⟩) 1 k) (G++X)=some (.slice (some ⟨G.length+X.length,0,none⟩) (l.length+1) (loose e),G'++(X++[.cells false ((l++[x]).flatMap enc)]))):=by
 obtain ⟨G',R,h1,h2,h3,_,h4,h5⟩:=h.push hll he he0 [x] (by simp) (by simpa using hb) (by simpa using hn)
 refine ⟨G',R,h1,h2,h3,h4,fun X b k hx=>?_⟩
 exact h5 X (some ⟨b,0,none⟩) k (Sl.lit he (by rw [hx];rfl) (by rw [hx];simp [cellsOf]))
def boundsV (len cap:Nat) (lo hi mx:Option Value):Option (Nat×Nat×Nat):=bounds (fun o=>match o with | .const v=>v | _=>undef) len cap (lo.map .const) (hi.map .const) (mx.map .const)
theorem bounds_V {ρ:Operand→Value} {len cap:Nat} {lo hi mx:Option Operand}:bounds ρ len cap lo hi mx=boundsV len cap (lo.map ρ) (hi.map ρ) (mx.map ρ):=by
 unfold boundsV
 cases lo<;>cases hi<;>cases mx<;>rfl
theorem bound_int {n:Int} {m:Nat} {kk:IntKind} (h0:0≤n) (h:n≤(m:Int)):bound (.int kk n) m=some n.toNat:=by
 simp only [bound];rw [if_pos ⟨h0,h⟩]
section
variable {len:Nat} {k1 k2 k3:IntKind} {l h x:Int}
theorem bv_010 (h0:0≤h) (h1:h≤(cap:Int)):boundsV len cap none (some (.int k1 h)) none=some (0,h.toNat,cap):=by
 delta boundsV bounds;simp only [Option.map_some,Option.map_none,bound_int h0 h1]
end
end
end Go.AM

namespace Go.Net
set_option maxRecDepth 100000
set_option linter.unusedVariables false
set_option linter.unusedSimpArgs false
structure Leg where
 (id frm dst dep mins cut grams days:Int)
 deriving DecidableEq,Inhabited
def maxTime:Int:=1051898399
def Fine (l:Leg):Prop:=1≤l.id∧l.id≤999999∧1≤l.frm∧l.frm≤999999∧1≤l.dst∧l.dst≤999999∧0≤l.dep∧l.dep≤1439∧1≤l.mins∧l.mins≤20160∧0≤l.cut∧l.cut≤10080∧0≤l.grams∧l.grams≤1000000000∧1≤l.days∧l.days≤127∧l.frm≠l.dst
instance (l:Leg):Decidable (Fine l):=by unfold Fine;infer_instance
def runs (days:Int) (d:Nat):Bool:=days.toNat / 2 ^ (d % 7) % 2 == 1
def goes (l:Leg) (d:Nat):Bool:=runs l.days d&&decide (0≤1440*(d:Int)+l.dep-l.cut)&&decide (1440*(d:Int)+l.dep+l.mins≤maxTime)
def dayN:Nat:=730485
theorem dayN_eq:dayN=730485:=rfl
attribute [irreducible] dayN
def Dep (l:Leg) (a:Int):Prop:=∃d:Nat,d<dayN∧goes l d=true∧a=1440*(d:Int)+l.dep
def nextDay (l:Leg) (r:Int):Option Nat:=(List.range dayN).find? fun (d:Nat)=>goes l d&&decide (r≤1440*(d:Int)+l.dep-l.cut)
def nextD (l:Leg) (r:Int):Option Int:=(nextDay l r).map fun (d:Nat)=>1440*(d:Int)+l.dep
def lastDay (l:Leg) (b:Int):Option Nat:=((List.range dayN).find? fun (d:Nat)=>goes l (dayN-1-d)&&decide (1440*((dayN-1-d:Nat):Int)+l.dep+l.mins≤b)).map fun (d:Nat)=>dayN-1-d
def lastD (l:Leg) (b:Int):Option Int:=(lastDay l b).map fun (d:Nat)=>1440*(d:Int)+l.dep
theorem find_range {n:Nat} {p:Nat→Bool} {i:Nat}:(List.range n).find? p=some i↔p i=true∧i<n∧∀j,j<i→p j=false:=by
 rw [List.find?_range_eq_some];simp
theorem find_range_none {n:Nat} {p:Nat→Bool}:(List.range n).find? p=none↔∀j,j<n→p j=false:=by
 rw [List.find?_range_eq_none];simp
theorem nextD_some {l:Leg} {r a:Int} (h:nextD l r=some a):Dep l a∧r≤a-l.cut∧∀b,Dep l b→r≤b-l.cut→a≤b:=by
 unfold nextD nextDay at h
 obtain ⟨d,hd,rfl⟩:=Option.map_eq_some_iff.1 h
 obtain ⟨h1,h2,h3⟩:=find_range.1 hd
 simp only [Bool.and_eq_true,decide_eq_true_eq] at h1
 refine ⟨⟨d,h2,h1.1,rfl⟩,h1.2,fun b ⟨e,he,hg,hb⟩ hr=>?_⟩
 subst hb
 by_cases hlt:e<d
 ·have:=h3 e hlt
  simp only [hg,Bool.true_and,decide_eq_false_iff_not] at this
  omega
 ·omega
theorem nextD_none {l:Leg} {r:Int} (h:nextD l r=none):∀b,Dep l b→b-l.cut<r:=by
 unfold nextD nextDay at h
 rw [Option.map_eq_none_iff,find_range_none] at h
 intro b ⟨e,he,hg,hb⟩
 have:=h e he
 simp only [hg,Bool.true_and,decide_eq_false_iff_not] at this
 omega
theorem lastD_some {l:Leg} {b a:Int} (h:lastD l b=some a):Dep l a∧a+l.mins≤b∧∀c,Dep l c→c+l.mins≤b→c≤a:=by
 unfold lastD lastDay at h
 obtain ⟨d,hd,rfl⟩:=Option.map_eq_some_iff.1 h
 obtain ⟨d',hd',rfl⟩:=Option.map_eq_some_iff.1 hd
 obtain ⟨h1,h2,h3⟩:=find_range.1 hd'
 simp only [Bool.and_eq_true,decide_eq_true_eq] at h1
 refine ⟨⟨dayN-1-d',by omega,h1.1,rfl⟩,h1.2,fun c ⟨e,he,hg,hc⟩ hr=>?_⟩
 subst hc
 by_cases hlt:dayN-1-d'<e
 ·have:=h3 (dayN-1-e) (by omega)
  rw [show dayN-1-(dayN-1-e)=e by omega] at this
  simp only [hg,Bool.true_and,decide_eq_false_iff_not] at this
  omega
 ·omega
inductive Way (L:List Leg):Nat→Int→Int→Int→Int→Prop where
 | nil (p t:Int):Way L 0 p t p t
 | snoc {k:Nat} {p t m s a:Int} {l:Leg}:Way L k p t m s→l∈L→l.frm=m→Dep l a→s≤a-l.cut→Way L (k+1) p t l.dst (a+l.mins)
theorem Way.later {L:List Leg} {k:Nat} {p t q u:Int} (h:Way L k p t q u) (hL:∀l∈L,Fine l):t≤u:=by
 induction h with
 | nil=>omega
 | snoc h hl hf hd hs ih=>have:=hL _ hl;unfold Fine at this;omega
theorem Way.early {L:List Leg} {k:Nat} {p t t' q u:Int} (h:Way L k p t q u) (ht:t'≤t):(k=0∧p=q∧u=t)∨Way L k p t' q u:=by
 induction h with
 | nil=>exact .inl ⟨rfl,rfl,rfl⟩
 | snoc h hl hf hd hs ih=>
   rcases ih ht with ⟨rfl,rfl,rfl⟩ | ih
   ·exact .inr (.snoc (.nil _ _) hl hf hd (by omega))
   ·exact .inr (.snoc ih hl hf hd hs)
theorem Way.mono {L M:List Leg} {k:Nat} {p t q u:Int} (h:Way L k p t q u) (hs:∀l∈L,l∈M):Way M k p t q u:=by
 induction h with
 | nil=>exact .nil _ _
 | snoc h hl hf hd hr ih=>exact .snoc ih (hs _ hl) hf hd hr
theorem Way.trans {L:List Leg} {k j:Nat} {p t m s q u:Int} (h:Way L k p t m s) (h2:Way L j m s q u):Way L (k+j) p t q u:=by
 induction h2 with
 | nil=>exact h
 | snoc h2 hl hf hd hr ih=>exact .snoc (ih h) hl hf hd hr
theorem Way.cons {L:List Leg} {k:Nat} {p t a q u:Int} {l:Leg} (hl:l∈L) (hf:l.frm=p) (hd:Dep l a) (hr:t≤a-l.cut) (h:Way L k l.dst (a+l.mins) q u):Way L (k+1) p t q u:=by
 have:=(Way.snoc (.nil p t) hl hf hd hr).trans h
 rwa [Nat.zero_add,Nat.add_comm] at this
theorem Way.head {L:List Leg} {k:Nat} {p t q u:Int} (h:Way L (k+1) p t q u):∃l∈L,∃a,l.frm=p∧Dep l a∧t≤a-l.cut∧Way L k l.dst (a+l.mins) q u:=by
 generalize hk:k+1=n at h
 induction h generalizing k with
 | nil=>omega
 | @snoc j p t m s a l h hl hf hd hr ih=>
   cases j with
   | zero=>
     cases h
     obtain rfl:k=0:=by omega
     exact ⟨l,hl,a,hf,hd,hr,.nil _ _⟩
   | succ i=>
     obtain ⟨l',hl',a',h1,h2,h3,h4⟩:=ih rfl
     obtain rfl:k=i+1:=by omega
     exact ⟨l',hl',a',h1,h2,h3,.snoc h4 hl hf hd hr⟩
def IsMin (S:Int→Prop) (v:Int):Prop:=(v=-1∧∀u,¬S u)∨(S v∧∀u,S u→v≤u)
theorem IsMin.uniq {S:Int→Prop} {v w:Int} (h:IsMin S v) (h':IsMin S w):v=w:=by
 rcases h with ⟨h1,h2⟩ | ⟨h1,h2⟩<;>rcases h' with ⟨g1,g2⟩ | ⟨g1,g2⟩
 ·omega
 ·exact absurd g1 (h2 _)
 ·exact absurd h1 (g2 _)
 ·have:=h2 _ g1;have:=g2 _ h1;omega
theorem IsMin.congr {S T:Int→Prop} {v:Int} (h:IsMin S v) (e:∀u,S u↔T u):IsMin T v:=by
 rcases h with ⟨h1,h2⟩ | ⟨h1,h2⟩
 ·exact .inl ⟨h1,fun u hu=>h2 u ((e u).2 hu)⟩
 ·exact .inr ⟨(e v).1 h1,fun u hu=>h2 u ((e u).2 hu)⟩
theorem IsMin.mem {S:Int→Prop} {v:Int} (h:IsMin S v) (hv:0≤v):S v:=by
 rcases h with ⟨h1,h2⟩ | ⟨h1,h2⟩
 ·omega
 ·exact h1
theorem IsMin.none {S:Int→Prop} {v:Int} (h:IsMin S v) (h0:∀u,S u→0≤u) (hv:v<0):∀u,¬S u:=by
 rcases h with ⟨h1,h2⟩ | ⟨h1,h2⟩
 ·exact h2
 ·have:=h0 _ h1;omega
theorem IsMin.le {S:Int→Prop} {v u:Int} (h:IsMin S v) (hu:S u):v≤u:=by
 rcases h with ⟨h1,h2⟩ | ⟨h1,h2⟩
 ·exact absurd hu (h2 _)
 ·exact h2 _ hu
theorem IsMin.one {S:Int→Prop} {v x:Int} (h:IsMin S v) (h0:∀u,S u→0≤u) (hx:0≤x):IsMin (fun u=>S u∨u=x) (if v<0∨x<v then x else v):=by
 by_cases hc:v<0∨x<v
 ·rw [if_pos hc]
  refine .inr ⟨.inr rfl,fun u hu=>?_⟩
  rcases hu with hu | hu
  ·rcases hc with hc | hc
   ·exact absurd hu (h.none h0 hc u)
   ·have:=h.le hu;omega
  ·omega
 ·rw [if_neg hc]
  have:=h.mem (by omega)
  refine .inr ⟨.inl this,fun u hu=>?_⟩
  rcases hu with hu | hu
  ·exact h.le hu
  ·omega
def useA (pos:Int→Nat) (lim:Int) (bef aft:List Int) (l:Leg):List Int:=
 if bef.getD (pos l.frm) (-1)<0 then aft else
 match nextD l (bef.getD (pos l.frm) (-1)) with
 | some a=>if a+l.mins≤lim∧(aft.getD (pos l.dst) (-1)<0∨a+l.mins<aft.getD (pos l.dst) (-1)) then aft.set (pos l.dst) (a+l.mins) else aft
 | none=>aft
def stepA (pos:Int→Nat) (lim:Int) (L:List Leg) (bef:List Int):List Int:=L.foldl (useA pos lim bef) bef
theorem useA_len {pos:Int→Nat} {lim:Int} {bef aft:List Int} {l:Leg}:(useA pos lim bef aft l).length=aft.length:=by
 unfold useA
 split
 ·rfl
 ·split
  ·split
   ·simp
   ·rfl
  ·rfl
theorem foldA_len {pos:Int→Nat} {lim:Int} {bef:List Int}:∀{L:List Leg} {aft:List Int},(L.foldl (useA pos lim bef) aft).length=aft.length
 | [],_=>rfl
 | l::L,aft=>by rw [List.foldl_cons,foldA_len,useA_len]
theorem stepA_len {pos:Int→Nat} {lim:Int} {L:List Leg} {bef:List Int}:(stepA pos lim L bef).length=bef.length:=foldA_len
def Brings (pos:Int→Nat) (lim:Int) (bef:List Int) (l:Leg) (q:Nat) (u:Int):Prop:=
 pos l.dst=q∧0≤bef.getD (pos l.frm) (-1)∧∃a,nextD l (bef.getD (pos l.frm) (-1))=some a∧u=a+l.mins∧u≤lim
theorem Dep.nonneg {l:Leg} {a:Int} (h:Dep l a) (hl:Fine l):0≤a:=by
 obtain ⟨d,_,_,rfl⟩:=h
 unfold Fine at hl;omega
theorem Brings.nonneg {pos:Int→Nat} {lim:Int} {bef:List Int} {l:Leg} {q:Nat} {u:Int} (h:Brings pos lim bef l q u) (hl:Fine l):0≤u:=by
 obtain ⟨_,_,a,h1,h2,_⟩:=h
 have:=(nextD_some h1).1.nonneg hl
 unfold Fine at hl;omega
theorem getD_set {L:List Int} {i j:Nat} {x d:Int} (hi:i<L.length):(L.set i x).getD j d=if i=j then x else L.getD j d:=by
 rw [List.getD_eq_getElem?_getD,List.getElem?_set]
 by_cases h:i=j
 ·simp [h,show j<L.length by omega]
 ·simp [h,List.getD_eq_getElem?_getD]
theorem useA_min {pos:Int→Nat} {lim:Int} {bef aft:List Int} {l:Leg} {q:Nat} {S:Int→Prop} (hl:Fine l) (hp:pos l.dst<aft.length) (h0:∀u,S u→0≤u) (h:IsMin S (aft.getD q (-1))) :
  IsMin (fun u=>S u∨Brings pos lim bef l q u) ((useA pos lim bef aft l).getD q (-1)):=by
 unfold useA
 by_cases hs:bef.getD (pos l.frm) (-1)<0
 ·rw [if_pos hs]
  exact h.congr fun u=>⟨.inl,fun hu=>hu.elim id fun hb=>absurd hb.2.1 (by omega)⟩
 rw [if_neg hs]
 cases hn:nextD l (bef.getD (pos l.frm) (-1)) with
 | none=>
   simp only []
   exact h.congr fun u=>⟨.inl,fun hu=>hu.elim id fun ⟨_,_,a,ha,_⟩=>by rw [hn] at ha;cases ha⟩
 | some a=>
   simp only []
   have ha0:0≤a+l.mins:=by have:=(nextD_some hn).1.nonneg hl;unfold Fine at hl;omega
   by_cases hlim:a+l.mins≤lim
   ·by_cases hq:pos l.dst=q
    ·have e:((if a+l.mins≤lim∧(aft.getD (pos l.dst) (-1)<0∨a+l.mins<aft.getD (pos l.dst) (-1)) then aft.set (pos l.dst) (a+l.mins) else aft).getD q (-1))=if aft.getD q (-1)<0∨a+l.mins<aft.getD q (-1) then a+l.mins else aft.getD q (-1):=by
      subst hq
      by_cases hc:aft.getD (pos l.dst) (-1)<0∨a+l.mins<aft.getD (pos l.dst) (-1)
      ·rw [if_pos ⟨hlim,hc⟩,if_pos hc,getD_set hp,if_pos rfl]
      ·rw [if_neg (fun h=>hc h.2),if_neg hc]
     rw [e]
     refine (h.one h0 ha0).congr fun u=>⟨fun hu=>hu.elim .inl fun hu=>.inr ⟨hq,by omega,a,hn,hu,by omega⟩,fun hu=>hu.elim .inl fun ⟨_,_,b,hb,hu,_⟩=>?_⟩
     rw [hn] at hb;cases hb;exact .inr hu
    ·have e:((if a+l.mins≤lim∧(aft.getD (pos l.dst) (-1)<0∨a+l.mins<aft.getD (pos l.dst) (-1)) then aft.set (pos l.dst) (a+l.mins) else aft).getD q (-1))=aft.getD q (-1):=by
      split
      ·rw [getD_set hp,if_neg hq]
      ·rfl
     rw [e]
     exact h.congr fun u=>⟨.inl,fun hu=>hu.elim id fun hb=>absurd hb.1 hq⟩
   ·rw [if_neg (fun h=>hlim h.1)]
    refine h.congr fun u=>⟨.inl,fun hu=>hu.elim id fun ⟨_,_,b,hb,hu,hl⟩=>?_⟩
    rw [hn] at hb;cases hb;omega
theorem foldA_min {pos:Int→Nat} {lim:Int} {bef:List Int} {q:Nat}:∀{L:List Leg} {aft:List Int} {S:Int→Prop},(∀l∈L,Fine l∧pos l.dst<aft.length)→(∀u,S u→0≤u)→IsMin S (aft.getD q (-1))→
  IsMin (fun u=>S u∨∃l∈L,Brings pos lim bef l q u) ((L.foldl (useA pos lim bef) aft).getD q (-1))
 | [],aft,S,hL,h0,h=>h.congr fun u=>⟨.inl,fun hu=>hu.elim id fun ⟨l,hl,_⟩=>by cases hl⟩
 | l::L,aft,S,hL,h0,h=>by
   obtain ⟨h1,h2⟩:=hL l (List.mem_cons_self ..)
   rw [List.foldl_cons]
   refine (foldA_min (L:=L) (fun x hx=>?_) (fun u hu=>?_) (useA_min (lim:=lim) (bef:=bef) h1 h2 h0 h)).congr fun u=>?_
   ·rw [useA_len];exact hL x (List.mem_cons_of_mem _ hx)
   ·rcases hu with hu | hu
    ·exact h0 u hu
    ·exact hu.nonneg h1
   ·constructor
    ·rintro ((h | h) | ⟨x,hx,h⟩)
     ·exact .inl h
     ·exact .inr ⟨l,List.mem_cons_self ..,h⟩
     ·exact .inr ⟨x,List.mem_cons_of_mem _ hx,h⟩
    ·rintro (h | ⟨x,hx,h⟩)
     ·exact .inl (.inl h)
     ·rcases List.mem_cons.1 hx with rfl | hx
      ·exact .inl (.inr h)
      ·exact .inr ⟨x,hx,h⟩
theorem IsMin.dom {S T:Int→Prop} {v:Int} (h:IsMin S v) (h1:∀u,S u→T u) (h2:∀u,T u→∃w,w≤u∧S w):IsMin T v:=by
 rcases h with ⟨g1,g2⟩ | ⟨g1,g2⟩
 ·exact .inl ⟨g1,fun u hu=>by obtain ⟨w,_,hw⟩:=h2 u hu;exact g2 w hw⟩
 ·exact .inr ⟨h1 _ g1,fun u hu=>by obtain ⟨w,hle,hw⟩:=h2 u hu;have:=g2 w hw;omega⟩
structure NetOk (N:Nat) (P:List Int) (L:List Leg) (pos:Int→Nat):Prop where
 fine:∀l∈L,Fine l
 frm:∀l∈L,l.frm∈P
 dst:∀l∈L,l.dst∈P
 inj:∀a∈P,∀b∈P,pos a=pos b→a=b
 lt:∀a∈P,pos a<N
def oneT (N i:Nat) (t:Int):List Int:=(List.replicate N (-1)).set i t
theorem oneT_len {N i:Nat} {t:Int}:(oneT N i t).length=N:=by simp [oneT]
theorem oneT_get {N i j:Nat} {t:Int} (hi:i<N):(oneT N i t).getD j (-1)=if i=j then t else -1:=by
 unfold oneT
 rw [getD_set (by simpa using hi)]
 split
 ·rfl
 ·rw [List.getD_eq_getElem?_getD,List.getElem?_replicate];split<;>rfl
def arrK (N:Nat) (pos:Int→Nat) (lim:Int) (L:List Leg) (p ready:Int):Nat→List Int
 | 0=>oneT N (pos p) ready
 | k+1=>stepA pos lim L (arrK N pos lim L p ready k)
theorem arrK_len {N:Nat} {pos:Int→Nat} {lim:Int} {L:List Leg} {p ready:Int}:∀{k:Nat},(arrK N pos lim L p ready k).length=N
 | 0=>oneT_len
 | k+1=>by rw [arrK,stepA_len,arrK_len]
theorem arrK_min {N:Nat} {P:List Int} {L:List Leg} {pos:Int→Nat} {lim p ready:Int} (hn:NetOk N P L pos) (hp:p∈P) (hr:0≤ready) (hlim:ready≤lim):∀(k:Nat) (q:Int),q∈P→
  IsMin (fun u=>(∃j,j≤k∧Way L j p ready q u)∧u≤lim) ((arrK N pos lim L p ready k).getD (pos q) (-1))
 | 0,q,hq=>by
   rw [arrK,oneT_get (hn.lt p hp)]
   by_cases h:pos p=pos q
   ·rw [if_pos h]
    have:=hn.inj p hp q hq h
    subst this
    refine .inr ⟨⟨⟨0,Nat.le_refl _,.nil _ _⟩,hlim⟩,fun u ⟨⟨j,hj,hw⟩,_⟩=>hw.later hn.fine⟩
   ·rw [if_neg h]
    refine .inl ⟨rfl,fun u ⟨⟨j,hj,hw⟩,_⟩=>?_⟩
    obtain rfl:j=0:=by omega
    cases hw
    exact h rfl
 | k+1,q,hq=>by
   have ih:=arrK_min hn hp hr hlim k
   have h0:∀q u,((∃j,j≤k∧Way L j p ready q u)∧u≤lim)→0≤u:=fun q u ⟨⟨j,_,hw⟩,_⟩=>by have:=hw.later hn.fine;omega
   rw [arrK,stepA]
   refine (foldA_min (L:=L) (fun l hl=>⟨hn.fine l hl,by rw [arrK_len];exact hn.lt _ (hn.dst l hl)⟩) (h0 q) (ih q hq)).dom (fun u hu=>?_) (fun u hu=>?_)
   ·rcases hu with ⟨⟨j,hj,hw⟩,hl⟩ | ⟨l,hl,hd,hs,a,ha,rfl,hlim'⟩
    ·exact ⟨⟨j,by omega,hw⟩,hl⟩
    ·obtain ⟨⟨j,hj,hw⟩,hsl⟩:=(ih l.frm (hn.frm l hl)).mem hs
     obtain ⟨g1,g2,g3⟩:=nextD_some ha
     have:=hn.inj _ (hn.dst l hl) q hq hd
     subst this
     exact ⟨⟨j+1,by omega,.snoc hw hl rfl g1 g2⟩,hlim'⟩
   ·obtain ⟨⟨j,hj,hw⟩,hul⟩:=hu
    by_cases hjk:j≤k
    ·exact ⟨u,Int.le_refl _,.inl ⟨⟨j,hjk,hw⟩,hul⟩⟩
    ·cases hw with
     | nil=>exact absurd (Nat.zero_le _) hjk
     | @snoc j' p t m s a l hw hl hf hd hs=>
       subst hf
       have hfl:=hn.fine l hl
       have hsl:s≤lim:=by unfold Fine at hfl;omega
       have hS:(∃j,j≤k∧Way L j p ready l.frm s)∧s≤lim:=⟨⟨j',by omega,hw⟩,hsl⟩
       have hle:=(ih l.frm (hn.frm l hl)).le hS
       have hpos:0≤(arrK N pos lim L p ready k).getD (pos l.frm) (-1):=by
        apply Decidable.byContradiction;intro hc
        exact (ih l.frm (hn.frm l hl)).none (h0 _) (by omega) s hS
       cases hnx:nextD l ((arrK N pos lim L p ready k).getD (pos l.frm) (-1)) with
       | none=>have:=nextD_none hnx a hd;omega
       | some b=>
         obtain ⟨g1,g2,g3⟩:=nextD_some hnx
         have:=g3 a hd (by omega)
         exact ⟨b+l.mins,by omega,.inr ⟨l,hl,rfl,hpos,b,hnx,rfl,by omega⟩⟩
theorem arrK_fix {N:Nat} {pos:Int→Nat} {lim:Int} {L:List Leg} {p ready:Int} {k:Nat} (h:arrK N pos lim L p ready (k+1)=arrK N pos lim L p ready k):∀j,arrK N pos lim L p ready (k+j)=arrK N pos lim L p ready k
 | 0=>rfl
 | j+1=>by rw [←Nat.add_assoc,arrK,arrK_fix h j];exact h
theorem arrK_all {N:Nat} {P:List Int} {L:List Leg} {pos:Int→Nat} {lim p ready:Int} (hn:NetOk N P L pos) (hp:p∈P) (hr:0≤ready) (hlim:ready≤lim) {k:Nat} (h:arrK N pos lim L p ready (k+1)=arrK N pos lim L p ready k) (q:Int) (hq:q∈P) :
  IsMin (fun u=>(∃j,Way L j p ready q u)∧u≤lim) ((arrK N pos lim L p ready k).getD (pos q) (-1)):=by
 refine (arrK_min hn hp hr hlim k q hq).dom (fun u ⟨⟨j,_,hw⟩,hl⟩=>⟨⟨j,hw⟩,hl⟩) (fun u ⟨⟨j,hw⟩,hl⟩=>?_)
 have hm:=arrK_min hn hp hr hlim (k+j) q hq
 rw [arrK_fix h] at hm
 have hle:=hm.le ⟨⟨j,by omega,hw⟩,hl⟩
 have hk:=arrK_min hn hp hr hlim k q hq
 have h0:∀u,((∃j',j'≤k+j∧Way L j' p ready q u)∧u≤lim)→0≤u:=fun u ⟨⟨j,_,hw⟩,_⟩=>by have:=hw.later hn.fine;omega
 have hpos:0≤(arrK N pos lim L p ready k).getD (pos q) (-1):=by
  apply Decidable.byContradiction;intro hc
  exact hm.none h0 (by omega) u ⟨⟨j,by omega,hw⟩,hl⟩
 exact ⟨_,hle,hk.mem hpos⟩
def farA (ready lim t:Int):Nat:=if t<0 then (lim-ready).toNat+1 else (t-ready).toNat
def muA (ready lim:Int) (T:List Int):Nat:=(T.map (farA ready lim)).sum
def Within (ready lim:Int) (T:List Int):Prop:=∀t∈T,t=-1∨ready≤t∧t≤lim
theorem muA_le {ready lim:Int}:∀{T:List Int},Within ready lim T→muA ready lim T≤T.length*((lim-ready).toNat+1)
 | [],_=>by simp [muA]
 | t::T,h=>by
   have ih:=muA_le (T:=T) fun x hx=>h x (List.mem_cons_of_mem _ hx)
   have h1:=h t (List.mem_cons_self ..)
   unfold muA at ih⊢
   simp only [List.map_cons,List.sum_cons,List.length_cons,Nat.succ_mul]
   have:farA ready lim t≤(lim-ready).toNat+1:=by unfold farA;split<;>omega
   omega
theorem mu_set {f:Int→Nat}:∀{T:List Int} {i:Nat} {x:Int} (hi:i<T.length),((T.set i x).map f).sum+f (T.getD i (-1))=(T.map f).sum+f x
 | t::T,0,x,_=>by simp;omega
 | t::T,i+1,x,hi=>by
   have:=mu_set (f:=f) (T:=T) (i:=i) (x:=x) (by simpa using hi)
   simp only [List.set_cons_succ,List.map_cons,List.sum_cons,List.getD_cons_succ]
   omega
theorem useA_mu {pos:Int→Nat} {ready lim:Int} {bef aft:List Int} {l:Leg} (hb:Within ready lim bef) (ha:Within ready lim aft) (hl:Fine l) (hd:pos l.dst<aft.length) (hr:0≤ready) :
  Within ready lim (useA pos lim bef aft l)∧(useA pos lim bef aft l=aft∨muA ready lim (useA pos lim bef aft l)<muA ready lim aft):=by
 unfold useA
 by_cases hs:bef.getD (pos l.frm) (-1)<0
 ·rw [if_pos hs];exact ⟨ha,.inl rfl⟩
 rw [if_neg hs]
 cases hn:nextD l (bef.getD (pos l.frm) (-1)) with
 | none=>exact ⟨ha,.inl rfl⟩
 | some a=>
   simp only []
   split
   case isFalse=>exact ⟨ha,.inl rfl⟩
   rename_i hc
   obtain ⟨g1,g2,g3⟩:=nextD_some hn
   have hbr:ready≤bef.getD (pos l.frm) (-1):=by
    by_cases h:pos l.frm<bef.length
    ·have e:bef.getD (pos l.frm) (-1)=bef[pos l.frm]:=by rw [List.getD_eq_getElem?_getD,List.getElem?_eq_getElem h];rfl
     have:=hb _ (List.getElem_mem h)
     rw [e] at hs⊢;omega
    ·rw [List.getD_eq_getElem?_getD,List.getElem?_eq_none (by omega)] at hs;exact absurd (by decide) hs
   have hfl:=hl
   unfold Fine at hfl
   have hin:ready≤a+l.mins∧a+l.mins≤lim:=⟨by omega,hc.1⟩
   have hold:aft.getD (pos l.dst) (-1)=-1∨ready≤aft.getD (pos l.dst) (-1)∧aft.getD (pos l.dst) (-1)≤lim:=by
    have e:aft.getD (pos l.dst) (-1)=aft[pos l.dst]:=by rw [List.getD_eq_getElem?_getD,List.getElem?_eq_getElem hd];rfl
    rw [e];exact ha _ (List.getElem_mem hd)
   refine ⟨fun t ht=>?_,.inr ?_⟩
   ·rcases List.mem_or_eq_of_mem_set ht with h | h
    ·exact ha t h
    ·exact .inr (by omega)
   ·have:=mu_set (f:=farA ready lim) (x:=a+l.mins) hd
    unfold muA
    have e1:farA ready lim (a+l.mins)<farA ready lim (aft.getD (pos l.dst) (-1)):=by
     unfold farA
     rw [if_neg (by omega)]
     split<;>omega
    omega
theorem foldA_mu {pos:Int→Nat} {ready lim:Int} {bef:List Int} (hb:Within ready lim bef) (hr:0≤ready):∀{L:List Leg} {aft:List Int},(∀l∈L,Fine l∧pos l.dst<aft.length)→Within ready lim aft→
  Within ready lim (L.foldl (useA pos lim bef) aft)∧(L.foldl (useA pos lim bef) aft=aft∨muA ready lim (L.foldl (useA pos lim bef) aft)<muA ready lim aft)
 | [],aft,hL,ha=>⟨ha,.inl rfl⟩
 | l::L,aft,hL,ha=>by
   obtain ⟨h1,h2⟩:=hL l (List.mem_cons_self ..)
   obtain ⟨g1,g2⟩:=useA_mu (l:=l) hb ha h1 h2 hr
   obtain ⟨k1,k2⟩:=foldA_mu hb hr (L:=L) (aft:=useA pos lim bef aft l) (fun x hx=>by rw [useA_len];exact hL x (List.mem_cons_of_mem _ hx)) g1
   rw [List.foldl_cons]
   refine ⟨k1, ?_⟩
   rcases k2 with k2 | k2
   ·rw [k2];exact g2
   ·rcases g2 with g2 | g2
    ·rw [g2] at k2⊢;exact .inr k2
    ·exact .inr (by omega)
theorem stepA_mu {pos:Int→Nat} {ready lim:Int} {bef:List Int} {L:List Leg} (hb:Within ready lim bef) (hr:0≤ready) (hL:∀l∈L,Fine l∧pos l.dst<bef.length) :
  Within ready lim (stepA pos lim L bef)∧(stepA pos lim L bef=bef∨muA ready lim (stepA pos lim L bef)<muA ready lim bef):=foldA_mu hb hr hL hb
def IsArr (L:List Leg) (p ready q v:Int):Prop:=IsMin (fun u=>(∃j,Way L j p ready q u)∧u≤ready+86400) v
theorem IsArr.start {L:List Leg} {p ready v:Int} (h:IsArr L p ready p v) (hL:∀l∈L,Fine l):v=ready:=
 IsMin.uniq h (.inr ⟨⟨⟨0,.nil _ _⟩,by omega⟩,fun u ⟨⟨j,hw⟩,_⟩=>hw.later hL⟩)
theorem IsArr.ge {L:List Leg} {p ready q v:Int} (h:IsArr L p ready q v) (hL:∀l∈L,Fine l) (hv:0≤v):ready≤v∧v≤ready+86400:=by
 obtain ⟨⟨j,hw⟩,hl⟩:=h.mem hv
 exact ⟨hw.later hL,hl⟩
theorem IsArr.later {L:List Leg} {p a b q x y:Int} (hx:IsArr L p a q x) (hy:IsArr L p b q y) (hab:a≤b) (hy0:0≤y):x≤y:=by
 obtain ⟨⟨j,hw⟩,hl⟩:=hy.mem hy0
 by_cases hlim:y≤a+86400
 ·rcases hw.early hab with ⟨rfl,rfl,rfl⟩ | hw'
  ·have:=hx.le (u:=a) ⟨⟨0,.nil _ _⟩,by omega⟩;omega
  ·exact hx.le ⟨⟨j,hw'⟩,hlim⟩
 ·rcases hx with ⟨h1,_⟩ | ⟨⟨_,h1⟩,_⟩<;>omega
theorem IsArr.same {L M:List Leg} {p t q x y:Int} (hx:IsArr L p t q x) (hy:IsArr M p t q y) (hs:∀l,l∈M↔l∈L):x=y:=
 hx.uniq (hy.congr fun u=>⟨fun ⟨⟨j,hw⟩,hl⟩=>⟨⟨j,hw.mono fun l h=>(hs l).1 h⟩,hl⟩,fun ⟨⟨j,hw⟩,hl⟩=>⟨⟨j,hw.mono fun l h=>(hs l).2 h⟩,hl⟩⟩)
def IsMax (S:Int→Prop) (v:Int):Prop:=(v=-1∧∀u,¬S u)∨(S v∧∀u,S u→u≤v)
theorem IsMax.uniq {S:Int→Prop} {v w:Int} (h:IsMax S v) (h':IsMax S w):v=w:=by
 rcases h with ⟨h1,h2⟩ | ⟨h1,h2⟩<;>rcases h' with ⟨g1,g2⟩ | ⟨g1,g2⟩
 ·omega
 ·exact absurd g1 (h2 _)
 ·exact absurd h1 (g2 _)
 ·have:=h2 _ g1;have:=g2 _ h1;omega
theorem IsMax.congr {S T:Int→Prop} {v:Int} (h:IsMax S v) (e:∀u,S u↔T u):IsMax T v:=by
 rcases h with ⟨h1,h2⟩ | ⟨h1,h2⟩
 ·exact .inl ⟨h1,fun u hu=>h2 u ((e u).2 hu)⟩
 ·exact .inr ⟨(e v).1 h1,fun u hu=>h2 u ((e u).2 hu)⟩
theorem IsMax.mem {S:Int→Prop} {v:Int} (h:IsMax S v) (hv:0≤v):S v:=by
 rcases h with ⟨h1,h2⟩ | ⟨h1,h2⟩
 ·omega
 ·exact h1
theorem IsMax.none {S:Int→Prop} {v:Int} (h:IsMax S v) (h0:∀u,S u→0≤u) (hv:v<0):∀u,¬S u:=by
 rcases h with ⟨h1,h2⟩ | ⟨h1,h2⟩
 ·exact h2
 ·have:=h0 _ h1;omega
theorem IsMax.ge {S:Int→Prop} {v u:Int} (h:IsMax S v) (hu:S u):u≤v:=by
 rcases h with ⟨h1,h2⟩ | ⟨h1,h2⟩
 ·exact absurd hu (h2 _)
 ·exact h2 _ hu
theorem IsMax.one {S:Int→Prop} {v x:Int} (h:IsMax S v) (h0:∀u,S u→0≤u) (hx:0≤x):IsMax (fun u=>S u∨u=x) (if v<x then x else v):=by
 by_cases hc:v<x
 ·rw [if_pos hc]
  refine .inr ⟨.inr rfl,fun u hu=>?_⟩
  rcases hu with hu | hu
  ·have:=h.ge hu;omega
  ·omega
 ·rw [if_neg hc]
  have:=h.mem (by omega)
  refine .inr ⟨.inl this,fun u hu=>?_⟩
  rcases hu with hu | hu
  ·exact h.ge hu
  ·omega
theorem IsMax.dom {S T:Int→Prop} {v:Int} (h:IsMax S v) (h1:∀u,S u→T u) (h2:∀u,T u→∃w,u≤w∧S w):IsMax T v:=by
 rcases h with ⟨g1,g2⟩ | ⟨g1,g2⟩
 ·exact .inl ⟨g1,fun u hu=>by obtain ⟨w,_,hw⟩:=h2 u hu;exact g2 w hw⟩
 ·exact .inr ⟨h1 _ g1,fun u hu=>by obtain ⟨w,hle,hw⟩:=h2 u hu;have:=g2 w hw;omega⟩
def Gives (pos:Int→Nat) (low:Int) (bef:List Int) (l:Leg) (q:Nat) (u:Int):Prop:=
 pos l.frm=q∧0≤bef.getD (pos l.dst) (-1)∧∃a,lastD l (bef.getD (pos l.dst) (-1))=some a∧u=a-l.cut∧low≤u
theorem Dep.ready {l:Leg} {a:Int} (h:Dep l a):0≤a-l.cut:=by
 obtain ⟨d,_,hg,rfl⟩:=h
 unfold goes at hg
 simp only [Bool.and_eq_true,decide_eq_true_eq] at hg
 omega
theorem Gives.nonneg {pos:Int→Nat} {low:Int} {bef:List Int} {l:Leg} {q:Nat} {u:Int} (h:Gives pos low bef l q u):0≤u:=by
 obtain ⟨_,_,a,h1,h2,_⟩:=h
 have:=(lastD_some h1).1.ready
 omega
def IsLat (L:List Leg) (q dl p v:Int):Prop:=IsMax (fun u=>0≤u∧dl-86400≤u∧∃j v,v≤dl∧Way L j p u q v) v
theorem IsLat.start {L:List Leg} {q dl v:Int} (h:IsLat L q dl q v) (hL:∀l∈L,Fine l) (h0:0≤dl):v=dl:=
 h.uniq (.inr ⟨⟨h0,by omega,0,dl,Int.le_refl _,.nil _ _⟩,fun u ⟨_,_,j,v,hv,hw⟩=>by have:=hw.later hL;omega⟩)
theorem IsLat.range {L:List Leg} {q dl p v:Int} (h:IsLat L q dl p v) (hL:∀l∈L,Fine l) (hv:0≤v):dl-86400≤v∧v≤dl:=by
 obtain ⟨_,h1,j,u,hu,hw⟩:=h.mem hv
 have:=hw.later hL
 exact ⟨h1,by omega⟩
theorem IsLat.later {L:List Leg} {p q a b x y:Int} (hx:IsLat L q a p x) (hy:IsLat L q b p y) (hL:∀l∈L,Fine l) (hab:a≤b) (hx0:0≤x) (hy0:0≤y):x≤y:=by
 obtain ⟨h1,h2,j,v,hv,hw⟩:=hx.mem hx0
 by_cases h:b-86400≤x
 ·exact hy.ge ⟨h1,h,j,v,by omega,hw⟩
 ·have:=(hy.range hL hy0).1;omega
theorem IsLat.same {L M:List Leg} {p q dl x y:Int} (hx:IsLat L q dl p x) (hy:IsLat M q dl p y) (hs:∀l,l∈M↔l∈L):x=y:=
 hx.uniq (hy.congr fun u=>⟨fun ⟨a,b,j,v,hv,hw⟩=>⟨a,b,j,v,hv,hw.mono fun l h=>(hs l).1 h⟩,fun ⟨a,b,j,v,hv,hw⟩=>⟨a,b,j,v,hv,hw.mono fun l h=>(hs l).2 h⟩⟩)
def useX (pos:Int→Nat) (bef aft:List Int) (l:Leg):List Int:=
 if bef.getD (pos l.dst) (-1)<0 then aft else
 match lastD l (bef.getD (pos l.dst) (-1)) with
 | some a=>aft.set (pos l.frm) (if aft.getD (pos l.frm) (-1)<a-l.cut then a-l.cut else aft.getD (pos l.frm) (-1))
 | none=>aft
def stepX (N:Nat) (pos:Int→Nat) (L:List Leg) (bef:List Int):List Int:=L.foldl (useX pos bef) (List.replicate N (-1))
def IsWay (L:List Leg):Int→Int→List (Leg×Int)→Int→Int→Prop
 | p,t,[],q,u=>p=q∧t=u
 | p,t,(l,a)::w,q,u=>l∈L∧l.frm=p∧Dep l a∧t≤a-l.cut∧IsWay L l.dst (a+l.mins) w q u
theorem IsWay.way {L:List Leg}:∀{w:List (Leg×Int)} {p t q u:Int},IsWay L p t w q u→Way L w.length p t q u
 | [],p,t,q,u,h=>by obtain ⟨rfl,rfl⟩:=h;exact .nil _ _
 | (l,a)::w,p,t,q,u,h=>by
   obtain ⟨h1,h2,h3,h4,h5⟩:=h
   exact .cons h1 h2 h3 h4 h5.way
theorem IsWay.later {L:List Leg} {w:List (Leg×Int)} {p t q u:Int} (h:IsWay L p t w q u) (hL:∀l∈L,Fine l):t≤u:=h.way.later hL
theorem IsWay.from {L:List Leg} (hL:∀l∈L,Fine l):∀{w:List (Leg×Int)} {p t q u m:Int},IsWay L p t w q u→m∈w.map (fun x=>x.1.dst)→∃k s,k<w.length∧t≤s∧Way L k m s q u
 | [],_,_,_,_,_,_,h=>by simp at h
 | (l,a)::w,p,t,q,u,m,h,hm=>by
   obtain ⟨h1,h2,h3,h4,h5⟩:=h
   have hfl:=hL l h1
   unfold Fine at hfl
   rw [List.map_cons,List.mem_cons] at hm
   rcases hm with rfl | hm
   ·exact ⟨w.length,a+l.mins,by simp,by omega,h5.way⟩
   ·obtain ⟨k,s,g1,g2,g3⟩:=IsWay.from hL h5 hm
    exact ⟨k,s,by simp;omega,by omega,g3⟩
theorem IsWay.nodup {L:List Leg} (hL:∀l∈L,Fine l):∀{w:List (Leg×Int)} {p t q v:Int},IsWay L p t w q v→(∀j v',Way L j p t q v'→v'≤v→w.length≤j)→(p::w.map (fun x=>x.1.dst)).Nodup
 | [],_,_,_,_,_,_=>by simp
 | (l,a)::w,p,t,q,v,h,hmin=>by
   rw [List.nodup_cons]
   constructor
   ·intro hm
    obtain ⟨k,s,g1,g2,g3⟩:=IsWay.from hL h hm
    rcases g3.early g2 with ⟨rfl,rfl,e⟩ | hw
    ·have:=hmin 0 t (.nil _ _) (by omega);simp at this
    ·have:=hmin k v hw (Int.le_refl _);omega
   ·obtain ⟨h1,h2,h3,h4,h5⟩:=h
    rw [List.map_cons]
    exact h5.nodup hL fun j v' hw hv=>by
     have:=hmin (j+1) v' (.cons h1 h2 h3 h4 hw) hv
     simpa using this
theorem IsWay.uniq {L:List Leg}:∀{w:List (Leg×Int)} {p t q u q' u':Int},IsWay L p t w q u→IsWay L p t w q' u'→q=q'∧u=u'
 | [],_,_,_,_,_,_,h,h'=>⟨h.1.symm.trans h'.1,h.2.symm.trans h'.2⟩
 | (l,a)::w,_,_,_,_,_,_,h,h'=>h.2.2.2.2.uniq h'.2.2.2.2
end Go.Net

