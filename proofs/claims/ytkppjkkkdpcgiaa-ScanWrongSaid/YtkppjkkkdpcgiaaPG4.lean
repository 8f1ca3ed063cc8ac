/-
  Joined texts, 4 of 9. A part of the claim that the last text states.
-/
import Derived.Sort.AssemblyPlain
import Derived.Test.YtkppjkkkdpcgiaaPG3
namespace Go.Proofs.Ytkppjkkkdpcgiaa.Fn
open Go.AM Go.AM.Sym
set_option maxRecDepth 100000
def pure : List FuncId := [9,11,12,18,22,25,26,34,35,36,43,44,45,48,51,52,53,55,58,60,61,65,67,68,77,78,79,83]
def pf : FuncId → Bool := fun f => pure.contains f
def l9_1 : ACode := (.seq (.ops [i 189 (.bin .lss (t 188) (t 187))]) (.seq (.cond (t 189) .skip (.exit 2)) (.seq (.block 3 (.seq (.ops [i 190 (.mov (t 188)), i 23 (.mov (t 190))]) (.ops [i 191 (.mov (t 22)), i 192 (.mov (t 23)), i 193 (.mov (t 23)), i 194 (.mov (t 23)), i 195 (.call .any (.func 22) [(k (.int .i64 1)), (t 193), (t 194)]), i 196 (.idxAddrS 6 (t 191) (t 192)), ⟨none, none, (.store 6 (t 196) (t 195)), none, []⟩]))) (.ops [i 197 (.bin .add (t 188) (k (.int .i64 1))), i 188 (.mov (t 197))]))))
def c9 : ACode := (.seq (.ops [i 8 (.mov (k (.bool false)))]) (.seq (.ops [i 26 (.mov (t 0)), i 27 (.mov (t 1)), i 28 (.call .any (.func 17) [(t 26), (t 27)]), i 25 (.mov (t 28)), i 29 (.extract 0 (t 25)), i 30 (.extract 1 (t 25)), i 9 (.mov (t 29)), i 10 (.mov (t 30))]) (.seq (.ops [i 31 (.call .any (.func 22) [(k (.int .i64 1)), (k (.int .i64 100)), (k (.int .i64 200))]), i 11 (.alloc [(.int .i64 0), (.int .i64 0), (.int .i64 0), (.int .u8 0), (.int .i64 0), (.int .i64 0)]), ⟨none, none, (.store 6 (t 11) (t 31)), none, []⟩]) (.seq (.ops [i 32 (.build [(.int .i64 0), (.int .i64 0), (.int .i64 0)] [(0, (1, (k (.int .i64 1)))), (1, (1, (k (.int .i64 50)))), (2, (1, (k (.int .i64 3))))]), i 33 (.build [(.int .i64 0), (.int .i64 0), (.int .i64 0)] [(0, (1, (k (.int .i64 2)))), (1, (1, (k (.int .i64 20)))), (2, (1, (k (.int .i64 (-3)))))]), i 34 (.buildSlice 2 [(.int .i64 0), (.int .i64 0), (.int .i64 0), (.int .i64 0), (.int .i64 0), (.int .i64 0)] [(0, (3, (t 32))), (3, (3, (t 33)))]), i 12 (.mov (t 34))]) (.seq (.seq (.ops [i 35 (.mov (t 2)), i 36 (.bin .rem (t 35) (k (.int .u8 9)))]) (.block 0 (.seq (.ops [i 38 (.bin .eql (t 36) (k (.int .u8 0))), i 37 (.mov (t 38))]) (.cond (t 37) (.ops [i 39 (.mov (t 3)), i 40 (.minmax false [(t 39), (k (.int .i64 0))]), i 41 (.fieldAddr 0 (t 11)), ⟨none, none, (.store 1 (t 41) (t 40)), none, []⟩]) (.seq (.ops [i 43 (.bin .eql (t 36) (k (.int .u8 1))), i 42 (.mov (t 43))]) (.cond (t 42) (.ops [i 44 (.mov (t 3)), i 45 (.minmax true [(t 44), (k (.int .i64 1000000))]), i 46 (.fieldAddr 0 (t 11)), ⟨none, none, (.store 1 (t 46) (t 45)), none, []⟩]) (.seq (.ops [i 48 (.bin .eql (t 36) (k (.int .u8 2))), i 47 (.mov (t 48))]) (.cond (t 47) (.ops [i 49 (.mov (t 3)), i 50 (.minmax false [(t 49), (k (.int .i64 0))]), i 51 (.fieldAddr 1 (t 11)), ⟨none, none, (.store 1 (t 51) (t 50)), none, []⟩]) (.seq (.ops [i 53 (.bin .eql (t 36) (k (.int .u8 3))), i 52 (.mov (t 53))]) (.cond (t 52) (.ops [i 54 (.mov (t 3)), i 55 (.minmax true [(t 54), (k (.int .i64 1000000))]), i 56 (.fieldAddr 2 (t 11)), ⟨none, none, (.store 1 (t 56) (t 55)), none, []⟩]) (.seq (.ops [i 58 (.bin .eql (t 36) (k (.int .u8 4))), i 57 (.mov (t 58))]) (.cond (t 57) (.ops [i 59 (.fieldAddr 3 (t 11)), ⟨none, none, (.store 1 (t 59) (k (.int .u8 0))), none, []⟩]) (.seq (.ops [i 61 (.bin .eql (t 36) (k (.int .u8 5))), i 60 (.mov (t 61))]) (.cond (t 60) (.ops [i 62 (.mov (t 2)), i 63 (.bin .quo (t 62) (k (.int .u8 9))), i 64 (.bin .add (k (.int .u8 5)) (t 63)), i 65 (.fieldAddr 3 (t 11)), ⟨none, none, (.store 1 (t 65) (t 64)), none, []⟩]) (.seq (.ops [i 67 (.bin .eql (t 36) (k (.int .u8 6))), i 66 (.mov (t 67))]) (.cond (t 66) (.ops [i 68 (.mov (t 3)), i 69 (.minmax false [(t 68), (k (.int .i64 (-1)))]), i 70 (.fieldAddr 4 (t 11)), ⟨none, none, (.store 1 (t 70) (t 69)), none, []⟩]) (.seq (.ops [i 72 (.bin .eql (t 36) (k (.int .u8 7))), i 71 (.mov (t 72))]) (.cond (t 71) (.ops [i 73 (.mov (t 3)), i 74 (.minmax true [(t 73), (k (.int .i64 1051898400))]), i 75 (.fieldAddr 4 (t 11)), ⟨none, none, (.store 1 (t 75) (t 74)), none, []⟩]) (.seq (.ops [i 77 (.bin .eql (t 36) (k (.int .u8 8))), i 76 (.mov (t 77))]) (.cond (t 76) (.ops [i 78 (.mov (t 3)), i 79 (.minmax true [(t 78), (k (.int .i64 1051898400))]), i 80 (.fieldAddr 5 (t 11)), ⟨none, none, (.store 1 (t 80) (t 79)), none, []⟩]) .skip)))))))))))))))))))) (.seq (.drawn 4 [⟨(some 81), none, (.buildSlice 0 [] []), (some 0), []⟩, i 82 (.mov (t 9)), ⟨(some 83), none, (.append0 6 48 false (t 81) (t 82)), (some 1), [2, 3]⟩, ⟨(some 84), none, (.loadN 6 (t 11)), none, [0, 1, 2, 3]⟩, ⟨(some 85), none, (.buildSlice 1 [(.int .i64 0), (.int .i64 0), (.int .i64 0), (.int .u8 0), (.int .i64 0), (.int .i64 0)] [(0, (6, (t 84)))]), (some 2), []⟩, ⟨(some 86), none, (.append 6 48 false (t 83) (t 85)), (some 3), []⟩, i 13 (.mov (t 86))]) (.seq (.ops [i 88 (.mov (t 13)), i 89 (.call .any (.func 20) [(t 88)]), i 87 (.mov (t 89)), i 90 (.extract 0 (t 87)), i 91 (.extract 1 (t 87)), i 14 (.mov (t 90)), i 15 (.mov (t 91))]) (.seq (.ops [i 93 (.mov (t 13)), i 94 (.call .any (.func 19) [(t 93)]), i 92 (.mov (t 94)), i 95 (.extract 0 (t 92)), i 96 (.extract 1 (t 92)), i 16 (.mov (t 95)), i 17 (.mov (t 96))]) (.seq (.ops [i 98 (.mov (t 13)), i 99 (.call .any (.func 23) [(t 98)]), i 97 (.mov (t 99)), i 100 (.extract 0 (t 97)), i 101 (.extract 1 (t 97)), i 18 (.mov (t 100)), i 19 (.mov (t 101))]) (.seq (.ops [i 103 (.mov (t 12)), i 104 (.loadN 6 (t 11)), i 105 (.call .any (.func 12) [(t 103), (t 104)]), i 102 (.mov (t 105)), i 106 (.extract 0 (t 102)), i 107 (.extract 1 (t 102)), i 20 (.mov (t 106)), i 21 (.mov (t 107))]) (.seq (.seq (.ops [i 108 (.mov (t 13)), i 109 (.call .any (.func 25) [(t 108)]), i 110 (.mov (t 109)), ⟨(some 111), (some (110, false)), (.mov (t 9)), none, []⟩, ⟨(some 112), (some (110, false)), (.call .any (.func 25) [(t 111)]), none, []⟩, ⟨(some 113), (some (110, false)), (.un .not (t 112)), none, []⟩, i 114 (.pick (t 110) (k (.bool true)) (t 113)), i 115 (.mov (t 114)), ⟨(some 116), (some (115, false)), (.mov (t 15)), none, []⟩, ⟨(some 117), (some (115, false)), (.bin .neq (t 116) (k (.int .i64 2))), none, []⟩, i 118 (.pick (t 115) (k (.bool true)) (t 117)), i 119 (.mov (t 118)), ⟨(some 120), (some (119, false)), (.mov (t 17)), none, []⟩, ⟨(some 121), (some (119, false)), (.mov (t 15)), none, []⟩, ⟨(some 122), (some (119, false)), (.bin .neq (t 120) (t 121)), none, []⟩, i 123 (.pick (t 119) (k (.bool true)) (t 122)), i 124 (.mov (t 123)), ⟨(some 125), (some (124, false)), (.mov (t 19)), none, []⟩, ⟨(some 126), (some (124, false)), (.mov (t 15)), none, []⟩, ⟨(some 127), (some (124, false)), (.bin .neq (t 125) (t 126)), none, []⟩, i 128 (.pick (t 124) (k (.bool true)) (t 127)), i 129 (.mov (t 128)), ⟨(some 130), (some (129, false)), (.mov (t 21)), none, []⟩, ⟨(some 131), (some (129, false)), (.mov (t 15)), none, []⟩, ⟨(some 132), (some (129, false)), (.bin .neq (t 130) (t 131)), none, []⟩, i 133 (.pick (t 129) (k (.bool true)) (t 132))]) (.cond (t 133) (.seq (.ops [i 8 (.mov (k (.bool false)))]) .ret) .skip)) (.seq (.seq (.ops [i 134 (.mov (t 2)), i 135 (.bin .rem (t 134) (k (.int .u8 6)))]) (.block 1 (.seq (.ops [i 137 (.bin .eql (t 135) (k (.int .u8 0))), i 136 (.mov (t 137))]) (.cond (t 136) (.ops [i 138 (.mov (t 12)), i 139 (.mov (t 12)), i 140 (.mov (t 3)), i 141 (.minmax false [(t 140), (k (.int .i64 50))]), i 142 (.idxAddrS 3 (t 138) (k (.int .i64 1))), i 143 (.fieldAddr 0 (t 142)), ⟨none, none, (.store 1 (t 143) (k (.int .i64 1))), none, []⟩, i 144 (.idxAddrS 3 (t 139) (k (.int .i64 1))), i 145 (.fieldAddr 1 (t 144)), ⟨none, none, (.store 1 (t 145) (t 141)), none, []⟩]) (.seq (.ops [i 147 (.bin .eql (t 135) (k (.int .u8 1))), i 146 (.mov (t 147))]) (.cond (t 146) (.ops [i 148 (.mov (t 12)), i 149 (.idxAddrS 3 (t 148) (k (.int .i64 0))), i 150 (.fieldAddr 0 (t 149)), ⟨none, none, (.store 1 (t 150) (k (.int .i64 3))), none, []⟩]) (.seq (.ops [i 152 (.bin .eql (t 135) (k (.int .u8 2))), i 151 (.mov (t 152))]) (.cond (t 151) (.ops [i 153 (.mov (t 12)), i 154 (.mov (t 3)), i 155 (.minmax false [(t 154), (k (.int .i64 0))]), i 156 (.idxAddrS 3 (t 153) (k (.int .i64 0))), i 157 (.fieldAddr 0 (t 156)), ⟨none, none, (.store 1 (t 157) (t 155)), none, []⟩]) (.seq (.ops [i 159 (.bin .eql (t 135) (k (.int .u8 3))), i 158 (.mov (t 159))]) (.cond (t 158) (.ops [i 160 (.mov (t 12)), i 161 (.mov (t 3)), i 162 (.minmax true [(t 161), (k (.int .i64 1051898400))]), i 163 (.idxAddrS 3 (t 160) (k (.int .i64 1))), i 164 (.fieldAddr 1 (t 163)), ⟨none, none, (.store 1 (t 164) (t 162)), none, []⟩]) (.seq (.ops [i 166 (.bin .eql (t 135) (k (.int .u8 4))), i 165 (.mov (t 166))]) (.cond (t 165) (.ops [i 167 (.mov (t 12)), i 168 (.mov (t 3)), i 169 (.minmax true [(t 168), (k (.int .i64 1051898400))]), i 170 (.idxAddrS 3 (t 167) (k (.int .i64 1))), i 171 (.fieldAddr 2 (t 170)), ⟨none, none, (.store 1 (t 171) (t 169)), none, []⟩]) (.seq (.ops [i 173 (.bin .eql (t 135) (k (.int .u8 5))), i 172 (.mov (t 173))]) (.cond (t 172) (.ops [i 174 (.mov (t 12)), i 175 (.mov (t 3)), i 176 (.minmax false [(t 175), (k (.int .i64 (-1051898400)))]), i 177 (.idxAddrS 3 (t 174) (k (.int .i64 0))), i 178 (.fieldAddr 2 (t 177)), ⟨none, none, (.store 1 (t 178) (t 176)), none, []⟩]) .skip)))))))))))))) (.seq (.ops [i 180 (.mov (t 12)), i 181 (.call .any (.func 22) [(k (.int .i64 1)), (k (.int .i64 100)), (k (.int .i64 200))]), i 182 (.call .any (.func 12) [(t 180), (t 181)]), i 179 (.mov (t 182)), i 183 (.extract 0 (t 179)), i 184 (.extract 1 (t 179)), i 21 (.mov (t 184))]) (.seq (.ops [i 185 (.makeSlice 6 48 [(.int .i64 0), (.int .i64 0), (.int .i64 0), (.int .u8 0), (.int .i64 0), (.int .i64 0)] (k (.int .i64 2001)) (k (.int .i64 2001))), i 22 (.mov (t 185))]) (.seq (.seq (.ops [i 186 (.mov (t 22)), i 187 (.lenSlice (t 186)), i 188 (.mov (k (.int .i64 0)))]) (.block 2 (.loop l9_1))) (.seq (.ops [i 199 (.mov (t 22)), i 200 (.call .any (.func 20) [(t 199)]), i 198 (.mov (t 200)), i 201 (.extract 0 (t 198)), i 202 (.extract 1 (t 198)), i 15 (.mov (t 202))]) (.seq (.ops [i 203 (.mov (t 21)), i 204 (.mov (t 15)), i 205 (.buildSlice 2 [(.int .i64 0), (.int .i64 0)] [(0, (1, (t 203))), (1, (1, (t 204)))]), i 206 (.buildSlice 2 [(.int .i64 0), (.int .i64 0)] [(0, (1, (k (.int .i64 2)))), (1, (1, (k (.int .i64 2))))]), i 207 (.call .any (.func 26) [(t 205), (t 206)]), i 24 (.mov (t 207))]) (.seq (.ops [i 208 (.mov (t 24)), i 209 (.mov (t 208)), ⟨(some 210), (some (209, true)), (.mov (t 22)), none, []⟩, ⟨(some 211), (some (209, true)), (.call .any (.func 25) [(t 210)]), none, []⟩, ⟨(some 212), (some (209, true)), (.un .not (t 211)), none, []⟩, i 213 (.pick (t 209) (t 212) (k (.bool false))), i 214 (.mov (t 213)), ⟨(some 215), (some (214, true)), (.mov (t 22)), none, []⟩, ⟨(some 216), (some (214, true)), (.sliceS 6 (t 215) (some (k (.int .i64 1))) none none), none, []⟩, ⟨(some 217), (some (214, true)), (.call .any (.func 25) [(t 216)]), none, []⟩, i 218 (.pick (t 214) (t 217) (k (.bool false))), i 219 (.mov (t 218)), ⟨(some 220), (some (219, true)), (.call .any (.func 11) []), none, []⟩, i 221 (.pick (t 219) (t 220) (k (.bool false))), i 8 (.mov (t 221))]) .ret))))))))))))))))))
def a9 : AFunc := ⟨222, [(.tmp 8)], c9⟩
theorem n9 : a9.ntmps = 222 := id rfl
theorem r9 : a9.results = [(.tmp 8)] := rfl
theorem b9 : a9.body = c9 := rfl
def c11 : ACode := (.seq (.ops [i 0 (.mov (k (.bool false)))]) (.seq (.ops [i 14 (.call .any (.func 22) [(k (.int .i64 1)), (k (.int .i64 60)), (k (.int .i64 400))]), i 15 (.call .any (.func 22) [(k (.int .i64 1)), (k (.int .i64 50)), (k (.int .i64 150))]), i 16 (.call .any (.func 22) [(k (.int .i64 1)), (k (.int .i64 2000)), (k (.int .i64 2140))]), i 17 (.buildSlice 3 [(.int .i64 0), (.int .i64 0), (.int .i64 0), (.int .u8 0), (.int .i64 0), (.int .i64 0), (.int .i64 0), (.int .i64 0), (.int .i64 0), (.int .u8 0), (.int .i64 0), (.int .i64 0), (.int .i64 0), (.int .i64 0), (.int .i64 0), (.int .u8 0), (.int .i64 0), (.int .i64 0)] [(0, (6, (t 14))), (6, (6, (t 15))), (12, (6, (t 16)))]), i 1 (.mov (t 17))]) (.seq (.ops [i 19 (.mov (t 1)), i 20 (.call .any (.func 20) [(t 19)]), i 18 (.mov (t 20)), i 21 (.extract 0 (t 18)), i 22 (.extract 1 (t 18)), i 2 (.mov (t 21)), i 3 (.mov (t 22))]) (.seq (.ops [i 24 (.mov (t 2)), i 25 (.call .any (.func 22) [(k (.int .i64 1)), (k (.int .i64 60)), (k (.int .i64 400))]), i 26 (.call .any (.func 12) [(t 24), (t 25)]), i 23 (.mov (t 26)), i 27 (.extract 0 (t 23)), i 28 (.extract 1 (t 23)), i 4 (.mov (t 27)), i 5 (.mov (t 28))]) (.seq (.ops [i 30 (.mov (t 2)), i 31 (.call .any (.func 22) [(k (.int .i64 1)), (k (.int .i64 1025)), (k (.int .i64 5000))]), i 32 (.call .any (.func 12) [(t 30), (t 31)]), i 29 (.mov (t 32)), i 33 (.extract 0 (t 29)), i 34 (.extract 1 (t 29)), i 6 (.mov (t 33)), i 7 (.mov (t 34))]) (.seq (.ops [i 36 (.mov (t 2)), i 37 (.call .any (.func 22) [(k (.int .i64 2)), (k (.int .i64 60)), (k (.int .i64 400))]), i 38 (.call .any (.func 12) [(t 36), (t 37)]), i 35 (.mov (t 38)), i 39 (.extract 0 (t 35)), i 40 (.extract 1 (t 35)), i 8 (.mov (t 39)), i 9 (.mov (t 40))]) (.seq (.ops [i 42 (.mov (t 1)), i 43 (.call .any (.func 19) [(t 42)]), i 41 (.mov (t 43)), i 44 (.extract 0 (t 41)), i 45 (.extract 1 (t 41)), i 10 (.mov (t 44)), i 11 (.mov (t 45))]) (.seq (.seq (.ops [i 46 (.mov (t 3)), i 47 (.mov (t 5)), i 48 (.bin .add (t 46) (t 47)), i 49 (.mov (t 7)), i 50 (.bin .add (t 48) (t 49)), i 51 (.mov (t 9)), i 52 (.bin .add (t 50) (t 51)), i 53 (.mov (t 11)), i 54 (.bin .add (t 52) (t 53)), i 55 (.bin .neq (t 54) (k (.int .i64 0))), i 56 (.mov (t 55)), ⟨(some 57), (some (56, false)), (.mov (t 2)), none, []⟩, ⟨(some 58), (some (56, false)), (.lenSlice (t 57)), none, []⟩, ⟨(some 59), (some (56, false)), (.bin .neq (t 58) (k (.int .i64 2))), none, []⟩, i 60 (.pick (t 56) (k (.bool true)) (t 59)), i 61 (.mov (t 60)), ⟨(some 62), (some (61, false)), (.mov (t 2)), none, []⟩, ⟨(some 63), (some (61, false)), (.idxAddrS 3 (t 62) (k (.int .i64 0))), none, []⟩, ⟨(some 64), (some (61, false)), (.loadN 3 (t 63)), none, []⟩, ⟨(some 65), (some (61, false)), (.build [(.int .i64 0), (.int .i64 0), (.int .i64 0)] [(0, (1, (k (.int .i64 1)))), (1, (1, (k (.int .i64 50)))), (2, (1, (k (.int .i64 100))))]), none, []⟩, ⟨(some 66), (some (61, false)), (.eqv true (.agg [(.int .i64), (.int .i64), (.int .i64)]) (t 64) (t 65)), none, []⟩, i 67 (.pick (t 61) (k (.bool true)) (t 66)), i 68 (.mov (t 67)), ⟨(some 69), (some (68, false)), (.mov (t 2)), none, []⟩, ⟨(some 70), (some (68, false)), (.idxAddrS 3 (t 69) (k (.int .i64 1))), none, []⟩, ⟨(some 71), (some (68, false)), (.loadN 3 (t 70)), none, []⟩, ⟨(some 72), (some (68, false)), (.build [(.int .i64 0), (.int .i64 0), (.int .i64 0)] [(0, (1, (k (.int .i64 1)))), (1, (1, (k (.int .i64 2000)))), (2, (1, (k (.int .i64 140))))]), none, []⟩, ⟨(some 73), (some (68, false)), (.eqv true (.agg [(.int .i64), (.int .i64), (.int .i64)]) (t 71) (t 72)), none, []⟩, i 74 (.pick (t 68) (k (.bool true)) (t 73)), i 75 (.mov (t 74)), ⟨(some 76), (some (75, false)), (.mov (t 4)), none, []⟩, ⟨(some 77), (some (75, false)), (.bin .neq (t 76) (k (.int .i64 160))), none, []⟩, i 78 (.pick (t 75) (k (.bool true)) (t 77)), i 79 (.mov (t 78)), ⟨(some 80), (some (79, false)), (.mov (t 6)), none, []⟩, ⟨(some 81), (some (79, false)), (.bin .neq (t 80) (k (.int .i64 1145))), none, []⟩, i 82 (.pick (t 79) (k (.bool true)) (t 81)), i 83 (.mov (t 82)), ⟨(some 84), (some (83, false)), (.mov (t 8)), none, []⟩, ⟨(some 85), (some (83, false)), (.bin .neq (t 84) (k (.int .i64 60))), none, []⟩, i 86 (.pick (t 83) (k (.bool true)) (t 85)), i 87 (.mov (t 86)), ⟨(some 88), (some (87, false)), (.mov (t 10)), none, []⟩, ⟨(some 89), (some (87, false)), (.lenSlice (t 88)), none, []⟩, ⟨(some 90), (some (87, false)), (.bin .neq (t 89) (k (.int .i64 2))), none, []⟩, i 91 (.pick (t 87) (k (.bool true)) (t 90)), i 92 (.mov (t 91)), ⟨(some 93), (some (92, false)), (.mov (t 10)), none, []⟩, ⟨(some 94), (some (92, false)), (.idxAddrS 7 (t 93) (k (.int .i64 0))), none, []⟩, ⟨(some 95), (some (92, false)), (.fieldAddr 6 (t 94)), none, []⟩, ⟨(some 96), (some (92, false)), (.load1 (t 95)), none, []⟩, ⟨(some 97), (some (92, false)), (.bin .neq (t 96) (k (.int .i64 150))), none, []⟩, i 98 (.pick (t 92) (k (.bool true)) (t 97)), i 99 (.mov (t 98)), ⟨(some 100), (some (99, false)), (.mov (t 10)), none, []⟩, ⟨(some 101), (some (99, false)), (.idxAddrS 7 (t 100) (k (.int .i64 1))), none, []⟩, ⟨(some 102), (some (99, false)), (.fieldAddr 6 (t 101)), none, []⟩, ⟨(some 103), (some (99, false)), (.load1 (t 102)), none, []⟩, ⟨(some 104), (some (99, false)), (.bin .neq (t 103) (k (.int .i64 2140))), none, []⟩, i 105 (.pick (t 99) (k (.bool true)) (t 104))]) (.cond (t 105) (.seq (.ops [i 0 (.mov (k (.bool false)))]) .ret) .skip)) (.seq (.ops [i 107 (.call .any (.func 22) [(k (.int .i64 1)), (k (.int .i64 160)), (k (.int .i64 160))]), i 108 (.call .any (.func 22) [(k (.int .i64 2)), (k (.int .i64 150)), (k (.int .i64 150))]), i 109 (.buildSlice 2 [(.int .i64 0), (.int .i64 0), (.int .i64 0), (.int .u8 0), (.int .i64 0), (.int .i64 0), (.int .i64 0), (.int .i64 0), (.int .i64 0), (.int .u8 0), (.int .i64 0), (.int .i64 0)] [(0, (6, (t 107))), (6, (6, (t 108)))]), i 110 (.call .any (.func 19) [(t 109)]), i 106 (.mov (t 110)), i 111 (.extract 0 (t 106)), i 112 (.extract 1 (t 106)), i 12 (.mov (t 111)), i 3 (.mov (t 112))]) (.seq (.ops [i 114 (.call .any (.func 22) [(k (.int .i64 1)), (k (.int .i64 161)), (k (.int .i64 161))]), i 115 (.call .any (.func 22) [(k (.int .i64 2)), (k (.int .i64 150)), (k (.int .i64 150))]), i 116 (.buildSlice 2 [(.int .i64 0), (.int .i64 0), (.int .i64 0), (.int .u8 0), (.int .i64 0), (.int .i64 0), (.int .i64 0), (.int .i64 0), (.int .i64 0), (.int .u8 0), (.int .i64 0), (.int .i64 0)] [(0, (6, (t 114))), (6, (6, (t 115)))]), i 117 (.call .any (.func 19) [(t 116)]), i 113 (.mov (t 117)), i 118 (.extract 0 (t 113)), i 119 (.extract 1 (t 113)), i 13 (.mov (t 118)), i 5 (.mov (t 119))]) (.seq (.ops [i 120 (.mov (t 3)), i 121 (.mov (t 5)), i 122 (.bin .add (t 120) (t 121)), i 123 (.bin .eql (t 122) (k (.int .i64 0))), i 124 (.mov (t 123)), ⟨(some 125), (some (124, true)), (.mov (t 12)), none, []⟩, ⟨(some 126), (some (124, true)), (.lenSlice (t 125)), none, []⟩, ⟨(some 127), (some (124, true)), (.bin .eql (t 126) (k (.int .i64 1))), none, []⟩, i 128 (.pick (t 124) (t 127) (k (.bool false))), i 129 (.mov (t 128)), ⟨(some 130), (some (129, true)), (.mov (t 12)), none, []⟩, ⟨(some 131), (some (129, true)), (.idxAddrS 7 (t 130) (k (.int .i64 0))), none, []⟩, ⟨(some 132), (some (129, true)), (.fieldAddr 6 (t 131)), none, []⟩, ⟨(some 133), (some (129, true)), (.load1 (t 132)), none, []⟩, ⟨(some 134), (some (129, true)), (.bin .eql (t 133) (k (.int .i64 150))), none, []⟩, i 135 (.pick (t 129) (t 134) (k (.bool false))), i 136 (.mov (t 135)), ⟨(some 137), (some (136, true)), (.mov (t 13)), none, []⟩, ⟨(some 138), (some (136, true)), (.lenSlice (t 137)), none, []⟩, ⟨(some 139), (some (136, true)), (.bin .eql (t 138) (k (.int .i64 2))), none, []⟩, i 140 (.pick (t 136) (t 139) (k (.bool false))), i 0 (.mov (t 140))]) .ret)))))))))))
def a11 : AFunc := ⟨141, [(.tmp 0)], c11⟩
theorem n11 : a11.ntmps = 141 := id rfl
theorem r11 : a11.results = [(.tmp 0)] := rfl
theorem b11 : a11.body = c11 := rfl
def c12 : ACode := (.seq (.ops [i 3 (.box (t 1)), i 4 (.mov (k (.int .i64 0))), i 5 (.mov (k (.int .i64 0)))]) (.seq (.seq (.ops [i 6 (.loadN 6 (t 3)), i 7 (.call .any (.func 34) [(t 6)]), i 8 (.un .not (t 7)), i 9 (.mov (t 8)), ⟨(some 10), (some (9, false)), (.mov (t 0)), none, []⟩, ⟨(some 11), (some (9, false)), (.call .any (.func 35) [(t 10)]), none, []⟩, ⟨(some 12), (some (9, false)), (.un .not (t 11)), none, []⟩, i 13 (.pick (t 9) (k (.bool true)) (t 12))]) (.cond (t 13) (.seq (.ops [i 4 (.mov (k (.int .i64 0))), i 5 (.mov (k (.int .i64 2)))]) .ret) .skip)) (.seq (.ops [i 14 (.mov (t 0)), i 15 (.loadN 6 (t 3)), i 16 (.call .any (.func 36) [(t 14), (t 15)]), i 4 (.mov (t 16)), i 5 (.mov (k (.int .i64 0)))]) .ret)))
def a12 : AFunc := ⟨17, [(.tmp 4), (.tmp 5)], c12⟩
theorem n12 : a12.ntmps = 17 := id rfl
theorem r12 : a12.results = [(.tmp 4), (.tmp 5)] := rfl
theorem b12 : a12.body = c12 := rfl
def l17_1 : ACode := (.seq (.ops [i 19 (.bin .lss (t 18) (t 17))]) (.seq (.cond (t 19) .skip (.exit 0)) (.seq (.block 1 (.seq (.ops [i 20 (.idxAddrS 6 (t 16) (t 18)), i 21 (.loadN 6 (t 20)), i 9 (.alloc [(.int .u8 0), (.int .u8 0), (.int .u8 0), (.int .u8 0), (.int .u16 0), (.int .u8 0)]), ⟨none, none, (.store 6 (t 9) (t 21)), none, []⟩]) (.seq (.ops [i 22 (.fieldAddr 4 (t 9)), i 23 (.load1 (t 22)), i 24 (.conv .i64 (t 23)), i 25 (.bin .rem (t 24) (k (.int .i64 5760))), i 26 (.bin .add (k (.int .i64 14400)) (t 25)), i 10 (.mov (t 26))]) (.seq (.ops [i 27 (.fieldAddr 0 (t 9)), i 28 (.load1 (t 27)), i 29 (.conv .i64 (t 28)), i 30 (.bin .rem (t 29) (k (.int .i64 4))), i 31 (.bin .add (k (.int .i64 1)) (t 30)), i 32 (.fieldAddr 1 (t 9)), i 33 (.load1 (t 32)), i 34 (.conv .i64 (t 33)), i 35 (.bin .rem (t 34) (k (.int .i64 4))), i 36 (.bin .add (k (.int .i64 1)) (t 35)), i 37 (.fieldAddr 2 (t 9)), i 38 (.load1 (t 37)), i 39 (.conv .i64 (t 38)), i 40 (.bin .rem (t 39) (k (.int .i64 4))), i 41 (.bin .add (k (.int .i64 1)) (t 40)), i 42 (.fieldAddr 3 (t 9)), i 43 (.load1 (t 42)), i 44 (.bin .rem (t 43) (k (.int .u8 4))), i 45 (.bin .add (k (.int .u8 1)) (t 44)), i 46 (.mov (t 10)), i 47 (.fieldAddr 5 (t 9)), i 48 (.load1 (t 47)), i 49 (.conv .i64 (t 48)), i 50 (.bin .add (t 46) (t 49)), i 51 (.build [(.int .i64 0), (.int .i64 0), (.int .i64 0), (.int .u8 0), (.int .i64 0), (.int .i64 0)] [(0, (1, (t 31))), (1, (1, (t 36))), (2, (1, (t 41))), (3, (1, (t 45))), (5, (1, (t 50)))]), i 11 (.alloc [(.int .i64 0), (.int .i64 0), (.int .i64 0), (.int .u8 0), (.int .i64 0), (.int .i64 0)]), ⟨none, none, (.store 6 (t 11) (t 51)), none, []⟩]) (.seq (.ops [i 52 (.mov (t 10)), i 53 (.mov (t 1)), i 54 (.fieldAddr 2 (t 11)), i 55 (.load1 (t 54)), i 56 (.call .any (.func 18) [(t 53), (t 55)]), i 57 (.bin .sub (t 52) (t 56)), i 58 (.fieldAddr 4 (t 11)), ⟨none, none, (.store 1 (t 58) (t 57)), none, []⟩]) (.ops [i 59 (.mov (t 6)), i 60 (.loadN 6 (t 11)), i 61 (.buildSlice 1 [(.int .i64 0), (.int .i64 0), (.int .i64 0), (.int .u8 0), (.int .i64 0), (.int .i64 0)] [(0, (6, (t 60)))]), i 62 (.append 6 48 false (t 59) (t 61)), i 63 (.mov (t 7)), i 64 (.mov (t 10)), i 65 (.buildSlice 1 [(.int .i64 0)] [(0, (1, (t 64)))]), i 66 (.append 1 8 false (t 63) (t 65)), i 6 (.mov (t 62)), i 7 (.mov (t 66))])))))) (.ops [i 67 (.bin .add (t 18) (k (.int .i64 1))), i 18 (.mov (t 67))]))))
def c17 : ACode := (.seq (.ops [i 4 (.mov (k (.slice none 0 0))), i 5 (.mov (k (.slice none 0 0)))]) (.seq (.ops [i 6 (.mov (k (.slice none 0 0)))]) (.seq (.ops [i 7 (.mov (k (.slice none 0 0)))]) (.seq (.seq (.ops [i 12 (.mov (t 0)), i 13 (.mov (t 0)), i 14 (.lenSlice (t 13)), i 15 (.minmax false [(t 14), (k (.int .i64 24))]), i 16 (.sliceS 6 (t 12) none (some (t 15)) none), i 17 (.lenSlice (t 16)), i 18 (.mov (k (.int .i64 0)))]) (.block 0 (.loop l17_1))) (.seq (.ops [i 68 (.mov (t 6)), i 69 (.mov (t 7)), i 4 (.mov (t 68)), i 5 (.mov (t 69))]) .ret)))))
def a17 : AFunc := ⟨70, [(.tmp 4), (.tmp 5)], c17⟩
theorem n17 : a17.ntmps = 70 := id rfl
theorem r17 : a17.results = [(.tmp 4), (.tmp 5)] := rfl
theorem b17 : a17.body = c17 := rfl
def c18 : ACode := (.seq (.ops [i 4 (.mov (k (.int .i64 0)))]) (.seq (.seq (.ops [i 5 (.mov (t 1)), i 6 (.bin .sub (t 5) (k (.int .i64 1))), i 7 (.mov (t 0)), i 8 (.lenSlice (t 7)), i 9 (.bin .lss (t 6) (t 8))]) (.cond (t 9) (.seq (.ops [i 10 (.mov (t 0)), i 11 (.mov (t 1)), i 12 (.bin .sub (t 11) (k (.int .i64 1))), i 13 (.idxAddrS 1 (t 10) (t 12)), i 14 (.load1 (t 13)), i 15 (.conv .i64 (t 14)), i 4 (.mov (t 15))]) .ret) .skip)) (.seq (.ops [i 4 (.mov (k (.int .i64 0)))]) .ret)))
def a18 : AFunc := ⟨16, [(.tmp 4)], c18⟩
theorem n18 : a18.ntmps = 16 := id rfl
theorem r18 : a18.results = [(.tmp 4)] := rfl
theorem b18 : a18.body = c18 := rfl
def c19 : ACode := (.seq (.ops [i 2 (.mov (k (.slice none 0 0))), i 3 (.mov (k (.int .i64 0)))]) (.seq (.seq (.ops [i 6 (.mov (t 0)), i 7 (.call .any (.func 25) [(t 6)]), i 8 (.un .not (t 7))]) (.cond (t 8) (.seq (.ops [i 2 (.mov (k (.slice none 0 0))), i 3 (.mov (k (.int .i64 2)))]) .ret) .skip)) (.seq (.ops [i 10 (.mov (t 0)), i 11 (.call .any (.func 38) [(t 10)]), i 9 (.mov (t 11)), i 12 (.extract 0 (t 9)), i 13 (.extract 1 (t 9)), i 4 (.mov (t 12)), i 5 (.mov (t 13))]) (.seq (.ops [i 14 (.mov (t 4)), i 2 (.mov (t 14)), i 3 (.mov (k (.int .i64 0)))]) .ret))))
def a19 : AFunc := ⟨15, [(.tmp 2), (.tmp 3)], c19⟩
theorem n19 : a19.ntmps = 15 := id rfl
theorem r19 : a19.results = [(.tmp 2), (.tmp 3)] := rfl
theorem b19 : a19.body = c19 := rfl
def c20 : ACode := (.seq (.ops [i 2 (.mov (k (.slice none 0 0))), i 3 (.mov (k (.int .i64 0)))]) (.seq (.seq (.ops [i 4 (.mov (t 0)), i 5 (.call .any (.func 25) [(t 4)]), i 6 (.un .not (t 5))]) (.cond (t 6) (.seq (.ops [i 2 (.mov (k (.slice none 0 0))), i 3 (.mov (k (.int .i64 2)))]) .ret) .skip)) (.seq (.ops [i 7 (.mov (t 0)), i 8 (.call .any (.func 39) [(t 7)]), i 2 (.mov (t 8)), i 3 (.mov (k (.int .i64 0)))]) .ret)))
def a20 : AFunc := ⟨9, [(.tmp 2), (.tmp 3)], c20⟩
theorem n20 : a20.ntmps = 9 := id rfl
theorem r20 : a20.results = [(.tmp 2), (.tmp 3)] := rfl
theorem b20 : a20.body = c20 := rfl
def c22 : ACode := (.seq (.ops [i 6 (.alloc [(.int .i64 0), (.int .i64 0), (.int .i64 0), (.int .u8 0), (.int .i64 0), (.int .i64 0)])]) (.seq (.ops [i 7 (.mov (t 0)), i 8 (.mov (t 1)), i 9 (.mov (t 2)), i 10 (.build [(.int .i64 0), (.int .i64 0), (.int .i64 0), (.int .u8 0), (.int .i64 0), (.int .i64 0)] [(0, (1, (k (.int .i64 7)))), (1, (1, (k (.int .i64 3)))), (2, (1, (t 7))), (3, (1, (k (.int .u8 1)))), (4, (1, (t 8))), (5, (1, (t 9)))]), ⟨none, none, (.store 6 (t 6) (t 10)), none, []⟩]) .ret))
def a22 : AFunc := ⟨11, [(.cellN 6 6)], c22⟩
theorem n22 : a22.ntmps = 11 := id rfl
theorem r22 : a22.results = [(.cellN 6 6)] := rfl
theorem b22 : a22.body = c22 := rfl
def c23 : ACode := (.seq (.ops [i 2 (.mov (k (.slice none 0 0))), i 3 (.mov (k (.int .i64 0)))]) (.seq (.seq (.ops [i 6 (.mov (t 0)), i 7 (.call .any (.func 25) [(t 6)]), i 8 (.un .not (t 7))]) (.cond (t 8) (.seq (.ops [i 2 (.mov (k (.slice none 0 0))), i 3 (.mov (k (.int .i64 2)))]) .ret) .skip)) (.seq (.ops [i 10 (.mov (t 0)), i 11 (.call .any (.func 38) [(t 10)]), i 9 (.mov (t 11)), i 12 (.extract 0 (t 9)), i 13 (.extract 1 (t 9)), i 4 (.mov (t 12)), i 5 (.mov (t 13))]) (.seq (.ops [i 14 (.mov (t 5)), i 2 (.mov (t 14)), i 3 (.mov (k (.int .i64 0)))]) .ret))))
def a23 : AFunc := ⟨15, [(.tmp 2), (.tmp 3)], c23⟩
theorem n23 : a23.ntmps = 15 := id rfl
theorem r23 : a23.results = [(.tmp 2), (.tmp 3)] := rfl
theorem b23 : a23.body = c23 := rfl
def l25_1 : ACode := (.seq (.ops [i 11 (.bin .lss (t 10) (t 9))]) (.seq (.cond (t 11) .skip (.exit 0)) (.seq (.block 1 (.seq (.ops [i 12 (.idxAddrS 6 (t 8) (t 10)), i 13 (.loadN 6 (t 12)), i 4 (.alloc [(.int .i64 0), (.int .i64 0), (.int .i64 0), (.int .u8 0), (.int .i64 0), (.int .i64 0)]), ⟨none, none, (.store 6 (t 4) (t 13)), none, []⟩]) (.seq (.ops [i 14 (.loadN 6 (t 4)), i 15 (.call .any (.func 34) [(t 14)]), i 16 (.un .not (t 15))]) (.cond (t 16) (.seq (.ops [i 2 (.mov (k (.bool false)))]) .ret) .skip)))) (.ops [i 17 (.bin .add (t 10) (k (.int .i64 1))), i 10 (.mov (t 17))]))))
def c25 : ACode := (.seq (.ops [i 2 (.mov (k (.bool false)))]) (.seq (.seq (.ops [i 5 (.mov (t 0)), i 6 (.lenSlice (t 5)), i 7 (.bin .gtr (t 6) (k (.int .i64 2000)))]) (.cond (t 7) (.seq (.ops [i 2 (.mov (k (.bool false)))]) .ret) .skip)) (.seq (.seq (.ops [i 8 (.mov (t 0)), i 9 (.lenSlice (t 8)), i 10 (.mov (k (.int .i64 0)))]) (.block 0 (.loop l25_1))) (.seq (.ops [i 2 (.mov (k (.bool true)))]) .ret))))
def a25 : AFunc := ⟨18, [(.tmp 2)], c25⟩
theorem n25 : a25.ntmps = 18 := id rfl
theorem r25 : a25.results = [(.tmp 2)] := rfl
theorem b25 : a25.body = c25 := rfl
def l26_1 : ACode := (.seq (.seq (.ops [i 11 (.mov (t 5)), i 12 (.mov (t 0)), i 13 (.lenSlice (t 12)), i 14 (.bin .lss (t 11) (t 13))]) (.cond (t 14) .skip (.exit 0))) (.seq (.block 1 (.seq (.drawn 0 [i 17 (.mov (t 0)), i 18 (.mov (t 5)), i 19 (.idxAddrS 1 (t 17) (t 18)), i 20 (.load1 (t 19)), i 21 (.mov (t 1)), i 22 (.mov (t 5)), i 23 (.idxAddrS 1 (t 21) (t 22)), i 24 (.load1 (t 23)), i 25 (.bin .neq (t 20) (t 24))]) (.cond (t 25) (.seq (.ops [i 4 (.mov (k (.bool false)))]) .ret) .skip))) (.ops [i 15 (.mov (t 5)), i 16 (.bin .add (t 15) (k (.int .i64 1))), i 5 (.mov (t 16))])))
def c26 : ACode := (.seq (.ops [i 4 (.mov (k (.bool false)))]) (.seq (.seq (.ops [i 6 (.mov (t 0)), i 7 (.lenSlice (t 6)), i 8 (.mov (t 1)), i 9 (.lenSlice (t 8)), i 10 (.bin .neq (t 7) (t 9))]) (.cond (t 10) (.seq (.ops [i 4 (.mov (k (.bool false)))]) .ret) .skip)) (.seq (.seq (.ops [i 5 (.mov (k (.int .i64 0)))]) (.block 0 (.loop l26_1))) (.seq (.ops [i 4 (.mov (k (.bool true)))]) .ret))))
def a26 : AFunc := ⟨26, [(.tmp 4)], c26⟩
theorem n26 : a26.ntmps = 26 := id rfl
theorem r26 : a26.results = [(.tmp 4)] := rfl
theorem b26 : a26.body = c26 := rfl
def c34 : ACode := (.seq (.ops [i 1 (.box (t 0)), i 2 (.mov (k (.bool false)))]) (.seq (.ops [i 3 (.fieldAddr 0 (t 1)), i 4 (.load1 (t 3)), i 5 (.call .any (.func 43) [(t 4)]), i 6 (.mov (t 5)), ⟨(some 7), (some (6, true)), (.fieldAddr 1 (t 1)), none, []⟩, ⟨(some 8), (some (6, true)), (.load1 (t 7)), none, []⟩, ⟨(some 9), (some (6, true)), (.call .any (.func 43) [(t 8)]), none, []⟩, i 10 (.pick (t 6) (t 9) (k (.bool false))), i 11 (.mov (t 10)), ⟨(some 12), (some (11, true)), (.fieldAddr 2 (t 1)), none, []⟩, ⟨(some 13), (some (11, true)), (.load1 (t 12)), none, []⟩, ⟨(some 14), (some (11, true)), (.call .any (.func 43) [(t 13)]), none, []⟩, i 15 (.pick (t 11) (t 14) (k (.bool false))), i 16 (.mov (t 15)), ⟨(some 17), (some (16, true)), (.fieldAddr 3 (t 1)), none, []⟩, ⟨(some 18), (some (16, true)), (.load1 (t 17)), none, []⟩, ⟨(some 19), (some (16, true)), (.bin .geq (t 18) (k (.int .u8 1))), none, []⟩, i 20 (.pick (t 16) (t 19) (k (.bool false))), i 21 (.mov (t 20)), ⟨(some 22), (some (21, true)), (.fieldAddr 3 (t 1)), none, []⟩, ⟨(some 23), (some (21, true)), (.load1 (t 22)), none, []⟩, ⟨(some 24), (some (21, true)), (.bin .leq (t 23) (k (.int .u8 4))), none, []⟩, i 25 (.pick (t 21) (t 24) (k (.bool false))), i 26 (.mov (t 25)), ⟨(some 27), (some (26, true)), (.fieldAddr 4 (t 1)), none, []⟩, ⟨(some 28), (some (26, true)), (.load1 (t 27)), none, []⟩, ⟨(some 29), (some (26, true)), (.call .any (.func 44) [(t 28)]), none, []⟩, i 30 (.pick (t 26) (t 29) (k (.bool false))), i 31 (.mov (t 30)), ⟨(some 32), (some (31, true)), (.fieldAddr 5 (t 1)), none, []⟩, ⟨(some 33), (some (31, true)), (.load1 (t 32)), none, []⟩, ⟨(some 34), (some (31, true)), (.call .any (.func 44) [(t 33)]), none, []⟩, i 35 (.pick (t 31) (t 34) (k (.bool false))), i 2 (.mov (t 35))]) .ret))
def a34 : AFunc := ⟨36, [(.tmp 2)], c34⟩
theorem n34 : a34.ntmps = 36 := id rfl
theorem r34 : a34.results = [(.tmp 2)] := rfl
theorem b34 : a34.body = c34 := rfl
def l35_1 : ACode := (.seq (.ops [i 9 (.bin .lss (t 8) (t 7))]) (.seq (.cond (t 9) .skip (.exit 0)) (.seq (.block 1 (.seq (.ops [i 10 (.mov (t 8)), i 11 (.idxAddrS 3 (t 6) (t 8)), i 12 (.loadN 3 (t 11)), i 4 (.alloc [(.int .i64 0), (.int .i64 0), (.int .i64 0)]), i 3 (.mov (t 10)), ⟨none, none, (.store 3 (t 4) (t 12)), none, []⟩]) (.seq (.seq (.ops [i 13 (.fieldAddr 0 (t 4)), i 14 (.load1 (t 13)), i 15 (.call .any (.func 43) [(t 14)]), i 16 (.un .not (t 15)), i 17 (.mov (t 16)), ⟨(some 18), (some (17, false)), (.fieldAddr 1 (t 4)), none, []⟩, ⟨(some 19), (some (17, false)), (.load1 (t 18)), none, []⟩, ⟨(some 20), (some (17, false)), (.call .any (.func 44) [(t 19)]), none, []⟩, ⟨(some 21), (some (17, false)), (.un .not (t 20)), none, []⟩, i 22 (.pick (t 17) (k (.bool true)) (t 21)), i 23 (.mov (t 22)), ⟨(some 24), (some (23, false)), (.fieldAddr 2 (t 4)), none, []⟩, ⟨(some 25), (some (23, false)), (.load1 (t 24)), none, []⟩, ⟨(some 26), (some (23, false)), (.bin .lss (t 25) (k (.int .i64 (-1051898399)))), none, []⟩, i 27 (.pick (t 23) (k (.bool true)) (t 26)), i 28 (.mov (t 27)), ⟨(some 29), (some (28, false)), (.fieldAddr 2 (t 4)), none, []⟩, ⟨(some 30), (some (28, false)), (.load1 (t 29)), none, []⟩, ⟨(some 31), (some (28, false)), (.bin .gtr (t 30) (k (.int .i64 1051898399))), none, []⟩, i 32 (.pick (t 28) (k (.bool true)) (t 31))]) (.cond (t 32) (.seq (.ops [i 2 (.mov (k (.bool false)))]) .ret) .skip)) (.seq (.seq (.ops [i 33 (.mov (t 3)), i 34 (.bin .eql (t 33) (k (.int .i64 0)))]) (.cond (t 34) (.exit 1) .skip)) (.seq (.ops [i 35 (.mov (t 0)), i 36 (.mov (t 3)), i 37 (.bin .sub (t 36) (k (.int .i64 1))), i 38 (.idxAddrS 3 (t 35) (t 37)), i 39 (.loadN 3 (t 38)), i 5 (.alloc [(.int .i64 0), (.int .i64 0), (.int .i64 0)]), ⟨none, none, (.store 3 (t 5) (t 39)), none, []⟩]) (.seq (.ops [i 40 (.fieldAddr 0 (t 4)), i 41 (.load1 (t 40)), i 42 (.fieldAddr 0 (t 5)), i 43 (.load1 (t 42)), i 44 (.bin .lss (t 41) (t 43)), i 45 (.mov (t 44)), ⟨(some 46), (some (45, false)), (.fieldAddr 0 (t 4)), none, []⟩, ⟨(some 47), (some (45, false)), (.load1 (t 46)), none, []⟩, ⟨(some 48), (some (45, false)), (.fieldAddr 0 (t 5)), none, []⟩, ⟨(some 49), (some (45, false)), (.load1 (t 48)), none, []⟩, ⟨(some 50), (some (45, false)), (.bin .eql (t 47) (t 49)), none, []⟩, ⟨(some 51), (some (45, false)), (.mov (t 50)), none, []⟩, ⟨(some 52), (some (51, true)), (.fieldAddr 1 (t 4)), none, []⟩, ⟨(some 53), (some (51, true)), (.load1 (t 52)), none, []⟩, ⟨(some 54), (some (51, true)), (.fieldAddr 1 (t 5)), none, []⟩, ⟨(some 55), (some (51, true)), (.load1 (t 54)), none, []⟩, ⟨(some 56), (some (51, true)), (.bin .leq (t 53) (t 55)), none, []⟩, ⟨(some 57), (some (45, false)), (.pick (t 51) (t 56) (k (.bool false))), none, []⟩, i 58 (.pick (t 45) (k (.bool true)) (t 57))]) (.cond (t 58) (.seq (.ops [i 2 (.mov (k (.bool false)))]) .ret) .skip))))))) (.ops [i 59 (.bin .add (t 8) (k (.int .i64 1))), i 8 (.mov (t 59))]))))
def c35 : ACode := (.seq (.ops [i 2 (.mov (k (.bool false)))]) (.seq (.seq (.ops [i 6 (.mov (t 0)), i 7 (.lenSlice (t 6)), i 8 (.mov (k (.int .i64 0)))]) (.block 0 (.loop l35_1))) (.seq (.ops [i 2 (.mov (k (.bool true)))]) .ret)))
def a35 : AFunc := ⟨60, [(.tmp 2)], c35⟩
theorem n35 : a35.ntmps = 60 := id rfl
theorem r35 : a35.results = [(.tmp 2)] := rfl
theorem b35 : a35.body = c35 := rfl
def c36 : ACode := (.seq (.ops [i 3 (.box (t 1)), i 4 (.mov (k (.int .i64 0)))]) (.seq (.drawn 0 [i 5 (.fieldAddr 4 (t 3)), i 6 (.load1 (t 5)), i 7 (.mov (t 0)), i 8 (.fieldAddr 2 (t 3)), i 9 (.load1 (t 8)), i 10 (.fieldAddr 4 (t 3)), i 11 (.load1 (t 10)), i 12 (.call .pure (.func 45) [(t 7), (t 9), (t 11)]), i 13 (.bin .add (t 6) (t 12)), i 14 (.minmax true [(t 13), (k (.int .i64 0))]), i 15 (.fieldAddr 5 (t 3)), i 16 (.load1 (t 15)), i 17 (.minmax false [(t 14), (t 16)]), i 4 (.mov (t 17))]) .ret))
def a36 : AFunc := ⟨18, [(.tmp 4)], c36⟩
theorem n36 : a36.ntmps = 18 := id rfl
theorem r36 : a36.results = [(.tmp 4)] := rfl
theorem b36 : a36.body = c36 := rfl
def l38_1 : ACode := (.seq (.ops [i 40 (.bin .lss (t 39) (t 38))]) (.seq (.cond (t 40) .skip (.exit 2)) (.seq (.block 3 (.seq (.ops [i 41 (.idxAddrS 7 (t 37) (t 39)), i 42 (.loadN 7 (t 41)), i 10 (.alloc [(.int .i64 0), (.int .i64 0), (.int .i64 0), (.int .u8 0), (.int .i64 0), (.int .i64 0), (.int .i64 0)]), ⟨none, none, (.store 7 (t 10) (t 42)), none, []⟩]) (.seq (.ops [i 43 (.fieldAddr 0 (t 10)), i 44 (.fieldAddr 0 (t 43)), i 45 (.load1 (t 44)), i 46 (.fieldAddr 0 (t 10)), i 47 (.fieldAddr 1 (t 46)), i 48 (.load1 (t 47)), i 49 (.fieldAddr 0 (t 10)), i 50 (.fieldAddr 3 (t 49)), i 51 (.load1 (t 50)), i 52 (.build [(.int .i64 0), (.int .i64 0), (.int .u8 0)] [(0, (1, (t 45))), (1, (1, (t 48))), (2, (1, (t 51)))]), i 11 (.alloc [(.int .i64 0), (.int .i64 0), (.int .u8 0)]), ⟨none, none, (.store 3 (t 11) (t 52)), none, []⟩]) (.seq (.seq (.ops [i 54 (.mov (t 8)), i 55 (.loadN 3 (t 11)), i 56 (.lookup (.ints [.i64, .i64, .u8]) (.int .i64 0) true (t 54) (t 55)), i 53 (.mov (t 56)), i 57 (.extract 0 (t 53)), i 58 (.extract 1 (t 53)), i 12 (.mov (t 57)), i 13 (.mov (t 58))]) (.seq (.ops [i 59 (.mov (t 13)), i 60 (.mov (t 59)), ⟨(some 61), (some (60, true)), (.fieldAddr 6 (t 10)), none, []⟩, ⟨(some 62), (some (60, true)), (.load1 (t 61)), none, []⟩, ⟨(some 63), (some (60, true)), (.mov (t 12)), none, []⟩, ⟨(some 64), (some (60, true)), (.bin .sub (t 62) (t 63)), none, []⟩, ⟨(some 65), (some (60, true)), (.bin .leq (t 64) (k (.int .i64 10))), none, []⟩, i 66 (.pick (t 60) (t 65) (k (.bool false)))]) (.cond (t 66) (.seq (.ops [i 67 (.mov (t 3)), i 68 (.loadN 7 (t 10)), i 69 (.buildSlice 1 [(.int .i64 0), (.int .i64 0), (.int .i64 0), (.int .u8 0), (.int .i64 0), (.int .i64 0), (.int .i64 0)] [(0, (7, (t 68)))]), i 70 (.append 7 56 false (t 67) (t 69)), i 3 (.mov (t 70))]) (.exit 3)) .skip))) (.seq (.ops [i 71 (.mov (t 8)), i 72 (.loadN 3 (t 11)), i 73 (.fieldAddr 6 (t 10)), i 74 (.load1 (t 73)), ⟨none, none, (.mapUpdate (.ints [.i64, .i64, .u8]) (t 71) (t 72) (t 74)), none, []⟩]) (.ops [i 75 (.mov (t 2)), i 76 (.loadN 7 (t 10)), i 77 (.buildSlice 1 [(.int .i64 0), (.int .i64 0), (.int .i64 0), (.int .u8 0), (.int .i64 0), (.int .i64 0), (.int .i64 0)] [(0, (7, (t 76)))]), i 78 (.append 7 56 false (t 75) (t 77)), i 2 (.mov (t 78))])))))) (.ops [i 79 (.bin .add (t 39) (k (.int .i64 1))), i 39 (.mov (t 79))]))))
def l38_2 : ACode := (.seq (.ops [i 22 (.bin .lss (t 21) (t 20))]) (.seq (.cond (t 22) .skip (.exit 0)) (.seq (.block 1 (.seq (.ops [i 23 (.idxAddrS 6 (t 19) (t 21)), i 24 (.loadN 6 (t 23)), i 7 (.alloc [(.int .i64 0), (.int .i64 0), (.int .i64 0), (.int .u8 0), (.int .i64 0), (.int .i64 0)]), ⟨none, none, (.store 6 (t 7) (t 24)), none, []⟩]) (.drawn 2 [i 25 (.mov (t 5)), ⟨(some 26), none, (.loadN 6 (t 7)), none, [0, 1]⟩, i 27 (.mov (t 4)), ⟨(some 28), none, (.loadN 6 (t 7)), none, [0, 1]⟩, ⟨(some 29), none, (.call .pure (.func 36) [(t 27), (t 28)]), none, [0, 1]⟩, i 30 (.build [(.int .i64 0), (.int .i64 0), (.int .i64 0), (.int .u8 0), (.int .i64 0), (.int .i64 0), (.int .i64 0)] [(0, (6, (t 26))), (6, (1, (t 29)))]), ⟨(some 31), none, (.buildSlice 1 [(.int .i64 0), (.int .i64 0), (.int .i64 0), (.int .u8 0), (.int .i64 0), (.int .i64 0), (.int .i64 0)] [(0, (7, (t 30)))]), (some 0), []⟩, ⟨(some 32), none, (.append 7 56 false (t 25) (t 31)), (some 1), []⟩, i 5 (.mov (t 32))]))) (.ops [i 33 (.bin .add (t 21) (k (.int .i64 1))), i 21 (.mov (t 33))]))))
def c38 : ACode := (.seq (.ops [i 2 (.mov (k (.slice none 0 0))), i 3 (.mov (k (.slice none 0 0)))]) (.seq (.ops [i 14 (.mov (t 0)), i 15 (.call .any (.func 39) [(t 14)]), i 4 (.mov (t 15))]) (.seq (.ops [i 16 (.mov (t 0)), i 17 (.lenSlice (t 16)), i 18 (.makeSlice 7 56 [(.int .i64 0), (.int .i64 0), (.int .i64 0), (.int .u8 0), (.int .i64 0), (.int .i64 0), (.int .i64 0)] (k (.int .i64 0)) (t 17)), i 5 (.mov (t 18))]) (.seq (.seq (.ops [i 19 (.mov (t 0)), i 20 (.lenSlice (t 19)), i 21 (.mov (k (.int .i64 0)))]) (.block 0 (.loop l38_2))) (.seq (.ops [i 34 (.mov (t 5)), i 35 (.call .any (.func 47) [(t 34), (.func 48)])]) (.seq (.ops [i 36 (.makeMap none), i 8 (.mov (t 36))]) (.seq (.seq (.ops [i 37 (.mov (t 5)), i 38 (.lenSlice (t 37)), i 39 (.mov (k (.int .i64 0)))]) (.block 2 (.loop l38_1))) (.seq (.ops [i 80 (.mov (t 2)), i 81 (.mov (t 3)), i 2 (.mov (t 80)), i 3 (.mov (t 81))]) .ret))))))))
def a38 : AFunc := ⟨82, [(.tmp 2), (.tmp 3)], c38⟩
theorem n38 : a38.ntmps = 82 := id rfl
theorem r38 : a38.results = [(.tmp 2), (.tmp 3)] := rfl
theorem b38 : a38.body = c38 := rfl
def l39_1 : ACode := (.seq (.ops [i 15 (.bin .lss (t 14) (t 13))]) (.seq (.cond (t 15) .skip (.exit 0)) (.seq (.block 1 (.seq (.ops [i 16 (.idxAddrS 6 (t 12) (t 14)), i 17 (.loadN 6 (t 16)), i 5 (.alloc [(.int .i64 0), (.int .i64 0), (.int .i64 0), (.int .u8 0), (.int .i64 0), (.int .i64 0)]), ⟨none, none, (.store 6 (t 5) (t 17)), none, []⟩]) (.seq (.ops [i 18 (.fieldAddr 2 (t 5)), i 19 (.load1 (t 18)), i 20 (.fieldAddr 5 (t 5)), i 21 (.load1 (t 20)), i 22 (.bin .quo (t 21) (k (.int .i64 1440))), i 23 (.build [(.int .i64 0), (.int .i64 0)] [(0, (1, (t 19))), (1, (1, (t 22)))]), i 6 (.alloc [(.int .i64 0), (.int .i64 0)]), ⟨none, none, (.store 2 (t 6) (t 23)), none, []⟩]) (.seq (.ops [i 24 (.fieldAddr 2 (t 5)), i 25 (.load1 (t 24)), i 26 (.fieldAddr 4 (t 5)), i 27 (.load1 (t 26)), i 28 (.fieldAddr 5 (t 5)), i 29 (.load1 (t 28)), i 30 (.fieldAddr 4 (t 5)), i 31 (.load1 (t 30)), i 32 (.bin .sub (t 29) (t 31)), i 33 (.build [(.int .i64 0), (.int .i64 0), (.int .i64 0)] [(0, (1, (t 25))), (1, (1, (t 27))), (2, (1, (t 32)))]), i 7 (.alloc [(.int .i64 0), (.int .i64 0), (.int .i64 0)]), ⟨none, none, (.store 3 (t 7) (t 33)), none, []⟩]) (.seq (.ops [i 35 (.mov (t 3)), i 36 (.loadN 2 (t 6)), i 37 (.lookup (.ints [.i64, .i64]) (.agg #[(.int .i64 0), (.int .i64 0), (.int .i64 0)]) true (t 35) (t 36)), i 34 (.mov (t 37)), i 38 (.extract 0 (t 34)), i 39 (.extract 1 (t 34)), i 8 (.alloc [(.int .i64 0), (.int .i64 0), (.int .i64 0)]), ⟨none, none, (.store 3 (t 8) (t 38)), none, []⟩, i 9 (.mov (t 39))]) (.seq (.ops [i 40 (.mov (t 9)), i 41 (.un .not (t 40)), i 42 (.mov (t 41)), ⟨(some 43), (some (42, false)), (.fieldAddr 2 (t 7)), none, []⟩, ⟨(some 44), (some (42, false)), (.load1 (t 43)), none, []⟩, ⟨(some 45), (some (42, false)), (.fieldAddr 2 (t 8)), none, []⟩, ⟨(some 46), (some (42, false)), (.load1 (t 45)), none, []⟩, ⟨(some 47), (some (42, false)), (.bin .lss (t 44) (t 46)), none, []⟩, i 48 (.pick (t 42) (k (.bool true)) (t 47)), i 49 (.mov (t 48)), ⟨(some 50), (some (49, false)), (.fieldAddr 2 (t 7)), none, []⟩, ⟨(some 51), (some (49, false)), (.load1 (t 50)), none, []⟩, ⟨(some 52), (some (49, false)), (.fieldAddr 2 (t 8)), none, []⟩, ⟨(some 53), (some (49, false)), (.load1 (t 52)), none, []⟩, ⟨(some 54), (some (49, false)), (.bin .eql (t 51) (t 53)), none, []⟩, ⟨(some 55), (some (49, false)), (.mov (t 54)), none, []⟩, ⟨(some 56), (some (55, true)), (.fieldAddr 1 (t 7)), none, []⟩, ⟨(some 57), (some (55, true)), (.load1 (t 56)), none, []⟩, ⟨(some 58), (some (55, true)), (.fieldAddr 1 (t 8)), none, []⟩, ⟨(some 59), (some (55, true)), (.load1 (t 58)), none, []⟩, ⟨(some 60), (some (55, true)), (.bin .lss (t 57) (t 59)), none, []⟩, ⟨(some 61), (some (49, false)), (.pick (t 55) (t 60) (k (.bool false))), none, []⟩, i 62 (.pick (t 49) (k (.bool true)) (t 61))]) (.cond (t 62) (.ops [i 63 (.mov (t 3)), i 64 (.loadN 2 (t 6)), i 65 (.loadN 3 (t 7)), ⟨none, none, (.mapUpdate (.ints [.i64, .i64]) (t 63) (t 64) (t 65)), none, []⟩]) .skip))))))) (.ops [i 66 (.bin .add (t 14) (k (.int .i64 1))), i 14 (.mov (t 66))]))))
def c39 : ACode := (.seq (.ops [i 2 (.mov (k (.slice none 0 0)))]) (.seq (.ops [i 11 (.makeMap none), i 3 (.mov (t 11))]) (.seq (.seq (.ops [i 12 (.mov (t 0)), i 13 (.lenSlice (t 12)), i 14 (.mov (k (.int .i64 0)))]) (.block 0 (.loop l39_1))) (.seq (.ops [i 67 (.mov (t 3)), i 68 (.call .any (.func 50) [(t 67)]), i 69 (.call .any (.func 49) [(t 68), (.func 51)]), i 10 (.mov (t 69))]) (.seq (.ops [i 70 (.mov (t 10)), i 71 (.call .any (.func 54) [(t 70), (.func 55)]), i 2 (.mov (t 71))]) .ret)))))
def a39 : AFunc := ⟨72, [(.tmp 2)], c39⟩
theorem n39 : a39.ntmps = 72 := id rfl
theorem r39 : a39.results = [(.tmp 2)] := rfl
theorem b39 : a39.body = c39 := rfl
def c43 : ACode := (.seq (.ops [i 2 (.mov (k (.bool false)))]) (.seq (.ops [i 3 (.mov (t 0)), i 4 (.bin .geq (t 3) (k (.int .i64 1))), i 5 (.mov (t 4)), ⟨(some 6), (some (5, true)), (.mov (t 0)), none, []⟩, ⟨(some 7), (some (5, true)), (.bin .leq (t 6) (k (.int .i64 999999))), none, []⟩, i 8 (.pick (t 5) (t 7) (k (.bool false))), i 2 (.mov (t 8))]) .ret))
def a43 : AFunc := ⟨9, [(.tmp 2)], c43⟩
theorem n43 : a43.ntmps = 9 := id rfl
theorem r43 : a43.results = [(.tmp 2)] := rfl
theorem b43 : a43.body = c43 := rfl
def c44 : ACode := (.seq (.ops [i 2 (.mov (k (.bool false)))]) (.seq (.ops [i 3 (.mov (t 0)), i 4 (.bin .geq (t 3) (k (.int .i64 0))), i 5 (.mov (t 4)), ⟨(some 6), (some (5, true)), (.mov (t 0)), none, []⟩, ⟨(some 7), (some (5, true)), (.bin .leq (t 6) (k (.int .i64 1051898399))), none, []⟩, i 8 (.pick (t 5) (t 7) (k (.bool false))), i 2 (.mov (t 8))]) .ret))
def a44 : AFunc := ⟨9, [(.tmp 2)], c44⟩
theorem n44 : a44.ntmps = 9 := id rfl
theorem r44 : a44.results = [(.tmp 2)] := rfl
theorem b44 : a44.body = c44 := rfl
def ga45_1 : ACode := (.ops [i 8 (.alloc [(.int .i64 0), (.int .i64 0), (.int .i64 0)]), ⟨none, none, (.store 3 (t 8) (t 12)), none, []⟩])
def gb45_1 : ACode := (.block 1 (.block 2 (.seq (.ops [i 33 (.load1 (t 5)), i 34 (.fieldAddr 1 (t 8)), i 35 (.load1 (t 34)), i 36 (.bin .gtr (t 33) (t 35)), i 32 (.mov (t 36))]) (.cond (t 32) (.ops [i 37 (.loadN 3 (t 8)), ⟨none, none, (.store 3 (t 7) (t 37)), none, []⟩]) (.seq (.ops [i 39 (.loadN 3 (t 7)), i 40 (.build [(.int .i64 0), (.int .i64 0), (.int .i64 0)] []), i 41 (.eqv false (.agg [(.int .i64), (.int .i64), (.int .i64)]) (t 39) (t 40)), i 38 (.mov (t 41))]) (.cond (t 38) (.seq (.ops [i 42 (.fieldAddr 2 (t 8)), i 43 (.load1 (t 42)), ⟨none, none, (.store 1 (t 6) (t 43)), none, []⟩]) .retR) (.seq (.drawn 0 [i 13 (.fieldAddr 2 (t 7)), i 14 (.load1 (t 13)), i 15 (.fieldAddr 2 (t 8)), i 16 (.load1 (t 15)), i 17 (.fieldAddr 2 (t 7)), i 18 (.load1 (t 17)), i 19 (.bin .sub (t 16) (t 18)), i 20 (.load1 (t 5)), i 21 (.fieldAddr 1 (t 7)), i 22 (.load1 (t 21)), i 23 (.bin .sub (t 20) (t 22)), i 24 (.bin .mul (t 19) (t 23)), i 25 (.fieldAddr 1 (t 8)), i 26 (.load1 (t 25)), i 27 (.fieldAddr 1 (t 7)), i 28 (.load1 (t 27)), i 29 (.bin .sub (t 26) (t 28)), i 30 (.call .pure (.func 58) [(t 24), (t 29)]), i 31 (.bin .add (t 14) (t 30)), ⟨none, none, (.store 1 (t 6) (t 31)), none, []⟩]) .retR)))))))
def c45 : ACode := (.seq (.seq (.ops [i 5 (.box (t 2)), i 6 (.alloc [(.int .i64 0)])]) (.seq (.ops [i 7 (.alloc [(.int .i64 0), (.int .i64 0), (.int .i64 0)])]) (.seq (.seq (.ops [i 9 (.mov (t 0)), i 10 (.mov (t 1)), i 11 (.call .any (.func 57) [(t 9), (t 10)])]) (.block 0 (.rangeF (t 11) [12] ga45_1 gb45_1))) (.seq (.ops [i 44 (.fieldAddr 2 (t 7)), i 45 (.load1 (t 44)), ⟨none, none, (.store 1 (t 6) (t 45)), none, []⟩]) .retM)))) .retM)
def a45 : AFunc := ⟨46, [(.cell1 6)], c45⟩
theorem n45 : a45.ntmps = 46 := id rfl
theorem r45 : a45.results = [(.cell1 6)] := rfl
theorem b45 : a45.body = c45 := rfl
def c47 : ACode := (.seq (.ops [i 5 (.mov (t 0)), i 6 (.lenSlice (t 5)), i 4 (.mov (t 6))]) (.ops [i 7 (.mov (t 0)), i 8 (.mov (t 4)), i 9 (.mov (t 4)), i 10 (.conv .u64 (t 9)), i 11 (.call .any (.func 60) [(t 10)]), i 12 (.mov (t 1)), i 13 (.call .any (.func 59) [(t 7), (k (.int .i64 0)), (t 8), (t 11), (t 12)])]))
def a47 : AFunc := ⟨14, [], c47⟩
theorem n47 : a47.ntmps = 14 := id rfl
theorem r47 : a47.results = [] := rfl
theorem b47 : a47.body = c47 := rfl
def c48 : ACode := (.seq (.ops [i 2 (.box (t 0)), i 3 (.box (t 1)), i 4 (.mov (k (.int .i64 0)))]) (.seq (.drawn 1 [i 5 (.fieldAddr 6 (t 2)), ⟨(some 6), none, (.load1 (t 5)), none, [0]⟩, i 7 (.fieldAddr 6 (t 3)), ⟨(some 8), none, (.load1 (t 7)), none, [0]⟩, ⟨(some 9), none, (.call .pure (.func 53) [(t 6), (t 8)]), none, [0]⟩, i 10 (.fieldAddr 0 (t 2)), i 11 (.fieldAddr 3 (t 10)), ⟨(some 12), none, (.load1 (t 11)), none, [0]⟩, i 13 (.fieldAddr 0 (t 3)), i 14 (.fieldAddr 3 (t 13)), ⟨(some 15), none, (.load1 (t 14)), none, [0]⟩, ⟨(some 16), none, (.call .pure (.func 61) [(t 12), (t 15)]), none, [0]⟩, i 17 (.fieldAddr 0 (t 2)), i 18 (.fieldAddr 1 (t 17)), ⟨(some 19), none, (.load1 (t 18)), none, [0]⟩, i 20 (.fieldAddr 0 (t 3)), i 21 (.fieldAddr 1 (t 20)), ⟨(some 22), none, (.load1 (t 21)), none, [0]⟩, ⟨(some 23), none, (.call .pure (.func 53) [(t 19), (t 22)]), none, [0]⟩, i 24 (.fieldAddr 0 (t 2)), i 25 (.fieldAddr 2 (t 24)), ⟨(some 26), none, (.load1 (t 25)), none, [0]⟩, i 27 (.fieldAddr 0 (t 3)), i 28 (.fieldAddr 2 (t 27)), ⟨(some 29), none, (.load1 (t 28)), none, [0]⟩, ⟨(some 30), none, (.call .pure (.func 53) [(t 26), (t 29)]), none, [0]⟩, i 31 (.fieldAddr 0 (t 2)), i 32 (.fieldAddr 0 (t 31)), ⟨(some 33), none, (.load1 (t 32)), none, [0]⟩, i 34 (.fieldAddr 0 (t 3)), i 35 (.fieldAddr 0 (t 34)), ⟨(some 36), none, (.load1 (t 35)), none, [0]⟩, ⟨(some 37), none, (.call .pure (.func 53) [(t 33), (t 36)]), none, [0]⟩, i 38 (.fieldAddr 0 (t 2)), i 39 (.fieldAddr 4 (t 38)), ⟨(some 40), none, (.load1 (t 39)), none, [0]⟩, i 41 (.fieldAddr 0 (t 3)), i 42 (.fieldAddr 4 (t 41)), ⟨(some 43), none, (.load1 (t 42)), none, [0]⟩, ⟨(some 44), none, (.call .pure (.func 53) [(t 40), (t 43)]), none, [0]⟩, i 45 (.fieldAddr 0 (t 2)), i 46 (.fieldAddr 5 (t 45)), ⟨(some 47), none, (.load1 (t 46)), none, [0]⟩, i 48 (.fieldAddr 0 (t 3)), i 49 (.fieldAddr 5 (t 48)), ⟨(some 50), none, (.load1 (t 49)), none, [0]⟩, ⟨(some 51), none, (.call .pure (.func 53) [(t 47), (t 50)]), none, [0]⟩, ⟨(some 52), none, (.buildSlice 7 [(.int .i64 0), (.int .i64 0), (.int .i64 0), (.int .i64 0), (.int .i64 0), (.int .i64 0), (.int .i64 0)] [(0, (1, (t 9))), (1, (1, (t 16))), (2, (1, (t 23))), (3, (1, (t 30))), (4, (1, (t 37))), (5, (1, (t 44))), (6, (1, (t 51)))]), (some 0), []⟩, i 53 (.call .pure (.func 52) [(t 52)]), i 4 (.mov (t 53))]) .ret))
def a48 : AFunc := ⟨54, [(.tmp 4)], c48⟩
theorem n48 : a48.ntmps = 54 := id rfl
theorem r48 : a48.results = [(.tmp 4)] := rfl
theorem b48 : a48.body = c48 := rfl
def c49 : ACode := (.seq (.ops [i 4 (.mov (k (.slice none 0 0)))]) (.seq (.ops [i 6 (.mov (t 0)), i 7 (.call .any (.func 62) [(t 6)]), i 5 (.mov (t 7))]) (.seq (.ops [i 8 (.mov (t 5)), i 9 (.mov (t 1)), i 10 (.call .any (.func 63) [(t 8), (t 9)])]) (.seq (.ops [i 11 (.mov (t 5)), i 4 (.mov (t 11))]) .ret))))
def a49 : AFunc := ⟨12, [(.tmp 4)], c49⟩
theorem n49 : a49.ntmps = 12 := id rfl
theorem r49 : a49.results = [(.tmp 4)] := rfl
theorem b49 : a49.body = c49 := rfl
def c50 : ACode := (.seq (.ops [i 1 (.box (t 0)), i 2 (.mov (k .nilFunc))]) (.seq (.ops [i 3 (.makeFunc 64 [] [(t 1)]), i 2 (.mov (t 3))]) .ret))
def a50 : AFunc := ⟨4, [(.tmp 2)], c50⟩
theorem n50 : a50.ntmps = 4 := id rfl
theorem r50 : a50.results = [(.tmp 2)] := rfl
theorem b50 : a50.body = c50 := rfl
def c51 : ACode := (.seq (.ops [i 2 (.box (t 0)), i 3 (.box (t 1)), i 4 (.mov (k (.int .i64 0)))]) (.seq (.drawn 1 [i 5 (.fieldAddr 0 (t 2)), ⟨(some 6), none, (.load1 (t 5)), none, [0]⟩, i 7 (.fieldAddr 0 (t 3)), ⟨(some 8), none, (.load1 (t 7)), none, [0]⟩, ⟨(some 9), none, (.call .pure (.func 53) [(t 6), (t 8)]), none, [0]⟩, i 10 (.fieldAddr 1 (t 2)), ⟨(some 11), none, (.load1 (t 10)), none, [0]⟩, i 12 (.fieldAddr 1 (t 3)), ⟨(some 13), none, (.load1 (t 12)), none, [0]⟩, ⟨(some 14), none, (.call .pure (.func 53) [(t 11), (t 13)]), none, [0]⟩, i 15 (.fieldAddr 2 (t 2)), ⟨(some 16), none, (.load1 (t 15)), none, [0]⟩, i 17 (.fieldAddr 2 (t 3)), ⟨(some 18), none, (.load1 (t 17)), none, [0]⟩, ⟨(some 19), none, (.call .pure (.func 53) [(t 16), (t 18)]), none, [0]⟩, ⟨(some 20), none, (.buildSlice 3 [(.int .i64 0), (.int .i64 0), (.int .i64 0)] [(0, (1, (t 9))), (1, (1, (t 14))), (2, (1, (t 19)))]), (some 0), []⟩, i 21 (.call .pure (.func 52) [(t 20)]), i 4 (.mov (t 21))]) .ret))
def a51 : AFunc := ⟨22, [(.tmp 4)], c51⟩
theorem n51 : a51.ntmps = 22 := id rfl
theorem r51 : a51.results = [(.tmp 4)] := rfl
theorem b51 : a51.body = c51 := rfl
def l52_1 : ACode := (.seq (.ops [i 9 (.bin .lss (t 8) (t 7))]) (.seq (.cond (t 9) .skip (.exit 0)) (.seq (.block 1 (.seq (.ops [i 10 (.idxAddrS 1 (t 6) (t 8)), i 11 (.load1 (t 10)), i 5 (.mov (t 11))]) (.seq (.ops [i 12 (.mov (t 5)), i 13 (.mov (t 3)), i 14 (.bin .neq (t 12) (t 13))]) (.cond (t 14) (.seq (.ops [i 15 (.mov (t 5)), i 2 (.mov (t 15))]) .ret) .skip)))) (.ops [i 16 (.bin .add (t 8) (k (.int .i64 1))), i 8 (.mov (t 16))]))))
def c52 : ACode := (.seq (.ops [i 2 (.mov (k (.int .i64 0)))]) (.seq (.ops [i 3 (.mov (k (.int .i64 0)))]) (.seq (.seq (.ops [i 6 (.mov (t 0)), i 7 (.lenSlice (t 6)), i 8 (.mov (k (.int .i64 0)))]) (.block 0 (.loop l52_1))) (.seq (.ops [i 17 (.mov (t 3)), i 2 (.mov (t 17))]) .ret))))
def a52 : AFunc := ⟨18, [(.tmp 2)], c52⟩
theorem n52 : a52.ntmps = 18 := id rfl
theorem r52 : a52.results = [(.tmp 2)] := rfl
theorem b52 : a52.body = c52 := rfl
def c53 : ACode := (.seq (.ops [i 4 (.mov (k (.int .i64 0)))]) (.seq (.ops [i 7 (.mov (t 0)), i 8 (.call .any (.func 65) [(t 7)]), i 5 (.mov (t 8))]) (.seq (.ops [i 9 (.mov (t 1)), i 10 (.call .any (.func 65) [(t 9)]), i 6 (.mov (t 10))]) (.seq (.seq (.ops [i 11 (.mov (t 5))]) (.cond (t 11) (.seq (.seq (.ops [i 12 (.mov (t 6))]) (.cond (t 12) (.seq (.ops [i 4 (.mov (k (.int .i64 0)))]) .ret) .skip)) (.seq (.ops [i 4 (.mov (k (.int .i64 (-1))))]) .ret)) .skip)) (.seq (.seq (.ops [i 13 (.mov (t 6))]) (.cond (t 13) (.seq (.ops [i 4 (.mov (k (.int .i64 1)))]) .ret) .skip)) (.seq (.seq (.ops [i 14 (.mov (t 0)), i 15 (.mov (t 1)), i 16 (.bin .lss (t 14) (t 15))]) (.cond (t 16) (.seq (.ops [i 4 (.mov (k (.int .i64 (-1))))]) .ret) .skip)) (.seq (.seq (.ops [i 17 (.mov (t 0)), i 18 (.mov (t 1)), i 19 (.bin .gtr (t 17) (t 18))]) (.cond (t 19) (.seq (.ops [i 4 (.mov (k (.int .i64 1)))]) .ret) .skip)) (.seq (.ops [i 4 (.mov (k (.int .i64 0)))]) .ret))))))))
def a53 : AFunc := ⟨20, [(.tmp 4)], c53⟩
theorem n53 : a53.ntmps = 20 := id rfl
theorem r53 : a53.results = [(.tmp 4)] := rfl
theorem b53 : a53.body = c53 := rfl
def l54_1 : ACode := (.seq (.seq (.ops [i 32 (.mov (t 7)), i 33 (.mov (t 6)), i 34 (.lenSlice (t 33)), i 35 (.bin .lss (t 32) (t 34))]) (.cond (t 35) .skip (.exit 2))) (.seq (.block 3 (.seq (.drawn 0 [i 38 (.mov (t 1)), i 39 (.mov (t 6)), i 40 (.mov (t 7)), i 41 (.idxAddrS 3 (t 39) (t 40)), i 42 (.loadN 3 (t 41)), i 43 (.mov (t 6)), i 44 (.mov (t 7)), i 45 (.bin .sub (t 44) (k (.int .i64 1))), i 46 (.idxAddrS 3 (t 43) (t 45)), i 47 (.loadN 3 (t 46)), i 48 (.call .pure (t 38) [(t 42), (t 47)]), i 49 (.un .not (t 48))]) (.cond (t 49) (.seq (.ops [i 50 (.mov (t 0)), i 51 (.mov (t 5)), i 52 (.mov (t 6)), i 53 (.mov (t 7)), i 54 (.idxAddrS 3 (t 52) (t 53)), i 55 (.loadN 3 (t 54)), i 56 (.idxAddrS 3 (t 50) (t 51)), ⟨none, none, (.store 3 (t 56) (t 55)), none, []⟩]) (.ops [i 57 (.mov (t 5)), i 58 (.bin .add (t 57) (k (.int .i64 1))), i 5 (.mov (t 58))])) .skip))) (.ops [i 36 (.mov (t 7)), i 37 (.bin .add (t 36) (k (.int .i64 1))), i 7 (.mov (t 37))])))
def l54_2 : ACode := (.seq (.seq (.ops [i 12 (.mov (t 5)), i 13 (.mov (t 0)), i 14 (.lenSlice (t 13)), i 15 (.bin .lss (t 12) (t 14))]) (.cond (t 15) .skip (.exit 0))) (.seq (.block 1 (.seq (.drawn 0 [i 18 (.mov (t 1)), i 19 (.mov (t 0)), i 20 (.mov (t 5)), i 21 (.idxAddrS 3 (t 19) (t 20)), i 22 (.loadN 3 (t 21)), i 23 (.mov (t 0)), i 24 (.mov (t 5)), i 25 (.bin .sub (t 24) (k (.int .i64 1))), i 26 (.idxAddrS 3 (t 23) (t 25)), i 27 (.loadN 3 (t 26)), i 28 (.call .pure (t 18) [(t 22), (t 27)])]) (.cond (t 28) (.seq (.ops [i 29 (.mov (t 0)), i 30 (.mov (t 5)), i 31 (.sliceS 3 (t 29) (some (t 30)) none none), i 6 (.mov (t 31))]) (.seq (.seq (.ops [i 7 (.mov (k (.int .i64 1)))]) (.block 2 (.loop l54_1))) (.seq (.ops [i 59 (.mov (t 0)), i 60 (.mov (t 5)), i 61 (.sliceS 3 (t 59) (some (t 60)) none none), ⟨none, none, (.clear [(.int .i64 0), (.int .i64 0), (.int .i64 0)] (t 61)), none, []⟩]) (.seq (.ops [i 62 (.mov (t 0)), i 63 (.mov (t 5)), i 64 (.sliceS 3 (t 62) none (some (t 63)) none), i 4 (.mov (t 64))]) .ret)))) .skip))) (.ops [i 16 (.mov (t 5)), i 17 (.bin .add (t 16) (k (.int .i64 1))), i 5 (.mov (t 17))])))
def c54 : ACode := (.seq (.ops [i 4 (.mov (k (.slice none 0 0)))]) (.seq (.seq (.ops [i 8 (.mov (t 0)), i 9 (.lenSlice (t 8)), i 10 (.bin .lss (t 9) (k (.int .i64 2)))]) (.cond (t 10) (.seq (.ops [i 11 (.mov (t 0)), i 4 (.mov (t 11))]) .ret) .skip)) (.seq (.seq (.ops [i 5 (.mov (k (.int .i64 1)))]) (.block 0 (.loop l54_2))) (.seq (.ops [i 65 (.mov (t 0)), i 4 (.mov (t 65))]) .ret))))
def a54 : AFunc := ⟨66, [(.tmp 4)], c54⟩
theorem n54 : a54.ntmps = 66 := id rfl
theorem r54 : a54.results = [(.tmp 4)] := rfl
theorem b54 : a54.body = c54 := rfl
def c55 : ACode := (.seq (.ops [i 2 (.box (t 0)), i 3 (.box (t 1)), i 4 (.mov (k (.bool false)))]) (.seq (.ops [i 5 (.fieldAddr 0 (t 2)), i 6 (.load1 (t 5)), i 7 (.fieldAddr 0 (t 3)), i 8 (.load1 (t 7)), i 9 (.bin .eql (t 6) (t 8)), i 10 (.mov (t 9)), ⟨(some 11), (some (10, true)), (.fieldAddr 1 (t 2)), none, []⟩, ⟨(some 12), (some (10, true)), (.load1 (t 11)), none, []⟩, ⟨(some 13), (some (10, true)), (.fieldAddr 1 (t 3)), none, []⟩, ⟨(some 14), (some (10, true)), (.load1 (t 13)), none, []⟩, ⟨(some 15), (some (10, true)), (.bin .eql (t 12) (t 14)), none, []⟩, i 16 (.pick (t 10) (t 15) (k (.bool false))), i 4 (.mov (t 16))]) .ret))
def a55 : AFunc := ⟨17, [(.tmp 4)], c55⟩
theorem n55 : a55.ntmps = 17 := id rfl
theorem r55 : a55.results = [(.tmp 4)] := rfl
theorem b55 : a55.body = c55 := rfl
def c57 : ACode := (.seq (.ops [i 2 (.box (t 0)), i 3 (.box (t 1)), i 4 (.mov (k .nilFunc))]) (.seq (.ops [i 5 (.makeFunc 66 [] [(t 2), (t 3)]), i 4 (.mov (t 5))]) .ret))
def a57 : AFunc := ⟨6, [(.tmp 4)], c57⟩
theorem n57 : a57.ntmps = 6 := id rfl
theorem r57 : a57.results = [(.tmp 4)] := rfl
theorem b57 : a57.body = c57 := rfl
def c58 : ACode := (.seq (.ops [i 4 (.mov (k (.int .i64 0)))]) (.seq (.ops [i 6 (.mov (t 0)), i 7 (.mov (t 1)), i 8 (.bin .quo (t 6) (t 7)), i 5 (.mov (t 8))]) (.seq (.seq (.ops [i 9 (.mov (t 0)), i 10 (.mov (t 1)), i 11 (.bin .rem (t 9) (t 10)), i 12 (.bin .lss (t 11) (k (.int .i64 0)))]) (.cond (t 12) (.ops [i 13 (.mov (t 5)), i 14 (.bin .sub (t 13) (k (.int .i64 1))), i 5 (.mov (t 14))]) .skip)) (.seq (.ops [i 15 (.mov (t 5)), i 4 (.mov (t 15))]) .ret))))
def a58 : AFunc := ⟨16, [(.tmp 4)], c58⟩
theorem n58 : a58.ntmps = 16 := id rfl
theorem r58 : a58.results = [(.tmp 4)] := rfl
theorem b58 : a58.body = c58 := rfl
def l59_1 : ACode := (.block 1 (.seq (.ops [i 21 (.mov (t 2)), i 22 (.mov (t 1)), i 23 (.bin .sub (t 21) (t 22)), i 12 (.mov (t 23))]) (.seq (.seq (.ops [i 24 (.mov (t 12)), i 25 (.bin .leq (t 24) (k (.int .i64 12)))]) (.cond (t 25) (.seq (.ops [i 26 (.mov (t 0)), i 27 (.mov (t 1)), i 28 (.mov (t 2)), i 29 (.mov (t 4)), i 30 (.call .any (.func 69) [(t 26), (t 27), (t 28), (t 29)])]) .ret) .skip)) (.seq (.seq (.ops [i 31 (.mov (t 3)), i 32 (.bin .eql (t 31) (k (.int .i64 0)))]) (.cond (t 32) (.seq (.ops [i 33 (.mov (t 0)), i 34 (.mov (t 1)), i 35 (.mov (t 2)), i 36 (.mov (t 4)), i 37 (.call .any (.func 70) [(t 33), (t 34), (t 35), (t 36)])]) .ret) .skip)) (.seq (.seq (.ops [i 38 (.mov (t 10)), i 39 (.un .not (t 38))]) (.cond (t 39) (.seq (.ops [i 40 (.mov (t 0)), i 41 (.mov (t 1)), i 42 (.mov (t 2)), i 43 (.mov (t 4)), i 44 (.call .any (.func 71) [(t 40), (t 41), (t 42), (t 43)])]) (.ops [i 45 (.mov (t 3)), i 46 (.bin .sub (t 45) (k (.int .i64 1))), i 3 (.mov (t 46))])) .skip)) (.seq (.ops [i 48 (.mov (t 0)), i 49 (.mov (t 1)), i 50 (.mov (t 2)), i 51 (.mov (t 4)), i 52 (.call .any (.func 72) [(t 48), (t 49), (t 50), (t 51)]), i 47 (.mov (t 52)), i 53 (.extract 0 (t 47)), i 54 (.extract 1 (t 47)), i 13 (.mov (t 53)), i 14 (.mov (t 54))]) (.seq (.seq (.ops [i 55 (.mov (t 14)), i 56 (.bin .eql (t 55) (k (.int .i64 2)))]) (.cond (t 56) (.seq (.ops [i 57 (.mov (t 0)), i 58 (.mov (t 1)), i 59 (.mov (t 2)), i 60 (.mov (t 4)), i 61 (.call .any (.func 73) [(t 57), (t 58), (t 59), (t 60)])]) (.seq (.ops [i 62 (.mov (t 2)), i 63 (.bin .sub (t 62) (k (.int .i64 1))), i 64 (.mov (t 13)), i 65 (.mov (t 1)), i 66 (.bin .sub (t 64) (t 65)), i 67 (.bin .sub (t 63) (t 66)), i 13 (.mov (t 67))]) (.ops [i 14 (.mov (k (.int .i64 1)))]))) .skip)) (.seq (.seq (.ops [i 68 (.mov (t 10)), i 69 (.mov (t 68)), ⟨(some 70), (some (69, true)), (.mov (t 11)), none, []⟩, i 71 (.pick (t 69) (t 70) (k (.bool false))), i 72 (.mov (t 71)), ⟨(some 73), (some (72, true)), (.mov (t 14)), none, []⟩, ⟨(some 74), (some (72, true)), (.bin .eql (t 73) (k (.int .i64 1))), none, []⟩, i 75 (.pick (t 72) (t 74) (k (.bool false)))]) (.cond (t 75) (.seq (.ops [i 76 (.mov (t 0)), i 77 (.mov (t 1)), i 78 (.mov (t 2)), i 79 (.mov (t 4)), i 80 (.call .any (.func 74) [(t 76), (t 77), (t 78), (t 79)])]) (.cond (t 80) .ret .skip)) .skip)) (.seq (.seq (.drawn 0 [i 81 (.mov (t 1)), i 82 (.bin .gtr (t 81) (k (.int .i64 0))), i 83 (.mov (t 82)), ⟨(some 84), (some (83, true)), (.mov (t 4)), none, []⟩, ⟨(some 85), (some (83, true)), (.mov (t 0)), none, []⟩, ⟨(some 86), (some (83, true)), (.mov (t 1)), none, []⟩, ⟨(some 87), (some (83, true)), (.bin .sub (t 86) (k (.int .i64 1))), none, []⟩, ⟨(some 88), (some (83, true)), (.idxAddrS 7 (t 85) (t 87)), none, []⟩, ⟨(some 89), (some (83, true)), (.loadN 7 (t 88)), none, []⟩, ⟨(some 90), (some (83, true)), (.mov (t 0)), none, []⟩, ⟨(some 91), (some (83, true)), (.mov (t 13)), none, []⟩, ⟨(some 92), (some (83, true)), (.idxAddrS 7 (t 90) (t 91)), none, []⟩, ⟨(some 93), (some (83, true)), (.loadN 7 (t 92)), none, []⟩, ⟨(some 94), (some (83, true)), (.call .pure (t 84) [(t 89), (t 93)]), none, []⟩, ⟨(some 95), (some (83, true)), (.bin .lss (t 94) (k (.int .i64 0))), none, []⟩, ⟨(some 96), (some (83, true)), (.un .not (t 95)), none, []⟩, i 97 (.pick (t 83) (t 96) (k (.bool false)))]) (.cond (t 97) (.seq (.ops [i 98 (.mov (t 0)), i 99 (.mov (t 1)), i 100 (.mov (t 2)), i 101 (.mov (t 13)), i 102 (.mov (t 4)), i 103 (.call .any (.func 75) [(t 98), (t 99), (t 100), (t 101), (t 102)]), i 15 (.mov (t 103))]) (.seq (.ops [i 104 (.mov (t 15)), i 1 (.mov (t 104))]) (.exit 1))) .skip)) (.seq (.ops [i 106 (.mov (t 0)), i 107 (.mov (t 1)), i 108 (.mov (t 2)), i 109 (.mov (t 13)), i 110 (.mov (t 4)), i 111 (.call .any (.func 76) [(t 106), (t 107), (t 108), (t 109), (t 110)]), i 105 (.mov (t 111)), i 112 (.extract 0 (t 105)), i 113 (.extract 1 (t 105)), i 16 (.mov (t 112)), i 17 (.mov (t 113))]) (.seq (.ops [i 114 (.mov (t 17)), i 11 (.mov (t 114))]) (.seq (.ops [i 115 (.mov (t 16)), i 116 (.mov (t 1)), i 117 (.bin .sub (t 115) (t 116)), i 118 (.mov (t 2)), i 119 (.mov (t 16)), i 120 (.bin .sub (t 118) (t 119)), i 18 (.mov (t 117)), i 19 (.mov (t 120))]) (.seq (.ops [i 121 (.mov (t 12)), i 122 (.bin .quo (t 121) (k (.int .i64 8))), i 20 (.mov (t 122))]) (.seq (.ops [i 123 (.mov (t 18)), i 124 (.mov (t 19)), i 125 (.bin .lss (t 123) (t 124))]) (.cond (t 125) (.seq (.ops [i 126 (.mov (t 18)), i 127 (.mov (t 20)), i 128 (.bin .geq (t 126) (t 127)), i 10 (.mov (t 128))]) (.seq (.ops [i 129 (.mov (t 0)), i 130 (.mov (t 1)), i 131 (.mov (t 16)), i 132 (.mov (t 3)), i 133 (.mov (t 4)), i 134 (.call .any (.func 59) [(t 129), (t 130), (t 131), (t 132), (t 133)])]) (.ops [i 135 (.mov (t 16)), i 136 (.bin .add (t 135) (k (.int .i64 1))), i 1 (.mov (t 136))]))) (.seq (.ops [i 137 (.mov (t 19)), i 138 (.mov (t 20)), i 139 (.bin .geq (t 137) (t 138)), i 10 (.mov (t 139))]) (.seq (.ops [i 140 (.mov (t 0)), i 141 (.mov (t 16)), i 142 (.bin .add (t 141) (k (.int .i64 1))), i 143 (.mov (t 2)), i 144 (.mov (t 3)), i 145 (.mov (t 4)), i 146 (.call .any (.func 59) [(t 140), (t 142), (t 143), (t 144), (t 145)])]) (.ops [i 147 (.mov (t 16)), i 2 (.mov (t 147))]))))))))))))))))))
def c59 : ACode := (.seq (.ops [i 10 (.mov (k (.bool true)))]) (.seq (.ops [i 11 (.mov (k (.bool true)))]) (.block 0 (.loop l59_1))))
def a59 : AFunc := ⟨148, [], c59⟩
theorem n59 : a59.ntmps = 148 := id rfl
theorem r59 : a59.results = [] := rfl
theorem b59 : a59.body = c59 := rfl
def c60 : ACode := (.seq (.ops [i 2 (.mov (k (.int .i64 0)))]) (.seq (.cond (k (.bool false)) (.seq (.ops [i 3 (.mov (t 0)), i 4 (.conv .u32 (t 3)), i 5 (.call .any (.func 77) [(t 4)]), i 2 (.mov (t 5))]) .ret) .skip) (.seq (.ops [i 6 (.mov (t 0)), i 7 (.call .any (.func 78) [(t 6)]), i 2 (.mov (t 7))]) .ret)))
def a60 : AFunc := ⟨8, [(.tmp 2)], c60⟩
theorem n60 : a60.ntmps = 8 := id rfl
theorem r60 : a60.results = [(.tmp 2)] := rfl
theorem b60 : a60.body = c60 := rfl
def c61 : ACode := (.seq (.ops [i 4 (.mov (k (.int .i64 0)))]) (.seq (.ops [i 7 (.mov (t 0)), i 8 (.call .any (.func 79) [(t 7)]), i 5 (.mov (t 8))]) (.seq (.ops [i 9 (.mov (t 1)), i 10 (.call .any (.func 79) [(t 9)]), i 6 (.mov (t 10))]) (.seq (.seq (.ops [i 11 (.mov (t 5))]) (.cond (t 11) (.seq (.seq (.ops [i 12 (.mov (t 6))]) (.cond (t 12) (.seq (.ops [i 4 (.mov (k (.int .i64 0)))]) .ret) .skip)) (.seq (.ops [i 4 (.mov (k (.int .i64 (-1))))]) .ret)) .skip)) (.seq (.seq (.ops [i 13 (.mov (t 6))]) (.cond (t 13) (.seq (.ops [i 4 (.mov (k (.int .i64 1)))]) .ret) .skip)) (.seq (.seq (.ops [i 14 (.mov (t 0)), i 15 (.mov (t 1)), i 16 (.bin .lss (t 14) (t 15))]) (.cond (t 16) (.seq (.ops [i 4 (.mov (k (.int .i64 (-1))))]) .ret) .skip)) (.seq (.seq (.ops [i 17 (.mov (t 0)), i 18 (.mov (t 1)), i 19 (.bin .gtr (t 17) (t 18))]) (.cond (t 19) (.seq (.ops [i 4 (.mov (k (.int .i64 1)))]) .ret) .skip)) (.seq (.ops [i 4 (.mov (k (.int .i64 0)))]) .ret))))))))
def a61 : AFunc := ⟨20, [(.tmp 4)], c61⟩
theorem n61 : a61.ntmps = 20 := id rfl
theorem r61 : a61.results = [(.tmp 4)] := rfl
theorem b61 : a61.body = c61 := rfl
def c62 : ACode := (.seq (.ops [i 2 (.mov (k (.slice none 0 0)))]) (.seq (.ops [i 3 (.mov (t 0)), i 4 (.call .any (.func 80) [(k (.slice none 0 0)), (t 3)]), i 2 (.mov (t 4))]) .ret))
def a62 : AFunc := ⟨5, [(.tmp 2)], c62⟩
theorem n62 : a62.ntmps = 5 := id rfl
theorem r62 : a62.results = [(.tmp 2)] := rfl
theorem b62 : a62.body = c62 := rfl
def c63 : ACode := (.seq (.ops [i 5 (.mov (t 0)), i 6 (.lenSlice (t 5)), i 4 (.mov (t 6))]) (.ops [i 7 (.mov (t 0)), i 8 (.mov (t 4)), i 9 (.mov (t 4)), i 10 (.conv .u64 (t 9)), i 11 (.call .any (.func 60) [(t 10)]), i 12 (.mov (t 1)), i 13 (.call .any (.func 81) [(t 7), (k (.int .i64 0)), (t 8), (t 11), (t 12)])]))
def a63 : AFunc := ⟨14, [], c63⟩
theorem n63 : a63.ntmps = 14 := id rfl
theorem r63 : a63.results = [] := rfl
theorem b63 : a63.body = c63 := rfl
def l64_1 : ACode := (.seq (.ops [⟨(some 7), none, (.mov (t 6)), (some 2), []⟩, i 8 (.extract 0 (t 7))]) (.seq (.cond (t 8) .skip (.exit 0)) (.block 1 (.seq (.ops [⟨(some 9), none, (.mov (t 6)), (some 3), []⟩, i 10 (.extract 1 (t 9)), i 4 (.alloc [(.int .i64 0), (.int .i64 0), (.int .i64 0)]), ⟨none, none, (.store 3 (t 4) (t 10)), none, []⟩]) (.seq (.ops [i 11 (.mov (t 0)), i 12 (.loadN 3 (t 4)), i 13 (.call .any (t 11) [(t 12)]), i 14 (.un .not (t 13))]) (.cond (t 14) .ret .skip))))))
def c64 : ACode := (.seq (.ops [i 5 (.load1 (t 1)), ⟨(some 6), none, (.mov (t 5)), (some 1), []⟩]) (.block 0 (.loop l64_1)))
def a64 : AFunc := ⟨15, [], c64⟩
theorem n64 : a64.ntmps = 15 := id rfl
theorem r64 : a64.results = [] := rfl
theorem b64 : a64.body = c64 := rfl
def c65 : ACode := (.seq (.ops [i 2 (.mov (k (.bool false)))]) (.seq (.ops [i 3 (.mov (t 0)), i 4 (.mov (t 0)), i 5 (.bin .neq (t 3) (t 4)), i 2 (.mov (t 5))]) .ret))
def a65 : AFunc := ⟨6, [(.tmp 2)], c65⟩
theorem n65 : a65.ntmps = 6 := id rfl
theorem r65 : a65.results = [(.tmp 2)] := rfl
theorem b65 : a65.body = c65 := rfl
def l66_1 : ACode := (.seq (.ops [i 16 (.bin .lss (t 15) (t 14))]) (.seq (.cond (t 16) .skip (.exit 0)) (.seq (.block 1 (.seq (.ops [i 17 (.idxAddrS 3 (t 13) (t 15)), i 18 (.loadN 3 (t 17)), i 6 (.alloc [(.int .i64 0), (.int .i64 0), (.int .i64 0)]), ⟨none, none, (.store 3 (t 6) (t 18)), none, []⟩]) (.seq (.ops [i 19 (.fieldAddr 0 (t 6)), i 20 (.load1 (t 19)), i 21 (.load1 (t 2)), i 22 (.bin .neq (t 20) (t 21)), i 23 (.mov (t 22)), ⟨(some 24), (some (23, false)), (.mov (t 0)), none, []⟩, ⟨(some 25), (some (23, false)), (.loadN 3 (t 6)), none, []⟩, ⟨(some 26), (some (23, false)), (.call .any (t 24) [(t 25)]), none, []⟩, ⟨(some 27), (some (23, false)), (.un .not (t 26)), none, []⟩, i 28 (.pick (t 23) (k (.bool true)) (t 27))]) (.cond (t 28) .ret .skip)))) (.ops [i 29 (.bin .add (t 15) (k (.int .i64 1))), i 15 (.mov (t 29))]))))
def c66 : ACode := (.seq (.ops [i 7 (.load1 (t 1)), i 8 (.lenSlice (t 7)), i 9 (.makeFunc 68 [] [(t 1), (t 2)]), i 10 (.call .any (.func 67) [(t 8), (t 9)]), i 4 (.mov (t 10))]) (.seq (.ops [i 11 (.load1 (t 1)), i 12 (.mov (t 4)), i 13 (.sliceS 3 (t 11) (some (t 12)) none none), i 14 (.lenSlice (t 13)), i 15 (.mov (k (.int .i64 0)))]) (.block 0 (.loop l66_1))))
def a66 : AFunc := ⟨30, [], c66⟩
theorem n66 : a66.ntmps = 30 := id rfl
theorem r66 : a66.results = [] := rfl
theorem b66 : a66.body = c66 := rfl
def l67_1 : ACode := (.seq (.seq (.ops [i 9 (.mov (t 5)), i 10 (.mov (t 6)), i 11 (.bin .lss (t 9) (t 10))]) (.cond (t 11) .skip (.exit 0))) (.block 1 (.seq (.ops [i 12 (.mov (t 5)), i 13 (.mov (t 6)), i 14 (.bin .add (t 12) (t 13)), i 15 (.conv .u64 (t 14)), i 16 (.bin .shr (t 15) (k (.int .u64 1))), i 17 (.conv .i64 (t 16)), i 7 (.mov (t 17))]) (.seq (.ops [i 18 (.mov (t 1)), i 19 (.mov (t 7)), i 20 (.call .any (t 18) [(t 19)]), i 21 (.un .not (t 20))]) (.cond (t 21) (.ops [i 22 (.mov (t 7)), i 23 (.bin .add (t 22) (k (.int .i64 1))), i 5 (.mov (t 23))]) (.ops [i 24 (.mov (t 7)), i 6 (.mov (t 24))]))))))
def c67 : ACode := (.seq (.ops [i 4 (.mov (k (.int .i64 0)))]) (.seq (.ops [i 8 (.mov (t 0)), i 5 (.mov (k (.int .i64 0))), i 6 (.mov (t 8))]) (.seq (.block 0 (.loop l67_1)) (.seq (.ops [i 25 (.mov (t 5)), i 4 (.mov (t 25))]) .ret))))
def a67 : AFunc := ⟨26, [(.tmp 4)], c67⟩
theorem n67 : a67.ntmps = 26 := id rfl
theorem r67 : a67.results = [(.tmp 4)] := rfl
theorem b67 : a67.body = c67 := rfl
def c68 : ACode := (.seq (.ops [i 4 (.mov (k (.bool false)))]) (.seq (.drawn 0 [i 5 (.load1 (t 1)), i 6 (.mov (t 0)), i 7 (.idxAddrS 3 (t 5) (t 6)), i 8 (.fieldAddr 0 (t 7)), i 9 (.load1 (t 8)), i 10 (.load1 (t 2)), i 11 (.bin .geq (t 9) (t 10)), i 4 (.mov (t 11))]) .ret))
def a68 : AFunc := ⟨12, [(.tmp 4)], c68⟩
theorem n68 : a68.ntmps = 12 := id rfl
theorem r68 : a68.results = [(.tmp 4)] := rfl
theorem b68 : a68.body = c68 := rfl
def l69_1 : ACode := (.seq (.seq (.drawn 0 [i 18 (.mov (t 9)), i 19 (.mov (t 1)), i 20 (.bin .gtr (t 18) (t 19)), i 21 (.mov (t 20)), ⟨(some 22), (some (21, true)), (.mov (t 3)), none, []⟩, ⟨(some 23), (some (21, true)), (.mov (t 0)), none, []⟩, ⟨(some 24), (some (21, true)), (.mov (t 9)), none, []⟩, ⟨(some 25), (some (21, true)), (.idxAddrS 7 (t 23) (t 24)), none, []⟩, ⟨(some 26), (some (21, true)), (.loadN 7 (t 25)), none, []⟩, ⟨(some 27), (some (21, true)), (.mov (t 0)), none, []⟩, ⟨(some 28), (some (21, true)), (.mov (t 9)), none, []⟩, ⟨(some 29), (some (21, true)), (.bin .sub (t 28) (k (.int .i64 1))), none, []⟩, ⟨(some 30), (some (21, true)), (.idxAddrS 7 (t 27) (t 29)), none, []⟩, ⟨(some 31), (some (21, true)), (.loadN 7 (t 30)), none, []⟩, ⟨(some 32), (some (21, true)), (.call .pure (t 22) [(t 26), (t 31)]), none, []⟩, ⟨(some 33), (some (21, true)), (.bin .lss (t 32) (k (.int .i64 0))), none, []⟩, i 34 (.pick (t 21) (t 33) (k (.bool false)))]) (.cond (t 34) .skip (.exit 2))) (.seq (.block 3 (.drawn 0 [i 37 (.mov (t 0)), i 38 (.mov (t 9)), i 39 (.mov (t 0)), i 40 (.mov (t 9)), i 41 (.bin .sub (t 40) (k (.int .i64 1))), i 42 (.mov (t 0)), i 43 (.mov (t 9)), i 44 (.bin .sub (t 43) (k (.int .i64 1))), i 45 (.idxAddrS 7 (t 42) (t 44)), i 46 (.loadN 7 (t 45)), i 47 (.mov (t 0)), i 48 (.mov (t 9)), i 49 (.idxAddrS 7 (t 47) (t 48)), i 50 (.loadN 7 (t 49)), i 51 (.idxAddrS 7 (t 37) (t 38)), ⟨none, none, (.store 7 (t 51) (t 46)), none, []⟩, i 52 (.idxAddrS 7 (t 39) (t 41)), ⟨none, none, (.store 7 (t 52) (t 50)), none, []⟩])) (.ops [i 35 (.mov (t 9)), i 36 (.bin .sub (t 35) (k (.int .i64 1))), i 9 (.mov (t 36))])))
def l69_2 : ACode := (.seq (.seq (.ops [i 12 (.mov (t 8)), i 13 (.mov (t 2)), i 14 (.bin .lss (t 12) (t 13))]) (.cond (t 14) .skip (.exit 0))) (.seq (.block 1 (.seq (.ops [i 17 (.mov (t 8)), i 9 (.mov (t 17))]) (.block 2 (.loop l69_1)))) (.ops [i 15 (.mov (t 8)), i 16 (.bin .add (t 15) (k (.int .i64 1))), i 8 (.mov (t 16))])))
def c69 : ACode := (.seq (.ops [i 10 (.mov (t 1)), i 11 (.bin .add (t 10) (k (.int .i64 1))), i 8 (.mov (t 11))]) (.block 0 (.loop l69_2)))
def a69 : AFunc := ⟨53, [], c69⟩
theorem n69 : a69.ntmps = 53 := id rfl
theorem r69 : a69.results = [] := rfl
theorem b69 : a69.body = c69 := rfl
def l70_1 : ACode := (.seq (.seq (.ops [i 32 (.mov (t 12)), i 33 (.bin .geq (t 32) (k (.int .i64 0)))]) (.cond (t 33) .skip (.exit 2))) (.seq (.block 3 (.seq (.drawn 0 [i 36 (.mov (t 0)), i 37 (.mov (t 8)), i 38 (.mov (t 0)), i 39 (.mov (t 8)), i 40 (.mov (t 12)), i 41 (.bin .add (t 39) (t 40)), i 42 (.mov (t 0)), i 43 (.mov (t 8)), i 44 (.mov (t 12)), i 45 (.bin .add (t 43) (t 44)), i 46 (.idxAddrS 7 (t 42) (t 45)), i 47 (.loadN 7 (t 46)), i 48 (.mov (t 0)), i 49 (.mov (t 8)), i 50 (.idxAddrS 7 (t 48) (t 49)), i 51 (.loadN 7 (t 50)), i 52 (.idxAddrS 7 (t 36) (t 37)), ⟨none, none, (.store 7 (t 52) (t 47)), none, []⟩, i 53 (.idxAddrS 7 (t 38) (t 41)), ⟨none, none, (.store 7 (t 53) (t 51)), none, []⟩]) (.ops [i 54 (.mov (t 0)), i 55 (.mov (t 9)), i 56 (.mov (t 12)), i 57 (.mov (t 8)), i 58 (.mov (t 3)), i 59 (.call .any (.func 82) [(t 54), (t 55), (t 56), (t 57), (t 58)])]))) (.ops [i 34 (.mov (t 12)), i 35 (.bin .sub (t 34) (k (.int .i64 1))), i 12 (.mov (t 35))])))
def l70_2 : ACode := (.seq (.seq (.ops [i 20 (.mov (t 11)), i 21 (.bin .geq (t 20) (k (.int .i64 0)))]) (.cond (t 21) .skip (.exit 0))) (.seq (.block 1 (.ops [i 24 (.mov (t 0)), i 25 (.mov (t 11)), i 26 (.mov (t 10)), i 27 (.mov (t 8)), i 28 (.mov (t 3)), i 29 (.call .any (.func 82) [(t 24), (t 25), (t 26), (t 27), (t 28)])])) (.ops [i 22 (.mov (t 11)), i 23 (.bin .sub (t 22) (k (.int .i64 1))), i 11 (.mov (t 23))])))
def c70 : ACode := (.seq (.ops [i 13 (.mov (t 1)), i 8 (.mov (t 13))]) (.seq (.ops [i 9 (.mov (k (.int .i64 0)))]) (.seq (.ops [i 14 (.mov (t 2)), i 15 (.mov (t 1)), i 16 (.bin .sub (t 14) (t 15)), i 10 (.mov (t 16))]) (.seq (.seq (.ops [i 17 (.mov (t 10)), i 18 (.bin .sub (t 17) (k (.int .i64 1))), i 19 (.bin .quo (t 18) (k (.int .i64 2))), i 11 (.mov (t 19))]) (.block 0 (.loop l70_2))) (.seq (.ops [i 30 (.mov (t 10)), i 31 (.bin .sub (t 30) (k (.int .i64 1))), i 12 (.mov (t 31))]) (.block 2 (.loop l70_1)))))))
def a70 : AFunc := ⟨60, [], c70⟩
theorem n70 : a70.ntmps = 60 := id rfl
theorem r70 : a70.results = [] := rfl
theorem b70 : a70.body = c70 := rfl
def l71_1 : ACode := (.seq (.seq (.ops [i 28 (.mov (t 11)), i 29 (.mov (t 1)), i 30 (.mov (t 8)), i 31 (.bin .quo (t 30) (k (.int .i64 4))), i 32 (.bin .mul (t 31) (k (.int .i64 2))), i 33 (.bin .add (t 29) (t 32)), i 34 (.bin .add (t 33) (k (.int .i64 1))), i 35 (.bin .leq (t 28) (t 34))]) (.cond (t 35) .skip (.exit 0))) (.seq (.block 1 (.seq (.ops [i 38 (.call .any (.func 84) [(t 9)]), i 39 (.mov (t 10)), i 40 (.bin .sub (t 39) (k (.int .u64 1))), i 41 (.bin .and (t 38) (t 40)), i 42 (.conv .i64 (t 41)), i 12 (.mov (t 42))]) (.seq (.seq (.ops [i 43 (.mov (t 12)), i 44 (.mov (t 8)), i 45 (.bin .geq (t 43) (t 44))]) (.cond (t 45) (.ops [i 46 (.mov (t 12)), i 47 (.mov (t 8)), i 48 (.bin .sub (t 46) (t 47)), i 12 (.mov (t 48))]) .skip)) (.drawn 0 [i 49 (.mov (t 0)), i 50 (.mov (t 11)), i 51 (.mov (t 0)), i 52 (.mov (t 1)), i 53 (.mov (t 12)), i 54 (.bin .add (t 52) (t 53)), i 55 (.mov (t 0)), i 56 (.mov (t 1)), i 57 (.mov (t 12)), i 58 (.bin .add (t 56) (t 57)), i 59 (.idxAddrS 7 (t 55) (t 58)), i 60 (.loadN 7 (t 59)), i 61 (.mov (t 0)), i 62 (.mov (t 11)), i 63 (.idxAddrS 7 (t 61) (t 62)), i 64 (.loadN 7 (t 63)), i 65 (.idxAddrS 7 (t 49) (t 50)), ⟨none, none, (.store 7 (t 65) (t 60)), none, []⟩, i 66 (.idxAddrS 7 (t 51) (t 54)), ⟨none, none, (.store 7 (t 66) (t 64)), none, []⟩])))) (.ops [i 36 (.mov (t 11)), i 37 (.bin .add (t 36) (k (.int .i64 1))), i 11 (.mov (t 37))])))
def c71 : ACode := (.seq (.ops [i 13 (.mov (t 2)), i 14 (.mov (t 1)), i 15 (.bin .sub (t 13) (t 14)), i 8 (.mov (t 15))]) (.seq (.ops [i 16 (.mov (t 8)), i 17 (.bin .geq (t 16) (k (.int .i64 8)))]) (.cond (t 17) (.seq (.ops [i 18 (.mov (t 8)), i 19 (.conv .u64 (t 18)), i 9 (.alloc [(.int .u64 0)]), ⟨none, none, (.store 1 (t 9) (t 19)), none, []⟩]) (.seq (.ops [i 20 (.mov (t 8)), i 21 (.call .any (.func 83) [(t 20)]), i 10 (.mov (t 21))]) (.seq (.ops [i 22 (.mov (t 1)), i 23 (.mov (t 8)), i 24 (.bin .quo (t 23) (k (.int .i64 4))), i 25 (.bin .mul (t 24) (k (.int .i64 2))), i 26 (.bin .add (t 22) (t 25)), i 27 (.bin .sub (t 26) (k (.int .i64 1))), i 11 (.mov (t 27))]) (.block 0 (.loop l71_1))))) .skip)))
def a71 : AFunc := ⟨67, [], c71⟩
theorem n71 : a71.ntmps = 67 := id rfl
theorem r71 : a71.results = [] := rfl
theorem b71 : a71.body = c71 := rfl
def c72 : ACode := (.seq (.ops [i 8 (.mov (k (.int .i64 0))), i 9 (.mov (k (.int .i64 0)))]) (.seq (.ops [i 15 (.mov (t 2)), i 16 (.mov (t 1)), i 17 (.bin .sub (t 15) (t 16)), i 10 (.mov (t 17))]) (.seq (.ops [i 11 (.alloc [(.int .i64 0)])]) (.seq (.ops [i 18 (.mov (t 1)), i 19 (.mov (t 10)), i 20 (.bin .quo (t 19) (k (.int .i64 4))), i 21 (.bin .mul (t 20) (k (.int .i64 1))), i 22 (.bin .add (t 18) (t 21)), i 12 (.mov (t 22))]) (.seq (.ops [i 23 (.mov (t 1)), i 24 (.mov (t 10)), i 25 (.bin .quo (t 24) (k (.int .i64 4))), i 26 (.bin .mul (t 25) (k (.int .i64 2))), i 27 (.bin .add (t 23) (t 26)), i 13 (.mov (t 27))]) (.seq (.ops [i 28 (.mov (t 1)), i 29 (.mov (t 10)), i 30 (.bin .quo (t 29) (k (.int .i64 4))), i 31 (.bin .mul (t 30) (k (.int .i64 3))), i 32 (.bin .add (t 28) (t 31)), i 14 (.mov (t 32))]) (.seq (.seq (.ops [i 33 (.mov (t 10)), i 34 (.bin .geq (t 33) (k (.int .i64 8)))]) (.cond (t 34) (.seq (.seq (.ops [i 35 (.mov (t 10)), i 36 (.bin .geq (t 35) (k (.int .i64 50)))]) (.cond (t 36) (.seq (.ops [i 37 (.mov (t 0)), i 38 (.mov (t 12)), i 39 (.mov (t 3)), i 40 (.call .any (.func 85) [(t 37), (t 38), (t 11), (t 39)]), i 12 (.mov (t 40))]) (.seq (.ops [i 41 (.mov (t 0)), i 42 (.mov (t 13)), i 43 (.mov (t 3)), i 44 (.call .any (.func 85) [(t 41), (t 42), (t 11), (t 43)]), i 13 (.mov (t 44))]) (.ops [i 45 (.mov (t 0)), i 46 (.mov (t 14)), i 47 (.mov (t 3)), i 48 (.call .any (.func 85) [(t 45), (t 46), (t 11), (t 47)]), i 14 (.mov (t 48))]))) .skip)) (.ops [i 49 (.mov (t 0)), i 50 (.mov (t 12)), i 51 (.mov (t 13)), i 52 (.mov (t 14)), i 53 (.mov (t 3)), i 54 (.call .any (.func 86) [(t 49), (t 50), (t 51), (t 52), (t 11), (t 53)]), i 13 (.mov (t 54))])) .skip)) (.seq (.ops [i 55 (.load1 (t 11))]) (.block 0 (.seq (.ops [i 58 (.bin .eql (t 55) (k (.int .i64 0))), i 57 (.mov (t 58))]) (.cond (t 57) (.seq (.ops [i 59 (.mov (t 13)), i 8 (.mov (t 59)), i 9 (.mov (k (.int .i64 1)))]) .ret) (.seq (.ops [i 61 (.bin .eql (t 55) (k (.int .i64 12))), i 60 (.mov (t 61))]) (.cond (t 60) (.seq (.ops [i 62 (.mov (t 13)), i 8 (.mov (t 62)), i 9 (.mov (k (.int .i64 2)))]) .ret) (.seq (.ops [i 56 (.mov (t 13)), i 8 (.mov (t 56)), i 9 (.mov (k (.int .i64 0)))]) .ret))))))))))))))
def a72 : AFunc := ⟨63, [(.tmp 8), (.tmp 9)], c72⟩
theorem n72 : a72.ntmps = 63 := id rfl
theorem r72 : a72.results = [(.tmp 8), (.tmp 9)] := rfl
theorem b72 : a72.body = c72 := rfl
def l73_1 : ACode := (.seq (.seq (.ops [i 13 (.mov (t 8)), i 14 (.mov (t 9)), i 15 (.bin .lss (t 13) (t 14))]) (.cond (t 15) .skip (.exit 0))) (.block 1 (.seq (.drawn 0 [i 16 (.mov (t 0)), i 17 (.mov (t 8)), i 18 (.mov (t 0)), i 19 (.mov (t 9)), i 20 (.mov (t 0)), i 21 (.mov (t 9)), i 22 (.idxAddrS 7 (t 20) (t 21)), i 23 (.loadN 7 (t 22)), i 24 (.mov (t 0)), i 25 (.mov (t 8)), i 26 (.idxAddrS 7 (t 24) (t 25)), i 27 (.loadN 7 (t 26)), i 28 (.idxAddrS 7 (t 16) (t 17)), ⟨none, none, (.store 7 (t 28) (t 23)), none, []⟩, i 29 (.idxAddrS 7 (t 18) (t 19)), ⟨none, none, (.store 7 (t 29) (t 27)), none, []⟩]) (.seq (.ops [i 30 (.mov (t 8)), i 31 (.bin .add (t 30) (k (.int .i64 1))), i 8 (.mov (t 31))]) (.ops [i 32 (.mov (t 9)), i 33 (.bin .sub (t 32) (k (.int .i64 1))), i 9 (.mov (t 33))])))))
def c73 : ACode := (.seq (.ops [i 10 (.mov (t 1)), i 8 (.mov (t 10))]) (.seq (.ops [i 11 (.mov (t 2)), i 12 (.bin .sub (t 11) (k (.int .i64 1))), i 9 (.mov (t 12))]) (.block 0 (.loop l73_1))))
def a73 : AFunc := ⟨34, [], c73⟩
theorem n73 : a73.ntmps = 34 := id rfl
theorem r73 : a73.results = [] := rfl
theorem b73 : a73.body = c73 := rfl
def l74_1 : ACode := (.seq (.seq (.ops [i 107 (.mov (t 12)), i 108 (.mov (t 2)), i 109 (.bin .lss (t 107) (t 108))]) (.cond (t 109) .skip (.exit 6))) (.seq (.block 7 (.seq (.seq (.drawn 0 [i 112 (.mov (t 3)), i 113 (.mov (t 0)), i 114 (.mov (t 12)), i 115 (.idxAddrS 7 (t 113) (t 114)), i 116 (.loadN 7 (t 115)), i 117 (.mov (t 0)), i 118 (.mov (t 12)), i 119 (.bin .sub (t 118) (k (.int .i64 1))), i 120 (.idxAddrS 7 (t 117) (t 119)), i 121 (.loadN 7 (t 120)), i 122 (.call .pure (t 112) [(t 116), (t 121)]), i 123 (.bin .lss (t 122) (k (.int .i64 0))), i 124 (.un .not (t 123))]) (.cond (t 124) (.exit 6) .skip)) (.drawn 0 [i 125 (.mov (t 0)), i 126 (.mov (t 12)), i 127 (.mov (t 0)), i 128 (.mov (t 12)), i 129 (.bin .sub (t 128) (k (.int .i64 1))), i 130 (.mov (t 0)), i 131 (.mov (t 12)), i 132 (.bin .sub (t 131) (k (.int .i64 1))), i 133 (.idxAddrS 7 (t 130) (t 132)), i 134 (.loadN 7 (t 133)), i 135 (.mov (t 0)), i 136 (.mov (t 12)), i 137 (.idxAddrS 7 (t 135) (t 136)), i 138 (.loadN 7 (t 137)), i 139 (.idxAddrS 7 (t 125) (t 126)), ⟨none, none, (.store 7 (t 139) (t 134)), none, []⟩, i 140 (.idxAddrS 7 (t 127) (t 129)), ⟨none, none, (.store 7 (t 140) (t 138)), none, []⟩]))) (.ops [i 110 (.mov (t 12)), i 111 (.bin .add (t 110) (k (.int .i64 1))), i 12 (.mov (t 111))])))
def l74_2 : ACode := (.seq (.seq (.ops [i 68 (.mov (t 11)), i 69 (.bin .geq (t 68) (k (.int .i64 1)))]) (.cond (t 69) .skip (.exit 4))) (.seq (.block 5 (.seq (.seq (.drawn 0 [i 72 (.mov (t 3)), i 73 (.mov (t 0)), i 74 (.mov (t 11)), i 75 (.idxAddrS 7 (t 73) (t 74)), i 76 (.loadN 7 (t 75)), i 77 (.mov (t 0)), i 78 (.mov (t 11)), i 79 (.bin .sub (t 78) (k (.int .i64 1))), i 80 (.idxAddrS 7 (t 77) (t 79)), i 81 (.loadN 7 (t 80)), i 82 (.call .pure (t 72) [(t 76), (t 81)]), i 83 (.bin .lss (t 82) (k (.int .i64 0))), i 84 (.un .not (t 83))]) (.cond (t 84) (.exit 4) .skip)) (.drawn 0 [i 85 (.mov (t 0)), i 86 (.mov (t 11)), i 87 (.mov (t 0)), i 88 (.mov (t 11)), i 89 (.bin .sub (t 88) (k (.int .i64 1))), i 90 (.mov (t 0)), i 91 (.mov (t 11)), i 92 (.bin .sub (t 91) (k (.int .i64 1))), i 93 (.idxAddrS 7 (t 90) (t 92)), i 94 (.loadN 7 (t 93)), i 95 (.mov (t 0)), i 96 (.mov (t 11)), i 97 (.idxAddrS 7 (t 95) (t 96)), i 98 (.loadN 7 (t 97)), i 99 (.idxAddrS 7 (t 85) (t 86)), ⟨none, none, (.store 7 (t 99) (t 94)), none, []⟩, i 100 (.idxAddrS 7 (t 87) (t 89)), ⟨none, none, (.store 7 (t 100) (t 98)), none, []⟩]))) (.ops [i 70 (.mov (t 11)), i 71 (.bin .sub (t 70) (k (.int .i64 1))), i 11 (.mov (t 71))])))
def l74_3 : ACode := (.seq (.seq (.drawn 0 [i 19 (.mov (t 9)), i 20 (.mov (t 2)), i 21 (.bin .lss (t 19) (t 20)), i 22 (.mov (t 21)), ⟨(some 23), (some (22, true)), (.mov (t 3)), none, []⟩, ⟨(some 24), (some (22, true)), (.mov (t 0)), none, []⟩, ⟨(some 25), (some (22, true)), (.mov (t 9)), none, []⟩, ⟨(some 26), (some (22, true)), (.idxAddrS 7 (t 24) (t 25)), none, []⟩, ⟨(some 27), (some (22, true)), (.loadN 7 (t 26)), none, []⟩, ⟨(some 28), (some (22, true)), (.mov (t 0)), none, []⟩, ⟨(some 29), (some (22, true)), (.mov (t 9)), none, []⟩, ⟨(some 30), (some (22, true)), (.bin .sub (t 29) (k (.int .i64 1))), none, []⟩, ⟨(some 31), (some (22, true)), (.idxAddrS 7 (t 28) (t 30)), none, []⟩, ⟨(some 32), (some (22, true)), (.loadN 7 (t 31)), none, []⟩, ⟨(some 33), (some (22, true)), (.call .pure (t 23) [(t 27), (t 32)]), none, []⟩, ⟨(some 34), (some (22, true)), (.bin .lss (t 33) (k (.int .i64 0))), none, []⟩, ⟨(some 35), (some (22, true)), (.un .not (t 34)), none, []⟩, i 36 (.pick (t 22) (t 35) (k (.bool false)))]) (.cond (t 36) .skip (.exit 2))) (.block 3 (.ops [i 37 (.mov (t 9)), i 38 (.bin .add (t 37) (k (.int .i64 1))), i 9 (.mov (t 38))])))
def l74_4 : ACode := (.seq (.seq (.ops [i 15 (.mov (t 10)), i 16 (.bin .lss (t 15) (k (.int .i64 5)))]) (.cond (t 16) .skip (.exit 0))) (.seq (.block 1 (.seq (.block 2 (.loop l74_3)) (.seq (.seq (.ops [i 39 (.mov (t 9)), i 40 (.mov (t 2)), i 41 (.bin .eql (t 39) (t 40))]) (.cond (t 41) (.seq (.ops [i 8 (.mov (k (.bool true)))]) .ret) .skip)) (.seq (.seq (.ops [i 42 (.mov (t 2)), i 43 (.mov (t 1)), i 44 (.bin .sub (t 42) (t 43)), i 45 (.bin .lss (t 44) (k (.int .i64 50)))]) (.cond (t 45) (.seq (.ops [i 8 (.mov (k (.bool false)))]) .ret) .skip)) (.seq (.drawn 0 [i 46 (.mov (t 0)), i 47 (.mov (t 9)), i 48 (.mov (t 0)), i 49 (.mov (t 9)), i 50 (.bin .sub (t 49) (k (.int .i64 1))), i 51 (.mov (t 0)), i 52 (.mov (t 9)), i 53 (.bin .sub (t 52) (k (.int .i64 1))), i 54 (.idxAddrS 7 (t 51) (t 53)), i 55 (.loadN 7 (t 54)), i 56 (.mov (t 0)), i 57 (.mov (t 9)), i 58 (.idxAddrS 7 (t 56) (t 57)), i 59 (.loadN 7 (t 58)), i 60 (.idxAddrS 7 (t 46) (t 47)), ⟨none, none, (.store 7 (t 60) (t 55)), none, []⟩, i 61 (.idxAddrS 7 (t 48) (t 50)), ⟨none, none, (.store 7 (t 61) (t 59)), none, []⟩]) (.seq (.seq (.ops [i 62 (.mov (t 9)), i 63 (.mov (t 1)), i 64 (.bin .sub (t 62) (t 63)), i 65 (.bin .geq (t 64) (k (.int .i64 2)))]) (.cond (t 65) (.seq (.ops [i 66 (.mov (t 9)), i 67 (.bin .sub (t 66) (k (.int .i64 1))), i 11 (.mov (t 67))]) (.block 4 (.loop l74_2))) .skip)) (.seq (.ops [i 101 (.mov (t 2)), i 102 (.mov (t 9)), i 103 (.bin .sub (t 101) (t 102)), i 104 (.bin .geq (t 103) (k (.int .i64 2)))]) (.cond (t 104) (.seq (.ops [i 105 (.mov (t 9)), i 106 (.bin .add (t 105) (k (.int .i64 1))), i 12 (.mov (t 106))]) (.block 6 (.loop l74_1))) .skip)))))))) (.ops [i 17 (.mov (t 10)), i 18 (.bin .add (t 17) (k (.int .i64 1))), i 10 (.mov (t 18))])))
def c74 : ACode := (.seq (.ops [i 8 (.mov (k (.bool false)))]) (.seq (.ops [i 13 (.mov (t 1)), i 14 (.bin .add (t 13) (k (.int .i64 1))), i 9 (.mov (t 14))]) (.seq (.seq (.ops [i 10 (.mov (k (.int .i64 0)))]) (.block 0 (.loop l74_4))) (.seq (.ops [i 8 (.mov (k (.bool false)))]) .ret))))
def a74 : AFunc := ⟨141, [(.tmp 8)], c74⟩
theorem n74 : a74.ntmps = 141 := id rfl
theorem r74 : a74.results = [(.tmp 8)] := rfl
theorem b74 : a74.body = c74 := rfl
def l75_1 : ACode := (.seq (.seq (.drawn 0 [i 50 (.mov (t 11)), i 51 (.mov (t 12)), i 52 (.bin .leq (t 50) (t 51)), i 53 (.mov (t 52)), ⟨(some 54), (some (53, true)), (.mov (t 4)), none, []⟩, ⟨(some 55), (some (53, true)), (.mov (t 0)), none, []⟩, ⟨(some 56), (some (53, true)), (.mov (t 1)), none, []⟩, ⟨(some 57), (some (53, true)), (.idxAddrS 7 (t 55) (t 56)), none, []⟩, ⟨(some 58), (some (53, true)), (.loadN 7 (t 57)), none, []⟩, ⟨(some 59), (some (53, true)), (.mov (t 0)), none, []⟩, ⟨(some 60), (some (53, true)), (.mov (t 12)), none, []⟩, ⟨(some 61), (some (53, true)), (.idxAddrS 7 (t 59) (t 60)), none, []⟩, ⟨(some 62), (some (53, true)), (.loadN 7 (t 61)), none, []⟩, ⟨(some 63), (some (53, true)), (.call .pure (t 54) [(t 58), (t 62)]), none, []⟩, ⟨(some 64), (some (53, true)), (.bin .lss (t 63) (k (.int .i64 0))), none, []⟩, i 65 (.pick (t 53) (t 64) (k (.bool false)))]) (.cond (t 65) .skip (.exit 4))) (.block 5 (.ops [i 66 (.mov (t 12)), i 67 (.bin .sub (t 66) (k (.int .i64 1))), i 12 (.mov (t 67))])))
def l75_2 : ACode := (.seq (.seq (.drawn 0 [i 31 (.mov (t 11)), i 32 (.mov (t 12)), i 33 (.bin .leq (t 31) (t 32)), i 34 (.mov (t 33)), ⟨(some 35), (some (34, true)), (.mov (t 4)), none, []⟩, ⟨(some 36), (some (34, true)), (.mov (t 0)), none, []⟩, ⟨(some 37), (some (34, true)), (.mov (t 1)), none, []⟩, ⟨(some 38), (some (34, true)), (.idxAddrS 7 (t 36) (t 37)), none, []⟩, ⟨(some 39), (some (34, true)), (.loadN 7 (t 38)), none, []⟩, ⟨(some 40), (some (34, true)), (.mov (t 0)), none, []⟩, ⟨(some 41), (some (34, true)), (.mov (t 11)), none, []⟩, ⟨(some 42), (some (34, true)), (.idxAddrS 7 (t 40) (t 41)), none, []⟩, ⟨(some 43), (some (34, true)), (.loadN 7 (t 42)), none, []⟩, ⟨(some 44), (some (34, true)), (.call .pure (t 35) [(t 39), (t 43)]), none, []⟩, ⟨(some 45), (some (34, true)), (.bin .lss (t 44) (k (.int .i64 0))), none, []⟩, ⟨(some 46), (some (34, true)), (.un .not (t 45)), none, []⟩, i 47 (.pick (t 34) (t 46) (k (.bool false)))]) (.cond (t 47) .skip (.exit 2))) (.block 3 (.ops [i 48 (.mov (t 11)), i 49 (.bin .add (t 48) (k (.int .i64 1))), i 11 (.mov (t 49))])))
def l75_3 : ACode := (.block 1 (.seq (.block 2 (.loop l75_2)) (.seq (.block 4 (.loop l75_1)) (.seq (.seq (.ops [i 68 (.mov (t 11)), i 69 (.mov (t 12)), i 70 (.bin .gtr (t 68) (t 69))]) (.cond (t 70) (.exit 0) .skip)) (.seq (.drawn 0 [i 71 (.mov (t 0)), i 72 (.mov (t 11)), i 73 (.mov (t 0)), i 74 (.mov (t 12)), i 75 (.mov (t 0)), i 76 (.mov (t 12)), i 77 (.idxAddrS 7 (t 75) (t 76)), i 78 (.loadN 7 (t 77)), i 79 (.mov (t 0)), i 80 (.mov (t 11)), i 81 (.idxAddrS 7 (t 79) (t 80)), i 82 (.loadN 7 (t 81)), i 83 (.idxAddrS 7 (t 71) (t 72)), ⟨none, none, (.store 7 (t 83) (t 78)), none, []⟩, i 84 (.idxAddrS 7 (t 73) (t 74)), ⟨none, none, (.store 7 (t 84) (t 82)), none, []⟩]) (.seq (.ops [i 85 (.mov (t 11)), i 86 (.bin .add (t 85) (k (.int .i64 1))), i 11 (.mov (t 86))]) (.ops [i 87 (.mov (t 12)), i 88 (.bin .sub (t 87) (k (.int .i64 1))), i 12 (.mov (t 88))])))))))
def c75 : ACode := (.seq (.ops [i 10 (.mov (k (.int .i64 0)))]) (.seq (.drawn 0 [i 13 (.mov (t 0)), i 14 (.mov (t 1)), i 15 (.mov (t 0)), i 16 (.mov (t 3)), i 17 (.mov (t 0)), i 18 (.mov (t 3)), i 19 (.idxAddrS 7 (t 17) (t 18)), i 20 (.loadN 7 (t 19)), i 21 (.mov (t 0)), i 22 (.mov (t 1)), i 23 (.idxAddrS 7 (t 21) (t 22)), i 24 (.loadN 7 (t 23)), i 25 (.idxAddrS 7 (t 13) (t 14)), ⟨none, none, (.store 7 (t 25) (t 20)), none, []⟩, i 26 (.idxAddrS 7 (t 15) (t 16)), ⟨none, none, (.store 7 (t 26) (t 24)), none, []⟩]) (.seq (.ops [i 27 (.mov (t 1)), i 28 (.bin .add (t 27) (k (.int .i64 1))), i 29 (.mov (t 2)), i 30 (.bin .sub (t 29) (k (.int .i64 1))), i 11 (.mov (t 28)), i 12 (.mov (t 30))]) (.seq (.block 0 (.loop l75_3)) (.seq (.ops [i 89 (.mov (t 11)), i 10 (.mov (t 89))]) .ret)))))
def a75 : AFunc := ⟨90, [(.tmp 10)], c75⟩
theorem n75 : a75.ntmps = 90 := id rfl
theorem r75 : a75.results = [(.tmp 10)] := rfl
theorem b75 : a75.body = c75 := rfl
def l76_1 : ACode := (.seq (.seq (.drawn 0 [i 123 (.mov (t 12)), i 124 (.mov (t 13)), i 125 (.bin .leq (t 123) (t 124)), i 126 (.mov (t 125)), ⟨(some 127), (some (126, true)), (.mov (t 4)), none, []⟩, ⟨(some 128), (some (126, true)), (.mov (t 0)), none, []⟩, ⟨(some 129), (some (126, true)), (.mov (t 13)), none, []⟩, ⟨(some 130), (some (126, true)), (.idxAddrS 7 (t 128) (t 129)), none, []⟩, ⟨(some 131), (some (126, true)), (.loadN 7 (t 130)), none, []⟩, ⟨(some 132), (some (126, true)), (.mov (t 0)), none, []⟩, ⟨(some 133), (some (126, true)), (.mov (t 1)), none, []⟩, ⟨(some 134), (some (126, true)), (.idxAddrS 7 (t 132) (t 133)), none, []⟩, ⟨(some 135), (some (126, true)), (.loadN 7 (t 134)), none, []⟩, ⟨(some 136), (some (126, true)), (.call .pure (t 127) [(t 131), (t 135)]), none, []⟩, ⟨(some 137), (some (126, true)), (.bin .lss (t 136) (k (.int .i64 0))), none, []⟩, ⟨(some 138), (some (126, true)), (.un .not (t 137)), none, []⟩, i 139 (.pick (t 126) (t 138) (k (.bool false)))]) (.cond (t 139) .skip (.exit 8))) (.block 9 (.ops [i 140 (.mov (t 13)), i 141 (.bin .sub (t 140) (k (.int .i64 1))), i 13 (.mov (t 141))])))
def l76_2 : ACode := (.seq (.seq (.drawn 0 [i 105 (.mov (t 12)), i 106 (.mov (t 13)), i 107 (.bin .leq (t 105) (t 106)), i 108 (.mov (t 107)), ⟨(some 109), (some (108, true)), (.mov (t 4)), none, []⟩, ⟨(some 110), (some (108, true)), (.mov (t 0)), none, []⟩, ⟨(some 111), (some (108, true)), (.mov (t 12)), none, []⟩, ⟨(some 112), (some (108, true)), (.idxAddrS 7 (t 110) (t 111)), none, []⟩, ⟨(some 113), (some (108, true)), (.loadN 7 (t 112)), none, []⟩, ⟨(some 114), (some (108, true)), (.mov (t 0)), none, []⟩, ⟨(some 115), (some (108, true)), (.mov (t 1)), none, []⟩, ⟨(some 116), (some (108, true)), (.idxAddrS 7 (t 114) (t 115)), none, []⟩, ⟨(some 117), (some (108, true)), (.loadN 7 (t 116)), none, []⟩, ⟨(some 118), (some (108, true)), (.call .pure (t 109) [(t 113), (t 117)]), none, []⟩, ⟨(some 119), (some (108, true)), (.bin .lss (t 118) (k (.int .i64 0))), none, []⟩, i 120 (.pick (t 108) (t 119) (k (.bool false)))]) (.cond (t 120) .skip (.exit 6))) (.block 7 (.ops [i 121 (.mov (t 12)), i 122 (.bin .add (t 121) (k (.int .i64 1))), i 12 (.mov (t 122))])))
def l76_3 : ACode := (.block 5 (.seq (.block 6 (.loop l76_2)) (.seq (.block 8 (.loop l76_1)) (.seq (.seq (.ops [i 142 (.mov (t 12)), i 143 (.mov (t 13)), i 144 (.bin .gtr (t 142) (t 143))]) (.cond (t 144) (.exit 4) .skip)) (.seq (.drawn 0 [i 145 (.mov (t 0)), i 146 (.mov (t 12)), i 147 (.mov (t 0)), i 148 (.mov (t 13)), i 149 (.mov (t 0)), i 150 (.mov (t 13)), i 151 (.idxAddrS 7 (t 149) (t 150)), i 152 (.loadN 7 (t 151)), i 153 (.mov (t 0)), i 154 (.mov (t 12)), i 155 (.idxAddrS 7 (t 153) (t 154)), i 156 (.loadN 7 (t 155)), i 157 (.idxAddrS 7 (t 145) (t 146)), ⟨none, none, (.store 7 (t 157) (t 152)), none, []⟩, i 158 (.idxAddrS 7 (t 147) (t 148)), ⟨none, none, (.store 7 (t 158) (t 156)), none, []⟩]) (.seq (.ops [i 159 (.mov (t 12)), i 160 (.bin .add (t 159) (k (.int .i64 1))), i 12 (.mov (t 160))]) (.ops [i 161 (.mov (t 13)), i 162 (.bin .sub (t 161) (k (.int .i64 1))), i 13 (.mov (t 162))])))))))
def l76_4 : ACode := (.seq (.seq (.drawn 0 [i 50 (.mov (t 12)), i 51 (.mov (t 13)), i 52 (.bin .leq (t 50) (t 51)), i 53 (.mov (t 52)), ⟨(some 54), (some (53, true)), (.mov (t 4)), none, []⟩, ⟨(some 55), (some (53, true)), (.mov (t 0)), none, []⟩, ⟨(some 56), (some (53, true)), (.mov (t 13)), none, []⟩, ⟨(some 57), (some (53, true)), (.idxAddrS 7 (t 55) (t 56)), none, []⟩, ⟨(some 58), (some (53, true)), (.loadN 7 (t 57)), none, []⟩, ⟨(some 59), (some (53, true)), (.mov (t 0)), none, []⟩, ⟨(some 60), (some (53, true)), (.mov (t 1)), none, []⟩, ⟨(some 61), (some (53, true)), (.idxAddrS 7 (t 59) (t 60)), none, []⟩, ⟨(some 62), (some (53, true)), (.loadN 7 (t 61)), none, []⟩, ⟨(some 63), (some (53, true)), (.call .pure (t 54) [(t 58), (t 62)]), none, []⟩, ⟨(some 64), (some (53, true)), (.bin .lss (t 63) (k (.int .i64 0))), none, []⟩, ⟨(some 65), (some (53, true)), (.un .not (t 64)), none, []⟩, i 66 (.pick (t 53) (t 65) (k (.bool false)))]) (.cond (t 66) .skip (.exit 2))) (.block 3 (.ops [i 67 (.mov (t 13)), i 68 (.bin .sub (t 67) (k (.int .i64 1))), i 13 (.mov (t 68))])))
def l76_5 : ACode := (.seq (.seq (.drawn 0 [i 32 (.mov (t 12)), i 33 (.mov (t 13)), i 34 (.bin .leq (t 32) (t 33)), i 35 (.mov (t 34)), ⟨(some 36), (some (35, true)), (.mov (t 4)), none, []⟩, ⟨(some 37), (some (35, true)), (.mov (t 0)), none, []⟩, ⟨(some 38), (some (35, true)), (.mov (t 12)), none, []⟩, ⟨(some 39), (some (35, true)), (.idxAddrS 7 (t 37) (t 38)), none, []⟩, ⟨(some 40), (some (35, true)), (.loadN 7 (t 39)), none, []⟩, ⟨(some 41), (some (35, true)), (.mov (t 0)), none, []⟩, ⟨(some 42), (some (35, true)), (.mov (t 1)), none, []⟩, ⟨(some 43), (some (35, true)), (.idxAddrS 7 (t 41) (t 42)), none, []⟩, ⟨(some 44), (some (35, true)), (.loadN 7 (t 43)), none, []⟩, ⟨(some 45), (some (35, true)), (.call .pure (t 36) [(t 40), (t 44)]), none, []⟩, ⟨(some 46), (some (35, true)), (.bin .lss (t 45) (k (.int .i64 0))), none, []⟩, i 47 (.pick (t 35) (t 46) (k (.bool false)))]) (.cond (t 47) .skip (.exit 0))) (.block 1 (.ops [i 48 (.mov (t 12)), i 49 (.bin .add (t 48) (k (.int .i64 1))), i 12 (.mov (t 49))])))
def c76 : ACode := (.seq (.ops [i 10 (.mov (k (.int .i64 0))), i 11 (.mov (k (.bool false)))]) (.seq (.drawn 0 [i 14 (.mov (t 0)), i 15 (.mov (t 1)), i 16 (.mov (t 0)), i 17 (.mov (t 3)), i 18 (.mov (t 0)), i 19 (.mov (t 3)), i 20 (.idxAddrS 7 (t 18) (t 19)), i 21 (.loadN 7 (t 20)), i 22 (.mov (t 0)), i 23 (.mov (t 1)), i 24 (.idxAddrS 7 (t 22) (t 23)), i 25 (.loadN 7 (t 24)), i 26 (.idxAddrS 7 (t 14) (t 15)), ⟨none, none, (.store 7 (t 26) (t 21)), none, []⟩, i 27 (.idxAddrS 7 (t 16) (t 17)), ⟨none, none, (.store 7 (t 27) (t 25)), none, []⟩]) (.seq (.ops [i 28 (.mov (t 1)), i 29 (.bin .add (t 28) (k (.int .i64 1))), i 30 (.mov (t 2)), i 31 (.bin .sub (t 30) (k (.int .i64 1))), i 12 (.mov (t 29)), i 13 (.mov (t 31))]) (.seq (.block 0 (.loop l76_5)) (.seq (.block 2 (.loop l76_4)) (.seq (.seq (.ops [i 69 (.mov (t 12)), i 70 (.mov (t 13)), i 71 (.bin .gtr (t 69) (t 70))]) (.cond (t 71) (.seq (.drawn 0 [i 72 (.mov (t 0)), i 73 (.mov (t 13)), i 74 (.mov (t 0)), i 75 (.mov (t 1)), i 76 (.mov (t 0)), i 77 (.mov (t 1)), i 78 (.idxAddrS 7 (t 76) (t 77)), i 79 (.loadN 7 (t 78)), i 80 (.mov (t 0)), i 81 (.mov (t 13)), i 82 (.idxAddrS 7 (t 80) (t 81)), i 83 (.loadN 7 (t 82)), i 84 (.idxAddrS 7 (t 72) (t 73)), ⟨none, none, (.store 7 (t 84) (t 79)), none, []⟩, i 85 (.idxAddrS 7 (t 74) (t 75)), ⟨none, none, (.store 7 (t 85) (t 83)), none, []⟩]) (.seq (.ops [i 86 (.mov (t 13)), i 10 (.mov (t 86)), i 11 (.mov (k (.bool true)))]) .ret)) .skip)) (.seq (.drawn 0 [i 87 (.mov (t 0)), i 88 (.mov (t 12)), i 89 (.mov (t 0)), i 90 (.mov (t 13)), i 91 (.mov (t 0)), i 92 (.mov (t 13)), i 93 (.idxAddrS 7 (t 91) (t 92)), i 94 (.loadN 7 (t 93)), i 95 (.mov (t 0)), i 96 (.mov (t 12)), i 97 (.idxAddrS 7 (t 95) (t 96)), i 98 (.loadN 7 (t 97)), i 99 (.idxAddrS 7 (t 87) (t 88)), ⟨none, none, (.store 7 (t 99) (t 94)), none, []⟩, i 100 (.idxAddrS 7 (t 89) (t 90)), ⟨none, none, (.store 7 (t 100) (t 98)), none, []⟩]) (.seq (.ops [i 101 (.mov (t 12)), i 102 (.bin .add (t 101) (k (.int .i64 1))), i 12 (.mov (t 102))]) (.seq (.ops [i 103 (.mov (t 13)), i 104 (.bin .sub (t 103) (k (.int .i64 1))), i 13 (.mov (t 104))]) (.seq (.block 4 (.loop l76_3)) (.seq (.drawn 0 [i 163 (.mov (t 0)), i 164 (.mov (t 13)), i 165 (.mov (t 0)), i 166 (.mov (t 1)), i 167 (.mov (t 0)), i 168 (.mov (t 1)), i 169 (.idxAddrS 7 (t 167) (t 168)), i 170 (.loadN 7 (t 169)), i 171 (.mov (t 0)), i 172 (.mov (t 13)), i 173 (.idxAddrS 7 (t 171) (t 172)), i 174 (.loadN 7 (t 173)), i 175 (.idxAddrS 7 (t 163) (t 164)), ⟨none, none, (.store 7 (t 175) (t 170)), none, []⟩, i 176 (.idxAddrS 7 (t 165) (t 166)), ⟨none, none, (.store 7 (t 176) (t 174)), none, []⟩]) (.seq (.ops [i 177 (.mov (t 13)), i 10 (.mov (t 177)), i 11 (.mov (k (.bool false)))]) .ret))))))))))))
def a76 : AFunc := ⟨178, [(.tmp 10), (.tmp 11)], c76⟩
theorem n76 : a76.ntmps = 178 := id rfl
theorem r76 : a76.results = [(.tmp 10), (.tmp 11)] := rfl
theorem b76 : a76.body = c76 := rfl
def c77 : ACode := (.seq (.ops [i 2 (.mov (k (.int .i64 0)))]) (.seq (.seq (.ops [i 3 (.mov (t 0)), i 4 (.bin .geq (t 3) (k (.int .u32 65536)))]) (.cond (t 4) (.seq (.ops [i 5 (.mov (t 0)), i 6 (.bin .shr (t 5) (k (.int .u64 16))), i 0 (.mov (t 6))]) (.ops [i 2 (.mov (k (.int .i64 16)))])) .skip)) (.seq (.seq (.ops [i 7 (.mov (t 0)), i 8 (.bin .geq (t 7) (k (.int .u32 256)))]) (.cond (t 8) (.seq (.ops [i 9 (.mov (t 0)), i 10 (.bin .shr (t 9) (k (.int .u64 8))), i 0 (.mov (t 10))]) (.ops [i 11 (.mov (t 2)), i 12 (.bin .add (t 11) (k (.int .i64 8))), i 2 (.mov (t 12))])) .skip)) (.seq (.ops [i 13 (.mov (t 2)), i 14 (.mov (t 0)), i 15 (.conv .u8 (t 14)), i 16 (.idxStr (k (.string ⟨#[0, 1, 2, 2, 3, 3, 3, 3, 4, 4, 4, 4, 4, 4, 4, 4, 5, 5, 5, 5, 5, 5, 5, 5, 5, 5, 5, 5, 5, 5, 5, 5, 6, 6, 6, 6, 6, 6, 6, 6, 6, 6, 6, 6, 6, 6, 6, 6, 6, 6, 6, 6, 6, 6, 6, 6, 6, 6, 6, 6, 6, 6, 6, 6, 7, 7, 7, 7, 7, 7, 7, 7, 7, 7, 7, 7, 7, 7, 7, 7, 7, 7, 7, 7, 7, 7, 7, 7, 7, 7, 7, 7, 7, 7, 7, 7, 7, 7, 7, 7, 7, 7, 7, 7, 7, 7, 7, 7, 7, 7, 7, 7, 7, 7, 7, 7, 7, 7, 7, 7, 7, 7, 7, 7, 7, 7, 7, 7, 8, 8, 8, 8, 8, 8, 8, 8, 8, 8, 8, 8, 8, 8, 8, 8, 8, 8, 8, 8, 8, 8, 8, 8, 8, 8, 8, 8, 8, 8, 8, 8, 8, 8, 8, 8, 8, 8, 8, 8, 8, 8, 8, 8, 8, 8, 8, 8, 8, 8, 8, 8, 8, 8, 8, 8, 8, 8, 8, 8, 8, 8, 8, 8, 8, 8, 8, 8, 8, 8, 8, 8, 8, 8, 8, 8, 8, 8, 8, 8, 8, 8, 8, 8, 8, 8, 8, 8, 8, 8, 8, 8, 8, 8, 8, 8, 8, 8, 8, 8, 8, 8, 8, 8, 8, 8, 8, 8, 8, 8, 8, 8, 8, 8, 8, 8, 8, 8, 8, 8, 8, 8, 8, 8, 8, 8, 8, 8]⟩)) (t 15)), i 17 (.conv .i64 (t 16)), i 18 (.bin .add (t 13) (t 17)), i 2 (.mov (t 18))]) .ret))))
def a77 : AFunc := ⟨19, [(.tmp 2)], c77⟩
def c78 : ACode := (.seq (.ops [i 2 (.mov (k (.int .i64 0)))]) (.seq (.seq (.ops [i 3 (.mov (t 0)), i 4 (.bin .geq (t 3) (k (.int .u64 4294967296)))]) (.cond (t 4) (.seq (.ops [i 5 (.mov (t 0)), i 6 (.bin .shr (t 5) (k (.int .u64 32))), i 0 (.mov (t 6))]) (.ops [i 2 (.mov (k (.int .i64 32)))])) .skip)) (.seq (.seq (.ops [i 7 (.mov (t 0)), i 8 (.bin .geq (t 7) (k (.int .u64 65536)))]) (.cond (t 8) (.seq (.ops [i 9 (.mov (t 0)), i 10 (.bin .shr (t 9) (k (.int .u64 16))), i 0 (.mov (t 10))]) (.ops [i 11 (.mov (t 2)), i 12 (.bin .add (t 11) (k (.int .i64 16))), i 2 (.mov (t 12))])) .skip)) (.seq (.seq (.ops [i 13 (.mov (t 0)), i 14 (.bin .geq (t 13) (k (.int .u64 256)))]) (.cond (t 14) (.seq (.ops [i 15 (.mov (t 0)), i 16 (.bin .shr (t 15) (k (.int .u64 8))), i 0 (.mov (t 16))]) (.ops [i 17 (.mov (t 2)), i 18 (.bin .add (t 17) (k (.int .i64 8))), i 2 (.mov (t 18))])) .skip)) (.seq (.ops [i 19 (.mov (t 2)), i 20 (.mov (t 0)), i 21 (.conv .u8 (t 20)), i 22 (.idxStr (k (.string ⟨#[0, 1, 2, 2, 3, 3, 3, 3, 4, 4, 4, 4, 4, 4, 4, 4, 5, 5, 5, 5, 5, 5, 5, 5, 5, 5, 5, 5, 5, 5, 5, 5, 6, 6, 6, 6, 6, 6, 6, 6, 6, 6, 6, 6, 6, 6, 6, 6, 6, 6, 6, 6, 6, 6, 6, 6, 6, 6, 6, 6, 6, 6, 6, 6, 7, 7, 7, 7, 7, 7, 7, 7, 7, 7, 7, 7, 7, 7, 7, 7, 7, 7, 7, 7, 7, 7, 7, 7, 7, 7, 7, 7, 7, 7, 7, 7, 7, 7, 7, 7, 7, 7, 7, 7, 7, 7, 7, 7, 7, 7, 7, 7, 7, 7, 7, 7, 7, 7, 7, 7, 7, 7, 7, 7, 7, 7, 7, 7, 8, 8, 8, 8, 8, 8, 8, 8, 8, 8, 8, 8, 8, 8, 8, 8, 8, 8, 8, 8, 8, 8, 8, 8, 8, 8, 8, 8, 8, 8, 8, 8, 8, 8, 8, 8, 8, 8, 8, 8, 8, 8, 8, 8, 8, 8, 8, 8, 8, 8, 8, 8, 8, 8, 8, 8, 8, 8, 8, 8, 8, 8, 8, 8, 8, 8, 8, 8, 8, 8, 8, 8, 8, 8, 8, 8, 8, 8, 8, 8, 8, 8, 8, 8, 8, 8, 8, 8, 8, 8, 8, 8, 8, 8, 8, 8, 8, 8, 8, 8, 8, 8, 8, 8, 8, 8, 8, 8, 8, 8, 8, 8, 8, 8, 8, 8, 8, 8, 8, 8, 8, 8, 8, 8, 8, 8, 8, 8]⟩)) (t 21)), i 23 (.conv .i64 (t 22)), i 24 (.bin .add (t 19) (t 23)), i 2 (.mov (t 24))]) .ret)))))
def a78 : AFunc := ⟨25, [(.tmp 2)], c78⟩
theorem n78 : a78.ntmps = 25 := id rfl
theorem r78 : a78.results = [(.tmp 2)] := rfl
theorem b78 : a78.body = c78 := rfl
def c79 : ACode := (.seq (.ops [i 2 (.mov (k (.bool false)))]) (.seq (.ops [i 3 (.mov (t 0)), i 4 (.mov (t 0)), i 5 (.bin .neq (t 3) (t 4)), i 2 (.mov (t 5))]) .ret))
def a79 : AFunc := ⟨6, [(.tmp 2)], c79⟩
theorem n79 : a79.ntmps = 6 := id rfl
theorem r79 : a79.results = [(.tmp 2)] := rfl
theorem b79 : a79.body = c79 := rfl
def ga80_1 : ACode := (.ops [i 5 (.alloc [(.int .i64 0), (.int .i64 0), (.int .i64 0)]), ⟨none, none, (.store 3 (t 5) (t 7)), none, []⟩])
def gb80_1 : ACode := (.block 1 (.ops [i 8 (.load1 (t 2)), i 9 (.loadN 3 (t 5)), i 10 (.buildSlice 1 [(.int .i64 0), (.int .i64 0), (.int .i64 0)] [(0, (3, (t 9)))]), i 11 (.append 3 24 false (t 8) (t 10)), ⟨none, none, (.store 1 (t 2) (t 11)), none, []⟩]))
def c80 : ACode := (.seq (.seq (.ops [i 2 (.box (t 0)), i 4 (.mov (k (.slice none 0 0)))]) (.seq (.seq (.ops [i 6 (.mov (t 1))]) (.block 0 (.rangeF (t 6) [7] ga80_1 gb80_1))) (.seq (.ops [i 12 (.load1 (t 2)), i 4 (.mov (t 12))]) .retM))) .retM)
def a80 : AFunc := ⟨13, [(.tmp 4)], c80⟩
theorem n80 : a80.ntmps = 13 := id rfl
theorem r80 : a80.results = [(.tmp 4)] := rfl
theorem b80 : a80.body = c80 := rfl
def l81_1 : ACode := (.block 1 (.seq (.ops [i 21 (.mov (t 2)), i 22 (.mov (t 1)), i 23 (.bin .sub (t 21) (t 22)), i 12 (.mov (t 23))]) (.seq (.seq (.ops [i 24 (.mov (t 12)), i 25 (.bin .leq (t 24) (k (.int .i64 12)))]) (.cond (t 25) (.seq (.ops [i 26 (.mov (t 0)), i 27 (.mov (t 1)), i 28 (.mov (t 2)), i 29 (.mov (t 4)), i 30 (.call .any (.func 87) [(t 26), (t 27), (t 28), (t 29)])]) .ret) .skip)) (.seq (.seq (.ops [i 31 (.mov (t 3)), i 32 (.bin .eql (t 31) (k (.int .i64 0)))]) (.cond (t 32) (.seq (.ops [i 33 (.mov (t 0)), i 34 (.mov (t 1)), i 35 (.mov (t 2)), i 36 (.mov (t 4)), i 37 (.call .any (.func 88) [(t 33), (t 34), (t 35), (t 36)])]) .ret) .skip)) (.seq (.seq (.ops [i 38 (.mov (t 10)), i 39 (.un .not (t 38))]) (.cond (t 39) (.seq (.ops [i 40 (.mov (t 0)), i 41 (.mov (t 1)), i 42 (.mov (t 2)), i 43 (.mov (t 4)), i 44 (.call .any (.func 89) [(t 40), (t 41), (t 42), (t 43)])]) (.ops [i 45 (.mov (t 3)), i 46 (.bin .sub (t 45) (k (.int .i64 1))), i 3 (.mov (t 46))])) .skip)) (.seq (.ops [i 48 (.mov (t 0)), i 49 (.mov (t 1)), i 50 (.mov (t 2)), i 51 (.mov (t 4)), i 52 (.call .any (.func 90) [(t 48), (t 49), (t 50), (t 51)]), i 47 (.mov (t 52)), i 53 (.extract 0 (t 47)), i 54 (.extract 1 (t 47)), i 13 (.mov (t 53)), i 14 (.mov (t 54))]) (.seq (.seq (.ops [i 55 (.mov (t 14)), i 56 (.bin .eql (t 55) (k (.int .i64 2)))]) (.cond (t 56) (.seq (.ops [i 57 (.mov (t 0)), i 58 (.mov (t 1)), i 59 (.mov (t 2)), i 60 (.mov (t 4)), i 61 (.call .any (.func 91) [(t 57), (t 58), (t 59), (t 60)])]) (.seq (.ops [i 62 (.mov (t 2)), i 63 (.bin .sub (t 62) (k (.int .i64 1))), i 64 (.mov (t 13)), i 65 (.mov (t 1)), i 66 (.bin .sub (t 64) (t 65)), i 67 (.bin .sub (t 63) (t 66)), i 13 (.mov (t 67))]) (.ops [i 14 (.mov (k (.int .i64 1)))]))) .skip)) (.seq (.seq (.ops [i 68 (.mov (t 10)), i 69 (.mov (t 68)), ⟨(some 70), (some (69, true)), (.mov (t 11)), none, []⟩, i 71 (.pick (t 69) (t 70) (k (.bool false))), i 72 (.mov (t 71)), ⟨(some 73), (some (72, true)), (.mov (t 14)), none, []⟩, ⟨(some 74), (some (72, true)), (.bin .eql (t 73) (k (.int .i64 1))), none, []⟩, i 75 (.pick (t 72) (t 74) (k (.bool false)))]) (.cond (t 75) (.seq (.ops [i 76 (.mov (t 0)), i 77 (.mov (t 1)), i 78 (.mov (t 2)), i 79 (.mov (t 4)), i 80 (.call .any (.func 92) [(t 76), (t 77), (t 78), (t 79)])]) (.cond (t 80) .ret .skip)) .skip)) (.seq (.seq (.drawn 0 [i 81 (.mov (t 1)), i 82 (.bin .gtr (t 81) (k (.int .i64 0))), i 83 (.mov (t 82)), ⟨(some 84), (some (83, true)), (.mov (t 4)), none, []⟩, ⟨(some 85), (some (83, true)), (.mov (t 0)), none, []⟩, ⟨(some 86), (some (83, true)), (.mov (t 1)), none, []⟩, ⟨(some 87), (some (83, true)), (.bin .sub (t 86) (k (.int .i64 1))), none, []⟩, ⟨(some 88), (some (83, true)), (.idxAddrS 3 (t 85) (t 87)), none, []⟩, ⟨(some 89), (some (83, true)), (.loadN 3 (t 88)), none, []⟩, ⟨(some 90), (some (83, true)), (.mov (t 0)), none, []⟩, ⟨(some 91), (some (83, true)), (.mov (t 13)), none, []⟩, ⟨(some 92), (some (83, true)), (.idxAddrS 3 (t 90) (t 91)), none, []⟩, ⟨(some 93), (some (83, true)), (.loadN 3 (t 92)), none, []⟩, ⟨(some 94), (some (83, true)), (.call .pure (t 84) [(t 89), (t 93)]), none, []⟩, ⟨(some 95), (some (83, true)), (.bin .lss (t 94) (k (.int .i64 0))), none, []⟩, ⟨(some 96), (some (83, true)), (.un .not (t 95)), none, []⟩, i 97 (.pick (t 83) (t 96) (k (.bool false)))]) (.cond (t 97) (.seq (.ops [i 98 (.mov (t 0)), i 99 (.mov (t 1)), i 100 (.mov (t 2)), i 101 (.mov (t 13)), i 102 (.mov (t 4)), i 103 (.call .any (.func 93) [(t 98), (t 99), (t 100), (t 101), (t 102)]), i 15 (.mov (t 103))]) (.seq (.ops [i 104 (.mov (t 15)), i 1 (.mov (t 104))]) (.exit 1))) .skip)) (.seq (.ops [i 106 (.mov (t 0)), i 107 (.mov (t 1)), i 108 (.mov (t 2)), i 109 (.mov (t 13)), i 110 (.mov (t 4)), i 111 (.call .any (.func 94) [(t 106), (t 107), (t 108), (t 109), (t 110)]), i 105 (.mov (t 111)), i 112 (.extract 0 (t 105)), i 113 (.extract 1 (t 105)), i 16 (.mov (t 112)), i 17 (.mov (t 113))]) (.seq (.ops [i 114 (.mov (t 17)), i 11 (.mov (t 114))]) (.seq (.ops [i 115 (.mov (t 16)), i 116 (.mov (t 1)), i 117 (.bin .sub (t 115) (t 116)), i 118 (.mov (t 2)), i 119 (.mov (t 16)), i 120 (.bin .sub (t 118) (t 119)), i 18 (.mov (t 117)), i 19 (.mov (t 120))]) (.seq (.ops [i 121 (.mov (t 12)), i 122 (.bin .quo (t 121) (k (.int .i64 8))), i 20 (.mov (t 122))]) (.seq (.ops [i 123 (.mov (t 18)), i 124 (.mov (t 19)), i 125 (.bin .lss (t 123) (t 124))]) (.cond (t 125) (.seq (.ops [i 126 (.mov (t 18)), i 127 (.mov (t 20)), i 128 (.bin .geq (t 126) (t 127)), i 10 (.mov (t 128))]) (.seq (.ops [i 129 (.mov (t 0)), i 130 (.mov (t 1)), i 131 (.mov (t 16)), i 132 (.mov (t 3)), i 133 (.mov (t 4)), i 134 (.call .any (.func 81) [(t 129), (t 130), (t 131), (t 132), (t 133)])]) (.ops [i 135 (.mov (t 16)), i 136 (.bin .add (t 135) (k (.int .i64 1))), i 1 (.mov (t 136))]))) (.seq (.ops [i 137 (.mov (t 19)), i 138 (.mov (t 20)), i 139 (.bin .geq (t 137) (t 138)), i 10 (.mov (t 139))]) (.seq (.ops [i 140 (.mov (t 0)), i 141 (.mov (t 16)), i 142 (.bin .add (t 141) (k (.int .i64 1))), i 143 (.mov (t 2)), i 144 (.mov (t 3)), i 145 (.mov (t 4)), i 146 (.call .any (.func 81) [(t 140), (t 142), (t 143), (t 144), (t 145)])]) (.ops [i 147 (.mov (t 16)), i 2 (.mov (t 147))]))))))))))))))))))
def c81 : ACode := (.seq (.ops [i 10 (.mov (k (.bool true)))]) (.seq (.ops [i 11 (.mov (k (.bool true)))]) (.block 0 (.loop l81_1))))
def a81 : AFunc := ⟨148, [], c81⟩
theorem n81 : a81.ntmps = 148 := id rfl
theorem r81 : a81.results = [] := rfl
theorem b81 : a81.body = c81 := rfl
def l82_1 : ACode := (.block 1 (.seq (.ops [i 13 (.mov (t 10)), i 14 (.bin .mul (k (.int .i64 2)) (t 13)), i 15 (.bin .add (t 14) (k (.int .i64 1))), i 11 (.mov (t 15))]) (.seq (.seq (.ops [i 16 (.mov (t 11)), i 17 (.mov (t 2)), i 18 (.bin .geq (t 16) (t 17))]) (.cond (t 18) (.exit 0) .skip)) (.seq (.seq (.drawn 0 [i 19 (.mov (t 11)), i 20 (.bin .add (t 19) (k (.int .i64 1))), i 21 (.mov (t 2)), i 22 (.bin .lss (t 20) (t 21)), i 23 (.mov (t 22)), ⟨(some 24), (some (23, true)), (.mov (t 4)), none, []⟩, ⟨(some 25), (some (23, true)), (.mov (t 0)), none, []⟩, ⟨(some 26), (some (23, true)), (.mov (t 3)), none, []⟩, ⟨(some 27), (some (23, true)), (.mov (t 11)), none, []⟩, ⟨(some 28), (some (23, true)), (.bin .add (t 26) (t 27)), none, []⟩, ⟨(some 29), (some (23, true)), (.idxAddrS 7 (t 25) (t 28)), none, []⟩, ⟨(some 30), (some (23, true)), (.loadN 7 (t 29)), none, []⟩, ⟨(some 31), (some (23, true)), (.mov (t 0)), none, []⟩, ⟨(some 32), (some (23, true)), (.mov (t 3)), none, []⟩, ⟨(some 33), (some (23, true)), (.mov (t 11)), none, []⟩, ⟨(some 34), (some (23, true)), (.bin .add (t 32) (t 33)), none, []⟩, ⟨(some 35), (some (23, true)), (.bin .add (t 34) (k (.int .i64 1))), none, []⟩, ⟨(some 36), (some (23, true)), (.idxAddrS 7 (t 31) (t 35)), none, []⟩, ⟨(some 37), (some (23, true)), (.loadN 7 (t 36)), none, []⟩, ⟨(some 38), (some (23, true)), (.call .pure (t 24) [(t 30), (t 37)]), none, []⟩, ⟨(some 39), (some (23, true)), (.bin .lss (t 38) (k (.int .i64 0))), none, []⟩, i 40 (.pick (t 23) (t 39) (k (.bool false)))]) (.cond (t 40) (.ops [i 41 (.mov (t 11)), i 42 (.bin .add (t 41) (k (.int .i64 1))), i 11 (.mov (t 42))]) .skip)) (.seq (.seq (.drawn 0 [i 43 (.mov (t 4)), i 44 (.mov (t 0)), i 45 (.mov (t 3)), i 46 (.mov (t 10)), i 47 (.bin .add (t 45) (t 46)), i 48 (.idxAddrS 7 (t 44) (t 47)), i 49 (.loadN 7 (t 48)), i 50 (.mov (t 0)), i 51 (.mov (t 3)), i 52 (.mov (t 11)), i 53 (.bin .add (t 51) (t 52)), i 54 (.idxAddrS 7 (t 50) (t 53)), i 55 (.loadN 7 (t 54)), i 56 (.call .pure (t 43) [(t 49), (t 55)]), i 57 (.bin .lss (t 56) (k (.int .i64 0))), i 58 (.un .not (t 57))]) (.cond (t 58) .ret .skip)) (.seq (.drawn 0 [i 59 (.mov (t 0)), i 60 (.mov (t 3)), i 61 (.mov (t 10)), i 62 (.bin .add (t 60) (t 61)), i 63 (.mov (t 0)), i 64 (.mov (t 3)), i 65 (.mov (t 11)), i 66 (.bin .add (t 64) (t 65)), i 67 (.mov (t 0)), i 68 (.mov (t 3)), i 69 (.mov (t 11)), i 70 (.bin .add (t 68) (t 69)), i 71 (.idxAddrS 7 (t 67) (t 70)), i 72 (.loadN 7 (t 71)), i 73 (.mov (t 0)), i 74 (.mov (t 3)), i 75 (.mov (t 10)), i 76 (.bin .add (t 74) (t 75)), i 77 (.idxAddrS 7 (t 73) (t 76)), i 78 (.loadN 7 (t 77)), i 79 (.idxAddrS 7 (t 59) (t 62)), ⟨none, none, (.store 7 (t 79) (t 72)), none, []⟩, i 80 (.idxAddrS 7 (t 63) (t 66)), ⟨none, none, (.store 7 (t 80) (t 78)), none, []⟩]) (.ops [i 81 (.mov (t 11)), i 10 (.mov (t 81))])))))))
def c82 : ACode := (.seq (.ops [i 12 (.mov (t 1)), i 10 (.mov (t 12))]) (.block 0 (.loop l82_1)))
def a82 : AFunc := ⟨82, [], c82⟩
theorem n82 : a82.ntmps = 82 := id rfl
theorem r82 : a82.results = [] := rfl
theorem b82 : a82.body = c82 := rfl
def c83 : ACode := (.seq (.ops [i 2 (.mov (k (.int .u64 0)))]) (.seq (.ops [i 3 (.mov (t 0)), i 4 (.conv .u64 (t 3)), i 5 (.call .any (.func 60) [(t 4)]), i 6 (.bin .shl (k (.int .u64 1)) (t 5)), i 2 (.mov (t 6))]) .ret))
def a83 : AFunc := ⟨7, [(.tmp 2)], c83⟩
theorem n83 : a83.ntmps = 7 := id rfl
theorem r83 : a83.results = [(.tmp 2)] := rfl
theorem b83 : a83.body = c83 := rfl
def c84 : ACode := (.seq (.ops [i 2 (.mov (k (.int .u64 0)))]) (.seq (.drawn 0 [i 3 (.mov (t 0)), i 4 (.nilCheck (t 3)), i 5 (.load1 (t 4)), i 6 (.mov (t 0)), i 7 (.nilCheck (t 6)), i 8 (.load1 (t 7)), i 9 (.bin .shl (t 8) (k (.int .u64 13))), i 10 (.bin .xor (t 5) (t 9)), i 11 (.nilCheck (t 3)), ⟨none, none, (.store 1 (t 11) (t 10)), none, []⟩]) (.seq (.drawn 0 [i 12 (.mov (t 0)), i 13 (.nilCheck (t 12)), i 14 (.load1 (t 13)), i 15 (.mov (t 0)), i 16 (.nilCheck (t 15)), i 17 (.load1 (t 16)), i 18 (.bin .shr (t 17) (k (.int .u64 7))), i 19 (.bin .xor (t 14) (t 18)), i 20 (.nilCheck (t 12)), ⟨none, none, (.store 1 (t 20) (t 19)), none, []⟩]) (.seq (.drawn 0 [i 21 (.mov (t 0)), i 22 (.nilCheck (t 21)), i 23 (.load1 (t 22)), i 24 (.mov (t 0)), i 25 (.nilCheck (t 24)), i 26 (.load1 (t 25)), i 27 (.bin .shl (t 26) (k (.int .u64 17))), i 28 (.bin .xor (t 23) (t 27)), i 29 (.nilCheck (t 21)), ⟨none, none, (.store 1 (t 29) (t 28)), none, []⟩]) (.seq (.ops [i 30 (.mov (t 0)), i 31 (.nilCheck (t 30)), i 32 (.load1 (t 31)), i 2 (.mov (t 32))]) .ret)))))
def a84 : AFunc := ⟨33, [(.tmp 2)], c84⟩
theorem n84 : a84.ntmps = 33 := id rfl
theorem r84 : a84.results = [(.tmp 2)] := rfl
theorem b84 : a84.body = c84 := rfl
def c85 : ACode := (.seq (.ops [i 8 (.mov (k (.int .i64 0)))]) (.seq (.ops [i 9 (.mov (t 0)), i 10 (.mov (t 1)), i 11 (.bin .sub (t 10) (k (.int .i64 1))), i 12 (.mov (t 1)), i 13 (.mov (t 1)), i 14 (.bin .add (t 13) (k (.int .i64 1))), i 15 (.mov (t 2)), i 16 (.mov (t 3)), i 17 (.call .any (.func 86) [(t 9), (t 11), (t 12), (t 14), (t 15), (t 16)]), i 8 (.mov (t 17))]) .ret))
def a85 : AFunc := ⟨18, [(.tmp 8)], c85⟩
theorem n85 : a85.ntmps = 18 := id rfl
theorem r85 : a85.results = [(.tmp 8)] := rfl
theorem b85 : a85.body = c85 := rfl
def c86 : ACode := (.seq (.ops [i 12 (.mov (k (.int .i64 0)))]) (.seq (.ops [i 14 (.mov (t 0)), i 15 (.mov (t 1)), i 16 (.mov (t 2)), i 17 (.mov (t 4)), i 18 (.mov (t 5)), i 19 (.call .any (.func 95) [(t 14), (t 15), (t 16), (t 17), (t 18)]), i 13 (.mov (t 19)), i 20 (.extract 0 (t 13)), i 21 (.extract 1 (t 13)), i 1 (.mov (t 20)), i 2 (.mov (t 21))]) (.seq (.ops [i 23 (.mov (t 0)), i 24 (.mov (t 2)), i 25 (.mov (t 3)), i 26 (.mov (t 4)), i 27 (.mov (t 5)), i 28 (.call .any (.func 95) [(t 23), (t 24), (t 25), (t 26), (t 27)]), i 22 (.mov (t 28)), i 29 (.extract 0 (t 22)), i 30 (.extract 1 (t 22)), i 2 (.mov (t 29)), i 3 (.mov (t 30))]) (.seq (.ops [i 32 (.mov (t 0)), i 33 (.mov (t 1)), i 34 (.mov (t 2)), i 35 (.mov (t 4)), i 36 (.mov (t 5)), i 37 (.call .any (.func 95) [(t 32), (t 33), (t 34), (t 35), (t 36)]), i 31 (.mov (t 37)), i 38 (.extract 0 (t 31)), i 39 (.extract 1 (t 31)), i 1 (.mov (t 38)), i 2 (.mov (t 39))]) (.seq (.ops [i 40 (.mov (t 2)), i 12 (.mov (t 40))]) .ret)))))
def a86 : AFunc := ⟨41, [(.tmp 12)], c86⟩
theorem n86 : a86.ntmps = 41 := id rfl
theorem r86 : a86.results = [(.tmp 12)] := rfl
theorem b86 : a86.body = c86 := rfl
def l87_1 : ACode := (.seq (.seq (.drawn 0 [i 18 (.mov (t 9)), i 19 (.mov (t 1)), i 20 (.bin .gtr (t 18) (t 19)), i 21 (.mov (t 20)), ⟨(some 22), (some (21, true)), (.mov (t 3)), none, []⟩, ⟨(some 23), (some (21, true)), (.mov (t 0)), none, []⟩, ⟨(some 24), (some (21, true)), (.mov (t 9)), none, []⟩, ⟨(some 25), (some (21, true)), (.idxAddrS 3 (t 23) (t 24)), none, []⟩, ⟨(some 26), (some (21, true)), (.loadN 3 (t 25)), none, []⟩, ⟨(some 27), (some (21, true)), (.mov (t 0)), none, []⟩, ⟨(some 28), (some (21, true)), (.mov (t 9)), none, []⟩, ⟨(some 29), (some (21, true)), (.bin .sub (t 28) (k (.int .i64 1))), none, []⟩, ⟨(some 30), (some (21, true)), (.idxAddrS 3 (t 27) (t 29)), none, []⟩, ⟨(some 31), (some (21, true)), (.loadN 3 (t 30)), none, []⟩, ⟨(some 32), (some (21, true)), (.call .pure (t 22) [(t 26), (t 31)]), none, []⟩, ⟨(some 33), (some (21, true)), (.bin .lss (t 32) (k (.int .i64 0))), none, []⟩, i 34 (.pick (t 21) (t 33) (k (.bool false)))]) (.cond (t 34) .skip (.exit 2))) (.seq (.block 3 (.drawn 0 [i 37 (.mov (t 0)), i 38 (.mov (t 9)), i 39 (.mov (t 0)), i 40 (.mov (t 9)), i 41 (.bin .sub (t 40) (k (.int .i64 1))), i 42 (.mov (t 0)), i 43 (.mov (t 9)), i 44 (.bin .sub (t 43) (k (.int .i64 1))), i 45 (.idxAddrS 3 (t 42) (t 44)), i 46 (.loadN 3 (t 45)), i 47 (.mov (t 0)), i 48 (.mov (t 9)), i 49 (.idxAddrS 3 (t 47) (t 48)), i 50 (.loadN 3 (t 49)), i 51 (.idxAddrS 3 (t 37) (t 38)), ⟨none, none, (.store 3 (t 51) (t 46)), none, []⟩, i 52 (.idxAddrS 3 (t 39) (t 41)), ⟨none, none, (.store 3 (t 52) (t 50)), none, []⟩])) (.ops [i 35 (.mov (t 9)), i 36 (.bin .sub (t 35) (k (.int .i64 1))), i 9 (.mov (t 36))])))
def l87_2 : ACode := (.seq (.seq (.ops [i 12 (.mov (t 8)), i 13 (.mov (t 2)), i 14 (.bin .lss (t 12) (t 13))]) (.cond (t 14) .skip (.exit 0))) (.seq (.block 1 (.seq (.ops [i 17 (.mov (t 8)), i 9 (.mov (t 17))]) (.block 2 (.loop l87_1)))) (.ops [i 15 (.mov (t 8)), i 16 (.bin .add (t 15) (k (.int .i64 1))), i 8 (.mov (t 16))])))
def c87 : ACode := (.seq (.ops [i 10 (.mov (t 1)), i 11 (.bin .add (t 10) (k (.int .i64 1))), i 8 (.mov (t 11))]) (.block 0 (.loop l87_2)))
def a87 : AFunc := ⟨53, [], c87⟩
theorem n87 : a87.ntmps = 53 := id rfl
theorem r87 : a87.results = [] := rfl
theorem b87 : a87.body = c87 := rfl
def l88_1 : ACode := (.seq (.seq (.ops [i 32 (.mov (t 12)), i 33 (.bin .geq (t 32) (k (.int .i64 0)))]) (.cond (t 33) .skip (.exit 2))) (.seq (.block 3 (.seq (.drawn 0 [i 36 (.mov (t 0)), i 37 (.mov (t 8)), i 38 (.mov (t 0)), i 39 (.mov (t 8)), i 40 (.mov (t 12)), i 41 (.bin .add (t 39) (t 40)), i 42 (.mov (t 0)), i 43 (.mov (t 8)), i 44 (.mov (t 12)), i 45 (.bin .add (t 43) (t 44)), i 46 (.idxAddrS 3 (t 42) (t 45)), i 47 (.loadN 3 (t 46)), i 48 (.mov (t 0)), i 49 (.mov (t 8)), i 50 (.idxAddrS 3 (t 48) (t 49)), i 51 (.loadN 3 (t 50)), i 52 (.idxAddrS 3 (t 36) (t 37)), ⟨none, none, (.store 3 (t 52) (t 47)), none, []⟩, i 53 (.idxAddrS 3 (t 38) (t 41)), ⟨none, none, (.store 3 (t 53) (t 51)), none, []⟩]) (.ops [i 54 (.mov (t 0)), i 55 (.mov (t 9)), i 56 (.mov (t 12)), i 57 (.mov (t 8)), i 58 (.mov (t 3)), i 59 (.call .any (.func 96) [(t 54), (t 55), (t 56), (t 57), (t 58)])]))) (.ops [i 34 (.mov (t 12)), i 35 (.bin .sub (t 34) (k (.int .i64 1))), i 12 (.mov (t 35))])))
def l88_2 : ACode := (.seq (.seq (.ops [i 20 (.mov (t 11)), i 21 (.bin .geq (t 20) (k (.int .i64 0)))]) (.cond (t 21) .skip (.exit 0))) (.seq (.block 1 (.ops [i 24 (.mov (t 0)), i 25 (.mov (t 11)), i 26 (.mov (t 10)), i 27 (.mov (t 8)), i 28 (.mov (t 3)), i 29 (.call .any (.func 96) [(t 24), (t 25), (t 26), (t 27), (t 28)])])) (.ops [i 22 (.mov (t 11)), i 23 (.bin .sub (t 22) (k (.int .i64 1))), i 11 (.mov (t 23))])))
def c88 : ACode := (.seq (.ops [i 13 (.mov (t 1)), i 8 (.mov (t 13))]) (.seq (.ops [i 9 (.mov (k (.int .i64 0)))]) (.seq (.ops [i 14 (.mov (t 2)), i 15 (.mov (t 1)), i 16 (.bin .sub (t 14) (t 15)), i 10 (.mov (t 16))]) (.seq (.seq (.ops [i 17 (.mov (t 10)), i 18 (.bin .sub (t 17) (k (.int .i64 1))), i 19 (.bin .quo (t 18) (k (.int .i64 2))), i 11 (.mov (t 19))]) (.block 0 (.loop l88_2))) (.seq (.ops [i 30 (.mov (t 10)), i 31 (.bin .sub (t 30) (k (.int .i64 1))), i 12 (.mov (t 31))]) (.block 2 (.loop l88_1)))))))
def a88 : AFunc := ⟨60, [], c88⟩
theorem n88 : a88.ntmps = 60 := id rfl
theorem r88 : a88.results = [] := rfl
theorem b88 : a88.body = c88 := rfl
def l89_1 : ACode := (.seq (.seq (.ops [i 28 (.mov (t 11)), i 29 (.mov (t 1)), i 30 (.mov (t 8)), i 31 (.bin .quo (t 30) (k (.int .i64 4))), i 32 (.bin .mul (t 31) (k (.int .i64 2))), i 33 (.bin .add (t 29) (t 32)), i 34 (.bin .add (t 33) (k (.int .i64 1))), i 35 (.bin .leq (t 28) (t 34))]) (.cond (t 35) .skip (.exit 0))) (.seq (.block 1 (.seq (.ops [i 38 (.call .any (.func 84) [(t 9)]), i 39 (.mov (t 10)), i 40 (.bin .sub (t 39) (k (.int .u64 1))), i 41 (.bin .and (t 38) (t 40)), i 42 (.conv .i64 (t 41)), i 12 (.mov (t 42))]) (.seq (.seq (.ops [i 43 (.mov (t 12)), i 44 (.mov (t 8)), i 45 (.bin .geq (t 43) (t 44))]) (.cond (t 45) (.ops [i 46 (.mov (t 12)), i 47 (.mov (t 8)), i 48 (.bin .sub (t 46) (t 47)), i 12 (.mov (t 48))]) .skip)) (.drawn 0 [i 49 (.mov (t 0)), i 50 (.mov (t 11)), i 51 (.mov (t 0)), i 52 (.mov (t 1)), i 53 (.mov (t 12)), i 54 (.bin .add (t 52) (t 53)), i 55 (.mov (t 0)), i 56 (.mov (t 1)), i 57 (.mov (t 12)), i 58 (.bin .add (t 56) (t 57)), i 59 (.idxAddrS 3 (t 55) (t 58)), i 60 (.loadN 3 (t 59)), i 61 (.mov (t 0)), i 62 (.mov (t 11)), i 63 (.idxAddrS 3 (t 61) (t 62)), i 64 (.loadN 3 (t 63)), i 65 (.idxAddrS 3 (t 49) (t 50)), ⟨none, none, (.store 3 (t 65) (t 60)), none, []⟩, i 66 (.idxAddrS 3 (t 51) (t 54)), ⟨none, none, (.store 3 (t 66) (t 64)), none, []⟩])))) (.ops [i 36 (.mov (t 11)), i 37 (.bin .add (t 36) (k (.int .i64 1))), i 11 (.mov (t 37))])))
def c89 : ACode := (.seq (.ops [i 13 (.mov (t 2)), i 14 (.mov (t 1)), i 15 (.bin .sub (t 13) (t 14)), i 8 (.mov (t 15))]) (.seq (.ops [i 16 (.mov (t 8)), i 17 (.bin .geq (t 16) (k (.int .i64 8)))]) (.cond (t 17) (.seq (.ops [i 18 (.mov (t 8)), i 19 (.conv .u64 (t 18)), i 9 (.alloc [(.int .u64 0)]), ⟨none, none, (.store 1 (t 9) (t 19)), none, []⟩]) (.seq (.ops [i 20 (.mov (t 8)), i 21 (.call .any (.func 83) [(t 20)]), i 10 (.mov (t 21))]) (.seq (.ops [i 22 (.mov (t 1)), i 23 (.mov (t 8)), i 24 (.bin .quo (t 23) (k (.int .i64 4))), i 25 (.bin .mul (t 24) (k (.int .i64 2))), i 26 (.bin .add (t 22) (t 25)), i 27 (.bin .sub (t 26) (k (.int .i64 1))), i 11 (.mov (t 27))]) (.block 0 (.loop l89_1))))) .skip)))
def a89 : AFunc := ⟨67, [], c89⟩
theorem n89 : a89.ntmps = 67 := id rfl
theorem r89 : a89.results = [] := rfl
theorem b89 : a89.body = c89 := rfl
def c90 : ACode := (.seq (.ops [i 8 (.mov (k (.int .i64 0))), i 9 (.mov (k (.int .i64 0)))]) (.seq (.ops [i 15 (.mov (t 2)), i 16 (.mov (t 1)), i 17 (.bin .sub (t 15) (t 16)), i 10 (.mov (t 17))]) (.seq (.ops [i 11 (.alloc [(.int .i64 0)])]) (.seq (.ops [i 18 (.mov (t 1)), i 19 (.mov (t 10)), i 20 (.bin .quo (t 19) (k (.int .i64 4))), i 21 (.bin .mul (t 20) (k (.int .i64 1))), i 22 (.bin .add (t 18) (t 21)), i 12 (.mov (t 22))]) (.seq (.ops [i 23 (.mov (t 1)), i 24 (.mov (t 10)), i 25 (.bin .quo (t 24) (k (.int .i64 4))), i 26 (.bin .mul (t 25) (k (.int .i64 2))), i 27 (.bin .add (t 23) (t 26)), i 13 (.mov (t 27))]) (.seq (.ops [i 28 (.mov (t 1)), i 29 (.mov (t 10)), i 30 (.bin .quo (t 29) (k (.int .i64 4))), i 31 (.bin .mul (t 30) (k (.int .i64 3))), i 32 (.bin .add (t 28) (t 31)), i 14 (.mov (t 32))]) (.seq (.seq (.ops [i 33 (.mov (t 10)), i 34 (.bin .geq (t 33) (k (.int .i64 8)))]) (.cond (t 34) (.seq (.seq (.ops [i 35 (.mov (t 10)), i 36 (.bin .geq (t 35) (k (.int .i64 50)))]) (.cond (t 36) (.seq (.ops [i 37 (.mov (t 0)), i 38 (.mov (t 12)), i 39 (.mov (t 3)), i 40 (.call .any (.func 97) [(t 37), (t 38), (t 11), (t 39)]), i 12 (.mov (t 40))]) (.seq (.ops [i 41 (.mov (t 0)), i 42 (.mov (t 13)), i 43 (.mov (t 3)), i 44 (.call .any (.func 97) [(t 41), (t 42), (t 11), (t 43)]), i 13 (.mov (t 44))]) (.ops [i 45 (.mov (t 0)), i 46 (.mov (t 14)), i 47 (.mov (t 3)), i 48 (.call .any (.func 97) [(t 45), (t 46), (t 11), (t 47)]), i 14 (.mov (t 48))]))) .skip)) (.ops [i 49 (.mov (t 0)), i 50 (.mov (t 12)), i 51 (.mov (t 13)), i 52 (.mov (t 14)), i 53 (.mov (t 3)), i 54 (.call .any (.func 98) [(t 49), (t 50), (t 51), (t 52), (t 11), (t 53)]), i 13 (.mov (t 54))])) .skip)) (.seq (.ops [i 55 (.load1 (t 11))]) (.block 0 (.seq (.ops [i 58 (.bin .eql (t 55) (k (.int .i64 0))), i 57 (.mov (t 58))]) (.cond (t 57) (.seq (.ops [i 59 (.mov (t 13)), i 8 (.mov (t 59)), i 9 (.mov (k (.int .i64 1)))]) .ret) (.seq (.ops [i 61 (.bin .eql (t 55) (k (.int .i64 12))), i 60 (.mov (t 61))]) (.cond (t 60) (.seq (.ops [i 62 (.mov (t 13)), i 8 (.mov (t 62)), i 9 (.mov (k (.int .i64 2)))]) .ret) (.seq (.ops [i 56 (.mov (t 13)), i 8 (.mov (t 56)), i 9 (.mov (k (.int .i64 0)))]) .ret))))))))))))))
def a90 : AFunc := ⟨63, [(.tmp 8), (.tmp 9)], c90⟩
theorem n90 : a90.ntmps = 63 := id rfl
theorem r90 : a90.results = [(.tmp 8), (.tmp 9)] := rfl
theorem b90 : a90.body = c90 := rfl
def l91_1 : ACode := (.seq (.seq (.ops [i 13 (.mov (t 8)), i 14 (.mov (t 9)), i 15 (.bin .lss (t 13) (t 14))]) (.cond (t 15) .skip (.exit 0))) (.block 1 (.seq (.drawn 0 [i 16 (.mov (t 0)), i 17 (.mov (t 8)), i 18 (.mov (t 0)), i 19 (.mov (t 9)), i 20 (.mov (t 0)), i 21 (.mov (t 9)), i 22 (.idxAddrS 3 (t 20) (t 21)), i 23 (.loadN 3 (t 22)), i 24 (.mov (t 0)), i 25 (.mov (t 8)), i 26 (.idxAddrS 3 (t 24) (t 25)), i 27 (.loadN 3 (t 26)), i 28 (.idxAddrS 3 (t 16) (t 17)), ⟨none, none, (.store 3 (t 28) (t 23)), none, []⟩, i 29 (.idxAddrS 3 (t 18) (t 19)), ⟨none, none, (.store 3 (t 29) (t 27)), none, []⟩]) (.seq (.ops [i 30 (.mov (t 8)), i 31 (.bin .add (t 30) (k (.int .i64 1))), i 8 (.mov (t 31))]) (.ops [i 32 (.mov (t 9)), i 33 (.bin .sub (t 32) (k (.int .i64 1))), i 9 (.mov (t 33))])))))
def c91 : ACode := (.seq (.ops [i 10 (.mov (t 1)), i 8 (.mov (t 10))]) (.seq (.ops [i 11 (.mov (t 2)), i 12 (.bin .sub (t 11) (k (.int .i64 1))), i 9 (.mov (t 12))]) (.block 0 (.loop l91_1))))
def a91 : AFunc := ⟨34, [], c91⟩
theorem n91 : a91.ntmps = 34 := id rfl
theorem r91 : a91.results = [] := rfl
theorem b91 : a91.body = c91 := rfl
def l92_1 : ACode := (.seq (.seq (.ops [i 107 (.mov (t 12)), i 108 (.mov (t 2)), i 109 (.bin .lss (t 107) (t 108))]) (.cond (t 109) .skip (.exit 6))) (.seq (.block 7 (.seq (.seq (.drawn 0 [i 112 (.mov (t 3)), i 113 (.mov (t 0)), i 114 (.mov (t 12)), i 115 (.idxAddrS 3 (t 113) (t 114)), i 116 (.loadN 3 (t 115)), i 117 (.mov (t 0)), i 118 (.mov (t 12)), i 119 (.bin .sub (t 118) (k (.int .i64 1))), i 120 (.idxAddrS 3 (t 117) (t 119)), i 121 (.loadN 3 (t 120)), i 122 (.call .pure (t 112) [(t 116), (t 121)]), i 123 (.bin .lss (t 122) (k (.int .i64 0))), i 124 (.un .not (t 123))]) (.cond (t 124) (.exit 6) .skip)) (.drawn 0 [i 125 (.mov (t 0)), i 126 (.mov (t 12)), i 127 (.mov (t 0)), i 128 (.mov (t 12)), i 129 (.bin .sub (t 128) (k (.int .i64 1))), i 130 (.mov (t 0)), i 131 (.mov (t 12)), i 132 (.bin .sub (t 131) (k (.int .i64 1))), i 133 (.idxAddrS 3 (t 130) (t 132)), i 134 (.loadN 3 (t 133)), i 135 (.mov (t 0)), i 136 (.mov (t 12)), i 137 (.idxAddrS 3 (t 135) (t 136)), i 138 (.loadN 3 (t 137)), i 139 (.idxAddrS 3 (t 125) (t 126)), ⟨none, none, (.store 3 (t 139) (t 134)), none, []⟩, i 140 (.idxAddrS 3 (t 127) (t 129)), ⟨none, none, (.store 3 (t 140) (t 138)), none, []⟩]))) (.ops [i 110 (.mov (t 12)), i 111 (.bin .add (t 110) (k (.int .i64 1))), i 12 (.mov (t 111))])))
def l92_2 : ACode := (.seq (.seq (.ops [i 68 (.mov (t 11)), i 69 (.bin .geq (t 68) (k (.int .i64 1)))]) (.cond (t 69) .skip (.exit 4))) (.seq (.block 5 (.seq (.seq (.drawn 0 [i 72 (.mov (t 3)), i 73 (.mov (t 0)), i 74 (.mov (t 11)), i 75 (.idxAddrS 3 (t 73) (t 74)), i 76 (.loadN 3 (t 75)), i 77 (.mov (t 0)), i 78 (.mov (t 11)), i 79 (.bin .sub (t 78) (k (.int .i64 1))), i 80 (.idxAddrS 3 (t 77) (t 79)), i 81 (.loadN 3 (t 80)), i 82 (.call .pure (t 72) [(t 76), (t 81)]), i 83 (.bin .lss (t 82) (k (.int .i64 0))), i 84 (.un .not (t 83))]) (.cond (t 84) (.exit 4) .skip)) (.drawn 0 [i 85 (.mov (t 0)), i 86 (.mov (t 11)), i 87 (.mov (t 0)), i 88 (.mov (t 11)), i 89 (.bin .sub (t 88) (k (.int .i64 1))), i 90 (.mov (t 0)), i 91 (.mov (t 11)), i 92 (.bin .sub (t 91) (k (.int .i64 1))), i 93 (.idxAddrS 3 (t 90) (t 92)), i 94 (.loadN 3 (t 93)), i 95 (.mov (t 0)), i 96 (.mov (t 11)), i 97 (.idxAddrS 3 (t 95) (t 96)), i 98 (.loadN 3 (t 97)), i 99 (.idxAddrS 3 (t 85) (t 86)), ⟨none, none, (.store 3 (t 99) (t 94)), none, []⟩, i 100 (.idxAddrS 3 (t 87) (t 89)), ⟨none, none, (.store 3 (t 100) (t 98)), none, []⟩]))) (.ops [i 70 (.mov (t 11)), i 71 (.bin .sub (t 70) (k (.int .i64 1))), i 11 (.mov (t 71))])))
def l92_3 : ACode := (.seq (.seq (.drawn 0 [i 19 (.mov (t 9)), i 20 (.mov (t 2)), i 21 (.bin .lss (t 19) (t 20)), i 22 (.mov (t 21)), ⟨(some 23), (some (22, true)), (.mov (t 3)), none, []⟩, ⟨(some 24), (some (22, true)), (.mov (t 0)), none, []⟩, ⟨(some 25), (some (22, true)), (.mov (t 9)), none, []⟩, ⟨(some 26), (some (22, true)), (.idxAddrS 3 (t 24) (t 25)), none, []⟩, ⟨(some 27), (some (22, true)), (.loadN 3 (t 26)), none, []⟩, ⟨(some 28), (some (22, true)), (.mov (t 0)), none, []⟩, ⟨(some 29), (some (22, true)), (.mov (t 9)), none, []⟩, ⟨(some 30), (some (22, true)), (.bin .sub (t 29) (k (.int .i64 1))), none, []⟩, ⟨(some 31), (some (22, true)), (.idxAddrS 3 (t 28) (t 30)), none, []⟩, ⟨(some 32), (some (22, true)), (.loadN 3 (t 31)), none, []⟩, ⟨(some 33), (some (22, true)), (.call .pure (t 23) [(t 27), (t 32)]), none, []⟩, ⟨(some 34), (some (22, true)), (.bin .lss (t 33) (k (.int .i64 0))), none, []⟩, ⟨(some 35), (some (22, true)), (.un .not (t 34)), none, []⟩, i 36 (.pick (t 22) (t 35) (k (.bool false)))]) (.cond (t 36) .skip (.exit 2))) (.block 3 (.ops [i 37 (.mov (t 9)), i 38 (.bin .add (t 37) (k (.int .i64 1))), i 9 (.mov (t 38))])))
def l92_4 : ACode := (.seq (.seq (.ops [i 15 (.mov (t 10)), i 16 (.bin .lss (t 15) (k (.int .i64 5)))]) (.cond (t 16) .skip (.exit 0))) (.seq (.block 1 (.seq (.block 2 (.loop l92_3)) (.seq (.seq (.ops [i 39 (.mov (t 9)), i 40 (.mov (t 2)), i 41 (.bin .eql (t 39) (t 40))]) (.cond (t 41) (.seq (.ops [i 8 (.mov (k (.bool true)))]) .ret) .skip)) (.seq (.seq (.ops [i 42 (.mov (t 2)), i 43 (.mov (t 1)), i 44 (.bin .sub (t 42) (t 43)), i 45 (.bin .lss (t 44) (k (.int .i64 50)))]) (.cond (t 45) (.seq (.ops [i 8 (.mov (k (.bool false)))]) .ret) .skip)) (.seq (.drawn 0 [i 46 (.mov (t 0)), i 47 (.mov (t 9)), i 48 (.mov (t 0)), i 49 (.mov (t 9)), i 50 (.bin .sub (t 49) (k (.int .i64 1))), i 51 (.mov (t 0)), i 52 (.mov (t 9)), i 53 (.bin .sub (t 52) (k (.int .i64 1))), i 54 (.idxAddrS 3 (t 51) (t 53)), i 55 (.loadN 3 (t 54)), i 56 (.mov (t 0)), i 57 (.mov (t 9)), i 58 (.idxAddrS 3 (t 56) (t 57)), i 59 (.loadN 3 (t 58)), i 60 (.idxAddrS 3 (t 46) (t 47)), ⟨none, none, (.store 3 (t 60) (t 55)), none, []⟩, i 61 (.idxAddrS 3 (t 48) (t 50)), ⟨none, none, (.store 3 (t 61) (t 59)), none, []⟩]) (.seq (.seq (.ops [i 62 (.mov (t 9)), i 63 (.mov (t 1)), i 64 (.bin .sub (t 62) (t 63)), i 65 (.bin .geq (t 64) (k (.int .i64 2)))]) (.cond (t 65) (.seq (.ops [i 66 (.mov (t 9)), i 67 (.bin .sub (t 66) (k (.int .i64 1))), i 11 (.mov (t 67))]) (.block 4 (.loop l92_2))) .skip)) (.seq (.ops [i 101 (.mov (t 2)), i 102 (.mov (t 9)), i 103 (.bin .sub (t 101) (t 102)), i 104 (.bin .geq (t 103) (k (.int .i64 2)))]) (.cond (t 104) (.seq (.ops [i 105 (.mov (t 9)), i 106 (.bin .add (t 105) (k (.int .i64 1))), i 12 (.mov (t 106))]) (.block 6 (.loop l92_1))) .skip)))))))) (.ops [i 17 (.mov (t 10)), i 18 (.bin .add (t 17) (k (.int .i64 1))), i 10 (.mov (t 18))])))
def c92 : ACode := (.seq (.ops [i 8 (.mov (k (.bool false)))]) (.seq (.ops [i 13 (.mov (t 1)), i 14 (.bin .add (t 13) (k (.int .i64 1))), i 9 (.mov (t 14))]) (.seq (.seq (.ops [i 10 (.mov (k (.int .i64 0)))]) (.block 0 (.loop l92_4))) (.seq (.ops [i 8 (.mov (k (.bool false)))]) .ret))))
def a92 : AFunc := ⟨141, [(.tmp 8)], c92⟩
theorem n92 : a92.ntmps = 141 := id rfl
theorem r92 : a92.results = [(.tmp 8)] := rfl
theorem b92 : a92.body = c92 := rfl
def l93_1 : ACode := (.seq (.seq (.drawn 0 [i 50 (.mov (t 11)), i 51 (.mov (t 12)), i 52 (.bin .leq (t 50) (t 51)), i 53 (.mov (t 52)), ⟨(some 54), (some (53, true)), (.mov (t 4)), none, []⟩, ⟨(some 55), (some (53, true)), (.mov (t 0)), none, []⟩, ⟨(some 56), (some (53, true)), (.mov (t 1)), none, []⟩, ⟨(some 57), (some (53, true)), (.idxAddrS 3 (t 55) (t 56)), none, []⟩, ⟨(some 58), (some (53, true)), (.loadN 3 (t 57)), none, []⟩, ⟨(some 59), (some (53, true)), (.mov (t 0)), none, []⟩, ⟨(some 60), (some (53, true)), (.mov (t 12)), none, []⟩, ⟨(some 61), (some (53, true)), (.idxAddrS 3 (t 59) (t 60)), none, []⟩, ⟨(some 62), (some (53, true)), (.loadN 3 (t 61)), none, []⟩, ⟨(some 63), (some (53, true)), (.call .pure (t 54) [(t 58), (t 62)]), none, []⟩, ⟨(some 64), (some (53, true)), (.bin .lss (t 63) (k (.int .i64 0))), none, []⟩, i 65 (.pick (t 53) (t 64) (k (.bool false)))]) (.cond (t 65) .skip (.exit 4))) (.block 5 (.ops [i 66 (.mov (t 12)), i 67 (.bin .sub (t 66) (k (.int .i64 1))), i 12 (.mov (t 67))])))
def l93_2 : ACode := (.seq (.seq (.drawn 0 [i 31 (.mov (t 11)), i 32 (.mov (t 12)), i 33 (.bin .leq (t 31) (t 32)), i 34 (.mov (t 33)), ⟨(some 35), (some (34, true)), (.mov (t 4)), none, []⟩, ⟨(some 36), (some (34, true)), (.mov (t 0)), none, []⟩, ⟨(some 37), (some (34, true)), (.mov (t 1)), none, []⟩, ⟨(some 38), (some (34, true)), (.idxAddrS 3 (t 36) (t 37)), none, []⟩, ⟨(some 39), (some (34, true)), (.loadN 3 (t 38)), none, []⟩, ⟨(some 40), (some (34, true)), (.mov (t 0)), none, []⟩, ⟨(some 41), (some (34, true)), (.mov (t 11)), none, []⟩, ⟨(some 42), (some (34, true)), (.idxAddrS 3 (t 40) (t 41)), none, []⟩, ⟨(some 43), (some (34, true)), (.loadN 3 (t 42)), none, []⟩, ⟨(some 44), (some (34, true)), (.call .pure (t 35) [(t 39), (t 43)]), none, []⟩, ⟨(some 45), (some (34, true)), (.bin .lss (t 44) (k (.int .i64 0))), none, []⟩, ⟨(some 46), (some (34, true)), (.un .not (t 45)), none, []⟩, i 47 (.pick (t 34) (t 46) (k (.bool false)))]) (.cond (t 47) .skip (.exit 2))) (.block 3 (.ops [i 48 (.mov (t 11)), i 49 (.bin .add (t 48) (k (.int .i64 1))), i 11 (.mov (t 49))])))
def l93_3 : ACode := (.block 1 (.seq (.block 2 (.loop l93_2)) (.seq (.block 4 (.loop l93_1)) (.seq (.seq (.ops [i 68 (.mov (t 11)), i 69 (.mov (t 12)), i 70 (.bin .gtr (t 68) (t 69))]) (.cond (t 70) (.exit 0) .skip)) (.seq (.drawn 0 [i 71 (.mov (t 0)), i 72 (.mov (t 11)), i 73 (.mov (t 0)), i 74 (.mov (t 12)), i 75 (.mov (t 0)), i 76 (.mov (t 12)), i 77 (.idxAddrS 3 (t 75) (t 76)), i 78 (.loadN 3 (t 77)), i 79 (.mov (t 0)), i 80 (.mov (t 11)), i 81 (.idxAddrS 3 (t 79) (t 80)), i 82 (.loadN 3 (t 81)), i 83 (.idxAddrS 3 (t 71) (t 72)), ⟨none, none, (.store 3 (t 83) (t 78)), none, []⟩, i 84 (.idxAddrS 3 (t 73) (t 74)), ⟨none, none, (.store 3 (t 84) (t 82)), none, []⟩]) (.seq (.ops [i 85 (.mov (t 11)), i 86 (.bin .add (t 85) (k (.int .i64 1))), i 11 (.mov (t 86))]) (.ops [i 87 (.mov (t 12)), i 88 (.bin .sub (t 87) (k (.int .i64 1))), i 12 (.mov (t 88))])))))))
def c93 : ACode := (.seq (.ops [i 10 (.mov (k (.int .i64 0)))]) (.seq (.drawn 0 [i 13 (.mov (t 0)), i 14 (.mov (t 1)), i 15 (.mov (t 0)), i 16 (.mov (t 3)), i 17 (.mov (t 0)), i 18 (.mov (t 3)), i 19 (.idxAddrS 3 (t 17) (t 18)), i 20 (.loadN 3 (t 19)), i 21 (.mov (t 0)), i 22 (.mov (t 1)), i 23 (.idxAddrS 3 (t 21) (t 22)), i 24 (.loadN 3 (t 23)), i 25 (.idxAddrS 3 (t 13) (t 14)), ⟨none, none, (.store 3 (t 25) (t 20)), none, []⟩, i 26 (.idxAddrS 3 (t 15) (t 16)), ⟨none, none, (.store 3 (t 26) (t 24)), none, []⟩]) (.seq (.ops [i 27 (.mov (t 1)), i 28 (.bin .add (t 27) (k (.int .i64 1))), i 29 (.mov (t 2)), i 30 (.bin .sub (t 29) (k (.int .i64 1))), i 11 (.mov (t 28)), i 12 (.mov (t 30))]) (.seq (.block 0 (.loop l93_3)) (.seq (.ops [i 89 (.mov (t 11)), i 10 (.mov (t 89))]) .ret)))))
def a93 : AFunc := ⟨90, [(.tmp 10)], c93⟩
theorem n93 : a93.ntmps = 90 := id rfl
theorem r93 : a93.results = [(.tmp 10)] := rfl
theorem b93 : a93.body = c93 := rfl
def l94_1 : ACode := (.seq (.seq (.drawn 0 [i 123 (.mov (t 12)), i 124 (.mov (t 13)), i 125 (.bin .leq (t 123) (t 124)), i 126 (.mov (t 125)), ⟨(some 127), (some (126, true)), (.mov (t 4)), none, []⟩, ⟨(some 128), (some (126, true)), (.mov (t 0)), none, []⟩, ⟨(some 129), (some (126, true)), (.mov (t 13)), none, []⟩, ⟨(some 130), (some (126, true)), (.idxAddrS 3 (t 128) (t 129)), none, []⟩, ⟨(some 131), (some (126, true)), (.loadN 3 (t 130)), none, []⟩, ⟨(some 132), (some (126, true)), (.mov (t 0)), none, []⟩, ⟨(some 133), (some (126, true)), (.mov (t 1)), none, []⟩, ⟨(some 134), (some (126, true)), (.idxAddrS 3 (t 132) (t 133)), none, []⟩, ⟨(some 135), (some (126, true)), (.loadN 3 (t 134)), none, []⟩, ⟨(some 136), (some (126, true)), (.call .pure (t 127) [(t 131), (t 135)]), none, []⟩, ⟨(some 137), (some (126, true)), (.bin .lss (t 136) (k (.int .i64 0))), none, []⟩, ⟨(some 138), (some (126, true)), (.un .not (t 137)), none, []⟩, i 139 (.pick (t 126) (t 138) (k (.bool false)))]) (.cond (t 139) .skip (.exit 8))) (.block 9 (.ops [i 140 (.mov (t 13)), i 141 (.bin .sub (t 140) (k (.int .i64 1))), i 13 (.mov (t 141))])))
def l94_2 : ACode := (.seq (.seq (.drawn 0 [i 105 (.mov (t 12)), i 106 (.mov (t 13)), i 107 (.bin .leq (t 105) (t 106)), i 108 (.mov (t 107)), ⟨(some 109), (some (108, true)), (.mov (t 4)), none, []⟩, ⟨(some 110), (some (108, true)), (.mov (t 0)), none, []⟩, ⟨(some 111), (some (108, true)), (.mov (t 12)), none, []⟩, ⟨(some 112), (some (108, true)), (.idxAddrS 3 (t 110) (t 111)), none, []⟩, ⟨(some 113), (some (108, true)), (.loadN 3 (t 112)), none, []⟩, ⟨(some 114), (some (108, true)), (.mov (t 0)), none, []⟩, ⟨(some 115), (some (108, true)), (.mov (t 1)), none, []⟩, ⟨(some 116), (some (108, true)), (.idxAddrS 3 (t 114) (t 115)), none, []⟩, ⟨(some 117), (some (108, true)), (.loadN 3 (t 116)), none, []⟩, ⟨(some 118), (some (108, true)), (.call .pure (t 109) [(t 113), (t 117)]), none, []⟩, ⟨(some 119), (some (108, true)), (.bin .lss (t 118) (k (.int .i64 0))), none, []⟩, i 120 (.pick (t 108) (t 119) (k (.bool false)))]) (.cond (t 120) .skip (.exit 6))) (.block 7 (.ops [i 121 (.mov (t 12)), i 122 (.bin .add (t 121) (k (.int .i64 1))), i 12 (.mov (t 122))])))
def l94_3 : ACode := (.block 5 (.seq (.block 6 (.loop l94_2)) (.seq (.block 8 (.loop l94_1)) (.seq (.seq (.ops [i 142 (.mov (t 12)), i 143 (.mov (t 13)), i 144 (.bin .gtr (t 142) (t 143))]) (.cond (t 144) (.exit 4) .skip)) (.seq (.drawn 0 [i 145 (.mov (t 0)), i 146 (.mov (t 12)), i 147 (.mov (t 0)), i 148 (.mov (t 13)), i 149 (.mov (t 0)), i 150 (.mov (t 13)), i 151 (.idxAddrS 3 (t 149) (t 150)), i 152 (.loadN 3 (t 151)), i 153 (.mov (t 0)), i 154 (.mov (t 12)), i 155 (.idxAddrS 3 (t 153) (t 154)), i 156 (.loadN 3 (t 155)), i 157 (.idxAddrS 3 (t 145) (t 146)), ⟨none, none, (.store 3 (t 157) (t 152)), none, []⟩, i 158 (.idxAddrS 3 (t 147) (t 148)), ⟨none, none, (.store 3 (t 158) (t 156)), none, []⟩]) (.seq (.ops [i 159 (.mov (t 12)), i 160 (.bin .add (t 159) (k (.int .i64 1))), i 12 (.mov (t 160))]) (.ops [i 161 (.mov (t 13)), i 162 (.bin .sub (t 161) (k (.int .i64 1))), i 13 (.mov (t 162))])))))))
def l94_4 : ACode := (.seq (.seq (.drawn 0 [i 50 (.mov (t 12)), i 51 (.mov (t 13)), i 52 (.bin .leq (t 50) (t 51)), i 53 (.mov (t 52)), ⟨(some 54), (some (53, true)), (.mov (t 4)), none, []⟩, ⟨(some 55), (some (53, true)), (.mov (t 0)), none, []⟩, ⟨(some 56), (some (53, true)), (.mov (t 13)), none, []⟩, ⟨(some 57), (some (53, true)), (.idxAddrS 3 (t 55) (t 56)), none, []⟩, ⟨(some 58), (some (53, true)), (.loadN 3 (t 57)), none, []⟩, ⟨(some 59), (some (53, true)), (.mov (t 0)), none, []⟩, ⟨(some 60), (some (53, true)), (.mov (t 1)), none, []⟩, ⟨(some 61), (some (53, true)), (.idxAddrS 3 (t 59) (t 60)), none, []⟩, ⟨(some 62), (some (53, true)), (.loadN 3 (t 61)), none, []⟩, ⟨(some 63), (some (53, true)), (.call .pure (t 54) [(t 58), (t 62)]), none, []⟩, ⟨(some 64), (some (53, true)), (.bin .lss (t 63) (k (.int .i64 0))), none, []⟩, ⟨(some 65), (some (53, true)), (.un .not (t 64)), none, []⟩, i 66 (.pick (t 53) (t 65) (k (.bool false)))]) (.cond (t 66) .skip (.exit 2))) (.block 3 (.ops [i 67 (.mov (t 13)), i 68 (.bin .sub (t 67) (k (.int .i64 1))), i 13 (.mov (t 68))])))
def l94_5 : ACode := (.seq (.seq (.drawn 0 [i 32 (.mov (t 12)), i 33 (.mov (t 13)), i 34 (.bin .leq (t 32) (t 33)), i 35 (.mov (t 34)), ⟨(some 36), (some (35, true)), (.mov (t 4)), none, []⟩, ⟨(some 37), (some (35, true)), (.mov (t 0)), none, []⟩, ⟨(some 38), (some (35, true)), (.mov (t 12)), none, []⟩, ⟨(some 39), (some (35, true)), (.idxAddrS 3 (t 37) (t 38)), none, []⟩, ⟨(some 40), (some (35, true)), (.loadN 3 (t 39)), none, []⟩, ⟨(some 41), (some (35, true)), (.mov (t 0)), none, []⟩, ⟨(some 42), (some (35, true)), (.mov (t 1)), none, []⟩, ⟨(some 43), (some (35, true)), (.idxAddrS 3 (t 41) (t 42)), none, []⟩, ⟨(some 44), (some (35, true)), (.loadN 3 (t 43)), none, []⟩, ⟨(some 45), (some (35, true)), (.call .pure (t 36) [(t 40), (t 44)]), none, []⟩, ⟨(some 46), (some (35, true)), (.bin .lss (t 45) (k (.int .i64 0))), none, []⟩, i 47 (.pick (t 35) (t 46) (k (.bool false)))]) (.cond (t 47) .skip (.exit 0))) (.block 1 (.ops [i 48 (.mov (t 12)), i 49 (.bin .add (t 48) (k (.int .i64 1))), i 12 (.mov (t 49))])))
def c94 : ACode := (.seq (.ops [i 10 (.mov (k (.int .i64 0))), i 11 (.mov (k (.bool false)))]) (.seq (.drawn 0 [i 14 (.mov (t 0)), i 15 (.mov (t 1)), i 16 (.mov (t 0)), i 17 (.mov (t 3)), i 18 (.mov (t 0)), i 19 (.mov (t 3)), i 20 (.idxAddrS 3 (t 18) (t 19)), i 21 (.loadN 3 (t 20)), i 22 (.mov (t 0)), i 23 (.mov (t 1)), i 24 (.idxAddrS 3 (t 22) (t 23)), i 25 (.loadN 3 (t 24)), i 26 (.idxAddrS 3 (t 14) (t 15)), ⟨none, none, (.store 3 (t 26) (t 21)), none, []⟩, i 27 (.idxAddrS 3 (t 16) (t 17)), ⟨none, none, (.store 3 (t 27) (t 25)), none, []⟩]) (.seq (.ops [i 28 (.mov (t 1)), i 29 (.bin .add (t 28) (k (.int .i64 1))), i 30 (.mov (t 2)), i 31 (.bin .sub (t 30) (k (.int .i64 1))), i 12 (.mov (t 29)), i 13 (.mov (t 31))]) (.seq (.block 0 (.loop l94_5)) (.seq (.block 2 (.loop l94_4)) (.seq (.seq (.ops [i 69 (.mov (t 12)), i 70 (.mov (t 13)), i 71 (.bin .gtr (t 69) (t 70))]) (.cond (t 71) (.seq (.drawn 0 [i 72 (.mov (t 0)), i 73 (.mov (t 13)), i 74 (.mov (t 0)), i 75 (.mov (t 1)), i 76 (.mov (t 0)), i 77 (.mov (t 1)), i 78 (.idxAddrS 3 (t 76) (t 77)), i 79 (.loadN 3 (t 78)), i 80 (.mov (t 0)), i 81 (.mov (t 13)), i 82 (.idxAddrS 3 (t 80) (t 81)), i 83 (.loadN 3 (t 82)), i 84 (.idxAddrS 3 (t 72) (t 73)), ⟨none, none, (.store 3 (t 84) (t 79)), none, []⟩, i 85 (.idxAddrS 3 (t 74) (t 75)), ⟨none, none, (.store 3 (t 85) (t 83)), none, []⟩]) (.seq (.ops [i 86 (.mov (t 13)), i 10 (.mov (t 86)), i 11 (.mov (k (.bool true)))]) .ret)) .skip)) (.seq (.drawn 0 [i 87 (.mov (t 0)), i 88 (.mov (t 12)), i 89 (.mov (t 0)), i 90 (.mov (t 13)), i 91 (.mov (t 0)), i 92 (.mov (t 13)), i 93 (.idxAddrS 3 (t 91) (t 92)), i 94 (.loadN 3 (t 93)), i 95 (.mov (t 0)), i 96 (.mov (t 12)), i 97 (.idxAddrS 3 (t 95) (t 96)), i 98 (.loadN 3 (t 97)), i 99 (.idxAddrS 3 (t 87) (t 88)), ⟨none, none, (.store 3 (t 99) (t 94)), none, []⟩, i 100 (.idxAddrS 3 (t 89) (t 90)), ⟨none, none, (.store 3 (t 100) (t 98)), none, []⟩]) (.seq (.ops [i 101 (.mov (t 12)), i 102 (.bin .add (t 101) (k (.int .i64 1))), i 12 (.mov (t 102))]) (.seq (.ops [i 103 (.mov (t 13)), i 104 (.bin .sub (t 103) (k (.int .i64 1))), i 13 (.mov (t 104))]) (.seq (.block 4 (.loop l94_3)) (.seq (.drawn 0 [i 163 (.mov (t 0)), i 164 (.mov (t 13)), i 165 (.mov (t 0)), i 166 (.mov (t 1)), i 167 (.mov (t 0)), i 168 (.mov (t 1)), i 169 (.idxAddrS 3 (t 167) (t 168)), i 170 (.loadN 3 (t 169)), i 171 (.mov (t 0)), i 172 (.mov (t 13)), i 173 (.idxAddrS 3 (t 171) (t 172)), i 174 (.loadN 3 (t 173)), i 175 (.idxAddrS 3 (t 163) (t 164)), ⟨none, none, (.store 3 (t 175) (t 170)), none, []⟩, i 176 (.idxAddrS 3 (t 165) (t 166)), ⟨none, none, (.store 3 (t 176) (t 174)), none, []⟩]) (.seq (.ops [i 177 (.mov (t 13)), i 10 (.mov (t 177)), i 11 (.mov (k (.bool false)))]) .ret))))))))))))
def a94 : AFunc := ⟨178, [(.tmp 10), (.tmp 11)], c94⟩
theorem n94 : a94.ntmps = 178 := id rfl
theorem r94 : a94.results = [(.tmp 10), (.tmp 11)] := rfl
theorem b94 : a94.body = c94 := rfl
def c95 : ACode := (.seq (.ops [i 10 (.mov (k (.int .i64 0))), i 11 (.mov (k (.int .i64 0)))]) (.seq (.seq (.drawn 0 [i 12 (.mov (t 4)), i 13 (.mov (t 0)), i 14 (.mov (t 2)), i 15 (.idxAddrS 7 (t 13) (t 14)), i 16 (.loadN 7 (t 15)), i 17 (.mov (t 0)), i 18 (.mov (t 1)), i 19 (.idxAddrS 7 (t 17) (t 18)), i 20 (.loadN 7 (t 19)), i 21 (.call .pure (t 12) [(t 16), (t 20)]), i 22 (.bin .lss (t 21) (k (.int .i64 0)))]) (.cond (t 22) (.seq (.ops [i 23 (.mov (t 3)), i 24 (.nilCheck (t 23)), i 25 (.load1 (t 24)), i 26 (.bin .add (t 25) (k (.int .i64 1))), i 27 (.nilCheck (t 23)), ⟨none, none, (.store 1 (t 27) (t 26)), none, []⟩]) (.seq (.ops [i 28 (.mov (t 2)), i 29 (.mov (t 1)), i 10 (.mov (t 28)), i 11 (.mov (t 29))]) .ret)) .skip)) (.seq (.ops [i 30 (.mov (t 1)), i 31 (.mov (t 2)), i 10 (.mov (t 30)), i 11 (.mov (t 31))]) .ret)))
def a95 : AFunc := ⟨32, [(.tmp 10), (.tmp 11)], c95⟩
theorem n95 : a95.ntmps = 32 := id rfl
theorem r95 : a95.results = [(.tmp 10), (.tmp 11)] := rfl
theorem b95 : a95.body = c95 := rfl
def l96_1 : ACode := (.block 1 (.seq (.ops [i 13 (.mov (t 10)), i 14 (.bin .mul (k (.int .i64 2)) (t 13)), i 15 (.bin .add (t 14) (k (.int .i64 1))), i 11 (.mov (t 15))]) (.seq (.seq (.ops [i 16 (.mov (t 11)), i 17 (.mov (t 2)), i 18 (.bin .geq (t 16) (t 17))]) (.cond (t 18) (.exit 0) .skip)) (.seq (.seq (.drawn 0 [i 19 (.mov (t 11)), i 20 (.bin .add (t 19) (k (.int .i64 1))), i 21 (.mov (t 2)), i 22 (.bin .lss (t 20) (t 21)), i 23 (.mov (t 22)), ⟨(some 24), (some (23, true)), (.mov (t 4)), none, []⟩, ⟨(some 25), (some (23, true)), (.mov (t 0)), none, []⟩, ⟨(some 26), (some (23, true)), (.mov (t 3)), none, []⟩, ⟨(some 27), (some (23, true)), (.mov (t 11)), none, []⟩, ⟨(some 28), (some (23, true)), (.bin .add (t 26) (t 27)), none, []⟩, ⟨(some 29), (some (23, true)), (.idxAddrS 3 (t 25) (t 28)), none, []⟩, ⟨(some 30), (some (23, true)), (.loadN 3 (t 29)), none, []⟩, ⟨(some 31), (some (23, true)), (.mov (t 0)), none, []⟩, ⟨(some 32), (some (23, true)), (.mov (t 3)), none, []⟩, ⟨(some 33), (some (23, true)), (.mov (t 11)), none, []⟩, ⟨(some 34), (some (23, true)), (.bin .add (t 32) (t 33)), none, []⟩, ⟨(some 35), (some (23, true)), (.bin .add (t 34) (k (.int .i64 1))), none, []⟩, ⟨(some 36), (some (23, true)), (.idxAddrS 3 (t 31) (t 35)), none, []⟩, ⟨(some 37), (some (23, true)), (.loadN 3 (t 36)), none, []⟩, ⟨(some 38), (some (23, true)), (.call .pure (t 24) [(t 30), (t 37)]), none, []⟩, ⟨(some 39), (some (23, true)), (.bin .lss (t 38) (k (.int .i64 0))), none, []⟩, i 40 (.pick (t 23) (t 39) (k (.bool false)))]) (.cond (t 40) (.ops [i 41 (.mov (t 11)), i 42 (.bin .add (t 41) (k (.int .i64 1))), i 11 (.mov (t 42))]) .skip)) (.seq (.seq (.drawn 0 [i 43 (.mov (t 4)), i 44 (.mov (t 0)), i 45 (.mov (t 3)), i 46 (.mov (t 10)), i 47 (.bin .add (t 45) (t 46)), i 48 (.idxAddrS 3 (t 44) (t 47)), i 49 (.loadN 3 (t 48)), i 50 (.mov (t 0)), i 51 (.mov (t 3)), i 52 (.mov (t 11)), i 53 (.bin .add (t 51) (t 52)), i 54 (.idxAddrS 3 (t 50) (t 53)), i 55 (.loadN 3 (t 54)), i 56 (.call .pure (t 43) [(t 49), (t 55)]), i 57 (.bin .lss (t 56) (k (.int .i64 0))), i 58 (.un .not (t 57))]) (.cond (t 58) .ret .skip)) (.seq (.drawn 0 [i 59 (.mov (t 0)), i 60 (.mov (t 3)), i 61 (.mov (t 10)), i 62 (.bin .add (t 60) (t 61)), i 63 (.mov (t 0)), i 64 (.mov (t 3)), i 65 (.mov (t 11)), i 66 (.bin .add (t 64) (t 65)), i 67 (.mov (t 0)), i 68 (.mov (t 3)), i 69 (.mov (t 11)), i 70 (.bin .add (t 68) (t 69)), i 71 (.idxAddrS 3 (t 67) (t 70)), i 72 (.loadN 3 (t 71)), i 73 (.mov (t 0)), i 74 (.mov (t 3)), i 75 (.mov (t 10)), i 76 (.bin .add (t 74) (t 75)), i 77 (.idxAddrS 3 (t 73) (t 76)), i 78 (.loadN 3 (t 77)), i 79 (.idxAddrS 3 (t 59) (t 62)), ⟨none, none, (.store 3 (t 79) (t 72)), none, []⟩, i 80 (.idxAddrS 3 (t 63) (t 66)), ⟨none, none, (.store 3 (t 80) (t 78)), none, []⟩]) (.ops [i 81 (.mov (t 11)), i 10 (.mov (t 81))])))))))
def c96 : ACode := (.seq (.ops [i 12 (.mov (t 1)), i 10 (.mov (t 12))]) (.block 0 (.loop l96_1)))
def a96 : AFunc := ⟨82, [], c96⟩
theorem n96 : a96.ntmps = 82 := id rfl
theorem r96 : a96.results = [] := rfl
theorem b96 : a96.body = c96 := rfl
def c97 : ACode := (.seq (.ops [i 8 (.mov (k (.int .i64 0)))]) (.seq (.ops [i 9 (.mov (t 0)), i 10 (.mov (t 1)), i 11 (.bin .sub (t 10) (k (.int .i64 1))), i 12 (.mov (t 1)), i 13 (.mov (t 1)), i 14 (.bin .add (t 13) (k (.int .i64 1))), i 15 (.mov (t 2)), i 16 (.mov (t 3)), i 17 (.call .any (.func 98) [(t 9), (t 11), (t 12), (t 14), (t 15), (t 16)]), i 8 (.mov (t 17))]) .ret))
def a97 : AFunc := ⟨18, [(.tmp 8)], c97⟩
theorem n97 : a97.ntmps = 18 := id rfl
theorem r97 : a97.results = [(.tmp 8)] := rfl
theorem b97 : a97.body = c97 := rfl
def c98 : ACode := (.seq (.ops [i 12 (.mov (k (.int .i64 0)))]) (.seq (.ops [i 14 (.mov (t 0)), i 15 (.mov (t 1)), i 16 (.mov (t 2)), i 17 (.mov (t 4)), i 18 (.mov (t 5)), i 19 (.call .any (.func 99) [(t 14), (t 15), (t 16), (t 17), (t 18)]), i 13 (.mov (t 19)), i 20 (.extract 0 (t 13)), i 21 (.extract 1 (t 13)), i 1 (.mov (t 20)), i 2 (.mov (t 21))]) (.seq (.ops [i 23 (.mov (t 0)), i 24 (.mov (t 2)), i 25 (.mov (t 3)), i 26 (.mov (t 4)), i 27 (.mov (t 5)), i 28 (.call .any (.func 99) [(t 23), (t 24), (t 25), (t 26), (t 27)]), i 22 (.mov (t 28)), i 29 (.extract 0 (t 22)), i 30 (.extract 1 (t 22)), i 2 (.mov (t 29)), i 3 (.mov (t 30))]) (.seq (.ops [i 32 (.mov (t 0)), i 33 (.mov (t 1)), i 34 (.mov (t 2)), i 35 (.mov (t 4)), i 36 (.mov (t 5)), i 37 (.call .any (.func 99) [(t 32), (t 33), (t 34), (t 35), (t 36)]), i 31 (.mov (t 37)), i 38 (.extract 0 (t 31)), i 39 (.extract 1 (t 31)), i 1 (.mov (t 38)), i 2 (.mov (t 39))]) (.seq (.ops [i 40 (.mov (t 2)), i 12 (.mov (t 40))]) .ret)))))
def a98 : AFunc := ⟨41, [(.tmp 12)], c98⟩
theorem n98 : a98.ntmps = 41 := id rfl
theorem r98 : a98.results = [(.tmp 12)] := rfl
theorem b98 : a98.body = c98 := rfl
def c99 : ACode := (.seq (.ops [i 10 (.mov (k (.int .i64 0))), i 11 (.mov (k (.int .i64 0)))]) (.seq (.seq (.drawn 0 [i 12 (.mov (t 4)), i 13 (.mov (t 0)), i 14 (.mov (t 2)), i 15 (.idxAddrS 3 (t 13) (t 14)), i 16 (.loadN 3 (t 15)), i 17 (.mov (t 0)), i 18 (.mov (t 1)), i 19 (.idxAddrS 3 (t 17) (t 18)), i 20 (.loadN 3 (t 19)), i 21 (.call .pure (t 12) [(t 16), (t 20)]), i 22 (.bin .lss (t 21) (k (.int .i64 0)))]) (.cond (t 22) (.seq (.ops [i 23 (.mov (t 3)), i 24 (.nilCheck (t 23)), i 25 (.load1 (t 24)), i 26 (.bin .add (t 25) (k (.int .i64 1))), i 27 (.nilCheck (t 23)), ⟨none, none, (.store 1 (t 27) (t 26)), none, []⟩]) (.seq (.ops [i 28 (.mov (t 2)), i 29 (.mov (t 1)), i 10 (.mov (t 28)), i 11 (.mov (t 29))]) .ret)) .skip)) (.seq (.ops [i 30 (.mov (t 1)), i 31 (.mov (t 2)), i 10 (.mov (t 30)), i 11 (.mov (t 31))]) .ret)))
def a99 : AFunc := ⟨32, [(.tmp 10), (.tmp 11)], c99⟩
theorem n99 : a99.ntmps = 32 := id rfl
theorem r99 : a99.results = [(.tmp 10), (.tmp 11)] := rfl
theorem b99 : a99.body = c99 := rfl
def table : List (FuncId × AFunc) := [(9, a9), (11, a11), (12, a12), (17, a17), (18, a18), (19, a19), (20, a20), (22, a22), (23, a23), (25, a25), (26, a26), (34, a34), (35, a35), (36, a36), (38, a38), (39, a39), (43, a43), (44, a44), (45, a45), (47, a47), (48, a48), (49, a49), (50, a50), (51, a51), (52, a52), (53, a53), (54, a54), (55, a55), (57, a57), (58, a58), (59, a59), (60, a60), (61, a61), (62, a62), (63, a63), (64, a64), (65, a65), (66, a66), (67, a67), (68, a68), (69, a69), (70, a70), (71, a71), (72, a72), (73, a73), (74, a74), (75, a75), (76, a76), (77, a77), (78, a78), (79, a79), (80, a80), (81, a81), (82, a82), (83, a83), (84, a84), (85, a85), (86, a86), (87, a87), (88, a88), (89, a89), (90, a90), (91, a91), (92, a92), (93, a93), (94, a94), (95, a95), (96, a96), (97, a97), (98, a98), (99, a99)]
def tr (g : FuncId) : Option AFunc := table.lookup g
theorem e9 : tr 9 = some a9 := rfl
theorem e11 : tr 11 = some a11 := rfl
theorem e12 : tr 12 = some a12 := rfl
theorem e17 : tr 17 = some a17 := rfl
theorem e18 : tr 18 = some a18 := rfl
theorem e19 : tr 19 = some a19 := rfl
theorem e20 : tr 20 = some a20 := rfl
theorem e22 : tr 22 = some a22 := rfl
theorem e23 : tr 23 = some a23 := rfl
theorem e25 : tr 25 = some a25 := rfl
theorem e26 : tr 26 = some a26 := rfl
theorem e34 : tr 34 = some a34 := rfl
theorem e35 : tr 35 = some a35 := rfl
theorem e36 : tr 36 = some a36 := rfl
theorem e38 : tr 38 = some a38 := rfl
theorem e39 : tr 39 = some a39 := rfl
theorem e43 : tr 43 = some a43 := rfl
theorem e44 : tr 44 = some a44 := rfl
theorem e45 : tr 45 = some a45 := rfl
theorem e47 : tr 47 = some a47 := rfl
theorem e48 : tr 48 = some a48 := rfl
theorem e49 : tr 49 = some a49 := rfl
theorem e50 : tr 50 = some a50 := rfl
theorem e51 : tr 51 = some a51 := rfl
theorem e52 : tr 52 = some a52 := rfl
theorem e53 : tr 53 = some a53 := rfl
theorem e54 : tr 54 = some a54 := rfl
theorem e55 : tr 55 = some a55 := rfl
theorem e57 : tr 57 = some a57 := rfl
theorem e58 : tr 58 = some a58 := rfl
theorem e59 : tr 59 = some a59 := rfl
theorem e60 : tr 60 = some a60 := rfl
theorem e61 : tr 61 = some a61 := rfl
theorem e62 : tr 62 = some a62 := rfl
theorem e63 : tr 63 = some a63 := rfl
theorem e64 : tr 64 = some a64 := rfl
theorem e65 : tr 65 = some a65 := rfl
theorem e66 : tr 66 = some a66 := rfl
theorem e67 : tr 67 = some a67 := rfl
theorem e68 : tr 68 = some a68 := rfl
theorem e69 : tr 69 = some a69 := rfl
theorem e70 : tr 70 = some a70 := rfl
theorem e71 : tr 71 = some a71 := rfl
theorem e72 : tr 72 = some a72 := rfl
theorem e73 : tr 73 = some a73 := rfl
theorem e74 : tr 74 = some a74 := rfl
theorem e75 : tr 75 = some a75 := rfl
theorem e76 : tr 76 = some a76 := rfl
theorem e78 : tr 78 = some a78 := rfl
theorem e79 : tr 79 = some a79 := rfl
theorem e80 : tr 80 = some a80 := rfl
theorem e81 : tr 81 = some a81 := rfl
theorem e82 : tr 82 = some a82 := rfl
theorem e83 : tr 83 = some a83 := rfl
theorem e84 : tr 84 = some a84 := rfl
theorem e85 : tr 85 = some a85 := rfl
theorem e86 : tr 86 = some a86 := rfl
theorem e87 : tr 87 = some a87 := rfl
theorem e88 : tr 88 = some a88 := rfl
theorem e89 : tr 89 = some a89 := rfl
theorem e90 : tr 90 = some a90 := rfl
theorem e91 : tr 91 = some a91 := rfl
theorem e92 : tr 92 = some a92 := rfl
theorem e93 : tr 93 = some a93 := rfl
theorem e94 : tr 94 = some a94 := rfl
theorem e95 : tr 95 = some a95 := rfl
theorem e96 : tr 96 = some a96 := rfl
theorem e97 : tr 97 = some a97 := rfl
theorem e98 : tr 98 = some a98 := rfl
theorem e99 : tr 99 = some a99 := rfl
end Go.Proofs.Ytkppjkkkdpcgiaa.Fn

set_option linter.unusedVariables false
set_option linter.unusedSimpArgs false
namespace Go.AM
section
variable {α : Type}
def gt [Inhabited α] (l : List α) (i : Nat) : α := l.getD i default
theorem gt_lt [Inhabited α] {l : List α} {i : Nat} (h : i < l.length) : gt l i = l[i] := by simp [gt, List.getD_eq_getElem?_getD, List.getElem?_eq_getElem h]
theorem gt_cons_zero [Inhabited α] {x : α} {l : List α} : gt (x :: l) 0 = x := rfl
theorem gt_cons_succ [Inhabited α] {x : α} {l : List α} {i : Nat} : gt (x :: l) (i + 1) = gt l i := by simp [gt]
theorem gt_mem [Inhabited α] {l : List α} {i : Nat} (h : i < l.length) : gt l i ∈ l := by rw [gt_lt h]; exact List.getElem_mem h
def addrOf (p : Option Addr) : Addr := p.getD ⟨0, 0, none⟩
def elt (p : Option Addr) (e i : Nat) : Addr := (addrOf p).add (i * e)
def Sl (H : Heap) (enc : α → List Value) (e : Nat) (p : Option Addr) (l : List α) : Prop :=
  match p with
  | none => l = []
  | some a => a.spot = none ∧ (l ≠ [] → ∃ ro c, hget H a.block = .cells ro c ∧ a.off + l.length * e ≤ c.length ∧ (c.drop a.off).take (l.length * e) = l.flatMap enc)
theorem hget_alive {H : Heap} {i : Nat} {ro : Bool} {c : List Value} (h : hget H i = .cells ro c) : i < H.length := by
  rcases Nat.lt_or_ge i H.length with h1 | h1
  · exact h1
  · unfold hget at h
    rw [List.getD_eq_getElem?_getD, List.getElem?_eq_none h1] at h
    cases h
def cellsOf : Blk → List Value | .cells _ c => c | _ => []
def isCells : Blk → Bool | .cells _ _ => true | _ => false
theorem cellsOf_cells {ro : Bool} {c : List Value} : cellsOf (.cells ro c) = c := rfl
theorem isCells_cells {ro : Bool} {c : List Value} : isCells (.cells ro c) = true := id rfl
theorem Sl.app {H : Heap} {enc : α → List Value} {e : Nat} {p : Option Addr} {l : List α} (h : Sl H enc e p l) (X : Heap) : Sl (H ++ X) enc e p l := by
  cases p with
  | none => exact h
  | some a =>
    refine ⟨h.1, fun hn => ?_⟩
    obtain ⟨ro, c, h2, h3⟩ := h.2 hn
    exact ⟨ro, c, by rw [hget_old (hget_alive h2)]; exact h2, h3⟩
theorem flat_len {enc : α → List Value} {e : Nat} (he : ∀ x, (enc x).length = e) (l : List α) : (l.flatMap enc).length = l.length * e := by
  induction l with
  | nil => simp
  | cons x l ih => simp [ih, he, Nat.add_mul, Nat.add_comm]
theorem flat_drop {enc : α → List Value} {e : Nat} (he : ∀ x, (enc x).length = e) : ∀ (l : List α) (i : Nat), i < l.length → [Inhabited α] → ((l.flatMap enc).drop (i * e)).take e = enc (gt l i)
  | [], i, h, _ => by simp at h
  | x :: l, 0, _, _ => by
    rw [List.flatMap_cons, Nat.zero_mul, List.drop_zero, List.take_append_of_le_length (by rw [he]; exact Nat.le_refl _), List.take_of_length_le (by rw [he]; exact Nat.le_refl _)]
    rfl
  | x :: l, i + 1, h, _ => by
    rw [List.flatMap_cons, List.drop_append, List.drop_eq_nil_of_le (by rw [he, Nat.add_mul]; omega), List.nil_append, he, show (i + 1) * e - e = i * e by rw [Nat.add_mul]; omega]
    have := flat_drop he l i (by simpa using h)
    rw [this, gt_cons_succ]
variable [Inhabited α] {H : Heap} {enc : α → List Value} {e : Nat} {p : Option Addr} {l : List α}
theorem Sl.loadCells (h : Sl H enc e p l) (he : ∀ x, (enc x).length = e) {i : Nat} (hi : i < l.length) : AM.loadCells H (elt p e i) e = some (enc (gt l i)) := by
  cases p with
  | none => simp only [Sl] at h; subst h; simp at hi
  | some a =>
    obtain ⟨b, o, s⟩ := a
    obtain ⟨ro, c, h2, h4, h3⟩ := h.2 (by rintro rfl; simp at hi)
    have h1 := h.1
    simp only at h1 h2 h3 h4; subst h1
    have hie : i * e + e ≤ l.length * e := by
      have := Nat.mul_le_mul_right e (Nat.succ_le_of_lt hi)
      rw [Nat.succ_mul] at this; exact this
    have hf := flat_drop he l i hi
    rw [← h3, List.drop_take, List.take_take, List.drop_drop] at hf
    simp only [elt, addrOf, Option.getD_some, addr_add, AM.loadCells, h2]
    rw [if_pos (by omega), ← hf, Nat.min_eq_left (by omega)]
theorem Sl.loadCell (h : Sl H enc e p l) (he : ∀ x, (enc x).length = e) {i j : Nat} (hi : i < l.length) (hj : j < e) : AM.loadCell H ((elt p e i).add j) = (enc (gt l i))[j]? := by
  have h0 := h.loadCells he hi
  cases p with
  | none => simp only [Sl] at h; subst h; simp at hi
  | some a =>
    obtain ⟨b, o, s⟩ := a
    obtain ⟨ro, c, h2, h4, h3⟩ := h.2 (by rintro rfl; simp at hi)
    have h1 := h.1
    simp only at h1 h2 h3 h4; subst h1
    simp only [elt, addrOf, Option.getD_some, addr_add, AM.loadCells, h2] at h0
    split at h0
    · simp only [Option.some.injEq] at h0
      rw [← h0]
      simp only [elt, addrOf, Option.getD_some, addr_add, AM.loadCell, h2, List.getElem?_take, List.getElem?_drop, if_pos hj, Nat.add_assoc]
    · cases h0
theorem Sl.loadCell0 (h : Sl H enc e p l) (he : ∀ x, (enc x).length = e) {i : Nat} (hi : i < l.length) (hj : 0 < e) : AM.loadCell H (elt p e i) = (enc (gt l i))[0]? := by
  rw [← h.loadCell he hi hj]
  congr 1
omit [Inhabited α] in
theorem Sl.idx (h : Sl H enc e p l) {i c : Nat} {k : IntKind} {H1 : Heap} (hi : i < l.length) : idxK e (.slice p l.length c) (.int k (i : Int)) H1 = some (.pointer (some (elt p e i)), H1) := by
  cases p with
  | none => simp only [Sl] at h; subst h; simp at hi
  | some a => exact idxK_nat hi
end
theorem hget_set_eq {X : Heap} {j : Nat} {b : Blk} (h : j < X.length) : hget (X.set j b) j = b := by
  unfold hget; rw [List.getD_eq_getElem?_getD, List.getElem?_set_self h]; rfl
theorem hget_set_ne {X : Heap} {i j : Nat} {b : Blk} (h : i ≠ j) : hget (X.set j b) i = hget X i := by
  unfold hget; rw [List.getD_eq_getElem?_getD, List.getD_eq_getElem?_getD, List.getElem?_set_ne (Ne.symm h)]
theorem idxK_zero {e len c : Nat} {p : Addr} {k : IntKind} {H : Heap} (h : 0 < len) : idxK e (.slice (some p) len c) (.int k 0) H = some (.pointer (some (p.add 0)), H) := by
  have := idxK_nat (e := e) (n := 0) (len := len) (c := c) (p := p) (k := k) (H := H) h
  rw [Nat.zero_mul] at this
  exact this
theorem keyOk_int {k : IntKind} {n : Int} : keyOk (.int k) (.int k n) = true := by simp [keyOk]
theorem keyOk_str {b : ByteArray} : keyOk .str (.string b) = true := id rfl
theorem findKey_nil {v : Value} {i : Nat} : findKey v [] i = some none := rfl
theorem findKey_int {k : IntKind} {a b : Int} {v : Value} {es : List (Value × Value)} {i : Nat} : findKey (.int k a) ((.int k b, v) :: es) i = if a = b then some (some (i, v)) else findKey (.int k a) es (i + 1) := by
  simp only [findKey, keyEq, if_true]
  by_cases h : a = b
  · simp [h]
  · have e : (a == b) = false := by simpa using h
    simp [h, e]
theorem mapEntries_some {H : Heap} {r : Nat} : mapEntries H (.map (some r)) = (match hget H r with | .map es => some es | _ => none) := rfl
theorem mapEntries_none {H : Heap} : mapEntries H (.map none) = some [] := rfl
def Ext (H G : Heap) : Prop := ∃ X, G = H ++ X
section
variable {H G : Heap}
theorem Ext.refl : Ext H H := ⟨[], by simp⟩
theorem Ext.app (h : Ext H G) {X : Heap} : Ext H (G ++ X) := by
  obtain ⟨Y, rfl⟩ := h
  exact ⟨Y ++ X, by simp⟩
theorem Ext.trans {K : Heap} (h : Ext H G) (k : Ext G K) : Ext H K := by
  obtain ⟨Y, rfl⟩ := k
  exact h.app
theorem Ext.len (h : Ext H G) : H.length ≤ G.length := by
  obtain ⟨Y, rfl⟩ := h
  simp
theorem Ext.sl {α : Type} {enc : α → List Value} {e : Nat} {p : Option Addr} {l : List α} (h : Ext H G) (hs : Sl H enc e p l) : Sl G enc e p l := by
  obtain ⟨Y, rfl⟩ := h
  exact hs.app Y
theorem Ext.cells (h : Ext H G) {b : Nat} {ro : Bool} {c : List Value} (hs : hget H b = .cells ro c) : hget G b = .cells ro c := by
  obtain ⟨Y, rfl⟩ := h
  rw [hget_old (hget_alive hs)]; exact hs
end
section
variable {E : Env} {af : AFunc} {lim : Nat} {K : List AItem} {fr : Nat → Value} {H : Heap} {R : Value → Heap → Prop} {b : ACode}
theorem Ret_rounds {S : Type} (m : S → Nat) (I : S → (Nat → Value) → Heap → Prop) (s : S) (h0 : I s fr H)
    (step : ∀ s fr H, I s fr H → (∀ s' fr' H', I s' fr' H' → m s' < m s → Ret E af lim (.inLoop b :: K) fr' H' R) → Ret E af lim (.code b :: .inLoop b :: K) fr H R) :
    Ret E af lim (.code (.loop b) :: K) fr H R := by
  rw [Ret_loop, ← Ret_inLoop]
  have key : ∀ n s fr H, m s ≤ n → I s fr H → Ret E af lim (.inLoop b :: K) fr H R := by
    intro n
    induction n with
    | zero =>
      intro s fr H hm hi
      rw [Ret_inLoop]
      exact step s fr H hi fun s' fr' H' _ hl => absurd hl (by omega)
    | succ n ih =>
      intro s fr H hm hi
      rw [Ret_inLoop]
      exact step s fr H hi fun s' fr' H' hi' hl => ih s' fr' H' (by omega) hi'
  exact key _ s fr H (Nat.le_refl _) h0
theorem CallR.mono {mp : Bool} {g : FuncId} {as : List Value} {Q Q' : Value → Heap → Prop} (h : CallR E mp lim g as H Q) (hq : ∀ v H', Q v H' → Q' v H') : CallR E mp lim g as H Q' := by
  obtain ⟨n, L, h1, h2⟩ := h
  exact ⟨n, L, h1, h2.mono hq⟩
theorem Ret.mono {k : List AItem} {R' : Value → Heap → Prop} (h : Ret E af lim k fr H R) (hq : ∀ v H', R v H' → R' v H') : Ret E af lim k fr H R' := by
  obtain ⟨n, L, h1, h2⟩ := h
  exact ⟨n, L, h1, h2.mono hq⟩
theorem Ret_pad {k : List AItem} (h : Ret E af lim k fr (H ++ []) R) : Ret E af lim k fr H R := by rwa [List.append_nil] at h
theorem Ret_exit_eq {k k' : List AItem} {id : Nat} (h : aExit id k = aExit id k') : Ret E af lim (.code (.exit id) :: k) fr H R = Ret E af lim (.code (.exit id) :: k') fr H R := by
  cases hk : aExit id k' with
  | some K' => rw [Ret_exit (h.trans hk), Ret_exit hk]
  | none =>
    have key : ∀ {k : List AItem}, aExit id k = none → ¬ Ret E af lim (.code (.exit id) :: k) fr H R := by
      rintro k hk ⟨n, L, hx, _⟩
      cases n with
      | zero => simp [aRun] at hx
      | succ n => rw [aRun.eq_def] at hx; simp only [hk] at hx; cases hx
    exact propext ⟨fun q => absurd q (key (h.trans hk)), fun q => absurd q (key hk)⟩
theorem Ret_exit_code {id : Nat} {c : ACode} : Ret E af lim (.code (.exit id) :: .code c :: K) fr H R = Ret E af lim (.code (.exit id) :: K) fr H R := Ret_exit_eq (by simp [aExit])
theorem Ret_exit_loop {id : Nat} {c : ACode} : Ret E af lim (.code (.exit id) :: .inLoop c :: K) fr H R = Ret E af lim (.code (.exit id) :: K) fr H R := Ret_exit_eq (by simp [aExit])
theorem Ret_exit_other {id id' : Nat} (h : id' ≠ id) : Ret E af lim (.code (.exit id) :: .inBlock id' :: K) fr H R = Ret E af lim (.code (.exit id) :: K) fr H R := Ret_exit_eq (by simp [aExit, h])
theorem Ret_exit_here {id : Nat} : Ret E af lim (.code (.exit id) :: .inBlock id :: K) fr H R = Ret E af lim K fr H R := Ret_exit (by simp [aExit])
def shutK (r : Option Heap) (f : Heap → Prop) (_ : Bx f := ⟨⟩) : Prop := match r with | some H' => f H' | none => False
theorem shutK_some {f : Heap → Prop} : shutK (some H) f = f H := rfl
theorem Ret_retM : Ret E af lim (.code .retM :: K) fr H R = shutK (shut lim (marks K) H) fun H' => opK ((result fr H' af.results).map (·, H')) R := by
  rw [Ret_first (r := match shut lim (marks K) H with | some H' => (result fr H' af.results).map (·, H') | none => none) fun n => by rw [aRun.eq_def]; simp only; cases shut lim (marks K) H <;> rfl]
  cases shut lim (marks K) H <;> rfl
theorem marks_nil : marks [] = [] := rfl
theorem marks_code {c : ACode} : marks (.code c :: K) = marks K := rfl
theorem marks_loop {c : ACode} : marks (.inLoop c :: K) = marks K := rfl
theorem marks_block {id : Nat} : marks (.inBlock id :: K) = marks K := rfl
theorem marks_mark {i : Nat} : marks (.mark i :: K) = marks K ++ [i] := rfl
theorem shut_nil : shut lim [] H = some H := rfl
theorem shut_cons {i : Nat} {l : List Nat} (h : hget H i = .dfr) (hl : lim ≤ i) : shut lim (i :: l) H = shut lim l (H.set i .dead) := by simp only [shut, h, if_pos hl]
def endB (i : Nat) (j : Option ACode) (H : Heap) (b : Blk) : Option (Value × Heap) := match b with | .loop x => some (.bool j.isNone, H.set i (.loop { x with st := if j.isNone then 0 else 2, pend := j })) | _ => none
theorem endB_on {i st N : Nat} {p : Option ACode} {g : Nat → Value} {ps : List Nat} {a b : ACode} : endB i none H (.loop ⟨st, p, g, N, ps, a, b⟩) = some (.bool true, H.set i (.loop ⟨0, none, g, N, ps, a, b⟩)) := rfl
theorem endB_off {i st N : Nat} {p : Option ACode} {g : Nat → Value} {ps : List Nat} {a b c : ACode} : endB i (some c) H (.loop ⟨st, p, g, N, ps, a, b⟩) = some (.bool false, H.set i (.loop ⟨2, some c, g, N, ps, a, b⟩)) := rfl
theorem endRound_get {i : Nat} {j : Option ACode} : endRound i j H = endB i j H (hget H i) := by unfold endRound endB; cases hget H i <;> rfl
theorem Ret_round {i : Nat} (hl : lim ≤ i) : Ret E af lim (.round i :: K) fr H R = opK (endB i none H (hget H i)) R := by
  rw [← endRound_get]; exact Ret_first fun n => by rw [aRun.eq_def]; simp only [if_pos hl]
def begK (b : Blk) (f : LoopB → Prop) (_ : Bx f := ⟨⟩) : Prop := match b with | .loop x => if x.st = 0 then f x else False | _ => False
theorem begK_loop {N : Nat} {p : Option ACode} {g : Nat → Value} {ps : List Nat} {a b : ACode} {f : LoopB → Prop} : begK (.loop ⟨0, p, g, N, ps, a, b⟩) f = f ⟨0, p, g, N, ps, a, b⟩ := by simp [begK]
theorem Ret_begin {i : Nat} (hl : lim ≤ i) : Ret E af lim (.begin i :: K) fr H R = begK (hget H i) fun x => Ret E af lim K fr (H.set i (.loop { x with st := 1 })) R := by
  unfold begK
  have never : (∀ n, aRun E (n + 1) af lim (.begin i :: K) fr H = none) → Ret E af lim (.begin i :: K) fr H R = False := fun h => by rw [Ret_first (r := none) fun n => (h n).trans rfl]; rfl
  cases hb : hget H i with
  | loop x =>
    simp only
    split
    · rename_i hs
      exact Ret.succ fun n => by rw [aRun.eq_def]; simp only [hb, if_pos (And.intro hs hl)]
    · rename_i hs
      exact never fun n => by rw [aRun.eq_def]; simp only [hb, hs, false_and, if_false]
  | _ => exact never fun n => by rw [aRun.eq_def]; simp only [hb]
theorem Ret_never {k : List AItem} (h : ∀ n, aRun E (n + 1) af lim k fr H = none) : Ret E af lim k fr H R = False := by rw [Ret_first (r := none) fun n => (h n).trans rfl]; rfl
theorem Ret_retR_eq {k k' : List AItem} (h : roundOf k = roundOf k') : Ret E af lim (.code .retR :: k) fr H R = Ret E af lim (.code .retR :: k') fr H R := by
  rw [Ret_first (r := match roundOf k with | some i => if lim ≤ i then endRound i (some .retM) H else none | none => none) fun n => by rw [aRun.eq_def]; simp only; cases roundOf k with | none => rfl | some i => simp only; split <;> rfl,
    Ret_first (k := .code .retR :: k') (r := match roundOf k' with | some i => if lim ≤ i then endRound i (some .retM) H else none | none => none) fun n => by rw [aRun.eq_def]; simp only; cases roundOf k' with | none => rfl | some i => simp only; split <;> rfl, h]
theorem Ret_retR_code {c : ACode} : Ret E af lim (.code .retR :: .code c :: K) fr H R = Ret E af lim (.code .retR :: K) fr H R := Ret_retR_eq rfl
theorem Ret_retR_loop {c : ACode} : Ret E af lim (.code .retR :: .inLoop c :: K) fr H R = Ret E af lim (.code .retR :: K) fr H R := Ret_retR_eq rfl
theorem Ret_retR_block {id : Nat} : Ret E af lim (.code .retR :: .inBlock id :: K) fr H R = Ret E af lim (.code .retR :: K) fr H R := Ret_retR_eq rfl
theorem Ret_retR_round {i : Nat} (hl : lim ≤ i) : Ret E af lim (.code .retR :: .round i :: K) fr H R = opK (endB i (some .retM) H (hget H i)) R := by
  rw [← endRound_get]; exact Ret_first fun n => by rw [aRun.eq_def]; simp only [roundOf, if_pos hl]
theorem Ret_exitR_eq {k k' : List AItem} {id : Nat} (h : aExit id k = aExit id k') (h2 : roundOf k = roundOf k') : Ret E af lim (.code (.exitR id) :: k) fr H R = Ret E af lim (.code (.exitR id) :: k') fr H R := by
  cases hk : aExit id k' with
  | some K' =>
    exact (Ret.succ (k1 := K') (fr1 := fr) (H1 := H) fun n => by rw [aRun.eq_def]; simp only [h.trans hk]).trans (Ret.succ fun n => by rw [aRun.eq_def]; simp only [hk]).symm
  | none =>
    rw [Ret_first (r := match roundOf k with | some i => if lim ≤ i then endRound i (some (.exit id)) H else none | none => none) fun n => by rw [aRun.eq_def]; simp only [h.trans hk]; cases roundOf k with | none => rfl | some i => simp only; split <;> rfl,
      Ret_first (k := .code (.exitR id) :: k') (r := match roundOf k' with | some i => if lim ≤ i then endRound i (some (.exit id)) H else none | none => none) fun n => by rw [aRun.eq_def]; simp only [hk]; cases roundOf k' with | none => rfl | some i => simp only; split <;> rfl, h2]
theorem Ret_exitR_code {id : Nat} {c : ACode} : Ret E af lim (.code (.exitR id) :: .code c :: K) fr H R = Ret E af lim (.code (.exitR id) :: K) fr H R := Ret_exitR_eq (by simp [aExit]) rfl
theorem Ret_exitR_loop {id : Nat} {c : ACode} : Ret E af lim (.code (.exitR id) :: .inLoop c :: K) fr H R = Ret E af lim (.code (.exitR id) :: K) fr H R := Ret_exitR_eq (by simp [aExit]) rfl
theorem Ret_exitR_other {id id' : Nat} (h : id' ≠ id) : Ret E af lim (.code (.exitR id) :: .inBlock id' :: K) fr H R = Ret E af lim (.code (.exitR id) :: K) fr H R := Ret_exitR_eq (by simp [aExit, h]) rfl
theorem Ret_exitR_here {id : Nat} : Ret E af lim (.code (.exitR id) :: .inBlock id :: K) fr H R = Ret E af lim K fr H R := Ret.succ fun n => by rw [aRun.eq_def]; simp [aExit]
theorem Ret_exitR_round {id i : Nat} (hl : lim ≤ i) : Ret E af lim (.code (.exitR id) :: .round i :: []) fr H R = opK (endB i (some (.exit id)) H (hget H i)) R := by
  rw [← endRound_get]; exact Ret_first fun n => by rw [aRun.eq_def]; simp only [aExit, roundOf, if_pos hl]
def pendI (x : LoopB) : List AItem := match x.pend with | none => [] | some c => [.code c]
theorem pendI_none {st N : Nat} {g : Nat → Value} {ps : List Nat} {a b : ACode} : pendI ⟨st, none, g, N, ps, a, b⟩ = [] := rfl
theorem pendI_some {st N : Nat} {g : Nat → Value} {ps : List Nat} {a b c : ACode} : pendI ⟨st, some c, g, N, ps, a, b⟩ = [.code c] := rfl
def calL (c : Option ((FuncId ⊕ Nat) × List Value)) (f : FuncId → List Value → Prop) (_ : Bx f := ⟨⟩) : Prop := match c with | some (.inl g, as) => f g as | _ => False
theorem calL_some {g : FuncId} {as : List Value} {f : FuncId → List Value → Prop} : calL (some (.inl g, as)) f = f g as := rfl
def endK (b : Blk) (f : LoopB → Prop) (_ : Bx f := ⟨⟩) : Prop := match b with | .loop x => if x.st = 1 then False else f x | _ => False
theorem endK_0 {N : Nat} {p : Option ACode} {g : Nat → Value} {ps : List Nat} {a b : ACode} {f : LoopB → Prop} : endK (.loop ⟨0, p, g, N, ps, a, b⟩) f = f ⟨0, p, g, N, ps, a, b⟩ := by simp [endK]
theorem endK_2 {N : Nat} {p : Option ACode} {g : Nat → Value} {ps : List Nat} {a b : ACode} {f : LoopB → Prop} : endK (.loop ⟨2, p, g, N, ps, a, b⟩) f = f ⟨2, p, g, N, ps, a, b⟩ := by simp [endK]
theorem endK_loop {x : LoopB} {f : LoopB → Prop} (h : x.st ≠ 1) : endK (.loop x) f = f x := by simp [endK, h]
theorem Ret_rangeF0 {f : Operand} {ps : List Nat} {a b : ACode} {g : FuncId} {as : List Value} (hc : callee (ev fr f) [.func (.yield (H.length + 1)) #[] #[]] = some (.inl g, as)) :
    Ret E af lim (.code (.rangeF f ps a b) :: K) fr H R = CallR E false lim g as (H ++ [.dfr, .loop ⟨0, none, fr, af.ntmps, ps, a, b⟩]) fun _ H2 =>
      endK (hget H2 (H.length + 1)) fun x => Ret E af lim (pendI x ++ (K ++ [.mark H.length])) fr (H2.set (H.length + 1) .dead) R := by
  let F := fun (n : Nat) (r : Value × Heap) => match hget r.2 (H.length + 1) with
    | .loop x => if x.st = 1 then none else aRun E n af lim ((match x.pend with | none => [] | some c => [AItem.code c]) ++ (K ++ [AItem.mark H.length])) fr (r.2.set (H.length + 1) .dead)
    | _ => none
  have hF : ∀ n r s, F n r = some s → ∃ x, hget r.2 (H.length + 1) = .loop x ∧ x.st ≠ 1 ∧ aRun E n af lim (pendI x ++ (K ++ [.mark H.length])) fr (r.2.set (H.length + 1) .dead) = some s := fun n r s h => by
    simp only [F] at h
    split at h
    case h_2 => cases h
    rename_i x hb
    split at h
    · cases h
    rename_i hst
    exact ⟨x, hb, hst, h⟩
  have hF' : ∀ n r x s, hget r.2 (H.length + 1) = .loop x → x.st ≠ 1 → aRun E n af lim (pendI x ++ (K ++ [.mark H.length])) fr (r.2.set (H.length + 1) .dead) = some s → F n r = some s := fun n r x s hb hst h => by
    simp only [F, hb, if_neg hst]
    exact h
  have hne : ∀ n r s, F n r = some s → s ≠ [] := fun n r s h => by
    obtain ⟨x, _, _, h⟩ := hF n r s h
    exact aRun_ne E _ _ _ _ _ _ _ h
  have hmono : ∀ {n m r s}, n ≤ m → F n r = some s → F m r = some s := fun {n m r s} hnm h => by
    obtain ⟨x, h1, h2, h3⟩ := hF n r s h
    exact hF' m r x s h1 h2 (aRun_le E hnm h3)
  have hrun : ∀ n, aRun E (n + 1) af lim (.code (.rangeF f ps a b) :: K) fr H = match callWith E (aRun E n) false lim (.inl g) as (H ++ [.dfr, .loop ⟨0, none, fr, af.ntmps, ps, a, b⟩]) with
      | some L => bindL (F n) L
      | none => none := fun n => by rw [aRun.eq_def]; simp only [hc]; rfl
  apply propext
  constructor
  · rintro ⟨n, L, hx, hr⟩
    cases n with
    | zero => simp [aRun] at hx
    | succ n =>
    rw [hrun] at hx
    split at hx
    case h_2 => cases hx
    rename_i L0 hcall
    refine ⟨n, L0, hcall, fun hd => ?_, fun r hr' => ?_⟩
    · obtain ⟨y, hy⟩ := hr.1 hd
      exact bindL_one hx (fun x _ s hs => hne n x s hs) hy
    · obtain ⟨s, hs, hsub⟩ := bindL_fwd hx r hr'
      obtain ⟨x, h1, h2, h3⟩ := hF n r s hs
      rw [h1, endK_loop h2]
      refine ⟨n, s, h3, fun hd => ?_, fun q hq => hr.2 q (hsub q hq)⟩
      obtain ⟨y, hy⟩ := hr.1 hd
      obtain ⟨z, hz⟩ := bindL_one hx (fun x _ s hs => hne n x s hs) hy
      subst hz
      rw [List.mem_singleton] at hr'
      subst hr'
      simp only [bindL, hs, Option.some.injEq, List.append_nil] at hx
      exact ⟨y, hx.trans hy⟩
  · rintro ⟨n, L0, hcall, hd, h2⟩
    have hall : ∃ N, ∀ r ∈ L0, ∃ s, F N r = some s ∧ Outs E.dt s R := by
      clear hd hcall
      induction L0 with
      | nil => exact ⟨0, fun r hr => by cases hr⟩
      | cons y L0 ih =>
        obtain ⟨N, hN⟩ := ih fun r hr => h2 r (by simp [hr])
        have hk := h2 y (by simp)
        simp only [endK] at hk
        split at hk
        case h_2 => exact hk.elim
        rename_i x hb
        split at hk
        · exact hk.elim
        rename_i hst
        obtain ⟨m, s, hx, hr⟩ := hk
        refine ⟨max N m, fun r hr' => ?_⟩
        rcases List.mem_cons.1 hr' with rfl | hr'
        · exact ⟨s, hmono (Nat.le_max_right N m) (hF' m r x s hb hst hx), hr⟩
        · obtain ⟨s', g1, g2⟩ := hN r hr'
          exact ⟨s', hmono (Nat.le_max_left N m) g1, g2⟩
    obtain ⟨N, hN⟩ := hall
    have e : callWith E (aRun E (max n N)) false lim (.inl g) as (H ++ [.dfr, .loop ⟨0, none, fr, af.ntmps, ps, a, b⟩]) = some L0 := aCall_le E (Nat.le_max_left n N) _ _ _ _ _ _ hcall
    obtain ⟨L, hL⟩ := bindL_some (f := F (max n N)) (l := L0) fun r hr => by
      obtain ⟨s, hs, _⟩ := hN r hr
      exact ⟨s, hmono (Nat.le_max_right n N) hs⟩
    refine ⟨max n N + 1, L, by rw [hrun, e]; exact hL, fun hdt => ?_, fun q hq => ?_⟩
    · obtain ⟨y, rfl⟩ := hd hdt
      obtain ⟨s, hs, ho⟩ := hN y (by simp)
      have hs' := hmono (Nat.le_max_right n N) hs
      simp only [bindL, hs', Option.some.injEq, List.append_nil] at hL
      obtain ⟨z, hz⟩ := ho.1 hdt
      exact ⟨z, by rw [← hL, hz]⟩
    · obtain ⟨r, hr, s, hs, hqs⟩ := bindL_back hL q hq
      obtain ⟨s', hs', ho⟩ := hN r hr
      have := hmono (Nat.le_max_right n N) hs'
      rw [hs] at this
      cases this
      exact ho.2 q hqs
theorem Ret_rangeF {f : Operand} {ps : List Nat} {a b : ACode} :
    Ret E af lim (.code (.rangeF f ps a b) :: K) fr H R = calL (callee (ev fr f) [.func (.yield (H.length + 1)) #[] #[]]) fun g as => CallR E false lim g as (H ++ [.dfr, .loop ⟨0, none, fr, af.ntmps, ps, a, b⟩]) fun _ H2 =>
      endK (hget H2 (H.length + 1)) fun x => Ret E af lim (pendI x ++ (K ++ [.mark H.length])) fr (H2.set (H.length + 1) .dead) R := by
  unfold calL
  split
  · rename_i g as hc; exact Ret_rangeF0 hc
  · rename_i hc
    refine Ret_never fun n => ?_
    rw [aRun.eq_def]
    simp only
theorem CallY.det {mp : Bool} {i : Nat} {as : List Value} {Q : Value → Heap → Prop} {n : Nat} {v : Value} {H' : Heap} (h : aCall E n mp lim (.inr i) as H = some [(v, H')]) : CallY E mp lim i as H Q = Q v H' := by
  rw [← CallT_inr, CallT.all h, Outs_one]
theorem CallY.mono {mp : Bool} {i : Nat} {as : List Value} {Q Q' : Value → Heap → Prop} (h : CallY E mp lim i as H Q) (hq : ∀ v H', Q v H' → Q' v H') : CallY E mp lim i as H Q' := by
  obtain ⟨n, L, h1, h2⟩ := h
  exact ⟨n, L, h1, h2.mono hq⟩
theorem CallY_run {i : Nat} {as : List Value} {Q : Value → Heap → Prop} {x : LoopB} (hb : hget H i = .loop x) (hl : lim ≤ i) (hlen : as.length = x.params.length) (hp : (x.params.all (· < x.N)) = true) :
    CallY E false lim i as H Q = Ret E ⟨x.N, [], .skip⟩ lim [.code x.assign, .begin i, .code x.body, .round i] (setParams x.fr x.params as) H Q := by
  unfold CallY Ret aCall callWith
  simp only [hb, if_pos (And.intro hl (And.intro hlen hp)), Bool.false_eq_true, if_false]
theorem Ret_code {c c' : ACode} (h : c = c') : Ret E af lim (.code c :: K) fr H R = Ret E af lim (.code c' :: K) fr H R := by rw [h]
theorem loadCell_lit {b o : Nat} {s : Option Nat} : AM.loadCell H ⟨b, o, s⟩ = (match hget H b with | .cells _ c => c[o]? | _ => none) := rfl
theorem loadCells_lit {b o n : Nat} {s : Option Nat} : AM.loadCells H ⟨b, o, s⟩ n = (match hget H b with | .cells _ c => if o + n ≤ c.length then some ((c.drop o).take n) else none | _ => none) := rfl
theorem storeAt_lit {b o : Nat} {s : Option Nat} {vs : List Value} : AM.storeAt lim H ⟨b, o, s⟩ vs = (match hget H b with | .cells false c => if lim ≤ b ∧ o + vs.length ≤ c.length then some (H.set b (.cells false (setAll c o vs))) else none | _ => none) := rfl
theorem CallR.eq {mp : Bool} {g : FuncId} {as : List Value} {Q : Value → Heap → Prop} {v : Value} {H' : Heap} (h : CallR E mp lim g as H fun v' H1 => v' = v ∧ H1 = H') : CallR E mp lim g as H Q = Q v H' := by
  obtain ⟨n, L, h1, h2⟩ := h
  rw [← CallT_inl, CallT.all h1]
  have hne := aCall_ne E h1
  obtain ⟨x, hx⟩ := List.exists_mem_of_ne_nil _ hne
  have e : ∀ r ∈ L, r = (v, H') := fun r hr => by
    obtain ⟨a, b⟩ := h2.2 r hr
    exact Prod.ext a b
  apply propext
  constructor
  · intro h
    have := h.2 x hx
    rw [e x hx] at this
    exact this
  · exact fun hq => ⟨h2.1, fun r hr => by rw [e r hr]; exact hq⟩
end
section
variable {p q : Prop} {t b : Bool}
theorem wantK_undef : wantK undef b p q = q := by unfold undef wantK; rfl
theorem wantK_not : wantK (.bool (!t)) b p q = wantK (.bool t) (!b) p q := by cases t <;> cases b <;> simp [wantK]
theorem condK_not : condK (.bool (!t)) p q = condK (.bool t) q p := by cases t <;> rfl
end
theorem int_lt_cast {a b : Nat} : ((a : Int) < (b : Int)) = (a < b) := by simp
theorem int_le_cast {a b : Nat} : ((a : Int) ≤ (b : Int)) = (a ≤ b) := by simp
theorem int_zero_lt {a : Nat} : ((0 : Int) < (a : Int)) = (0 < a) := by simp
theorem wrap_id {n : Int} (h1 : -2 ^ 63 ≤ n) (h2 : n < 2 ^ 63) : IntKind.i64.wrap n = n := by
  by_cases h : 0 ≤ n
  · have h1 : n % 2 ^ 64 = n := Int.emod_eq_of_lt h (by omega)
    simp only [IntKind.wrap, IntKind.bits, IntKind.signed, h1]
    rw [if_neg (by simp; omega)]
  · have h1 : n % 2 ^ 64 = n + 2 ^ 64 := by
      rw [← Int.add_emod_right, Int.emod_eq_of_lt (by omega) (by omega)]
    simp only [IntKind.wrap, IntKind.bits, IntKind.signed, h1]
    rw [if_pos (by simp; omega)]
    omega
theorem wrap_pred {n : Nat} (h : 0 < n) (h2 : n < 2 ^ 63) : IntKind.i64.wrap ((n : Int) - 1) = ((n - 1 : Nat) : Int) := by rw [wrap_id (by omega) (by omega)]; omega
theorem hget_cells {H : Heap} {b : Nat} (h : isCells (hget H b) = true) : ∃ ro, hget H b = .cells ro (cellsOf (hget H b)) := by
  cases hb : hget H b with
  | cells ro c => exact ⟨ro, by simp [cellsOf]⟩
  | _ => rw [hb] at h; simp [isCells] at h
theorem Sl.lit {α : Type} {H : Heap} {enc : α → List Value} {e b : Nat} {l : List α} (he : ∀ x, (enc x).length = e) (h : isCells (hget H b) = true) (hc : cellsOf (hget H b) = l.flatMap enc) : Sl H enc e (some ⟨b, 0, none⟩) l := by
  obtain ⟨ro, h1⟩ := hget_cells h
  refine ⟨rfl, fun _ => ⟨ro, _, h1, ?_, ?_⟩⟩
  · rw [hc, flat_len he]; simp
  · rw [hc, List.drop_zero, List.take_of_length_le (by rw [flat_len he]; exact Nat.le_refl _)]
def allFrom (P : Nat → Bool) (n i : Nat) : Bool := (List.range' i (n - i)).all P
theorem allFrom_step {P : Nat → Bool} {n i : Nat} (h : i < n) : allFrom P n i = (P i && allFrom P n (i + 1)) := by
  unfold allFrom
  rw [show n - i = (n - (i + 1)) + 1 by omega, List.range'_succ, List.all_cons]
theorem allFrom_end {P : Nat → Bool} {n : Nat} : allFrom P n n = true := by simp [allFrom]
theorem allFrom_iff {P : Nat → Bool} {n i : Nat} : allFrom P n i = true ↔ ∀ j, i ≤ j → j < n → P j = true := by
  unfold allFrom
  simp only [List.all_eq_true, List.mem_range'_1]
  exact ⟨fun h j h1 h2 => h j ⟨h1, by omega⟩, fun h j hj => h j hj.1 (by omega)⟩
theorem cells_slice {a : Option Addr} {n c : Nat} : (Value.slice a n c).cells = #[.slice a n c] := rfl
theorem cells_ptr {a : Option Addr} : (Value.pointer a).cells = #[.pointer a] := rfl
theorem cells_str {s : ByteArray} : (Value.string s).cells = #[.string s] := rfl
theorem arr1 {v : Value} : (#[v] : Array Value).toList = [v] := rfl
theorem size1 {v : Value} : (#[v] : Array Value).size = 1 := rfl
theorem cells_map {a : Option Nat} : (Value.map a).cells = #[.map a] := rfl
theorem cells_func {f : Fn} {a b : Array Value} : (Value.func f a b).cells = #[.func f a b] := rfl
theorem fillV_slice {off : Nat} {a : Option Addr} {n m : Nat} {c : List Value} (h : off < c.length) : fillV off 1 (.slice a n m) c = some (c.set off (.slice a n m)) := fillV_one rfl rfl h
theorem fillV_ptr {off : Nat} {a : Option Addr} {c : List Value} (h : off < c.length) : fillV off 1 (.pointer a) c = some (c.set off (.pointer a)) := fillV_one rfl rfl h
theorem fillV_str {off : Nat} {a : ByteArray} {c : List Value} (h : off < c.length) : fillV off 1 (.string a) c = some (c.set off (.string a)) := fillV_one rfl rfl h
theorem fillV_map {off : Nat} {a : Option Nat} {c : List Value} (h : off < c.length) : fillV off 1 (.map a) c = some (c.set off (.map a)) := fillV_one rfl rfl h
theorem pad_4 : List.replicate 4 Blk.dead = [.dead, .dead, .dead, .dead] := rfl
theorem pad_5 : List.replicate 5 Blk.dead = [.dead, .dead, .dead, .dead, .dead] := rfl
theorem pad_6 : List.replicate 6 Blk.dead = [.dead, .dead, .dead, .dead, .dead, .dead] := rfl
theorem pad_7 : List.replicate 7 Blk.dead = [.dead, .dead, .dead, .dead, .dead, .dead, .dead] := rfl
theorem pad_8 : List.replicate 8 Blk.dead = [.dead, .dead, .dead, .dead, .dead, .dead, .dead, .dead] := rfl
theorem pad_9 : List.replicate 9 Blk.dead = [.dead, .dead, .dead, .dead, .dead, .dead, .dead, .dead, .dead] := rfl
theorem pad_10 : List.replicate 10 Blk.dead = [.dead, .dead, .dead, .dead, .dead, .dead, .dead, .dead, .dead, .dead] := rfl
theorem pad_11 : List.replicate 11 Blk.dead = [.dead, .dead, .dead, .dead, .dead, .dead, .dead, .dead, .dead, .dead, .dead] := rfl
theorem pad_12 : List.replicate 12 Blk.dead = [.dead, .dead, .dead, .dead, .dead, .dead, .dead, .dead, .dead, .dead, .dead, .dead] := rfl
theorem bytesOf_nil : bytesOf [] = some [] := rfl
theorem bytesOf_cons {n : Int} {l : List Value} : bytesOf (.int .u8 n :: l) = (bytesOf l).map (UInt8.ofNat n.toNat :: ·) := by
  simp only [bytesOf]; cases bytesOf l <;> rfl
theorem int_eq_cast {a b : Nat} : ((a : Int) = (b : Int)) = (a = b) := propext Int.ofNat_inj
theorem setAll_skip {v : Value} {c vs : List Value} : ∀ {o : Nat}, setAll (v :: c) (o + 1) vs = v :: setAll c o vs := by
  induction vs generalizing c with
  | nil => intro o; rfl
  | cons u vs ih => intro o; rw [setAll_cons, setAll_cons, List.set_cons_succ]; exact ih
theorem take_all {l : List Value} {n : Nat} (h : l.length = n) : l.take n = l := by subst h; exact List.take_length
theorem nat_not_neg {n : Nat} : ((n : Int) < 0) = False := by simp
theorem setAll_full {c vs : List Value} (h : vs.length = c.length) : setAll c 0 vs = vs := by
  have key : ∀ (vs c pre : List Value), vs.length = c.length → setAll (pre ++ c) pre.length vs = pre ++ vs := by
    intro vs
    induction vs with
    | nil => intro c pre h; have : c = [] := List.length_eq_zero_iff.1 h.symm; subst this; rfl
    | cons v vs ih =>
      intro c pre h
      match c, h with
      | x :: c, h =>
        rw [setAll_cons]
        have e1 : (pre ++ x :: c).set pre.length v = (pre ++ [v]) ++ c := by simp
        rw [e1]
        have := ih c (pre ++ [v]) (by simpa using h)
        rw [List.length_append] at this
        simp only [List.length_cons, List.length_nil, Nat.zero_add] at this
        rw [this]; simp
  exact key vs c [] h
def b2sV (v : Value) (H : Heap) : Option (Value × Heap) := match v with
  | .slice none n _ => if n = 0 then some (.string .empty, H) else none
  | .slice (some a) n _ => match loadCells H a n with
    | some cs => match bytesOf cs with
      | some bs => some (.string ⟨bs.toArray⟩, H)
      | none => none
    | none => none
  | _ => none
theorem b2sV_some {a : Addr} {n c : Nat} {H : Heap} : b2sV (.slice (some a) n c) H = (match AM.loadCells H a n with
    | some cs => match bytesOf cs with
      | some bs => some (.string ⟨bs.toArray⟩, H)
      | none => none
    | none => none) := rfl
theorem on_b2sV {E : Env} {lim : Nat} {dest : Option Nat} {mask : List Nat} {fr : Nat → Value} {H : Heap} {Q : Value → Heap → Prop} {qx : Operand} : oK E lim none none mask (.b2s qx) fr H Q = opK (b2sV (ev fr qx) H) Q := oK_none rfl
theorem ob_b2sV {E : Env} {lim b : Nat} {dest : Option Nat} {mask : List Nat} {fr : Nat → Value} {H : Heap} {Q : Value → Heap → Prop} {qx : Operand} : oK E lim (some b) dest mask (.b2s qx) fr H Q = opK (b2sV (ev fr qx) (maskH b mask H)) fun v H' => Q v (unmaskH b mask H H') := oK_some rfl
def unV : Operand → Value
  | .const v => v
  | _ => undef
def sliceV (e : Nat) (v : Value) (lo hi mx : Option Value) : Option Value := aSliceS e unV v (lo.map .const) (hi.map .const) (mx.map .const)
theorem aSliceS_V {e : Nat} {ρ : Operand → Value} {v : Value} {lo hi mx : Option Operand} : aSliceS e ρ v lo hi mx = sliceV e v (lo.map ρ) (hi.map ρ) (mx.map ρ) := by
  unfold sliceV aSliceS
  cases v with
  | slice a n c => cases lo <;> cases hi <;> cases mx <;> rfl
  | _ => rfl
def copyV (lim esz : Nat) (d x : Value) (H : Heap) : Option (Value × Heap) := match d, lenOf x with
    | .slice base dl _, some sl => match copyCells H esz (min sl dl) x with
      | some cs => match base with
        | some a => if min sl dl = 0 then some (.int .i64 0, H) else (storeAt lim H a cs).map (.int .i64 (min sl dl : Nat), ·)
        | none => if dl = 0 then some (.int .i64 0, H) else none
      | none => none
    | _, _ => none
theorem on_copyV {E : Env} {lim e : Nat} {dest : Option Nat} {mask : List Nat} {fr : Nat → Value} {H : Heap} {Q : Value → Heap → Prop} {d x : Operand} : oK E lim none none mask (.copy e d x) fr H Q = opK (copyV lim e (ev fr d) (ev fr x) H) Q := oK_none rfl
theorem ob_copyV {E : Env} {lim b e : Nat} {dest : Option Nat} {mask : List Nat} {fr : Nat → Value} {H : Heap} {Q : Value → Heap → Prop} {d x : Operand} : oK E lim (some b) dest mask (.copy e d x) fr H Q = opK (copyV lim e (ev fr d) (ev fr x) (maskH b mask H)) fun v H' => Q v (unmaskH b mask H H') := oK_some rfl
def sliceAV (n e : Nat) (v : Value) (lo hi mx : Option Value) : Option Value := match v with
  | .pointer (some a) => match bounds unV n n (lo.map .const) (hi.map .const) (mx.map .const) with
    | some (l, h, m) => if m < 2 ^ 62 then some (.slice (some (if m = l then a else a.add (l * e))) (h - l) (m - l)) else none
    | none => none
  | _ => none
theorem sliceA_V {lim n e : Nat} {dest : Option Nat} {ρ : Operand → Value} {x : Operand} {lo hi mx : Option Operand} {H : Heap} : aOp lim dest (.sliceA n e x lo hi mx) ρ H = (sliceAV n e (ρ x) (lo.map ρ) (hi.map ρ) (mx.map ρ)).map (·, H) := by
  have hb : bounds unV n n ((lo.map ρ).map .const) ((hi.map ρ).map .const) ((mx.map ρ).map .const) = bounds ρ n n lo hi mx := by
    cases lo <;> cases hi <;> cases mx <;> rfl
  simp only [aOp, sliceAV, hb]
  cases ρ x with
  | pointer a =>
    cases a with
    | none => rfl
    | some a =>
      simp only
      cases bounds ρ n n lo hi mx with
      | none => rfl
      | some p =>
        obtain ⟨l, h, m⟩ := p
        simp only
        split <;> rfl
  | _ => rfl
theorem on_sliceAV {E : Env} {lim n e : Nat} {dest : Option Nat} {mask : List Nat} {fr : Nat → Value} {H : Heap} {Q : Value → Heap → Prop} {x : Operand} {lo hi mx : Option Operand} : oK E lim none none mask (.sliceA n e x lo hi mx) fr H Q = opK ((sliceAV n e (ev fr x) (lo.map (ev fr)) (hi.map (ev fr)) (mx.map (ev fr))).map (·, H)) Q := by
  rw [oK_none rfl, sliceA_V]
theorem ob_sliceAV {E : Env} {lim b n e : Nat} {dest : Option Nat} {mask : List Nat} {fr : Nat → Value} {H : Heap} {Q : Value → Heap → Prop} {x : Operand} {lo hi mx : Option Operand} : oK E lim (some b) dest mask (.sliceA n e x lo hi mx) fr H Q = opK ((sliceAV n e (ev fr x) (lo.map (ev fr)) (hi.map (ev fr)) (mx.map (ev fr))).map (·, maskH b mask H)) fun v H' => Q v (unmaskH b mask H H') := by
  rw [oK_some rfl, sliceA_V]
def appendLV (lim : Nat) (dest : Option Nat) (esz bytes : Nat) (str : Bool) (s x : Value) (H : Heap) : Option (Value × Heap) := match s with
    | .slice none n c => aAppend lim dest esz bytes str (.slice none n c) x H
    | .slice (some a) n c => if c = loose esz ∨ c = n then aAppend lim dest esz bytes str (.slice (some a) n c) x H else none
    | _ => none
theorem on_appendLV {E : Env} {lim e b : Nat} {str : Bool} {dest : Option Nat} {mask : List Nat} {fr : Nat → Value} {H : Heap} {Q : Value → Heap → Prop} {s x : Operand} : oK E lim none none mask (.appendL e b str s x) fr H Q = opK (appendLV lim none e b str (ev fr s) (ev fr x) H) Q := oK_none rfl
theorem ob_appendLV {E : Env} {lim e b' b : Nat} {str : Bool} {dest : Option Nat} {mask : List Nat} {fr : Nat → Value} {H : Heap} {Q : Value → Heap → Prop} {s x : Operand} : oK E lim (some b) dest mask (.appendL e b' str s x) fr H Q = opK (appendLV lim (dest.map (b + ·)) e b' str (ev fr s) (ev fr x) (maskH b mask H)) fun v H' => Q v (unmaskH b mask H H') := oK_some rfl
theorem appendLV_none {lim e b n c : Nat} {str : Bool} {dest : Option Nat} {x : Value} {H : Heap} : appendLV lim dest e b str (.slice none n c) x H = aAppend lim dest e b str (.slice none n c) x H := rfl
theorem appendLV_some {lim e b n c : Nat} {str : Bool} {dest : Option Nat} {x : Value} {H : Heap} {a : Addr} : appendLV lim dest e b str (.slice (some a) n c) x H = if c = loose e ∨ c = n then aAppend lim dest e b str (.slice (some a) n c) x H else none := rfl
section
variable {α : Type}
def DH (enc : α → List Value) (G : Heap) (B : Nat) (d : Array α) : Heap := G.set B (.cells false (d.toList.flatMap enc))
variable [Inhabited α] {enc : α → List Value} {G X : Heap} {B e i : Nat} {d : Array α} {p : Option Addr} {lim : Nat}
omit [Inhabited α] in
theorem DH_len : (DH enc G B d).length = G.length := by simp [DH]
omit [Inhabited α] in
theorem DH_get (hB : B < G.length) : hget (DH enc G B d ++ X) B = .cells false (d.toList.flatMap enc) := by
  rw [hget_old (by rw [DH_len]; exact hB)]
  exact hget_set_eq hB
omit [Inhabited α] in
theorem DH_sl (hp : p = some ⟨B, 0, none⟩) (hB : B < G.length) (he : ∀ x, (enc x).length = e) : Sl (DH enc G B d ++ X) enc e p d.toList := by
  subst hp
  refine Sl.lit he ?_ ?_
  · rw [DH_get hB]; rfl
  · rw [DH_get hB]; rfl
theorem gt_arr {α : Type} [Inhabited α] (d : Array α) (i : Nat) : gt d.toList i = d[i]! := by
  unfold gt
  rw [List.getD_eq_getElem?_getD, Array.getElem?_toList, getElem!_def]
  cases d[i]? <;> rfl
theorem DH_ld (hp : p = some ⟨B, 0, none⟩) (hB : B < G.length) (he : ∀ x, (enc x).length = e) (hi : i < d.size) : AM.loadCells (DH enc G B d ++ X) (elt p e i) e = some (enc d[i]!) := by
  rw [(DH_sl hp hB he).loadCells he (by simpa using hi), gt_arr]
omit [Inhabited α] in
theorem flat_set (he : ∀ x, (enc x).length = e) (y : α) : ∀ (l : List α) (i : Nat), i < l.length → setAll (l.flatMap enc) (i * e) (enc y) = (l.set i y).flatMap enc := by
  have key : ∀ (vs a b c : List Value) , vs.length = b.length → setAll (a ++ b ++ c) a.length vs = a ++ vs ++ c := by
    intro vs
    induction vs with
    | nil => intro a b c h; simp at h; have : b = [] := List.length_eq_zero_iff.1 h.symm; subst this; rfl
    | cons v vs ih =>
      intro a b c h
      match b, h with
      | x :: b, h =>
        rw [setAll_cons]
        have e1 : (a ++ x :: b ++ c).set a.length v = (a ++ [v]) ++ b ++ c := by simp
        rw [e1]
        have := ih (a ++ [v]) b c (by simpa using h)
        rw [List.length_append] at this
        simp only [List.length_cons, List.length_nil, Nat.zero_add] at this
        rw [this]; simp
  intro l i hi
  have e1 : l.flatMap enc = (l.take i).flatMap enc ++ enc l[i] ++ (l.drop (i + 1)).flatMap enc := by
    have e0 : l = l.take i ++ l[i] :: l.drop (i + 1) := by rw [← List.drop_eq_getElem_cons hi, List.take_append_drop]
    have := congrArg (List.flatMap enc) e0
    rw [List.flatMap_append, List.flatMap_cons] at this
    rw [this, List.append_assoc]
  have e2 : (l.set i y).flatMap enc = (l.take i).flatMap enc ++ enc y ++ (l.drop (i + 1)).flatMap enc := by
    rw [List.set_eq_take_append_cons_drop, if_pos hi]; simp
  have e3 : i * e = ((l.take i).flatMap enc).length := by rw [flat_len he, List.length_take, Nat.min_eq_left (by omega)]
  rw [e1, e2, e3]
  exact key _ _ _ _ (by rw [he, he])
omit [Inhabited α] in
theorem DH_st (hp : p = some ⟨B, 0, none⟩) (hB : B < G.length) (hl : lim ≤ B) (he : ∀ x, (enc x).length = e) (hi : i < d.size) {y : α} : AM.storeAt lim (DH enc G B d ++ X) (elt p e i) (enc y) = some (DH enc G B (d.setIfInBounds i y) ++ X) := by
  subst hp
  have h1 : i * e + e ≤ d.size * e := by
    have := Nat.mul_le_mul_right e (Nat.succ_le_of_lt hi)
    rw [Nat.succ_mul] at this; exact this
  simp only [elt, addrOf, Option.getD_some, addr_add, storeAt_lit, DH_get hB, Nat.zero_add]
  rw [if_pos ⟨hl, by rw [he, flat_len he]; simpa using h1⟩, flat_set he y _ _ (by simpa using hi)]
  congr 1
  rw [List.set_append_left _ _ (by rw [DH_len]; exact hB)]
  simp only [DH, List.set_set]
  congr 3
  simp
omit [Inhabited α] in
theorem DH_idx {n c : Nat} {k : IntKind} {H : Heap} (hp : p = some ⟨B, 0, none⟩) (hi : i < n) : idxK e (.slice p n c) (.int k (i : Int)) H = some (.pointer (some (elt p e i)), H) := by
  subst hp
  exact idxK_nat hi
end
end Go.AM

set_option linter.unusedVariables false
set_option linter.unusedSimpArgs false
set_option linter.defProp false
namespace Go.AM
set_option maxRecDepth 100000
def SB := And.intro @Ret_seq (And.intro @wantK_tt (And.intro @wantK_ff (And.intro @wantK_tf (And.intro @wantK_ft (And.intro @condK_tt (And.intro @condK_ff (And.intro @int_beq (And.intro @int_bne (And.intro @not_dec (And.intro @fillParts_cons (And.intro @fillParts_nil (And.intro @fillK_some (And.intro @fillV_int (And.intro @fillV_bool (And.intro @fillV_agg (And.intro @setAll_nil (And.intro @setAll_cons (And.intro @Ret_cops (And.intro @Ret_exit_code (And.intro @Ret_exit_loop (And.intro @Ret_exit_other (And.intro @Ret_exit_here (And.intro @Ret_skip (And.intro @Ret_block (And.intro @Ret_inBlock (And.intro @Ret_cond (And.intro @Ret_is (And.intro @Ret_in (And.intro @false_and (And.intro @and_false (And.intro @Ret_ops_nil (And.intro @Ret_ret (And.intro @decide_true (And.intro @gK_none (And.intro @gK_some (And.intro @on_mov (And.intro @on_pick (And.intro @on_bin (And.intro @on_eqv (And.intro @on_un (And.intro @on_conv (And.intro @on_alloc (And.intro @on_box (And.intro @on_build (And.intro @on_buildSlice (And.intro @on_load1 (And.intro @on_loadN (And.intro @on_store (And.intro @on_nilCheck (And.intro @on_fieldAddr (And.intro @on_field1 (And.intro @on_fieldN (And.intro @on_idxAddrA (And.intro @on_idxAddrS (And.intro @on_idxA (And.intro @on_idxStr (And.intro @on_sliceS (And.intro @on_sliceStr (And.intro @on_lenStr (And.intro @on_lenSlice (And.intro @on_lenMap (And.intro @on_lenK (And.intro @on_append (And.intro @on_append0 (And.intro @on_minmax (And.intro @on_makeSlice (And.intro @on_makeMap (And.intro @on_lookup (And.intro @on_mapUpdate (And.intro @on_delete (And.intro @on_clear (And.intro @on_makeFunc (And.intro @on_extract (And.intro @on_strId (And.intro @on_rowMark (And.intro @ob_mov (And.intro @ob_pick (And.intro @ob_bin (And.intro @ob_eqv (And.intro @ob_un (And.intro @ob_conv (And.intro @ob_alloc (And.intro @ob_box (And.intro @ob_build (And.intro @ob_buildSlice (And.intro @ob_load1 (And.intro @ob_loadN (And.intro @ob_store (And.intro @ob_nilCheck (And.intro @ob_fieldAddr (And.intro @ob_field1 (And.intro @ob_fieldN (And.intro @ob_idxAddrA (And.intro @ob_idxAddrS (And.intro @ob_idxA (And.intro @ob_idxStr (And.intro @ob_sliceS (And.intro @ob_sliceStr (And.intro @ob_lenStr (And.intro @ob_lenSlice (And.intro @ob_lenMap (And.intro @ob_lenK (And.intro @ob_append (And.intro @ob_append0 (And.intro @ob_minmax (And.intro @ob_makeSlice (And.intro @ob_makeMap (And.intro @ob_lookup (And.intro @ob_mapUpdate (And.intro @ob_delete (And.intro @ob_clear (And.intro @ob_makeFunc (And.intro @ob_extract (And.intro @ob_strId (And.intro @ob_rowMark (And.intro @oK_call (And.intro @oK_callB (And.intro @oK_mapsB (And.intro @oK_range (And.intro @oK_next (And.intro @oK_entry (And.intro @on_capSlice (And.intro @ob_capSlice (And.intro @on_growNil (And.intro @ob_growNil (And.intro @calK_some (And.intro @pure_any (And.intro @pure_pure (And.intro @pure_mk (And.intro @lim_any (And.intro @lim_pure (And.intro @lim_mk (And.intro @CallT_inl (And.intro @CallT_inr (And.intro @Ret_retM (And.intro @marks_nil (And.intro @marks_code (And.intro @marks_loop (And.intro @marks_block (And.intro @marks_mark (And.intro @shut_nil (And.intro @shut_cons (And.intro @shutK_some (And.intro @Ret_round (And.intro @Ret_begin (And.intro @begK_loop (And.intro @endB_on (And.intro @endB_off (And.intro @Ret_retR_code (And.intro @Ret_retR_loop (And.intro @Ret_retR_block (And.intro @Ret_retR_round (And.intro @Ret_exitR_code (And.intro @Ret_exitR_loop (And.intro @Ret_exitR_other (And.intro @Ret_exitR_here (And.intro @Ret_exitR_round (And.intro @calL_some (And.intro @endK_0 (And.intro @endK_2 (And.intro @pendI_none (And.intro @pendI_some (And.intro @Ret_rangeF (And.intro @List.map_cons.{0,0} (And.intro @List.map_nil.{0,0} (And.intro @Option.map_none.{0,0} (And.intro @mask_nil (And.intro @mask_cons (And.intro @unmask_cons (And.intro @pad_one (And.intro @pad_zero (And.intro @pad_two (And.intro @pad_three (And.intro @Ret_drawn (And.intro @Nat.add_assoc (And.intro @unmask_nil (And.intro @unmask_mask (And.intro @ev_tmp (And.intro @ev_const (And.intro @ev_func (And.intro @upd_same (And.intro @upd_ne (And.intro @not_false_eq_true (And.intro @opK_some (And.intro @Option.map_some.{0,0} (And.intro @List.getD_cons_zero.{0} (And.intro @List.getD_cons_succ.{0} (And.intro @decide_false (And.intro @Bool.false_eq_true (And.intro @not_true_eq_false (And.intro @and_true (And.intro @true_and (And.intro @hget_new (And.intro @hget_new0 (And.intro @hget_old (And.intro @set_new (And.intro @set_new0 (And.intro @List.set_cons_zero.{0} (And.intro @List.set_cons_succ.{0} (And.intro @List.append_assoc.{0} (And.intro @List.cons_append.{0} (And.intro @List.nil_append.{0} (And.intro @storeAt_lit (And.intro @loadCell_lit (And.intro @loadCells_lit (And.intro @idxK_nat (And.intro @List.length_cons.{0} (And.intro @List.length_nil.{0} (And.intro @addr_add (And.intro @List.drop_zero.{0} (And.intro @List.drop_succ_cons.{0} (And.intro @List.take_succ_cons.{0} (And.intro @List.take_zero.{0} (And.intro @Nat.le_refl (And.intro @Nat.le_add_right (And.intro @Nat.zero_add (And.intro @Nat.add_zero (And.intro @result_fin (And.intro @resAll_nil (And.intro @resAll_cons (And.intro @consK_some (And.intro @finK_one (And.intro @finK_more (And.intro @finK_nil (And.intro @cells_agg (And.intro @cells_int (And.intro @cells_bool (And.intro @arr_list (And.intro @arr_size (And.intro @Option.some.injEq.{0} (And.intro @Prod.mk.injEq.{0,0} (And.intro @List.length_append.{0} (And.intro @List.getElem?_cons_zero.{0} (And.intro @List.getElem?_cons_succ.{0} (And.intro @Nat.lt_irrefl (And.intro @and_self (And.intro @int_lt_cast (And.intro @int_le_cast (And.intro @wantK_not (And.intro @condK_not (And.intro @Bool.not_true (And.intro @Bool.not_false (And.intro @Nat.le_add_right_of_le (And.intro @int_zero_lt (And.intro @wantK_undef (And.intro @keyOk_int (And.intro @keyOk_str (And.intro @findKey_nil (And.intro @findKey_int (And.intro @mapEntries_some (And.intro @mapEntries_none (And.intro @Int.cast_ofNat_Int (And.intro @idxK_zero (And.intro @Ret_nil (And.intro @cells_slice (And.intro @cells_ptr (And.intro @cells_str (And.intro @cells_map (And.intro @cells_func (And.intro @arr1 (And.intro @size1 (And.intro @fillV_slice (And.intro @fillV_ptr (And.intro @fillV_str (And.intro @fillV_map (And.intro @nat_not_neg (And.intro @setAll_full (And.intro @Option.isNone_none.{0} (And.intro @Option.isNone_some.{0} (And.intro @Int.toNat_natCast (And.intro @take_all (And.intro @setAll_skip (And.intro @pad_4 (And.intro @pad_5 (And.intro @pad_6 (And.intro @pad_7 (And.intro @pad_8 (And.intro @pad_9 (And.intro @pad_10 (And.intro @pad_11 (And.intro @pad_12 (And.intro @bytesOf_cons (And.intro @bytesOf_nil (And.intro @int_eq_cast (And.intro @on_b2sV (And.intro @ob_b2sV (And.intro @b2sV_some (And.intro @aSliceS_V (And.intro @on_copyV (And.intro @ob_copyV (And.intro @on_sliceAV (And.intro @ob_sliceAV (And.intro @on_appendLV (And.intro @ob_appendLV (And.intro @appendLV_none (@appendLV_some))))))))))))))))))))))))))))))))))))))))))))))))))))))))))))))))))))))))))))))))))))))))))))))))))))))))))))))))))))))))))))))))))))))))))))))))))))))))))))))))))))))))))))))))))))))))))))))))))))))))))))))))))))))))))))))))))))))))))))))))))))))))))))))))))))))))))))))))))))))))))))))))))))))))
theorem frame0_at {args : List Value} {t : Nat} : frame0 args t = args.getD t undef := id rfl
def FB := And.intro @upd_same (And.intro @upd_ne (And.intro @ne_eq.{1} (And.intro @not_false_eq_true (And.intro @frame0_at (And.intro @List.getD_cons_zero.{0} @List.getD_cons_succ.{0})))))
end Go.AM

set_option linter.unusedVariables false
set_option linter.unusedSimpArgs false
namespace Go.AM
section
variable {G G' K : Heap} {R : Nat} {b : Blk}
structure Mut (G G' : Heap) (R : Nat) : Prop where
  len : G'.length = G.length
  other : ∀ j, j ≠ R → hget G' j = hget G j
theorem Mut.ext {H : Heap} (h : Mut G G' R) (hE : Ext H G) (hR : H.length ≤ R) : Ext H G' := by
  obtain ⟨Y, rfl⟩ := hE
  refine ⟨G'.drop H.length, ?_⟩
  apply List.ext_getElem
  · have := h.len; simp at this ⊢; omega
  intro i h1 h2
  have hl := h.len
  simp at hl
  by_cases hi : i < H.length
  · rw [List.getElem_append_left hi]
    have := h.other i (by omega)
    unfold hget at this
    rw [List.getD_eq_getElem?_getD, List.getD_eq_getElem?_getD, List.getElem?_eq_getElem h1, List.getElem?_eq_getElem (by simp; omega)] at this
    simp only [Option.getD_some] at this
    rw [this, List.getElem_append_left hi]
  · rw [List.getElem_append_right (by omega), List.getElem_drop]
    congr 1
    omega
theorem Mut.cells (h : Mut G G' R) {j : Nat} {ro : Bool} {c : List Value} (hj : hget G j = .cells ro c) (hne : j ≠ R) : hget G' j = .cells ro c := by rw [h.other j hne]; exact hj
theorem Mut.alive (h : Mut G G' R) {j : Nat} {B : Blk} (hj : hget G j = B) (hne : j ≠ R) : hget G' j = B := by rw [h.other j hne]; exact hj
theorem Mut.sl {α : Type} {enc : α → List Value} {e : Nat} {p : Option Addr} {l : List α} (h : Mut G G' R) (hs : Sl G enc e p l) (hp : ∀ a, p = some a → l ≠ [] → a.block ≠ R) : Sl G' enc e p l := by
  cases p with
  | none => exact hs
  | some a =>
    refine ⟨hs.1, fun hn => ?_⟩
    obtain ⟨ro, c, h2, h3⟩ := hs.2 hn
    exact ⟨ro, c, h.cells h2 (hp a rfl hn), h3⟩
theorem mut_set (hR : R < G.length) (b : Blk) : ∃ G', (∀ X : Heap, (G ++ X).set R b = G' ++ X) ∧ hget G' R = b ∧ Mut G G' R :=
  ⟨G.set R b, fun X => List.set_append_left _ _ hR, hget_set_eq hR, by simp, fun j hj => hget_set_ne hj⟩
end
def Own {α : Type} (lim : Nat) (G : Heap) (enc : α → List Value) (e : Nat) (p : Option Addr) (cap : Nat) (l : List α) : Prop :=
  (l = [] ∧ p = none ∧ cap = 0) ∨ ∃ R, p = some ⟨R, 0, none⟩ ∧ cap = loose e ∧ hget G R = .cells false (l.flatMap enc) ∧ lim ≤ R
section
variable {α : Type} {lim e bytes cap : Nat} {G : Heap} {enc : α → List Value} {p : Option Addr} {l m : List α}
theorem Own.nil : Own lim G enc e none 0 [] := .inl ⟨rfl, rfl, rfl⟩
theorem Own.app (h : Own lim G enc e p cap l) (X : Heap) : Own lim (G ++ X) enc e p cap l := by
  rcases h with h | ⟨R, h1, h2, h3, h4⟩
  · exact .inl h
  · exact .inr ⟨R, h1, h2, by rw [hget_old (hget_alive h3)]; exact h3, h4⟩
theorem Own.mut {G' : Heap} {R : Nat} (h : Own lim G enc e p cap l) (hm : Mut G G' R) (hp : ∀ a, p = some a → a.block ≠ R) : Own lim G' enc e p cap l := by
  rcases h with h | ⟨R', h1, h2, h3, h4⟩
  · exact .inl h
  · exact .inr ⟨R', h1, h2, hm.cells h3 (hp _ h1), h4⟩
theorem Own.new {R : Nat} (hR : hget G R = .cells false (l.flatMap enc)) (hl : lim ≤ R) : Own lim G enc e (some ⟨R, 0, none⟩) (loose e) l := .inr ⟨R, rfl, rfl, hR, hl⟩
theorem Own.sl (h : Own lim G enc e p cap l) (he : ∀ x, (enc x).length = e) : Sl G enc e p l := by
  rcases h with ⟨h1, h2, _⟩ | ⟨R, h1, h2, h3, h4⟩
  · subst h1 h2; rfl
  · subst h1; exact Sl.lit he (by rw [h3]; rfl) (by rw [h3]; rfl)
theorem Own.le (h : Own lim G enc e p cap l) {lim' : Nat} (hl : lim' ≤ lim) : Own lim' G enc e p cap l := by
  rcases h with h | ⟨R, h1, h2, h3, h4⟩
  · exact .inl h
  · exact .inr ⟨R, h1, h2, h3, by omega⟩
theorem Own.block (h : Own lim G enc e p cap l) {a : Addr} (ha : p = some a) : lim ≤ a.block ∧ a.block < G.length := by
  rcases h with ⟨h1, h2, h3⟩ | ⟨R, h1, h2, h3, h4⟩
  · rw [h2] at ha; cases ha
  · rw [h1] at ha; cases ha; exact ⟨h4, hget_alive h3⟩
theorem Sl.cells (hs : Sl G enc e p m) (hm : m ≠ []) : ∃ a, p = some a ∧ AM.loadCells G a (m.length * e) = some (m.flatMap enc) := by
  cases p with
  | none => exact absurd hs hm
  | some a =>
    obtain ⟨k1, k2⟩ := hs
    obtain ⟨ro, cs, k3, k4, k5⟩ := k2 hm
    refine ⟨a, rfl, ?_⟩
    obtain ⟨ab, ao, as'⟩ := a
    simp only [loadCells_lit]
    simp only at k3 k4 k5
    simp only [k3]
    rw [if_pos k4, k5]
theorem Own.push {lim' : Nat} (h : Own lim G enc e p cap l) (hll : lim' ≤ lim) (he : ∀ x, (enc x).length = e) (he0 : e ≠ 0) (m : List α) (hm : m ≠ []) (hb : (l.length + m.length) * bytes ≤ maxBytes) (hn : l.length + m.length < 2 ^ 61) :
    ∃ (G' : Heap) (R : Nat), (p = none → R = G.length) ∧ (∀ a, p = some a → R = a.block) ∧ Mut G G' R ∧ (∀ j, j ≠ R → hget G' j = hget G j) ∧ (∀ H0 : Heap, Ext H0 G → H0.length ≤ lim → Ext H0 G') ∧
      (∀ (X : Heap) (px : Option Addr) (k : Nat), Sl (G ++ X) enc e px m → aAppend lim' none e bytes false (.slice p l.length cap) (.slice px m.length k) (G ++ X) = some (.slice (some ⟨G.length + X.length, 0, none⟩) (l.length + m.length) (loose e), G' ++ (X ++ [.cells false ((l ++ m).flatMap enc)]))) := by
  have hm0 : ¬ m.length = 0 := by intro q; exact hm (List.length_eq_zero_iff.1 q)
  rcases h with ⟨h1, h2, h3⟩ | ⟨R, h1, h2, h3, h4⟩
  · subst h1 h2 h3
    refine ⟨G, G.length, fun _ => rfl, fun a h => (by cases h), ⟨rfl, fun j _ => rfl⟩, fun j _ => rfl, fun H0 h _ => h, fun X px k hx => ?_⟩
    obtain ⟨a, rfl, hl⟩ := hx.cells hm
    simp only [List.length_nil, Nat.zero_add] at hb hn
    simp only [aAppend, firstCells, lenOf, hl, hm0, if_false, Bool.false_eq_true, List.length_nil, Nat.zero_add]
    rw [if_neg (by omega)]
    simp [place]
  · subst h1 h2
    have hRl := hget_alive h3
    refine ⟨G.set R .dead, R, fun h => (by cases h), fun a h => (by cases h; rfl), ⟨by simp, fun j hj => hget_set_ne hj⟩, fun j hj => hget_set_ne hj, fun H0 h hl => Mut.ext (R := R) ⟨by simp, fun j hj => hget_set_ne hj⟩ h (by omega), fun X px k hx => ?_⟩
    obtain ⟨a, rfl, hl⟩ := hx.cells hm
    have hR' : hget (G ++ X) R = .cells false (l.flatMap enc) := by rw [hget_old hRl]; exact h3
    have hold : AM.loadCells (G ++ X) ⟨R, 0, none⟩ (l.length * e) = some (l.flatMap enc) := by
      simp only [loadCells_lit, hR', Nat.zero_add, flat_len he, Nat.le_refl, if_true, List.drop_zero]
      rw [List.take_of_length_le (by rw [flat_len he]; exact Nat.le_refl _)]
    simp only [aAppend, firstCells, lenOf, hl, hold, hR', hm0, if_false, Bool.false_eq_true, if_true]
    rw [if_neg (by unfold loose; omega)]
    simp [show lim' ≤ R by omega, place, List.set_append_left _ _ hRl, List.append_assoc]
theorem Own.push1 {lim' : Nat} (h : Own lim G enc e p cap l) (hll : lim' ≤ lim) (he : ∀ x, (enc x).length = e) (he0 : e ≠ 0) (x : α) (hb : (l.length + 1) * bytes ≤ maxBytes) (hn : l.length + 1 < 2 ^ 61) :
    ∃ (G' : Heap) (R : Nat), (p = none → R = G.length) ∧ (∀ a, p = some a → R = a.block) ∧ Mut G G' R ∧ (∀ H0 : Heap, Ext H0 G → H0.length ≤ lim → Ext H0 G') ∧
      (∀ (X : Heap) (b k : Nat), hget (G ++ X) b = .cells false (enc x) → aAppend lim' none e bytes false (.slice p l.length cap) (.slice (some ⟨b, 0, none⟩) 1 k) (G ++ X) = some (.slice (some ⟨G.length + X.length, 0, none⟩) (l.length + 1) (loose e), G' ++ (X ++ [.cells false ((l ++ [x]).flatMap enc)]))) := by
  obtain ⟨G', R, h1, h2, h3, _, h4, h5⟩ := h.push hll he he0 [x] (by simp) (by simpa using hb) (by simpa using hn)
  refine ⟨G', R, h1, h2, h3, h4, fun X b k hx => ?_⟩
  exact h5 X (some ⟨b, 0, none⟩) k (Sl.lit he (by rw [hx]; rfl) (by rw [hx]; simp [cellsOf]))
def boundsV (len cap : Nat) (lo hi mx : Option Value) : Option (Nat × Nat × Nat) := bounds (fun o => match o with | .const v => v | _ => undef) len cap (lo.map .const) (hi.map .const) (mx.map .const)
theorem bounds_V {ρ : Operand → Value} {len cap : Nat} {lo hi mx : Option Operand} : bounds ρ len cap lo hi mx = boundsV len cap (lo.map ρ) (hi.map ρ) (mx.map ρ) := by
  unfold boundsV
  cases lo <;> cases hi <;> cases mx <;> rfl
theorem bound_int {n : Int} {m : Nat} {kk : IntKind} (h0 : 0 ≤ n) (h : n ≤ (m : Int)) : bound (.int kk n) m = some n.toNat := by
  simp only [bound]; rw [if_pos ⟨h0, h⟩]
section
variable {len : Nat} {k1 k2 k3 : IntKind} {l h x : Int}
theorem bv_010 (h0 : 0 ≤ h) (h1 : h ≤ (cap : Int)) : boundsV len cap none (some (.int k1 h)) none = some (0, h.toNat, cap) := by
  delta boundsV bounds; simp only [Option.map_some, Option.map_none, bound_int h0 h1]
theorem bv_100 (l0 : 0 ≤ l) (l1 : l ≤ (len : Int)) : boundsV len cap (some (.int k1 l)) none none = some (l.toNat, len, cap) := by
  delta boundsV bounds; simp only [Option.map_some, Option.map_none, bound_int l0 l1]
end
end
def hdC : ACode → ACode
  | .seq a _ => a
  | c => c
def tlC : ACode → ACode
  | .seq _ b => b
  | _ => .skip
end Go.AM

namespace Go.Scan
set_option maxRecDepth 100000
set_option linter.unusedVariables false
set_option linter.unusedSimpArgs false
structure Ev where
  (item place scanner kind at' seen time : Int)
  deriving DecidableEq, Inhabited
structure Mk where
  (scanner at' off : Int)
  deriving DecidableEq, Inhabited
def maxT : Int := 1051898399
def FineE (e : Ev) : Prop := (1 ≤ e.item ∧ e.item ≤ 999999) ∧ (1 ≤ e.place ∧ e.place ≤ 999999) ∧ (1 ≤ e.scanner ∧ e.scanner ≤ 999999) ∧ (1 ≤ e.kind ∧ e.kind ≤ 4) ∧ (0 ≤ e.at' ∧ e.at' ≤ maxT) ∧ (0 ≤ e.seen ∧ e.seen ≤ maxT)
instance (e : Ev) : Decidable (FineE e) := by unfold FineE; infer_instance
def RightL (S : List Ev) : Prop := S.length ≤ 2000 ∧ ∀ s ∈ S, FineE s
instance (S : List Ev) : Decidable (RightL S) := by unfold RightL; infer_instance
def lexC : List Int → List Int → Int
  | a :: x, b :: y => if a < b then -1 else if b < a then 1 else lexC x y
  | _, _ => 0
theorem lexC_self : ∀ x, lexC x x = 0
  | [] => rfl
  | a :: x => by unfold lexC; rw [if_neg (by omega), if_neg (by omega)]; exact lexC_self x
theorem lexC_val : ∀ x y, lexC x y = -1 ∨ lexC x y = 0 ∨ lexC x y = 1
  | [], _ => by unfold lexC; simp
  | _ :: _, [] => by unfold lexC; simp
  | a :: x, b :: y => by
    unfold lexC
    split
    · simp
    split
    · simp
    exact lexC_val x y
theorem lexC_neg : ∀ x y, lexC y x = - lexC x y
  | [], y => by cases y <;> rfl
  | a :: x, [] => rfl
  | a :: x, b :: y => by
    have h := lexC_neg x y
    unfold lexC
    by_cases h1 : a < b
    · rw [if_neg (by omega), if_pos h1, if_pos h1]; rfl
    · by_cases h2 : b < a
      · rw [if_pos h2, if_neg h1, if_pos h2]
      · rw [if_neg h2, if_neg h1, if_neg h1, if_neg h2]; exact h
theorem lexC_eq : ∀ x y, x.length = y.length → lexC x y = 0 → x = y
  | [], [], _, _ => rfl
  | [], b :: y, h, _ => by simp at h
  | a :: x, [], h, _ => by simp at h
  | a :: x, b :: y, hl, h => by
    unfold lexC at h
    by_cases h1 : a < b
    · rw [if_pos h1] at h; omega
    rw [if_neg h1] at h
    by_cases h2 : b < a
    · rw [if_pos h2] at h; omega
    rw [if_neg h2] at h
    rw [lexC_eq x y (by simpa using hl) h, show a = b by omega]
theorem lexC_trans : ∀ x y z, x.length = y.length → y.length = z.length → lexC x y ≤ 0 → lexC y z ≤ 0 → lexC x z ≤ 0
  | [], _, _, _, _, _, _ => by unfold lexC; simp
  | a :: x, [], _, h, _, _, _ => by simp at h
  | a :: x, b :: y, [], _, h, _, _ => by simp at h
  | a :: x, b :: y, c :: z, h1, h2, h3, h4 => by
    unfold lexC at h3 h4 ⊢
    by_cases q1 : a < c
    · rw [if_pos q1]; omega
    rw [if_neg q1]
    by_cases q2 : a < b
    · rw [if_neg (show ¬ b < c by omega), if_pos (show c < b by omega)] at h4; omega
    rw [if_neg q2] at h3
    by_cases q3 : b < a
    · rw [if_pos q3] at h3; omega
    rw [if_neg q3] at h3
    rw [if_neg (show ¬ b < c by omega)] at h4
    by_cases q4 : c < b
    · rw [if_pos q4] at h4; omega
    rw [if_neg q4] at h4
    rw [if_neg (show ¬ c < a by omega)]
    exact lexC_trans x y z (by simpa using h1) (by simpa using h2) h3 h4
section
variable {α : Type}
def insB (k : α → List Int) (x : α) : List α → List α
  | [] => [x]
  | y :: l => if lexC (k y) (k x) < 0 then y :: insB k x l else x :: y :: l
def sortB (k : α → List Int) : List α → List α
  | [] => []
  | x :: l => insB k x (sortB k l)
theorem insB_perm (k : α → List Int) (x : α) : ∀ l, (insB k x l).Perm (x :: l)
  | [] => .refl _
  | y :: l => by
    unfold insB
    split
    · exact ((insB_perm k x l).cons y).trans (.swap x y l)
    · exact .refl _
theorem sortB_perm (k : α → List Int) : ∀ l, (sortB k l).Perm l
  | [] => .refl _
  | x :: l => (insB_perm k x _).trans ((sortB_perm k l).cons x)
def Ordered (k : α → List Int) (l : List α) : Prop := l.Pairwise fun a b => lexC (k a) (k b) ≤ 0
theorem insB_sorted {k : α → List Int} {n : Nat} (hn : ∀ x, (k x).length = n) (x : α) : ∀ l, Ordered k l → Ordered k (insB k x l)
  | [], _ => by unfold insB; exact List.pairwise_singleton _ _
  | y :: l, h => by
    obtain ⟨h1, h2⟩ := List.pairwise_cons.mp h
    unfold insB
    split
    · rename_i hc
      refine List.pairwise_cons.mpr ⟨fun b hb => ?_, insB_sorted hn x l h2⟩
      rcases List.mem_cons.mp ((insB_perm k x l).mem_iff.mp hb) with rfl | hb
      · omega
      · exact h1 b hb
    · rename_i hc
      have hxy : lexC (k x) (k y) ≤ 0 := by rw [lexC_neg (k y) (k x)]; omega
      refine List.pairwise_cons.mpr ⟨fun b hb => ?_, h⟩
      rcases List.mem_cons.mp hb with rfl | hb
      · exact hxy
      · exact lexC_trans _ (k y) _ (by rw [hn, hn]) (by rw [hn, hn]) hxy (h1 b hb)
theorem sortB_sorted {k : α → List Int} {n : Nat} (hn : ∀ x, (k x).length = n) : ∀ l, Ordered k (sortB k l)
  | [] => List.Pairwise.nil
  | x :: l => insB_sorted hn x _ (sortB_sorted hn l)
theorem ordered_uniq {k : α → List Int} {n : Nat} (hn : ∀ x, (k x).length = n) (hi : ∀ x y, k x = k y → x = y) {l l' : List α} (h : Ordered k l) (h' : Ordered k l') (hp : l.Perm l') : l = l' :=
  List.Perm.eq_of_pairwise (le := fun a b => lexC (k a) (k b) ≤ 0) (fun a b _ _ h1 h2 => hi a b (lexC_eq _ _ (by rw [hn, hn]) (by rw [lexC_neg (k a) (k b)] at h2; omega))) h h' hp
theorem sortB_uniq {k : α → List Int} {n : Nat} (hn : ∀ x, (k x).length = n) (hi : ∀ x y, k x = k y → x = y) {l l' : List α} (h : Ordered k l') (hp : l'.Perm l) : l' = sortB k l :=
  ordered_uniq hn hi h (sortB_sorted hn l) (hp.trans (sortB_perm k l).symm)
theorem sortB_congr {k : α → List Int} {n : Nat} (hn : ∀ x, (k x).length = n) (hi : ∀ x y, k x = k y → x = y) {l l' : List α} (hp : l'.Perm l) : sortB k l' = sortB k l :=
  sortB_uniq hn hi (sortB_sorted hn l') ((sortB_perm k l').trans hp)
end
def keyM (s : Ev) : Int × Int := (s.scanner, s.seen / 1440)
def mkM (s : Ev) : Mk := ⟨s.scanner, s.at', s.seen - s.at'⟩
def better (m old : Mk) : Prop := m.off < old.off ∨ m.off = old.off ∧ m.at' < old.at'
instance (m old : Mk) : Decidable (better m old) := by unfold better; infer_instance
def putM (k : Int × Int) (m : Mk) : List ((Int × Int) × Mk) → List ((Int × Int) × Mk)
  | [] => [(k, m)]
  | (k', old) :: l => if k' = k then (k', m) :: l else (k', old) :: putM k m l
def getM (k : Int × Int) : List ((Int × Int) × Mk) → Option Mk
  | [] => none
  | (k', old) :: l => if k' = k then some old else getM k l
def leastAdd (l : List ((Int × Int) × Mk)) (s : Ev) : List ((Int × Int) × Mk) :=
  match getM (keyM s) l with
  | none => putM (keyM s) (mkM s) l
  | some old => if better (mkM s) old then putM (keyM s) (mkM s) l else l
def leastN (S : List Ev) : List ((Int × Int) × Mk) := S.foldl leastAdd []
def keysM (m : Mk) : List Int := [m.scanner, m.at', m.off]
theorem keysM_len (m : Mk) : (keysM m).length = 3 := id rfl
theorem keysM_inj (m n : Mk) (h : keysM m = keysM n) : m = n := by
  obtain ⟨a, b, c⟩ := m; obtain ⟨d, e, f⟩ := n
  simp only [keysM, List.cons.injEq] at h
  obtain ⟨rfl, rfl, rfl, _⟩ := h
  rfl
def sameM (m p : Mk) : Prop := m.scanner = p.scanner ∧ m.at' = p.at'
instance (m p : Mk) : Decidable (sameM m p) := by unfold sameM; infer_instance
def cptGo (p : Mk) : List Mk → List Mk
  | [] => []
  | m :: l => if sameM m p then cptGo m l else m :: cptGo m l
def compactN : List Mk → List Mk
  | [] => []
  | m :: l => m :: cptGo m l
def gatherN (S : List Ev) : List Mk := compactN (sortB keysM ((leastN S).map (·.2)))
def fineM (m : Mk) : Prop := 1 ≤ m.scanner ∧ m.scanner ≤ 999999 ∧ 0 ≤ m.at' ∧ m.at' ≤ maxT ∧ -maxT ≤ m.off ∧ m.off ≤ maxT
instance (m : Mk) : Decidable (fineM m) := by unfold fineM; infer_instance
def ltM (a b : Mk) : Prop := a.scanner < b.scanner ∨ a.scanner = b.scanner ∧ a.at' < b.at'
instance (a b : Mk) : Decidable (ltM a b) := by unfold ltM; infer_instance
def MarksOk (l : List Mk) : Prop := (∀ m ∈ l, fineM m) ∧ l.Pairwise ltM
def zeroM : Mk := ⟨0, 0, 0⟩
def offGo (t : Int) : Mk → List Mk → Int
  | last, [] => last.off
  | last, m :: l => if t > m.at' then offGo t m l else if last = zeroM then m.off else last.off + (m.off - last.off) * (t - last.at') / (m.at' - last.at')
def ofN (M : List Mk) (sc : Int) : List Mk := M.filter fun m => m.scanner == sc
def offN (M : List Mk) (sc t : Int) : Int := offGo t zeroM (ofN M sc)
def timeN (M : List Mk) (s : Ev) : Int := min (max (s.at' + offN M s.scanner s.at') 0) s.seen
def keysE (e : Ev) : List Int := [e.time, e.kind, e.place, e.scanner, e.item, e.at', e.seen]
theorem keysE_len (e : Ev) : (keysE e).length = 7 := id rfl
theorem keysE_inj (x y : Ev) (h : keysE x = keysE y) : x = y := by
  obtain ⟨a, b, c, d, e, f, g⟩ := x; obtain ⟨a', b', c', d', e', f', g'⟩ := y
  simp only [keysE, List.cons.injEq] at h
  obtain ⟨rfl, rfl, rfl, rfl, rfl, rfl, rfl, _⟩ := h
  rfl
def eventsN (M : List Mk) (S : List Ev) : List Ev := sortB keysE (S.map fun s => { s with time := timeN M s })
def sight (e : Ev) : Int × Int × Int := (e.item, e.place, e.kind)
def lastK (e : Ev) (kept : List Ev) : Option Ev := kept.find? fun x => sight x == sight e
def twiceB (e : Ev) (kept : List Ev) : Bool := match lastK e kept with
  | none => false
  | some x => decide (e.time - x.time ≤ 10)
def siftGo : List Ev → List Ev → List Ev → List Ev × List Ev
  | kept, twice, [] => (kept.reverse, twice.reverse)
  | kept, twice, e :: l => if twiceB e kept then siftGo kept (e :: twice) l else siftGo (e :: kept) twice l
def siftN (S : List Ev) : List Ev × List Ev := siftGo [] [] (eventsN (gatherN S) S)
def oneS (scanner at' seen : Int) : Ev := ⟨7, 3, scanner, 1, at', seen, 0⟩
theorem ex_1 : gatherN [oneS 1 60 400, oneS 1 50 150, oneS 1 2000 2140] = [⟨1, 50, 100⟩, ⟨1, 2000, 140⟩] := by decide
theorem ex_2 : timeN [⟨1, 50, 100⟩, ⟨1, 2000, 140⟩] (oneS 1 60 400) = 160 := by decide
theorem ex_3 : timeN [⟨1, 50, 100⟩, ⟨1, 2000, 140⟩] (oneS 1 1025 5000) = 1145 := by decide
theorem ex_4 : timeN [⟨1, 50, 100⟩, ⟨1, 2000, 140⟩] (oneS 2 60 400) = 60 := by decide
abbrev Es := List ((Int × Int) × Mk)
theorem getM_mem {k : Int × Int} {m : Mk} : ∀ {l : Es}, getM k l = some m → (k, m) ∈ l
  | [], h => by cases h
  | (k', m') :: l, h => by
    unfold getM at h
    by_cases hk : k' = k
    · rw [if_pos hk] at h; cases h; rw [hk]; exact List.mem_cons_self
    · rw [if_neg hk] at h; exact List.mem_cons_of_mem _ (getM_mem h)
def NodupK (l : Es) : Prop := (l.map (·.1)).Nodup
theorem getM_of {k : Int × Int} {m : Mk} : ∀ {l : Es}, NodupK l → (k, m) ∈ l → getM k l = some m
  | [], _, h => by cases h
  | (k', m') :: l, hn, h => by
    have hn2 := List.nodup_cons.mp hn
    unfold getM
    rcases List.mem_cons.mp h with h | h
    · cases h; rw [if_pos rfl]
    · rw [if_neg fun hk => hn2.1 (by rw [hk]; exact List.mem_map.mpr ⟨_, h, rfl⟩)]
      exact getM_of hn2.2 h
theorem putM_keys {k : Int × Int} {m : Mk} : ∀ {l : Es} {x}, x ∈ (putM k m l).map (·.1) ↔ x = k ∨ x ∈ l.map (·.1)
  | [], x => by simp [putM]
  | (k', m') :: l, x => by
    unfold putM
    by_cases hk : k' = k
    · rw [if_pos hk]; subst hk; simp
    · rw [if_neg hk, List.map_cons, List.mem_cons, putM_keys, List.map_cons, List.mem_cons]
      exact or_left_comm
theorem putM_nodup {k : Int × Int} {m : Mk} : ∀ {l : Es}, NodupK l → NodupK (putM k m l)
  | [], _ => by simp [putM, NodupK]
  | (k', m') :: l, h => by
    have h2 := List.nodup_cons.mp h
    unfold putM
    by_cases hk : k' = k
    · rw [if_pos hk]; exact h
    · rw [if_neg hk]
      refine List.nodup_cons.mpr ⟨fun hc => ?_, putM_nodup h2.2⟩
      rcases putM_keys.mp hc with hc | hc
      · exact hk hc
      · exact h2.1 hc
theorem getM_put {k k' : Int × Int} {m : Mk} : ∀ {l : Es}, getM k' (putM k m l) = if k' = k then some m else getM k' l
  | [] => by
    unfold putM getM
    by_cases h : k' = k
    · rw [if_pos h.symm, if_pos h]
    · rw [if_neg fun q => h q.symm, if_neg h]; rfl
  | (k2, m2) :: l => by
    unfold putM
    by_cases h2 : k2 = k
    · rw [if_pos h2]
      subst h2
      by_cases h : k' = k2
      · rw [if_pos h]; unfold getM; rw [if_pos h.symm]
      · rw [if_neg h]; unfold getM; rw [if_neg fun q => h q.symm, if_neg fun q => h q.symm]
    · rw [if_neg h2]
      by_cases h : k2 = k'
      · have : ¬ k' = k := fun q => h2 (h.trans q)
        rw [if_neg this]; unfold getM; rw [if_pos h, if_pos h]
      · unfold getM; rw [if_neg h, if_neg h]; exact getM_put
structure LeastOf (S : List Ev) (l : Es) : Prop where
  nd : NodupK l
  from' : ∀ k m, getM k l = some m → ∃ s ∈ S, keyM s = k ∧ mkM s = m
  all : ∀ s ∈ S, ∃ m, getM (keyM s) l = some m ∧ ¬ better (mkM s) m
theorem better_trans {a b c : Mk} (h : ¬ better a b) (h2 : better c b) : ¬ better a c := by
  unfold better at *; omega
theorem better_self {a : Mk} : ¬ better a a := by unfold better; omega
theorem LeastOf.add {S : List Ev} {l : Es} (h : LeastOf S l) (s : Ev) : LeastOf (S ++ [s]) (leastAdd l s) := by
  have put : (∀ m, getM (keyM s) l = some m → better (mkM s) m) → LeastOf (S ++ [s]) (putM (keyM s) (mkM s) l) := by
    intro hb
    refine ⟨putM_nodup h.nd, fun k m hk => ?_, fun x hx => ?_⟩
    · rw [getM_put] at hk
      by_cases q : k = keyM s
      · rw [if_pos q] at hk; cases hk; exact ⟨s, by simp, q.symm, rfl⟩
      · rw [if_neg q] at hk
        obtain ⟨y, hy, h1, h2⟩ := h.from' k m hk
        exact ⟨y, List.mem_append_left _ hy, h1, h2⟩
    · rw [getM_put]
      rcases List.mem_append.mp hx with hx | hx
      · obtain ⟨m, h1, h2⟩ := h.all x hx
        by_cases q : keyM x = keyM s
        · rw [if_pos q]
          rw [q] at h1
          exact ⟨_, rfl, better_trans h2 (hb m h1)⟩
        · rw [if_neg q]; exact ⟨m, h1, h2⟩
      · rw [List.mem_singleton] at hx; subst hx
        rw [if_pos rfl]; exact ⟨_, rfl, better_self⟩
  unfold leastAdd
  cases hg : getM (keyM s) l with
  | none => exact put (by rw [hg]; intro m h; cases h)
  | some old =>
    dsimp only
    by_cases hb : better (mkM s) old
    · rw [if_pos hb]; exact put (by rw [hg]; intro m h; cases h; exact hb)
    · rw [if_neg hb]
      refine ⟨h.nd, fun k m hk => ?_, fun x hx => ?_⟩
      · obtain ⟨y, hy, h1, h2⟩ := h.from' k m hk
        exact ⟨y, List.mem_append_left _ hy, h1, h2⟩
      · rcases List.mem_append.mp hx with hx | hx
        · exact h.all x hx
        · rw [List.mem_singleton] at hx; subst hx
          exact ⟨old, hg, hb⟩
theorem least_of : ∀ (T S : List Ev) (l : Es), LeastOf S l → LeastOf (S ++ T) (T.foldl leastAdd l)
  | [], S, l, h => by rw [List.append_nil]; exact h
  | s :: T, S, l, h => by
    have := least_of T (S ++ [s]) _ (h.add s)
    rw [List.append_assoc] at this
    exact this
theorem leastN_of (S : List Ev) : LeastOf S (leastN S) := by
  have := least_of S [] [] ⟨by simp [NodupK], fun k m h => (by cases h), fun s h => (List.not_mem_nil h).elim⟩
  exact this
theorem mk_eq {a b : Mk} (hs : a.scanner = b.scanner) (h1 : ¬ better a b) (h2 : ¬ better b a) : a = b := by
  obtain ⟨a1, a2, a3⟩ := a; obtain ⟨b1, b2, b3⟩ := b
  unfold better at h1 h2
  simp only at hs h1 h2
  have e1 : a2 = b2 := by omega
  have e2 : a3 = b3 := by omega
  rw [hs, e1, e2]
theorem LeastOf.get {S : List Ev} {l : Es} (h : LeastOf S l) {k : Int × Int} {m : Mk} : getM k l = some m ↔ (∃ s ∈ S, keyM s = k ∧ mkM s = m) ∧ ∀ x ∈ S, keyM x = k → ¬ better (mkM x) m := by
  constructor
  · intro hk
    refine ⟨h.from' k m hk, fun x hx hq => ?_⟩
    obtain ⟨m', h1, h2⟩ := h.all x hx
    rw [hq, hk] at h1; cases h1; exact h2
  · rintro ⟨⟨s, hs, rfl, rfl⟩, hb⟩
    obtain ⟨m', h1, h2⟩ := h.all s hs
    obtain ⟨y, hy, hk, rfl⟩ := h.from' _ _ h1
    rw [h1, mk_eq (a := mkM s) (b := mkM y) (congrArg (·.1) hk.symm) h2 (hb y hy hk)]
theorem LeastOf.perm {S S' : List Ev} {l l' : Es} (h : LeastOf S l) (h' : LeastOf S' l') (hm : ∀ s, s ∈ S ↔ s ∈ S') : l.Perm l' := by
  have nd : ∀ {l : Es}, NodupK l → l.Nodup := fun h => (List.pairwise_map.mp h).imp fun {a b} q e => q (congrArg _ e)
  refine (List.perm_ext_iff_of_nodup (nd h.nd) (nd h'.nd)).mpr fun ⟨k, m⟩ => ?_
  have e : ∀ {S : List Ev} {l : Es}, LeastOf S l → ((k, m) ∈ l ↔ getM k l = some m) := fun h => ⟨getM_of h.nd, getM_mem⟩
  rw [e h, e h', h.get, h'.get]
  simp only [hm]
theorem cptGo_sub (p : Mk) : ∀ l, (cptGo p l).Sublist l
  | [] => .refl _
  | m :: l => by
    unfold cptGo
    split
    · exact (cptGo_sub m l).trans (List.sublist_cons_self _ _)
    · exact (cptGo_sub m l).cons_cons m
theorem le_split {a b : Mk} (h : lexC (keysM a) (keysM b) ≤ 0) : ltM a b ∨ sameM b a ∧ a.off ≤ b.off := by
  unfold keysM lexC at h
  by_cases h1 : a.scanner < b.scanner
  · exact .inl (.inl h1)
  rw [if_neg h1] at h
  by_cases h2 : b.scanner < a.scanner
  · rw [if_pos h2] at h; omega
  rw [if_neg h2] at h
  have e1 : a.scanner = b.scanner := by omega
  unfold lexC at h
  by_cases h3 : a.at' < b.at'
  · exact .inl (.inr ⟨e1, h3⟩)
  rw [if_neg h3] at h
  by_cases h4 : b.at' < a.at'
  · rw [if_pos h4] at h; omega
  rw [if_neg h4] at h
  unfold lexC at h
  by_cases h5 : a.off < b.off
  · exact .inr ⟨⟨e1.symm, by omega⟩, by omega⟩
  rw [if_neg h5] at h
  by_cases h6 : b.off < a.off
  · rw [if_pos h6] at h; omega
  exact .inr ⟨⟨e1.symm, by omega⟩, by omega⟩
theorem ltM_trans {a b c : Mk} (h : ltM a b) (h2 : ltM b c) : ltM a c := by unfold ltM at *; omega
theorem ltM_same {a b c : Mk} (h : ltM a b) (h2 : sameM c b) : ltM a c := by unfold ltM sameM at *; omega
theorem cptGo_ok : ∀ (l : List Mk) (p : Mk), Ordered keysM (p :: l) → (cptGo p l).Pairwise ltM ∧ (∀ x ∈ cptGo p l, ltM p x) ∧ ∀ x ∈ l, sameM x p ∧ p.off ≤ x.off ∨ ∃ y ∈ cptGo p l, sameM x y ∧ y.off ≤ x.off
  | [], p, _ => by simp [cptGo]
  | m :: l, p, h => by
    obtain ⟨h1, h2⟩ := List.pairwise_cons.mp h
    obtain ⟨i1, i2, i3⟩ := cptGo_ok l m h2
    have hpm := le_split (h1 m List.mem_cons_self)
    unfold cptGo
    by_cases hs : sameM m p
    · rw [if_pos hs]
      have hq : p.off ≤ m.off := by
        rcases hpm with q | q
        · unfold ltM at q; unfold sameM at hs; omega
        · exact q.2
      refine ⟨i1, fun x hx => ?_, fun x hx => ?_⟩
      · have := i2 x hx; unfold ltM at *; unfold sameM at hs; omega
      · rcases List.mem_cons.mp hx with rfl | hx
        · exact .inl ⟨hs, hq⟩
        · rcases i3 x hx with q | q
          · refine .inl ⟨?_, by omega⟩
            have := q.1; unfold sameM at *; omega
          · exact .inr q
    · rw [if_neg hs]
      have hlt : ltM p m := by
        rcases hpm with q | q
        · exact q
        · exact absurd q.1 hs
      refine ⟨List.pairwise_cons.mpr ⟨i2, i1⟩, fun x hx => ?_, fun x hx => ?_⟩
      · rcases List.mem_cons.mp hx with rfl | hx
        · exact hlt
        · exact ltM_trans hlt (i2 x hx)
      · rcases List.mem_cons.mp hx with rfl | hx
        · exact .inr ⟨x, List.mem_cons_self, ⟨rfl, rfl⟩, Int.le_refl _⟩
        · rcases i3 x hx with q | ⟨y, hy, q⟩
          · exact .inr ⟨m, List.mem_cons_self, q⟩
          · exact .inr ⟨y, List.mem_cons_of_mem _ hy, q⟩
theorem compactN_ok {l : List Mk} (h : Ordered keysM l) : (compactN l).Pairwise ltM ∧ (compactN l).Sublist l ∧ ∀ x ∈ l, ∃ y ∈ compactN l, sameM x y ∧ y.off ≤ x.off := by
  cases l with
  | nil => exact ⟨List.Pairwise.nil, .refl _, fun x h => by cases h⟩
  | cons m l =>
    obtain ⟨i1, i2, i3⟩ := cptGo_ok l m h
    refine ⟨List.pairwise_cons.mpr ⟨i2, i1⟩, (cptGo_sub m l).cons_cons m, fun x hx => ?_⟩
    rcases List.mem_cons.mp hx with rfl | hx
    · exact ⟨x, List.mem_cons_self, ⟨rfl, rfl⟩, Int.le_refl _⟩
    · rcases i3 x hx with q | ⟨y, hy, q⟩
      · exact ⟨m, List.mem_cons_self, q⟩
      · exact ⟨y, List.mem_cons_of_mem _ hy, q⟩
def valsN (S : List Ev) : List Mk := (leastN S).map (·.2)
theorem vals_mem {S : List Ev} {m : Mk} : m ∈ valsN S ↔ ∃ s ∈ S, mkM s = m ∧ ∀ x ∈ S, keyM x = keyM s → ¬ better (mkM x) m := by
  unfold valsN
  rw [List.mem_map]
  constructor
  · rintro ⟨⟨k, m'⟩, h, rfl⟩
    obtain ⟨⟨s, hs, rfl, rfl⟩, hb⟩ := (leastN_of S).get.mp (getM_of (leastN_of S).nd h)
    exact ⟨s, hs, rfl, hb⟩
  · rintro ⟨s, hs, rfl, hb⟩
    exact ⟨(keyM s, mkM s), getM_mem ((leastN_of S).get.mpr ⟨⟨s, hs, rfl, rfl⟩, hb⟩), rfl⟩
theorem vals_len (S : List Ev) : (valsN S).length ≤ S.length := by
  have put : ∀ (k : Int × Int) (m : Mk) (l : Es), (putM k m l).length ≤ l.length + 1 := by
    intro k m l
    induction l with
    | nil => simp [putM]
    | cons a l ih =>
      unfold putM
      split
      · simp
      · simp only [List.length_cons]; omega
  have key : ∀ (T : List Ev) (l : Es), (T.foldl leastAdd l).length ≤ l.length + T.length := by
    intro T
    induction T with
    | nil => intro l; simp
    | cons s T ih =>
      intro l
      have h1 := ih (leastAdd l s)
      have h2 : (leastAdd l s).length ≤ l.length + 1 := by
        unfold leastAdd
        split
        · exact put _ _ _
        split
        · exact put _ _ _
        · omega
      simp only [List.foldl_cons, List.length_cons]; omega
  have := key S []
  unfold valsN leastN
  rw [List.length_map]; simpa using this
theorem gather_sorted (S : List Ev) : Ordered keysM (sortB keysM (valsN S)) := sortB_sorted keysM_len _
theorem gather_lt (S : List Ev) : (gatherN S).Pairwise ltM := (compactN_ok (gather_sorted S)).1
theorem gather_vals {S : List Ev} {m : Mk} (h : m ∈ gatherN S) : m ∈ valsN S := (sortB_perm keysM _).mem_iff.mp ((compactN_ok (gather_sorted S)).2.1.mem h)
theorem gather_fine {S : List Ev} (hS : ∀ s ∈ S, FineE s) {m : Mk} (h : m ∈ gatherN S) : fineM m := by
  obtain ⟨s, hs, rfl, _⟩ := vals_mem.mp (gather_vals h)
  have := hS s hs
  unfold FineE at this; unfold fineM mkM; simp only; omega
theorem gather_ok {S : List Ev} (hS : ∀ s ∈ S, FineE s) : MarksOk (gatherN S) := ⟨fun m h => gather_fine hS h, gather_lt S⟩
theorem gather_len (S : List Ev) : (gatherN S).length ≤ S.length := by
  have h1 := (compactN_ok (gather_sorted S)).2.1.length_le
  rw [(sortB_perm keysM _).length_eq] at h1
  have := vals_len S
  unfold gatherN valsN at *
  omega
theorem lastK_some {e x : Ev} {kept : List Ev} (h : lastK e kept = some x) : x ∈ kept ∧ sight x = sight e := by
  unfold lastK at h
  exact ⟨List.mem_of_find?_eq_some h, by simpa using List.find?_some h⟩
theorem twiceB_true {e : Ev} {kept : List Ev} : twiceB e kept = true ↔ ∃ x, lastK e kept = some x ∧ e.time - x.time ≤ 10 := by
  unfold twiceB
  cases h : lastK e kept with
  | none => simp
  | some x => simp
theorem events_mem {M : List Mk} {S : List Ev} {x : Ev} : x ∈ eventsN M S ↔ ∃ s ∈ S, { s with time := timeN M s } = x := by
  unfold eventsN
  rw [(sortB_perm keysE _).mem_iff, List.mem_map]
theorem drift_in {D w k : Int} (hw : 0 < w) (h1 : 0 ≤ k) (h2 : k ≤ w) : min 0 D ≤ D * k / w ∧ D * k / w ≤ max 0 D := by
  rcases (by omega : D < 0 ∨ 0 ≤ D) with h | h
  · rw [Int.min_eq_right (by omega), Int.max_eq_left (by omega)]
    constructor
    · exact Int.le_ediv_of_mul_le hw (Int.mul_le_mul_of_nonpos_left (by omega) h2)
    · refine Int.ediv_le_of_le_mul hw ?_
      rw [Int.zero_mul]
      exact Int.mul_nonpos_of_nonpos_of_nonneg (by omega) h1
  · rw [Int.min_eq_left (by omega), Int.max_eq_right (by omega)]
    exact ⟨Int.ediv_nonneg (Int.mul_nonneg h h1) (by omega), Int.ediv_le_of_le_mul hw (Int.mul_le_mul_of_nonneg_left h2 h)⟩
def AtLt (l : List Mk) : Prop := l.Pairwise fun a b => a.at' < b.at'
theorem ofN_lt {M : List Mk} {sc : Int} (h : M.Pairwise ltM) : AtLt (ofN M sc) := by
  unfold AtLt ofN
  have h2 := h.filter (fun m => m.scanner == sc)
  refine List.Pairwise.imp_of_mem ?_ h2
  intro a b ha hb q
  have e1 : a.scanner = sc := by simpa using (List.mem_filter.mp ha).2
  have e2 : b.scanner = sc := by simpa using (List.mem_filter.mp hb).2
  unfold ltM at q; omega
theorem offGo_bound {t B : Int} : ∀ (l : List Mk) (last : Mk), AtLt l → (∀ m ∈ l, -B ≤ m.off ∧ m.off ≤ B) → -B ≤ last.off → last.off ≤ B → (∀ m ∈ l, last = zeroM ∨ last.at' < m.at') → (last = zeroM ∨ last.at' < t) → -B ≤ offGo t last l ∧ offGo t last l ≤ B
  | [], last, _, _, h1, h2, _, _ => ⟨h1, h2⟩
  | m :: l, last, hl, hb, h1, h2, h3, h4 => by
    obtain ⟨l1, l2⟩ := List.pairwise_cons.mp hl
    have hm := hb m List.mem_cons_self
    unfold offGo
    split
    · rename_i ht
      exact offGo_bound l m l2 (fun x hx => hb x (List.mem_cons_of_mem _ hx)) hm.1 hm.2 (fun x hx => .inr (l1 x hx)) (.inr ht)
    split
    · exact hm
    · rename_i g1 g2
      have e1 := h4.resolve_left g2
      have := drift_in (D := m.off - last.off) (w := m.at' - last.at') (k := t - last.at') (by omega) (by omega) (by omega)
      omega
end Go.Scan

