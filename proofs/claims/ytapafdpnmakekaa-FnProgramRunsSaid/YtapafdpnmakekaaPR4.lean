/- Texts of one claim, put together by merge.py: XCode1. -/
import Derived.Test.YtapafdpnmakekaaPR3
import Derived.Test.YtapafdpnmakekaaProg
set_option linter.unusedVariables false
set_option maxRecDepth 4000
namespace Go.Proofs.Ytapafdpnmakekaa.X
open Go Go.RowKit
def c12:XFn:=
 ⟨[.tmp 2],
 (.seq (.reg [oO 2 (.mv (.const (.bool false)))])
 (.seq (.seq (.reg [oM 35 0,
  oO 36 (.call (.func 13) [(.tmp 35)])])
 (.cond (.tmp 36) (.seq (.reg [oO 2 (.mv (.const (.bool true)))])
 .ret) .skip))
 (.seq (.reg [oM 38 0,
  oO 39 (.call (.func 135) [(.tmp 38)]),
  oM 37 39,
  oE 40 37 0,
  oE 41 37 1,
  oO 3 (.alloc 70 [.int .i64 0,.int .i64 0,.slice none 0 0,.slice none 0 0]),
  oS (.store 4 (.tmp 3) (.tmp 40)),
  oM 4 41])
 (.seq (.reg [oO 43 (.loadn 4 (.tmp 3)),
  oM 44 4,
  oO 45 (.call (.func 136) [(.tmp 43),(.tmp 44)]),
  oM 42 45,
  oE 46 42 0,
  oE 47 42 1,
  oM 5 46,
  oM 6 47])
 (.seq (.reg [oO 49 (.loadn 4 (.tmp 3)),
  oM 50 4,
  oO 51 (.call (.func 137) [(.tmp 49),(.tmp 50)]),
  oM 48 51,
  oE 52 48 0,
  oE 53 48 1,
  oM 7 52,
  oM 8 53])
 (.seq (.seq (.reg [oM 54 6,
  oM 55 8,
  oO 56 (.bin .neq (.tmp 54) (.tmp 55)),
  oM 57 56,
  oG 58 (.mv (.tmp 5)) 57 false,
  oG 59 (.mv (.tmp 7)) 57 false,
  oG 60 (.call (.func 20) [(.tmp 58),(.tmp 59)]) 57 false,
  oG 61 (.un .not (.tmp 60)) 57 false,
  oO 62 (.pick (.tmp 57) (.const (.bool true)) (.tmp 61))])
 (.cond (.tmp 62) (.seq (.reg [oO 2 (.mv (.const (.bool false)))])
 .ret) .skip))
 (.seq (.seq (.reg [oM 63 6,
  oO 64 (.bin .eql (.tmp 63) (oK 0))])
 (.cond (.tmp 64) (.seq (.reg [oO 66 (.loadn 4 (.tmp 3)),
  oO 67 (.call (.func 55) [(.tmp 66)]),
  oM 65 67,
  oE 68 65 0,
  oE 69 65 1,
  oM 9 68,
  oM 10 69])
 (.seq (.seq (.reg [oM 70 10,
  oO 71 (.bin .neq (.tmp 70) (oK 0)),
  oM 72 71,
  oG 73 (.mv (.tmp 9)) 72 false,
  oG 74 (.len (.tmp 73)) 72 false,
  oG 75 (.mv (.tmp 5)) 72 false,
  oG 76 (.len (.tmp 75)) 72 false,
  oG 77 (.bin .neq (.tmp 74) (.tmp 76)) 72 false,
  oO 78 (.pick (.tmp 72) (.const (.bool true)) (.tmp 77))])
 (.cond (.tmp 78) (.seq (.reg [oO 2 (.mv (.const (.bool false)))])
 .ret) .skip))
 (.seq (.reg [oO 11 (.mv (oK 0))])
 (.blk 0 (.loop (.seq (.seq (.reg [oM 79 11,
  oM 80 9,
  oN 81 80,
  oO 82 (.bin .lss (.tmp 79) (.tmp 81))])
 (.cond (.tmp 82) .skip (.exit 0)))
 (.seq (.blk 1 (.seq (.reg [oO 12 (.mv (oK 0))])
 (.seq (.seq (.reg [oO 13 (.mv (oK 0))])
 (.blk 2 (.loop (.seq (.seq (.reg [oM 85 13,
  oM 86 9,
  oM 87 11,
  oX 88 1 86 87,
  oL 89 88,
  oN 90 89,
  oO 91 (.bin .lss (.tmp 85) (.tmp 90)),
  oM 92 91,
  oG 93 (.mv (.tmp 13)) 92 true,
  oG 94 (.mv (.tmp 4)) 92 true,
  oG 95 (.len (.tmp 94)) 92 true,
  oG 96 (.bin .lss (.tmp 93) (.tmp 95)) 92 true,
  oO 97 (.pick (.tmp 92) (.tmp 96) (.const (.bool false)))])
 (.cond (.tmp 97) .skip (.exit 2)))
 (.seq (.blk 3 (.reg [oM 100 12,
  oM 101 9,
  oM 102 11,
  oX 103 1 101 102,
  oL 104 103,
  oM 105 13,
  oX 106 1 104 105,
  oL 107 106,
  oM 108 4,
  oM 109 13,
  oX 110 1 108 109,
  oL 111 110,
  oO 112 (.bin .mul (.tmp 107) (.tmp 111)),
  oO 113 (.bin .add (.tmp 100) (.tmp 112)),
  oF 114 0 3,
  oL 115 114,
  oO 116 (.bin .rem (.tmp 113) (.tmp 115)),
  oM 12 116]))
 (.reg [oM 98 13,
  oO 99 (.bin .add (.tmp 98) (oK 1)),
  oM 13 99]))))))
 (.seq (.reg [oM 117 12,
  oM 118 5,
  oM 119 11,
  oX 120 1 118 119,
  oL 121 120,
  oO 122 (.bin .neq (.tmp 117) (.tmp 121))])
 (.cond (.tmp 122) (.seq (.reg [oO 2 (.mv (.const (.bool false)))])
 .ret) .skip)))))
 (.reg [oM 83 11,
  oO 84 (.bin .add (.tmp 83) (oK 1)),
  oM 11 84])))))))) .skip))
 (.seq (.reg [oM 124 0,
  oO 125 (.call (.func 138) [(.tmp 124)]),
  oM 123 125,
  oE 126 123 0,
  oE 127 123 1,
  oE 128 123 2,
  oE 129 123 3,
  oO 14 (.alloc 26 [.int .i64 0,.int .i64 0,.int .i64 0,.int .i64 0,.slice none 0 0]),
  oS (.store 5 (.tmp 14) (.tmp 126)),
  oM 15 127,
  oM 16 128,
  oM 17 129])
 (.seq (.reg [oO 131 (.loadn 5 (.tmp 14)),
  oM 132 15,
  oM 133 16,
  oM 134 17,
  oO 135 (.call (.func 23) [(.tmp 131),(.tmp 132),(.tmp 133),(.tmp 134)]),
  oM 130 135,
  oE 136 130 0,
  oE 137 130 1,
  oM 18 136,
  oM 19 137])
 (.seq (.reg [oO 139 (.loadn 5 (.tmp 14)),
  oM 140 15,
  oM 141 16,
  oM 142 17,
  oO 143 (.call (.func 139) [(.tmp 139),(.tmp 140),(.tmp 141),(.tmp 142)]),
  oM 138 143,
  oE 144 138 0,
  oE 145 138 1,
  oM 20 144,
  oM 21 145])
 (.seq (.seq (.reg [oM 146 19,
  oM 147 21,
  oO 148 (.bin .neq (.tmp 146) (.tmp 147)),
  oM 149 148,
  oG 150 (.mv (.tmp 18)) 149 false,
  oG 151 (.mv (.tmp 20)) 149 false,
  oG 152 (.call (.func 48) [(.tmp 150),(.tmp 151)]) 149 false,
  oG 153 (.un .not (.tmp 152)) 149 false,
  oO 154 (.pick (.tmp 149) (.const (.bool true)) (.tmp 153))])
 (.cond (.tmp 154) (.seq (.reg [oO 2 (.mv (.const (.bool false)))])
 .ret) .skip))
 (.seq (.seq (.reg [oM 155 19,
  oO 156 (.bin .eql (.tmp 155) (oK 0))])
 (.cond (.tmp 156) (.seq (.reg [oO 158 (.loadn 5 (.tmp 14)),
  oM 159 16,
  oM 160 17,
  oO 161 (.call (.func 21) [(.tmp 158),(.tmp 159),(.tmp 160)]),
  oM 157 161,
  oE 162 157 0,
  oE 163 157 1,
  oM 22 162,
  oM 23 163])
 (.seq (.reg [oM 164 23,
  oO 165 (.bin .neq (.tmp 164) (oK 0)),
  oM 166 165,
  oG 167 (.mv (.tmp 22)) 166 false,
  oG 168 (.mv (.tmp 18)) 166 false,
  oG 169 (.call (.func 48) [(.tmp 167),(.tmp 168)]) 166 false,
  oG 170 (.un .not (.tmp 169)) 166 false,
  oO 171 (.pick (.tmp 166) (.const (.bool true)) (.tmp 170))])
 (.cond (.tmp 171) (.seq (.reg [oO 2 (.mv (.const (.bool false)))])
 .ret) .skip))) .skip))
 (.seq (.reg [oM 173 0,
  oO 174 (.call (.func 140) [(.tmp 173)]),
  oM 172 174,
  oE 175 172 0,
  oE 176 172 1,
  oO 24 (.alloc 26 [.int .i64 0,.int .i64 0,.int .i64 0,.int .i64 0,.slice none 0 0]),
  oS (.store 5 (.tmp 24) (.tmp 175)),
  oM 25 176])
 (.seq (.reg [oO 178 (.loadn 5 (.tmp 24)),
  oM 179 25,
  oO 180 (.call (.func 141) [(.tmp 178),(.tmp 179)]),
  oM 177 180,
  oE 181 177 0,
  oE 182 177 1,
  oM 26 181,
  oM 27 182])
 (.seq (.reg [oO 184 (.loadn 5 (.tmp 24)),
  oM 185 25,
  oO 186 (.call (.func 142) [(.tmp 184),(.tmp 185)]),
  oM 183 186,
  oE 187 183 0,
  oE 188 183 1,
  oM 28 187,
  oM 29 188])
 (.seq (.reg [oO 190 (.loadn 5 (.tmp 24)),
  oM 191 25,
  oO 192 (.call (.func 143) [(.tmp 190),(.tmp 191)]),
  oM 189 192,
  oE 193 189 0,
  oE 194 189 1,
  oM 30 193,
  oM 31 194])
 (.seq (.reg [oO 196 (.loadn 5 (.tmp 24)),
  oM 197 25,
  oO 198 (.call (.func 144) [(.tmp 196),(.tmp 197)]),
  oM 195 198,
  oE 199 195 0,
  oE 200 195 1,
  oM 32 199,
  oM 33 200])
 (.seq (.seq (.reg [oM 201 27,
  oM 202 29,
  oO 203 (.bin .neq (.tmp 201) (.tmp 202)),
  oM 204 203,
  oG 205 (.mv (.tmp 26)) 204 false,
  oG 206 (.len (.tmp 205)) 204 false,
  oG 207 (.mv (.tmp 28)) 204 false,
  oG 208 (.len (.tmp 207)) 204 false,
  oG 209 (.bin .neq (.tmp 206) (.tmp 208)) 204 false,
  oO 210 (.pick (.tmp 204) (.const (.bool true)) (.tmp 209)),
  oM 211 210,
  oG 212 (.mv (.tmp 31)) 211 false,
  oG 213 (.mv (.tmp 33)) 211 false,
  oG 214 (.bin .neq (.tmp 212) (.tmp 213)) 211 false,
  oO 215 (.pick (.tmp 211) (.const (.bool true)) (.tmp 214)),
  oM 216 215,
  oG 217 (.mv (.tmp 30)) 216 false,
  oG 218 (.mv (.tmp 32)) 216 false,
  oG 219 (.call (.func 20) [(.tmp 217),(.tmp 218)]) 216 false,
  oG 220 (.un .not (.tmp 219)) 216 false,
  oO 221 (.pick (.tmp 216) (.const (.bool true)) (.tmp 220))])
 (.cond (.tmp 221) (.seq (.reg [oO 2 (.mv (.const (.bool false)))])
 .ret) .skip))
 (.seq (.seq (.reg [oO 34 (.mv (oK 0))])
 (.blk 4 (.loop (.seq (.seq (.reg [oM 222 34,
  oM 223 26,
  oN 224 223,
  oO 225 (.bin .lss (.tmp 222) (.tmp 224))])
 (.cond (.tmp 225) .skip (.exit 4)))
 (.seq (.blk 5 (.seq (.reg [oM 228 26,
  oM 229 34,
  oX 230 4 228 229,
  oO 231 (.loadn 4 (.tmp 230)),
  oM 232 28,
  oM 233 34,
  oX 234 4 232 233,
  oO 235 (.loadn 4 (.tmp 234)),
  oO 236 (.call (.func 54) [(.tmp 231),(.tmp 235)]),
  oO 237 (.un .not (.tmp 236)),
  oM 238 237,
  oG 239 (.mv (.tmp 34)) 238 false,
  oG 240 (.mv (.tmp 30)) 238 false,
  oG 241 (.len (.tmp 240)) 238 false,
  oG 242 (.bin .geq (.tmp 239) (.tmp 241)) 238 false,
  oO 243 (.pick (.tmp 238) (.const (.bool true)) (.tmp 242)),
  oM 244 243,
  oG 245 (.mv (.tmp 30)) 244 false,
  oG 246 (.mv (.tmp 34)) 244 false,
  oG 247 (.ixs 1 (.tmp 245) (.tmp 246)) 244 false,
  oG 248 (.load1 (.tmp 247)) 244 false,
  oG 249 (.mv (.tmp 26)) 244 false,
  oG 250 (.mv (.tmp 34)) 244 false,
  oG 251 (.ixs 4 (.tmp 249) (.tmp 250)) 244 false,
  oG 252 (.fadr 2 (.tmp 251)) 244 false,
  oG 253 (.load1 (.tmp 252)) 244 false,
  oG 254 (.len (.tmp 253)) 244 false,
  oG 255 (.bin .neq (.tmp 248) (.tmp 254)) 244 false,
  oO 256 (.pick (.tmp 244) (.const (.bool true)) (.tmp 255))])
 (.cond (.tmp 256) (.seq (.reg [oO 2 (.mv (.const (.bool false)))])
 .ret) .skip)))
 (.reg [oM 226 34,
  oO 227 (.bin .add (.tmp 226) (oK 1)),
  oM 34 227]))))))
 (.seq (.reg [oO 2 (.mv (.const (.bool true)))])
 .ret))))))))))))))))))))⟩
theorem s12:compFn Try.prog Try.f12=some c12:=by kernel_rfl
def c13:XFn:=
 ⟨[.tmp 2],
 (.seq (.reg [oO 2 (.mv (.const (.bool false)))])
 (.seq (.reg [oM 3 0,
  oN 4 3,
  oO 5 (.bin .gtr (.tmp 4) (oK 4096)),
  oM 2 5])
 .ret))⟩
theorem s13:compFn Try.prog Try.f13=some c13:=by kernel_rfl
def c20:XFn:=
 ⟨[.tmp 4],
 (.seq (.reg [oO 4 (.mv (.const (.bool false)))])
 (.seq (.seq (.reg [oM 6 0,
  oN 7 6,
  oM 8 1,
  oN 9 8,
  oO 10 (.bin .neq (.tmp 7) (.tmp 9))])
 (.cond (.tmp 10) (.seq (.reg [oO 4 (.mv (.const (.bool false)))])
 .ret) .skip))
 (.seq (.seq (.reg [oO 5 (.mv (oK 0))])
 (.blk 0 (.loop (.seq (.seq (.reg [oM 11 5,
  oM 12 0,
  oN 13 12,
  oO 14 (.bin .lss (.tmp 11) (.tmp 13))])
 (.cond (.tmp 14) .skip (.exit 0)))
 (.seq (.blk 1 (.seq (.reg [oM 17 0,
  oM 18 5,
  oX 19 1 17 18,
  oL 20 19,
  oM 21 1,
  oM 22 5,
  oX 23 1 21 22,
  oL 24 23,
  oO 25 (.bin .neq (.tmp 20) (.tmp 24))])
 (.cond (.tmp 25) (.seq (.reg [oO 4 (.mv (.const (.bool false)))])
 .ret) .skip)))
 (.reg [oM 15 5,
  oO 16 (.bin .add (.tmp 15) (oK 1)),
  oM 5 16]))))))
 (.seq (.reg [oO 4 (.mv (.const (.bool true)))])
 .ret))))⟩
theorem s20:compFn Try.prog Try.f20=some c20:=by kernel_rfl
def c21:XFn:=
 ⟨[.tmp 6,.tmp 7],
 (.seq (.reg [oO 3 (.box 26 (.tmp 0)),
  oO 6 (.mv (.const (.slice none 0 0))),
  oO 7 (.mv (oK 0))])
 (.seq (.seq (.reg [oO 9 (.loadn 5 (.tmp 3)),
  oM 10 1,
  oM 11 2,
  oO 12 (.call (.func 162) [(.tmp 9),(.tmp 10),(.tmp 11)]),
  oM 8 12])
 (.seq (.reg [oM 13 8,
  oO 14 (.bin .neq (.tmp 13) (oK 0))])
 (.cond (.tmp 14) (.seq (.reg [oM 15 8,
  oO 6 (.mv (.const (.slice none 0 0))),
  oM 7 15])
 .ret) .skip)))
 (.seq (.reg [oF 16 0 3,
  oL 17 16,
  oF 18 4 3,
  oL 19 18,
  oF 20 1 3,
  oL 21 20,
  oF 22 3 3,
  oL 23 22,
  oO 24 (.bin .mul (.tmp 21) (.tmp 23)),
  oM 25 1,
  ⟨some 26,.call (.func 165) [(.tmp 25)],none,.t⟩,
  oM 27 2,
  ⟨some 28,.call (.func 165) [(.tmp 27)],none,.t⟩,
  ⟨some 29,.call (.func 164) [(.tmp 17),(.tmp 19),(.tmp 24),(.tmp 26),(.tmp 28)],none,.t⟩,
  oF 30 3 3,
  oL 31 30,
  oO 32 (.call (.func 163) [(.tmp 29),(.tmp 31)]),
  oM 6 32,
  oO 7 (.mv (oK 0))])
 .ret)))⟩
theorem s21:compFn Try.prog Try.f21=some c21:=by kernel_rfl
def c23:XFn:=
 ⟨[.tmp 8,.tmp 9],
 (.seq (.reg [oO 4 (.box 26 (.tmp 0)),
  oO 8 (.mv (.const (.slice none 0 0))),
  oO 9 (.mv (oK 0))])
 (.seq (.seq (.reg [oO 15 (.loadn 5 (.tmp 4)),
  oM 16 2,
  oM 17 3,
  oO 18 (.call (.func 162) [(.tmp 15),(.tmp 16),(.tmp 17)]),
  oM 10 18])
 (.seq (.reg [oM 19 10,
  oO 20 (.bin .neq (.tmp 19) (oK 0))])
 (.cond (.tmp 20) (.seq (.reg [oM 21 10,
  oO 8 (.mv (.const (.slice none 0 0))),
  oM 9 21])
 .ret) .skip)))
 (.seq (.seq (.reg [oF 22 4 4,
  oL 23 22,
  oN 24 23,
  oO 25 (.bin .eql (.tmp 24) (oK 0))])
 (.cond (.tmp 25) (.seq (.reg [oO 8 (.mv (.const (.slice none 0 0))),
  oO 9 (.mv (oK 5))])
 .ret) .skip))
 (.seq (.reg [oO 26 (.loadn 5 (.tmp 4)),
  oM 27 1,
  oO 28 (.call (.func 170) [(.tmp 26),(.tmp 27)]),
  oM 11 28])
 (.seq (.reg [oM 29 11,
  oO 30 (.ixs 4 (.tmp 29) (oK 0)),
  oO 31 (.loadn 4 (.tmp 30)),
  oM 32 2,
  ⟨some 33,.call (.func 165) [(.tmp 32)],none,.t⟩,
  ⟨some 34,.call (.func 171) [(.tmp 31),(.tmp 33)],none,.t⟩,
  oM 35 11,
  oO 36 (.ixs 4 (.tmp 35) (oK 1)),
  oO 37 (.loadn 4 (.tmp 36)),
  oM 38 3,
  ⟨some 39,.call (.func 165) [(.tmp 38)],none,.t⟩,
  oO 40 (.call (.func 171) [(.tmp 37),(.tmp 39)]),
  oM 12 34,
  oM 13 40])
 (.seq (.seq (.reg [oM 41 12,
  oN 42 41,
  oO 43 (.mv (oK 0))])
 (.blk 0 (.loop (.seq (.reg [oO 44 (.bin .lss (.tmp 43) (.tmp 42))])
 (.seq (.cond (.tmp 44) .skip (.exit 0))
 (.seq (.blk 1 (.seq (.reg [oM 45 43,
  oM 14 45])
 (.reg [oM 46 12,
  oM 47 14,
  oM 48 12,
  oM 49 14,
  oX 50 1 48 49,
  oL 51 50,
  oM 52 13,
  oM 53 14,
  oX 54 1 52 53,
  oL 55 54,
  oO 56 (.bin .mul (.tmp 51) (.tmp 55)),
  oF 57 0 4,
  oL 58 57,
  oO 59 (.bin .rem (.tmp 56) (.tmp 58)),
  oX 60 1 46 47,
  oS (.store 1 (.tmp 60) (.tmp 59))])))
 (.reg [oO 61 (.bin .add (.tmp 43) (oK 1)),
  oM 43 61])))))))
 (.seq (.reg [oM 62 11,
  oO 63 (.ixs 4 (.tmp 62) (oK 2)),
  oO 64 (.loadn 4 (.tmp 63)),
  oM 65 12,
  ⟨some 66,.call (.func 171) [(.tmp 64),(.tmp 65)],none,.t⟩,
  oF 67 3 4,
  oL 68 67,
  oO 69 (.call (.func 163) [(.tmp 66),(.tmp 68)]),
  oM 8 69,
  oO 9 (.mv (oK 0))])
 .ret)))))))⟩
theorem s23:compFn Try.prog Try.f23=some c23:=by kernel_rfl
def c48:XFn:=
 ⟨[.tmp 4],
 (.seq (.reg [oO 4 (.mv (.const (.bool false)))])
 (.seq (.seq (.reg [oM 6 0,
  oN 7 6,
  oM 8 1,
  oN 9 8,
  oO 10 (.bin .neq (.tmp 7) (.tmp 9))])
 (.cond (.tmp 10) (.seq (.reg [oO 4 (.mv (.const (.bool false)))])
 .ret) .skip))
 (.seq (.seq (.reg [oO 5 (.mv (oK 0))])
 (.blk 0 (.loop (.seq (.seq (.reg [oM 11 5,
  oM 12 0,
  oN 13 12,
  oO 14 (.bin .lss (.tmp 11) (.tmp 13))])
 (.cond (.tmp 14) .skip (.exit 0)))
 (.seq (.blk 1 (.seq (.reg [oM 17 0,
  oM 18 5,
  oX 19 1 17 18,
  oL 20 19,
  oM 21 1,
  oM 22 5,
  oX 23 1 21 22,
  oL 24 23,
  oO 25 (.call (.func 20) [(.tmp 20),(.tmp 24)]),
  oO 26 (.un .not (.tmp 25))])
 (.cond (.tmp 26) (.seq (.reg [oO 4 (.mv (.const (.bool false)))])
 .ret) .skip)))
 (.reg [oM 15 5,
  oO 16 (.bin .add (.tmp 15) (oK 1)),
  oM 5 16]))))))
 (.seq (.reg [oO 4 (.mv (.const (.bool true)))])
 .ret))))⟩
theorem s48:compFn Try.prog Try.f48=some c48:=by kernel_rfl
def c54:XFn:=
 ⟨[.tmp 4],
 (.seq (.reg [oO 2 (.box 70 (.tmp 0)),
  oO 3 (.box 70 (.tmp 1)),
  oO 4 (.mv (.const (.bool false)))])
 (.seq (.seq (.reg [oF 7 0 2,
  oL 8 7,
  oF 9 0 3,
  oL 10 9,
  oO 11 (.bin .neq (.tmp 8) (.tmp 10)),
  oM 12 11,
  oG 13 (.fadr 1 (.tmp 2)) 12 false,
  oG 14 (.load1 (.tmp 13)) 12 false,
  oG 15 (.fadr 1 (.tmp 3)) 12 false,
  oG 16 (.load1 (.tmp 15)) 12 false,
  oG 17 (.bin .neq (.tmp 14) (.tmp 16)) 12 false,
  oO 18 (.pick (.tmp 12) (.const (.bool true)) (.tmp 17)),
  oM 19 18,
  oG 20 (.fadr 2 (.tmp 2)) 19 false,
  oG 21 (.load1 (.tmp 20)) 19 false,
  oG 22 (.len (.tmp 21)) 19 false,
  oG 23 (.fadr 2 (.tmp 3)) 19 false,
  oG 24 (.load1 (.tmp 23)) 19 false,
  oG 25 (.len (.tmp 24)) 19 false,
  oG 26 (.bin .neq (.tmp 22) (.tmp 25)) 19 false,
  oO 27 (.pick (.tmp 19) (.const (.bool true)) (.tmp 26)),
  oM 28 27,
  oG 29 (.fadr 3 (.tmp 2)) 28 false,
  oG 30 (.load1 (.tmp 29)) 28 false,
  oG 31 (.len (.tmp 30)) 28 false,
  oG 32 (.fadr 3 (.tmp 3)) 28 false,
  oG 33 (.load1 (.tmp 32)) 28 false,
  oG 34 (.len (.tmp 33)) 28 false,
  oG 35 (.bin .neq (.tmp 31) (.tmp 34)) 28 false,
  oO 36 (.pick (.tmp 28) (.const (.bool true)) (.tmp 35))])
 (.cond (.tmp 36) (.seq (.reg [oO 4 (.mv (.const (.bool false)))])
 .ret) .skip))
 (.seq (.seq (.reg [oO 5 (.mv (oK 0))])
 (.blk 0 (.loop (.seq (.seq (.reg [oM 37 5,
  oF 38 2 2,
  oL 39 38,
  oN 40 39,
  oO 41 (.bin .lss (.tmp 37) (.tmp 40))])
 (.cond (.tmp 41) .skip (.exit 0)))
 (.seq (.blk 1 (.seq (.reg [oF 44 2 2,
  oL 45 44,
  oM 46 5,
  oX 47 3 45 46,
  oO 48 (.loadn 3 (.tmp 47)),
  oF 49 2 3,
  oL 50 49,
  oM 51 5,
  oX 52 3 50 51,
  oO 53 (.loadn 3 (.tmp 52)),
  oO 54 (.eqa true 3 (.tmp 48) (.tmp 53))])
 (.cond (.tmp 54) (.seq (.reg [oO 4 (.mv (.const (.bool false)))])
 .ret) .skip)))
 (.reg [oM 42 5,
  oO 43 (.bin .add (.tmp 42) (oK 1)),
  oM 5 43]))))))
 (.seq (.seq (.reg [oO 6 (.mv (oK 0))])
 (.blk 2 (.loop (.seq (.seq (.reg [oM 55 6,
  oF 56 3 2,
  oL 57 56,
  oN 58 57,
  oO 59 (.bin .lss (.tmp 55) (.tmp 58))])
 (.cond (.tmp 59) .skip (.exit 2)))
 (.seq (.blk 3 (.seq (.reg [oF 62 3 2,
  oL 63 62,
  oM 64 6,
  oX 65 2 63 64,
  oO 66 (.loadn 2 (.tmp 65)),
  oF 67 3 3,
  oL 68 67,
  oM 69 6,
  oX 70 2 68 69,
  oO 71 (.loadn 2 (.tmp 70)),
  oO 72 (.eqa true 2 (.tmp 66) (.tmp 71))])
 (.cond (.tmp 72) (.seq (.reg [oO 4 (.mv (.const (.bool false)))])
 .ret) .skip)))
 (.reg [oM 60 6,
  oO 61 (.bin .add (.tmp 60) (oK 1)),
  oM 6 61]))))))
 (.seq (.reg [oO 4 (.mv (.const (.bool true)))])
 .ret)))))⟩
theorem s54:compFn Try.prog Try.f54=some c54:=by kernel_rfl
def c55:XFn:=
 ⟨[.tmp 2,.tmp 3],
 (.seq (.reg [oO 1 (.box 70 (.tmp 0)),
  oO 2 (.mv (.const (.slice none 0 0))),
  oO 3 (.mv (oK 0))])
 (.seq (.seq (.reg [oO 7 (.loadn 4 (.tmp 1)),
  oO 8 (.call (.func 59) [(.tmp 7)]),
  oO 9 (.un .not (.tmp 8))])
 (.cond (.tmp 9) (.seq (.reg [oO 2 (.mv (.const (.slice none 0 0))),
  oO 3 (.mv (oK 1))])
 .ret) .skip))
 (.seq (.reg [oO 10 (.bslice 27 1 0 [.slice none 0 0] []),
  oM 4 10])
 (.seq (.seq (.reg [oF 11 1 1,
  oL 12 11,
  oO 13 (.mv (oK 0))])
 (.blk 0 (.loop (.seq (.reg [oO 14 (.bin .lss (.tmp 13) (.tmp 12))])
 (.seq (.cond (.tmp 14) .skip (.exit 0))
 (.seq (.blk 1 (.seq (.reg [oM 15 13,
  oM 5 15])
 (.seq (.reg [oF 16 1 1,
  oL 17 16,
  oO 18 (.mks 2 1 8 [.int .i64 0] (.tmp 17)),
  oM 6 18])
 (.seq (.reg [oM 19 6,
  oM 20 5,
  oX 21 1 19 20,
  oS (.store 1 (.tmp 21) (oK 1))])
 (.reg [oM 22 4,
  oO 23 (.loadn 4 (.tmp 1)),
  oM 24 6,
  oO 25 (.call (.func 171) [(.tmp 23),(.tmp 24)]),
  oO 26 (.bslice 27 1 1 [.slice none 0 0] [(0,1,(.tmp 25))]),
  oO 27 (.app 27 1 24 (.tmp 22) (.tmp 26)),
  oM 4 27])))))
 (.reg [oO 28 (.bin .add (.tmp 13) (oK 1)),
  oM 13 28])))))))
 (.seq (.reg [oM 29 4,
  oO 30 (.call (.func 208) [(.tmp 29)]),
  oM 2 30,
  oO 3 (.mv (oK 0))])
 .ret)))))⟩
theorem s55:compFn Try.prog Try.f55=some c55:=by kernel_rfl
def c59:XFn:=
 ⟨[.tmp 2],
 (.seq (.reg [oO 1 (.box 70 (.tmp 0)),
  oO 2 (.mv (.const (.bool false)))])
 (.seq (.seq (.reg [oF 9 0 1,
  oL 10 9,
  oO 11 (.call (.func 166) [(.tmp 10)]),
  oO 12 (.un .not (.tmp 11)),
  oM 13 12,
  oG 14 (.fadr 1 (.tmp 1)) 13 false,
  oG 15 (.load1 (.tmp 14)) 13 false,
  oG 16 (.bin .lss (.tmp 15) (oK 1)) 13 false,
  oO 17 (.pick (.tmp 13) (.const (.bool true)) (.tmp 16)),
  oM 18 17,
  oG 19 (.fadr 1 (.tmp 1)) 18 false,
  oG 20 (.load1 (.tmp 19)) 18 false,
  oG 21 (.bin .gtr (.tmp 20) (oK 30)) 18 false,
  oO 22 (.pick (.tmp 18) (.const (.bool true)) (.tmp 21)),
  oM 23 22,
  oG 24 (.fadr 2 (.tmp 1)) 23 false,
  oG 25 (.load1 (.tmp 24)) 23 false,
  oG 26 (.len (.tmp 25)) 23 false,
  oG 27 (.bin .gtr (.tmp 26) (oK 900)) 23 false,
  oO 28 (.pick (.tmp 23) (.const (.bool true)) (.tmp 27)),
  oM 29 28,
  oG 30 (.fadr 3 (.tmp 1)) 29 false,
  oG 31 (.load1 (.tmp 30)) 29 false,
  oG 32 (.len (.tmp 31)) 29 false,
  oG 33 (.bin .lss (.tmp 32) (oK 1)) 29 false,
  oO 34 (.pick (.tmp 29) (.const (.bool true)) (.tmp 33)),
  oM 35 34,
  oG 36 (.fadr 3 (.tmp 1)) 35 false,
  oG 37 (.load1 (.tmp 36)) 35 false,
  oG 38 (.len (.tmp 37)) 35 false,
  oG 39 (.bin .gtr (.tmp 38) (oK 30)) 35 false,
  oO 40 (.pick (.tmp 35) (.const (.bool true)) (.tmp 39))])
 (.cond (.tmp 40) (.seq (.reg [oO 2 (.mv (.const (.bool false)))])
 .ret) .skip))
 (.seq (.seq (.reg [oF 41 2 1,
  oL 42 41,
  oN 43 42,
  oO 44 (.mv (oK 0))])
 (.blk 0 (.loop (.seq (.reg [oO 45 (.bin .lss (.tmp 44) (.tmp 43))])
 (.seq (.cond (.tmp 45) .skip (.exit 0))
 (.seq (.blk 1 (.seq (.reg [oM 46 44,
  oX 47 3 42 44,
  oO 48 (.loadn 3 (.tmp 47)),
  oO 4 (.alloc 181 [.int .i64 0,.int .i64 0,.int .i64 0]),
  oM 3 46,
  oS (.store 3 (.tmp 4) (.tmp 48))])
 (.seq (.reg [oF 49 1 1,
  oL 50 49,
  oM 51 3,
  oO 52 (.bin .add (.tmp 50) (.tmp 51)),
  oM 5 52])
 (.seq (.reg [oF 53 0 4,
  oL 54 53,
  oO 55 (.bin .lss (.tmp 54) (oK 0)),
  oM 56 55,
  oG 57 (.fadr 0 (.tmp 4)) 56 false,
  oG 58 (.load1 (.tmp 57)) 56 false,
  oG 59 (.mv (.tmp 5)) 56 false,
  oG 60 (.bin .geq (.tmp 58) (.tmp 59)) 56 false,
  oO 61 (.pick (.tmp 56) (.const (.bool true)) (.tmp 60)),
  oM 62 61,
  oG 63 (.fadr 1 (.tmp 4)) 62 false,
  oG 64 (.load1 (.tmp 63)) 62 false,
  oG 65 (.bin .lss (.tmp 64) (oK 0)) 62 false,
  oO 66 (.pick (.tmp 62) (.const (.bool true)) (.tmp 65)),
  oM 67 66,
  oG 68 (.fadr 1 (.tmp 4)) 67 false,
  oG 69 (.load1 (.tmp 68)) 67 false,
  oG 70 (.mv (.tmp 5)) 67 false,
  oG 71 (.bin .geq (.tmp 69) (.tmp 70)) 67 false,
  oO 72 (.pick (.tmp 67) (.const (.bool true)) (.tmp 71)),
  oM 73 72,
  oG 74 (.fadr 0 (.tmp 4)) 73 false,
  oG 75 (.load1 (.tmp 74)) 73 false,
  oG 76 (.fadr 1 (.tmp 4)) 73 false,
  oG 77 (.load1 (.tmp 76)) 73 false,
  oG 78 (.bin .eql (.tmp 75) (.tmp 77)) 73 false,
  oO 79 (.pick (.tmp 73) (.const (.bool true)) (.tmp 78)),
  oM 80 79,
  oG 81 (.fadr 2 (.tmp 4)) 80 false,
  oG 82 (.load1 (.tmp 81)) 80 false,
  oG 83 (.bin .lss (.tmp 82) (oK 1)) 80 false,
  oO 84 (.pick (.tmp 80) (.const (.bool true)) (.tmp 83)),
  oM 85 84,
  oG 86 (.fadr 2 (.tmp 4)) 85 false,
  oG 87 (.load1 (.tmp 86)) 85 false,
  oG 88 (.fadr 0 (.tmp 1)) 85 false,
  oG 89 (.load1 (.tmp 88)) 85 false,
  oG 90 (.bin .geq (.tmp 87) (.tmp 89)) 85 false,
  oO 91 (.pick (.tmp 85) (.const (.bool true)) (.tmp 90))])
 (.cond (.tmp 91) (.seq (.reg [oO 2 (.mv (.const (.bool false)))])
 .ret) .skip)))))
 (.reg [oO 92 (.bin .add (.tmp 44) (oK 1)),
  oM 44 92])))))))
 (.seq (.reg [oF 93 1 1,
  oL 94 93,
  oF 95 2 1,
  oL 96 95,
  oN 97 96,
  oO 98 (.bin .add (.tmp 94) (.tmp 97)),
  oM 6 98])
 (.seq (.seq (.reg [oF 99 3 1,
  oL 100 99,
  oN 101 100,
  oO 102 (.mv (oK 0))])
 (.blk 2 (.loop (.seq (.reg [oO 103 (.bin .lss (.tmp 102) (.tmp 101))])
 (.seq (.cond (.tmp 103) .skip (.exit 2))
 (.seq (.blk 3 (.seq (.reg [oX 104 2 100 102,
  oO 105 (.loadn 2 (.tmp 104)),
  oO 8 (.alloc 183 [.int .i64 0,.int .i64 0]),
  oS (.store 2 (.tmp 8) (.tmp 105))])
 (.seq (.reg [oF 106 0 8,
  oL 107 106,
  oO 108 (.bin .lss (.tmp 107) (oK 0)),
  oM 109 108,
  oG 110 (.fadr 0 (.tmp 8)) 109 false,
  oG 111 (.load1 (.tmp 110)) 109 false,
  oG 112 (.mv (.tmp 6)) 109 false,
  oG 113 (.bin .geq (.tmp 111) (.tmp 112)) 109 false,
  oO 114 (.pick (.tmp 109) (.const (.bool true)) (.tmp 113)),
  oM 115 114,
  oG 116 (.fadr 1 (.tmp 8)) 115 false,
  oG 117 (.load1 (.tmp 116)) 115 false,
  oG 118 (.bin .lss (.tmp 117) (oK 0)) 115 false,
  oO 119 (.pick (.tmp 115) (.const (.bool true)) (.tmp 118)),
  oM 120 119,
  oG 121 (.fadr 1 (.tmp 8)) 120 false,
  oG 122 (.load1 (.tmp 121)) 120 false,
  oG 123 (.fadr 0 (.tmp 1)) 120 false,
  oG 124 (.load1 (.tmp 123)) 120 false,
  oG 125 (.bin .geq (.tmp 122) (.tmp 124)) 120 false,
  oO 126 (.pick (.tmp 120) (.const (.bool true)) (.tmp 125)),
  oM 127 126,
  oG 128 (.fadr 1 (.tmp 8)) 127 false,
  oG 129 (.load1 (.tmp 128)) 127 false,
  oG 130 (.bin .eql (.tmp 129) (oK 0)) 127 false,
  oG 131 (.mv (.tmp 130)) 127 false,
  oG 132 (.fadr 0 (.tmp 8)) 131 true,
  oG 133 (.load1 (.tmp 132)) 131 true,
  oG 134 (.bin .neq (.tmp 133) (oK 0)) 131 true,
  oG 135 (.pick (.tmp 131) (.tmp 134) (.const (.bool false))) 127 false,
  oO 136 (.pick (.tmp 127) (.const (.bool true)) (.tmp 135))])
 (.cond (.tmp 136) (.seq (.reg [oO 2 (.mv (.const (.bool false)))])
 .ret) .skip))))
 (.reg [oO 137 (.bin .add (.tmp 102) (oK 1)),
  oM 102 137])))))))
 (.seq (.reg [oO 2 (.mv (.const (.bool true)))])
 .ret))))))⟩
theorem s59:compFn Try.prog Try.f59=some c59:=by kernel_rfl
def c67:XFn:=
 ⟨[.celln 2 5,.tmp 3,.tmp 4],
 (.seq (.reg [oO 2 (.alloc 26 [.int .i64 0,.int .i64 0,.int .i64 0,.int .i64 0,.slice none 0 0]),
  oO 3 (.mv (.const (.slice none 0 0))),
  oO 4 (.mv (.const (.slice none 0 0)))])
 (.seq (.reg [oM 8 0,
  oO 9 (.call (.func 145) [(.tmp 8)]),
  oM 5 9])
 (.seq (.reg [oM 10 5,
  oO 11 (.call (.func 212) [(.tmp 10)]),
  oO 6 (.alloc 26 [.int .i64 0,.int .i64 0,.int .i64 0,.int .i64 0,.slice none 0 0]),
  oS (.store 5 (.tmp 6) (.tmp 11))])
 (.seq (.reg [oF 12 0 6,
  oL 13 12,
  oO 14 (.mm true (.tmp 13) [(oK 1)]),
  oO 15 (.mm false (.tmp 14) [(oK 5)]),
  oM 7 15])
 (.seq (.reg [oO 16 (.loadn 5 (.tmp 6)),
  oM 17 5,
  oM 18 7,
  oF 19 1 6,
  oL 20 19,
  oF 21 2 6,
  oL 22 21,
  ⟨some 23,.call (.func 213) [(.tmp 17),(.tmp 18),(.tmp 20),(.tmp 22)],none,(.s true [(.tmp 6)])⟩,
  oM 24 5,
  oM 25 7,
  oF 26 2 6,
  ⟨some 27,.load1 (.tmp 26),none,(.s false [(.tmp 17)])⟩,
  oF 28 3 6,
  ⟨some 29,.load1 (.tmp 28),none,(.s false [(.tmp 17)])⟩,
  ⟨some 30,.call (.func 213) [(.tmp 24),(.tmp 25),(.tmp 27),(.tmp 29)],none,(.s true [(.tmp 6)])⟩,
  oS (.store 5 (.tmp 2) (.tmp 16)),
  oM 3 23,
  oM 4 30])
 .ret)))))⟩
theorem s67:compFn Try.prog Try.f67=some c67:=by kernel_rfl
def c135:XFn:=
 ⟨[.celln 2 4,.tmp 3],
 (.seq (.reg [oO 2 (.alloc 70 [.int .i64 0,.int .i64 0,.slice none 0 0,.slice none 0 0]),
  oO 3 (.mv (.const (.slice none 0 0)))])
 (.seq (.reg [oM 7 0,
  oO 8 (.call (.func 145) [(.tmp 7)]),
  oM 4 8])
 (.seq (.reg [oM 9 4,
  oO 10 (.call (.func 209) [(.tmp 9)]),
  oO 5 (.alloc 70 [.int .i64 0,.int .i64 0,.slice none 0 0,.slice none 0 0]),
  oS (.store 4 (.tmp 5) (.tmp 10))])
 (.seq (.reg [oM 11 4,
  oF 12 0 5,
  oL 13 12,
  oO 14 (.mm true (.tmp 13) [(oK 1)]),
  oO 15 (.mm false (.tmp 14) [(oK 5)]),
  oF 16 1 5,
  oL 17 16,
  oO 18 (.mm true (.tmp 17) [(oK 0)]),
  oO 19 (.mm false (.tmp 18) [(oK 31)]),
  oO 20 (.call (.func 250) [(.tmp 11),(.tmp 15),(.tmp 19)]),
  oM 6 20])
 (.seq (.seq (.reg [oM 21 4,
  oO 22 (.call (.func 148) [(.tmp 21),(oK 20)]),
  oO 23 (.bin .eql (.tmp 22) (oK 0))])
 (.cond (.tmp 23) (.reg [oM 24 6,
  oO 25 (.bslice 2 1 1 [.int .i64 0] [(0,1,(oK 0))]),
  oO 26 (.app 2 1 8 (.tmp 24) (.tmp 25)),
  oM 6 26]) .skip))
 (.seq (.reg [oO 27 (.loadn 4 (.tmp 5)),
  oM 28 6,
  oS (.store 4 (.tmp 2) (.tmp 27)),
  oM 3 28])
 .ret))))))⟩
theorem s135:compFn Try.prog Try.f135=some c135:=by kernel_rfl
def c136:XFn:=
 ⟨[.tmp 4,.tmp 5],
 (.seq (.reg [oO 2 (.box 70 (.tmp 0)),
  oO 4 (.mv (.const (.slice none 0 0))),
  oO 5 (.mv (oK 0))])
 (.seq (.blk 0 (.seq (.reg [oO 7 (.loadn 4 (.tmp 2)),
  oO 8 (.call (.func 59) [(.tmp 7)]),
  oO 9 (.un .not (.tmp 8)),
  oM 6 9])
 (.cond (.tmp 6) (.seq (.reg [oO 4 (.mv (.const (.slice none 0 0))),
  oO 5 (.mv (oK 1))])
 .ret) (.seq (.reg [oM 11 1,
  oN 12 11,
  oF 13 1 2,
  oL 14 13,
  oO 15 (.bin .neq (.tmp 12) (.tmp 14)),
  oM 16 15,
  oG 17 (.fadr 0 (.tmp 2)) 16 false,
  oG 18 (.load1 (.tmp 17)) 16 false,
  oG 19 (.mv (.tmp 1)) 16 false,
  oG 20 (.call (.func 184) [(.tmp 18),(.tmp 19)]) 16 false,
  oG 21 (.un .not (.tmp 20)) 16 false,
  oO 22 (.pick (.tmp 16) (.const (.bool true)) (.tmp 21)),
  oM 10 22])
 (.cond (.tmp 10) (.seq (.reg [oO 4 (.mv (.const (.slice none 0 0))),
  oO 5 (.mv (oK 2))])
 .ret) .skip)))))
 (.seq (.reg [oO 23 (.loadn 4 (.tmp 2)),
  oM 24 1,
  oO 25 (.call (.func 171) [(.tmp 23),(.tmp 24)]),
  oM 4 25,
  oO 5 (.mv (oK 0))])
 .ret)))⟩
theorem s136:compFn Try.prog Try.f136=some c136:=by kernel_rfl
def c137:XFn:=
 ⟨[.tmp 4,.tmp 5],
 (.seq (.reg [oO 2 (.box 70 (.tmp 0)),
  oO 4 (.mv (.const (.slice none 0 0))),
  oO 5 (.mv (oK 0))])
 (.seq (.blk 0 (.seq (.reg [oO 7 (.loadn 4 (.tmp 2)),
  oO 8 (.call (.func 210) [(.tmp 7)]),
  oO 9 (.un .not (.tmp 8)),
  oM 6 9])
 (.cond (.tmp 6) (.seq (.reg [oO 4 (.mv (.const (.slice none 0 0))),
  oO 5 (.mv (oK 1))])
 .ret) (.seq (.reg [oF 11 0 2,
  oL 12 11,
  oM 13 1,
  oF 14 1 2,
  oL 15 14,
  oO 16 (.call (.func 251) [(.tmp 12),(.tmp 13),(.tmp 15)]),
  oO 17 (.un .not (.tmp 16)),
  oM 10 17])
 (.cond (.tmp 10) (.seq (.reg [oO 4 (.mv (.const (.slice none 0 0))),
  oO 5 (.mv (oK 2))])
 .ret) .skip)))))
 (.seq (.reg [oO 18 (.loadn 4 (.tmp 2)),
  oM 19 1,
  oO 20 (.call (.func 260) [(.tmp 18),(.tmp 19)]),
  oM 4 20,
  oO 5 (.mv (oK 0))])
 .ret)))⟩
theorem s137:compFn Try.prog Try.f137=some c137:=by kernel_rfl
def c138:XFn:=
 ⟨[.celln 2 5,.tmp 3,.tmp 4,.tmp 5],
 (.seq (.reg [oO 2 (.alloc 26 [.int .i64 0,.int .i64 0,.int .i64 0,.int .i64 0,.slice none 0 0]),
  oO 3 (.mv (.const (.bool false))),
  oO 4 (.mv (.const (.slice none 0 0))),
  oO 5 (.mv (.const (.slice none 0 0)))])
 (.seq (.reg [oO 10 (.bslice 5 1 1 [.int .u8 0] [(0,1,(.const (.int .u8 3)))]),
  oM 11 0,
  oO 12 (.app 5 1 1 (.tmp 10) (.tmp 11)),
  oO 13 (.call (.func 145) [(.tmp 12)]),
  oM 6 13])
 (.seq (.reg [oM 15 0,
  oO 16 (.call (.func 67) [(.tmp 15)]),
  oM 14 16,
  oE 17 14 0,
  oE 18 14 1,
  oE 19 14 2,
  oO 7 (.alloc 26 [.int .i64 0,.int .i64 0,.int .i64 0,.int .i64 0,.slice none 0 0]),
  oS (.store 5 (.tmp 7) (.tmp 17)),
  oM 8 18,
  oM 9 19])
 (.seq (.reg [oO 20 (.loadn 5 (.tmp 7)),
  oM 21 6,
  ⟨some 22,.call (.func 148) [(.tmp 21),(oK 2)],none,(.s true [(.tmp 7)])⟩,
  oO 23 (.bin .eql (.tmp 22) (oK 0)),
  oM 24 8,
  oM 25 9,
  oS (.store 5 (.tmp 2) (.tmp 20)),
  oM 3 23,
  oM 4 24,
  oM 5 25])
 .ret))))⟩
theorem s138:compFn Try.prog Try.f138=some c138:=by kernel_rfl
def c139:XFn:=
 ⟨[.tmp 8,.tmp 9],
 (.seq (.reg [oO 4 (.box 26 (.tmp 0)),
  oO 8 (.mv (.const (.slice none 0 0))),
  oO 9 (.mv (oK 0))])
 (.seq (.reg [oO 19 (.loadn 5 (.tmp 4)),
  oO 20 (.call (.func 261) [(.tmp 19)]),
  oM 10 20])
 (.seq (.seq (.reg [oM 21 10,
  oO 22 (.bin .neq (.tmp 21) (oK 1)),
  oM 23 22,
  oG 24 (.fadr 0 (.tmp 4)) 23 true,
  oG 25 (.load1 (.tmp 24)) 23 true,
  oG 26 (.mv (.tmp 2)) 23 true,
  oG 27 (.fadr 1 (.tmp 4)) 23 true,
  oG 28 (.load1 (.tmp 27)) 23 true,
  oG 29 (.fadr 2 (.tmp 4)) 23 true,
  oG 30 (.load1 (.tmp 29)) 23 true,
  oG 31 (.call (.func 214) [(.tmp 25),(.tmp 26),(.tmp 28),(.tmp 30)]) 23 true,
  oG 32 (.un .not (.tmp 31)) 23 true,
  oG 33 (.mv (.tmp 32)) 23 true,
  oG 34 (.fadr 0 (.tmp 4)) 33 false,
  oG 35 (.load1 (.tmp 34)) 33 false,
  oG 36 (.mv (.tmp 3)) 33 false,
  oG 37 (.fadr 2 (.tmp 4)) 33 false,
  oG 38 (.load1 (.tmp 37)) 33 false,
  oG 39 (.fadr 3 (.tmp 4)) 33 false,
  oG 40 (.load1 (.tmp 39)) 33 false,
  oG 41 (.call (.func 214) [(.tmp 35),(.tmp 36),(.tmp 38),(.tmp 40)]) 33 false,
  oG 42 (.un .not (.tmp 41)) 33 false,
  oG 43 (.pick (.tmp 33) (.const (.bool true)) (.tmp 42)) 23 true,
  oO 44 (.pick (.tmp 23) (.tmp 43) (.const (.bool false)))])
 (.cond (.tmp 44) (.reg [oO 10 (.mv (oK 2))]) .skip))
 (.seq (.seq (.reg [oM 45 10,
  oO 46 (.bin .neq (.tmp 45) (oK 0))])
 (.cond (.tmp 46) (.seq (.reg [oM 47 10,
  oO 8 (.mv (.const (.slice none 0 0))),
  oM 9 47])
 .ret) .skip))
 (.seq (.reg [oO 48 (.loadn 5 (.tmp 4)),
  oM 49 1,
  oO 50 (.call (.func 262) [(.tmp 48),(.tmp 49)]),
  oM 11 50])
 (.seq (.reg [oM 51 11,
  oO 52 (.ixs 4 (.tmp 51) (oK 0)),
  oO 53 (.loadn 4 (.tmp 52)),
  oM 54 2,
  ⟨some 55,.call (.func 263) [(.tmp 54)],none,.t⟩,
  ⟨some 56,.call (.func 260) [(.tmp 53),(.tmp 55)],none,.t⟩,
  oM 57 11,
  oO 58 (.ixs 4 (.tmp 57) (oK 1)),
  oO 59 (.loadn 4 (.tmp 58)),
  oM 60 3,
  ⟨some 61,.call (.func 263) [(.tmp 60)],none,.t⟩,
  oO 62 (.call (.func 260) [(.tmp 59),(.tmp 61)]),
  oO 63 (.mkz),
  oM 12 56,
  oM 13 62,
  oM 14 63])
 (.seq (.seq (.reg [oO 15 (.mv (oK 0))])
 (.blk 0 (.loop (.seq (.seq (.reg [oM 64 15,
  oM 65 12,
  oN 66 65,
  oO 67 (.bin .lss (.tmp 64) (.tmp 66))])
 (.cond (.tmp 67) .skip (.exit 0)))
 (.seq (.blk 1 (.reg [oM 70 14,
  oM 71 12,
  oM 72 15,
  oX 73 1 71 72,
  oL 74 73,
  oM 75 13,
  oM 76 15,
  oX 77 1 75 76,
  oL 78 77,
  oO 79 (.bin .mul (.tmp 74) (.tmp 78)),
  oF 80 0 4,
  oL 81 80,
  oO 82 (.bin .rem (.tmp 79) (.tmp 81)),
  oO 83 (.bslice 2 1 1 [.int .i64 0] [(0,1,(.tmp 82))]),
  oO 84 (.app 2 1 8 (.tmp 70) (.tmp 83)),
  oM 14 84]))
 (.reg [oM 68 15,
  oO 69 (.bin .add (.tmp 68) (oK 1)),
  oM 15 69]))))))
 (.seq (.reg [oM 85 11,
  oO 86 (.ixs 4 (.tmp 85) (oK 2)),
  oO 87 (.loadn 4 (.tmp 86)),
  oM 88 14,
  oO 89 (.call (.func 260) [(.tmp 87),(.tmp 88)]),
  oO 90 (.bslice 27 1 0 [.slice none 0 0] []),
  oM 16 89,
  oM 17 90])
 (.seq (.seq (.reg [oO 18 (.mv (oK 0))])
 (.blk 2 (.loop (.seq (.seq (.reg [oM 91 18,
  oF 92 1 4,
  oL 93 92,
  oO 94 (.bin .lss (.tmp 91) (.tmp 93))])
 (.cond (.tmp 94) .skip (.exit 2)))
 (.seq (.blk 3 (.reg [oM 97 17,
  oM 98 16,
  oM 99 18,
  oF 100 3 4,
  oL 101 100,
  oO 102 (.bin .mul (.tmp 99) (.tmp 101)),
  oM 103 18,
  oF 104 3 4,
  oL 105 104,
  oO 106 (.bin .mul (.tmp 103) (.tmp 105)),
  oF 107 3 4,
  oL 108 107,
  oO 109 (.bin .add (.tmp 106) (.tmp 108)),
  oO 110 (.slc 1 (.tmp 98) (some (.tmp 102)) (some (.tmp 109))),
  oO 111 (.call (.func 264) [(.tmp 110)]),
  oO 112 (.bslice 27 1 1 [.slice none 0 0] [(0,1,(.tmp 111))]),
  oO 113 (.app 27 1 24 (.tmp 97) (.tmp 112)),
  oM 17 113]))
 (.reg [oM 95 18,
  oO 96 (.bin .add (.tmp 95) (oK 1)),
  oM 18 96]))))))
 (.seq (.reg [oM 114 17,
  oM 8 114,
  oO 9 (.mv (oK 0))])
 .ret))))))))))⟩
theorem s139:compFn Try.prog Try.f139=some c139:=by kernel_rfl
def c140:XFn:=
 ⟨[.celln 2 5,.tmp 3],
 (.seq (.reg [oO 2 (.alloc 26 [.int .i64 0,.int .i64 0,.int .i64 0,.int .i64 0,.slice none 0 0]),
  oO 3 (.mv (.const (.bool false)))])
 (.seq (.reg [oM 5 0,
  oO 6 (.call (.func 145) [(.tmp 5)]),
  oM 4 6])
 (.seq (.reg [oM 7 4,
  oO 8 (.call (.func 212) [(.tmp 7)]),
  oM 9 4,
  oO 10 (.call (.func 148) [(.tmp 9),(oK 2)]),
  oO 11 (.bin .eql (.tmp 10) (oK 0)),
  oS (.store 5 (.tmp 2) (.tmp 8)),
  oM 3 11])
 .ret)))⟩
theorem s140:compFn Try.prog Try.f140=some c140:=by kernel_rfl
def c141:XFn:=
 ⟨[.tmp 4,.tmp 5],
 (.seq (.reg [oO 2 (.box 26 (.tmp 0)),
  oO 4 (.mv (.const (.slice none 0 0))),
  oO 5 (.mv (oK 0))])
 (.seq (.seq (.reg [oO 7 (.loadn 5 (.tmp 2)),
  oO 8 (.call (.func 265) [(.tmp 7)]),
  oM 6 8])
 (.seq (.reg [oM 9 6,
  oO 10 (.bin .neq (.tmp 9) (oK 0))])
 (.cond (.tmp 10) (.seq (.reg [oM 11 6,
  oO 4 (.mv (.const (.slice none 0 0))),
  oM 5 11])
 .ret) .skip)))
 (.seq (.reg [oO 12 (.loadn 5 (.tmp 2)),
  oM 13 1,
  oO 14 (.call (.func 170) [(.tmp 12),(.tmp 13)]),
  oM 4 14,
  oO 5 (.mv (oK 0))])
 .ret)))⟩
theorem s141:compFn Try.prog Try.f141=some c141:=by kernel_rfl
def c142:XFn:=
 ⟨[.tmp 4,.tmp 5],
 (.seq (.reg [oO 2 (.box 26 (.tmp 0)),
  oO 4 (.mv (.const (.slice none 0 0))),
  oO 5 (.mv (oK 0))])
 (.seq (.seq (.reg [oO 7 (.loadn 5 (.tmp 2)),
  oO 8 (.call (.func 261) [(.tmp 7)]),
  oM 6 8])
 (.seq (.reg [oM 9 6,
  oO 10 (.bin .neq (.tmp 9) (oK 0))])
 (.cond (.tmp 10) (.seq (.reg [oM 11 6,
  oO 4 (.mv (.const (.slice none 0 0))),
  oM 5 11])
 .ret) .skip)))
 (.seq (.reg [oO 12 (.loadn 5 (.tmp 2)),
  oM 13 1,
  oO 14 (.call (.func 262) [(.tmp 12),(.tmp 13)]),
  oM 4 14,
  oO 5 (.mv (oK 0))])
 .ret)))⟩
theorem s142:compFn Try.prog Try.f142=some c142:=by kernel_rfl
def c143:XFn:=
 ⟨[.tmp 4,.tmp 5],
 (.seq (.reg [oO 2 (.box 26 (.tmp 0)),
  oO 4 (.mv (.const (.slice none 0 0))),
  oO 5 (.mv (oK 0))])
 (.seq (.seq (.reg [oO 10 (.loadn 5 (.tmp 2)),
  oO 11 (.call (.func 265) [(.tmp 10)]),
  oM 6 11])
 (.seq (.reg [oM 12 6,
  oO 13 (.bin .neq (.tmp 12) (oK 0))])
 (.cond (.tmp 13) (.seq (.reg [oM 14 6,
  oO 4 (.mv (.const (.slice none 0 0))),
  oM 5 14])
 .ret) .skip)))
 (.seq (.reg [oO 15 (.bslice 2 1 0 [.int .i64 0] []),
  oM 7 15])
 (.seq (.seq (.reg [oO 16 (.loadn 5 (.tmp 2)),
  oM 17 1,
  oO 18 (.call (.func 170) [(.tmp 16),(.tmp 17)]),
  oN 19 18,
  oO 20 (.mv (oK 0))])
 (.blk 0 (.loop (.seq (.reg [oO 21 (.bin .lss (.tmp 20) (.tmp 19))])
 (.seq (.cond (.tmp 21) .skip (.exit 0))
 (.seq (.blk 1 (.seq (.reg [oX 22 4 18 20,
  oO 23 (.loadn 4 (.tmp 22)),
  oO 9 (.alloc 70 [.int .i64 0,.int .i64 0,.slice none 0 0,.slice none 0 0]),
  oS (.store 4 (.tmp 9) (.tmp 23))])
 (.reg [oM 24 7,
  oF 25 2 9,
  oL 26 25,
  oN 27 26,
  oO 28 (.bslice 2 1 1 [.int .i64 0] [(0,1,(.tmp 27))]),
  oO 29 (.app 2 1 8 (.tmp 24) (.tmp 28)),
  oM 7 29])))
 (.reg [oO 30 (.bin .add (.tmp 20) (oK 1)),
  oM 20 30])))))))
 (.seq (.reg [oM 31 7,
  oM 4 31,
  oO 5 (.mv (oK 0))])
 .ret)))))⟩
theorem s143:compFn Try.prog Try.f143=some c143:=by kernel_rfl
def c144:XFn:=
 ⟨[.tmp 4,.tmp 5],
 (.seq (.reg [oO 2 (.box 26 (.tmp 0)),
  oO 4 (.mv (.const (.slice none 0 0))),
  oO 5 (.mv (oK 0))])
 (.seq (.seq (.reg [oO 10 (.loadn 5 (.tmp 2)),
  oO 11 (.call (.func 261) [(.tmp 10)]),
  oM 6 11])
 (.seq (.reg [oM 12 6,
  oO 13 (.bin .neq (.tmp 12) (oK 0))])
 (.cond (.tmp 13) (.seq (.reg [oM 14 6,
  oO 4 (.mv (.const (.slice none 0 0))),
  oM 5 14])
 .ret) .skip)))
 (.seq (.reg [oO 15 (.loadn 5 (.tmp 2)),
  oM 16 1,
  oO 17 (.call (.func 262) [(.tmp 15),(.tmp 16)]),
  oO 18 (.bslice 2 1 0 [.int .i64 0] []),
  oM 7 17,
  oM 8 18])
 (.seq (.seq (.reg [oO 9 (.mv (oK 0))])
 (.blk 0 (.loop (.seq (.seq (.reg [oM 19 9,
  oM 20 7,
  oN 21 20,
  oO 22 (.bin .lss (.tmp 19) (.tmp 21))])
 (.cond (.tmp 22) .skip (.exit 0)))
 (.seq (.blk 1 (.reg [oM 25 8,
  oM 26 7,
  oM 27 9,
  oX 28 4 26 27,
  oF 29 2 28,
  oL 30 29,
  oN 31 30,
  oO 32 (.bslice 2 1 1 [.int .i64 0] [(0,1,(.tmp 31))]),
  oO 33 (.app 2 1 8 (.tmp 25) (.tmp 32)),
  oM 8 33]))
 (.reg [oM 23 9,
  oO 24 (.bin .add (.tmp 23) (oK 1)),
  oM 9 24]))))))
 (.seq (.reg [oM 34 8,
  oM 4 34,
  oO 5 (.mv (oK 0))])
 .ret)))))⟩
theorem s144:compFn Try.prog Try.f144=some c144:=by kernel_rfl
def c145:XFn:=
 ⟨[.tmp 2],
 (.seq (.reg [oO 2 (.mv (.const (.pointer none)))])
 (.seq (.reg [oM 5 0,
  oM 6 0,
  oN 7 6,
  oO 8 (.conv .u64 (.tmp 7)),
  oO 9 (.bin .add (.const (.int .u64 12619)) (.tmp 8)),
  oO 10 (.build [.slice none 0 0,.int .i64 0,.int .u64 0] [(0,1,(.tmp 5)),(2,1,(.tmp 9))]),
  oO 11 (.box 220 (.tmp 10)),
  oM 3 11])
 (.seq (.seq (.reg [oO 4 (.mv (oK 0))])
 (.blk 0 (.loop (.seq (.seq (.reg [oM 12 4,
  oM 13 0,
  oN 14 13,
  oO 15 (.bin .lss (.tmp 12) (.tmp 14)),
  oM 16 15,
  oG 17 (.mv (.tmp 4)) 16 true,
  oG 18 (.bin .lss (.tmp 17) (oK 4096)) 16 true,
  oO 19 (.pick (.tmp 16) (.tmp 18) (.const (.bool false)))])
 (.cond (.tmp 19) .skip (.exit 0)))
 (.seq (.blk 1 (.reg [oM 22 3,
  oM 23 3,
  oO 24 (.nchk (.tmp 23)),
  oF 25 2 24,
  oL 26 25,
  oO 27 (.bin .mul (.tmp 26) (.const (.int .u64 1099511628211))),
  oM 28 0,
  oM 29 4,
  oX 30 1 28 29,
  oL 31 30,
  oO 32 (.conv .u64 (.tmp 31)),
  oO 33 (.bin .add (.tmp 27) (.tmp 32)),
  oO 34 (.bin .add (.tmp 33) (.const (.int .u64 79))),
  oO 35 (.nchk (.tmp 22)),
  oF 36 2 35,
  oS (.store 1 (.tmp 36) (.tmp 34))]))
 (.reg [oM 20 4,
  oO 21 (.bin .add (.tmp 20) (oK 1)),
  oM 4 21]))))))
 (.seq (.reg [oM 37 3,
  oM 2 37])
 .ret))))⟩
theorem s145:compFn Try.prog Try.f145=some c145:=by kernel_rfl
def c147:XFn:=
 ⟨[.tmp 4],
 (.seq (.reg [oO 4 (.mv (oK 0))])
 (.seq (.reg [oM 5 1,
  oM 6 0,
  oM 7 1,
  oN 8 7,
  oO 9 (.call (.func 148) [(.tmp 6),(.tmp 8)]),
  oX 10 1 5 9,
  oL 11 10,
  oM 4 11])
 .ret))⟩
theorem s147:compFn Try.prog Try.f147=some c147:=by kernel_rfl
def c148:XFn:=
 ⟨[.tmp 4],
 (.seq (.reg [oO 4 (.mv (oK 0))])
 (.seq (.seq (.reg [oM 6 1,
  oO 7 (.bin .lss (.tmp 6) (oK 1))])
 (.cond (.tmp 7) (.seq (.reg [oO 4 (.mv (oK 0))])
 .ret) .skip))
 (.seq (.reg [oM 8 0,
  oM 9 0,
  oO 10 (.nchk (.tmp 9)),
  oF 11 2 10,
  oL 12 11,
  oO 13 (.bin .mul (.tmp 12) (.const (.int .u64 6364136223846793005))),
  oO 14 (.bin .add (.tmp 13) (.const (.int .u64 1442695040888963407))),
  oO 15 (.nchk (.tmp 8)),
  oF 16 2 15,
  oS (.store 1 (.tmp 16) (.tmp 14))])
 (.seq (.reg [oM 17 0,
  oO 18 (.nchk (.tmp 17)),
  oF 19 2 18,
  oL 20 19,
  oO 21 (.bin .shr (.tmp 20) (.const (.int .u64 33))),
  oO 22 (.bin .and (.tmp 21) (.const (.int .u64 16777215))),
  oO 23 (.conv .i64 (.tmp 22)),
  oM 5 23])
 (.seq (.seq (.reg [oM 24 0,
  oO 25 (.nchk (.tmp 24)),
  oF 26 1 25,
  oL 27 26,
  oM 28 0,
  oO 29 (.nchk (.tmp 28)),
  oF 30 0 29,
  oL 31 30,
  oN 32 31,
  oO 33 (.bin .lss (.tmp 27) (.tmp 32))])
 (.cond (.tmp 33) (.seq (.reg [oM 34 5,
  oM 35 0,
  oO 36 (.nchk (.tmp 35)),
  oF 37 0 36,
  oL 38 37,
  oM 39 0,
  oO 40 (.nchk (.tmp 39)),
  oF 41 1 40,
  oL 42 41,
  oX 43 1 38 42,
  oL 44 43,
  oO 45 (.conv .i64 (.tmp 44)),
  oO 46 (.bin .add (.tmp 34) (.tmp 45)),
  oM 5 46])
 (.reg [oM 47 0,
  oM 48 0,
  oO 49 (.nchk (.tmp 48)),
  oF 50 1 49,
  oL 51 50,
  oO 52 (.bin .add (.tmp 51) (oK 1)),
  oO 53 (.nchk (.tmp 47)),
  oF 54 1 53,
  oS (.store 1 (.tmp 54) (.tmp 52))])) .skip))
 (.seq (.reg [oM 55 5,
  oM 56 1,
  oO 57 (.bin .rem (.tmp 55) (.tmp 56)),
  oM 4 57])
 .ret))))))⟩
theorem s148:compFn Try.prog Try.f148=some c148:=by kernel_rfl
def c149:XFn:=
 ⟨[.tmp 2],
 (.seq (.reg [oO 1 (.box 26 (.tmp 0)),
  oO 2 (.mv (.const (.bool false)))])
 (.seq (.seq (.reg [oF 5 0 1,
  oL 6 5,
  oO 7 (.call (.func 166) [(.tmp 6)]),
  oO 8 (.un .not (.tmp 7)),
  oM 9 8,
  oG 10 (.fadr 1 (.tmp 1)) 9 false,
  oG 11 (.load1 (.tmp 10)) 9 false,
  oG 12 (.fadr 2 (.tmp 1)) 9 false,
  oG 13 (.load1 (.tmp 12)) 9 false,
  oG 14 (.fadr 3 (.tmp 1)) 9 false,
  oG 15 (.load1 (.tmp 14)) 9 false,
  oG 16 (.bslice 2 1 3 [.int .i64 0] [(0,1,(.tmp 11)),(1,1,(.tmp 13)),(2,1,(.tmp 15))]) 9 false,
  oG 17 (.call (.func 167) [(.tmp 16)]) 9 false,
  oG 18 (.un .not (.tmp 17)) 9 false,
  oO 19 (.pick (.tmp 9) (.const (.bool true)) (.tmp 18)),
  oM 20 19,
  oG 21 (.fadr 4 (.tmp 1)) 20 false,
  oG 22 (.load1 (.tmp 21)) 20 false,
  oG 23 (.len (.tmp 22)) 20 false,
  oG 24 (.bin .gtr (.tmp 23) (oK 30)) 20 false,
  oO 25 (.pick (.tmp 20) (.const (.bool true)) (.tmp 24))])
 (.cond (.tmp 25) (.seq (.reg [oO 2 (.mv (.const (.bool false)))])
 .ret) .skip))
 (.seq (.seq (.reg [oF 26 4 1,
  oL 27 26,
  oN 28 27,
  oO 29 (.mv (oK 0))])
 (.blk 0 (.loop (.seq (.reg [oO 30 (.bin .lss (.tmp 29) (.tmp 28))])
 (.seq (.cond (.tmp 30) .skip (.exit 0))
 (.seq (.blk 1 (.seq (.reg [oX 31 27 27 29,
  oO 32 (.loadn 27 (.tmp 31)),
  oO 4 (.alloc 138 [.int .u8 0,.int .u8 0,.int .u8 0,.int .u8 0,.int .u8 0,.int .u8 0,.int .u8 0,.int .u8 0,.int .u8 0,.int .u8 0,.int .u8 0,.int .u8 0,.int .u8 0,.int .u8 0,.int .u8 0,.int .u8 0,.int .u8 0,.int .u8 0,.int .u8 0,.int .u8 0,.int .u8 0,.int .u8 0,.int .u8 0,.int .u8 0,.int .u8 0,.int .u8 0,.int .u8 0]),
  oS (.store 27 (.tmp 4) (.tmp 32))])
 (.seq (.reg [oF 33 0 1,
  oL 34 33,
  oO 35 (.loadn 5 (.tmp 1)),
  ⟨some 36,.call (.func 271) [(.tmp 35)],none,.t⟩,
  oO 37 (.loadn 27 (.tmp 4)),
  oO 38 (.call (.func 270) [(.tmp 34),(.tmp 36),(.tmp 37)]),
  oO 39 (.un .not (.tmp 38))])
 (.cond (.tmp 39) (.seq (.reg [oO 2 (.mv (.const (.bool false)))])
 .ret) .skip))))
 (.reg [oO 40 (.bin .add (.tmp 29) (oK 1)),
  oM 29 40])))))))
 (.seq (.reg [oO 2 (.mv (.const (.bool true)))])
 .ret))))⟩
theorem s149:compFn Try.prog Try.f149=some c149:=by kernel_rfl
def c154:XFn:=
 ⟨[.tmp 2],
 (.seq (.reg [oO 1 (.box 26 (.tmp 0)),
  oO 2 (.mv (.const (.bool false)))])
 (.seq (.seq (.reg [oF 4 0 1,
  oL 5 4,
  oF 6 1 1,
  oL 7 6,
  oF 8 2 1,
  oL 9 8,
  oF 10 3 1,
  oL 11 10,
  oO 12 (.call (.func 275) [(.tmp 5),(.tmp 7),(.tmp 9),(.tmp 11)]),
  oO 13 (.un .not (.tmp 12)),
  oM 14 13,
  oG 15 (.fadr 4 (.tmp 1)) 14 false,
  oG 16 (.load1 (.tmp 15)) 14 false,
  oG 17 (.len (.tmp 16)) 14 false,
  oG 18 (.bin .gtr (.tmp 17) (oK 30)) 14 false,
  oO 19 (.pick (.tmp 14) (.const (.bool true)) (.tmp 18))])
 (.cond (.tmp 19) (.seq (.reg [oO 2 (.mv (.const (.bool false)))])
 .ret) .skip))
 (.seq (.seq (.reg [oO 3 (.mv (oK 0))])
 (.blk 0 (.loop (.seq (.seq (.reg [oM 20 3,
  oF 21 4 1,
  oL 22 21,
  oN 23 22,
  oO 24 (.bin .lss (.tmp 20) (.tmp 23))])
 (.cond (.tmp 24) .skip (.exit 0)))
 (.seq (.blk 1 (.seq (.reg [oO 27 (.loadn 5 (.tmp 1)),
  oF 28 4 1,
  oL 29 28,
  oM 30 3,
  oX 31 27 29 30,
  oO 32 (.loadn 27 (.tmp 31)),
  oO 33 (.call (.func 276) [(.tmp 27),(.tmp 32)]),
  oO 34 (.un .not (.tmp 33))])
 (.cond (.tmp 34) (.seq (.reg [oO 2 (.mv (.const (.bool false)))])
 .ret) .skip)))
 (.reg [oM 25 3,
  oO 26 (.bin .add (.tmp 25) (oK 1)),
  oM 3 26]))))))
 (.seq (.reg [oO 2 (.mv (.const (.bool true)))])
 .ret))))⟩
theorem s154:compFn Try.prog Try.f154=some c154:=by kernel_rfl
def c162:XFn:=
 ⟨[.tmp 6],
 (.seq (.reg [oO 3 (.box 26 (.tmp 0)),
  oO 6 (.mv (oK 0))])
 (.seq (.blk 0 (.seq (.reg [oO 8 (.loadn 5 (.tmp 3)),
  oO 9 (.call (.func 149) [(.tmp 8)]),
  oO 10 (.un .not (.tmp 9)),
  oM 7 10])
 (.cond (.tmp 7) (.seq (.reg [oO 6 (.mv (oK 1))])
 .ret) (.seq (.reg [oF 12 0 3,
  oL 13 12,
  oF 14 1 3,
  oL 15 14,
  oF 16 2 3,
  oL 17 16,
  oM 18 1,
  oO 19 (.call (.func 168) [(.tmp 13),(.tmp 15),(.tmp 17),(.tmp 18)]),
  oO 20 (.un .not (.tmp 19)),
  oM 21 20,
  oG 22 (.fadr 0 (.tmp 3)) 21 false,
  oG 23 (.load1 (.tmp 22)) 21 false,
  oG 24 (.fadr 2 (.tmp 3)) 21 false,
  oG 25 (.load1 (.tmp 24)) 21 false,
  oG 26 (.fadr 3 (.tmp 3)) 21 false,
  oG 27 (.load1 (.tmp 26)) 21 false,
  oG 28 (.mv (.tmp 2)) 21 false,
  oG 29 (.call (.func 168) [(.tmp 23),(.tmp 25),(.tmp 27),(.tmp 28)]) 21 false,
  oG 30 (.un .not (.tmp 29)) 21 false,
  oO 31 (.pick (.tmp 21) (.const (.bool true)) (.tmp 30)),
  oM 11 31])
 (.cond (.tmp 11) (.seq (.reg [oO 6 (.mv (oK 2))])
 .ret) .skip)))))
 (.seq (.reg [oO 6 (.mv (oK 0))])
 .ret)))⟩
theorem s162:compFn Try.prog Try.f162=some c162:=by kernel_rfl
def c163:XFn:=
 ⟨[.tmp 4],
 (.seq (.reg [oO 4 (.mv (.const (.slice none 0 0)))])
 (.seq (.reg [oO 7 (.bslice 27 1 0 [.slice none 0 0] []),
  oM 5 7])
 (.seq (.seq (.reg [oO 6 (.mv (oK 0))])
 (.blk 0 (.loop (.seq (.seq (.reg [oM 8 6,
  oM 9 0,
  oN 10 9,
  oO 11 (.bin .lss (.tmp 8) (.tmp 10))])
 (.cond (.tmp 11) .skip (.exit 0)))
 (.seq (.blk 1 (.reg [oM 15 5,
  oM 16 0,
  oM 17 6,
  oM 18 6,
  oM 19 1,
  oO 20 (.bin .add (.tmp 18) (.tmp 19)),
  oO 21 (.slc 1 (.tmp 16) (some (.tmp 17)) (some (.tmp 20))),
  oO 22 (.call (.func 285) [(.tmp 21)]),
  oO 23 (.bslice 27 1 1 [.slice none 0 0] [(0,1,(.tmp 22))]),
  oO 24 (.app 27 1 24 (.tmp 15) (.tmp 23)),
  oM 5 24]))
 (.reg [oM 12 6,
  oM 13 1,
  oO 14 (.bin .add (.tmp 12) (.tmp 13)),
  oM 6 14]))))))
 (.seq (.reg [oM 25 5,
  oM 4 25])
 .ret))))⟩
theorem s163:compFn Try.prog Try.f163=some c163:=by kernel_rfl
def c164:XFn:=
 ⟨[.tmp 10],
 (.seq (.reg [oO 10 (.mv (.const (.slice none 0 0)))])
 (.seq (.reg [oM 16 2,
  oO 17 (.mks 2 1 8 [.int .i64 0] (.tmp 16)),
  oM 11 17])
 (.seq (.seq (.reg [oM 18 1,
  oN 19 18,
  oO 20 (.mv (oK 0))])
 (.blk 0 (.loop (.seq (.reg [oO 21 (.bin .lss (.tmp 20) (.tmp 19))])
 (.seq (.cond (.tmp 21) .skip (.exit 0))
 (.seq (.blk 1 (.seq (.reg [oX 22 27 18 20,
  oO 23 (.loadn 27 (.tmp 22)),
  oO 13 (.alloc 138 [.int .u8 0,.int .u8 0,.int .u8 0,.int .u8 0,.int .u8 0,.int .u8 0,.int .u8 0,.int .u8 0,.int .u8 0,.int .u8 0,.int .u8 0,.int .u8 0,.int .u8 0,.int .u8 0,.int .u8 0,.int .u8 0,.int .u8 0,.int .u8 0,.int .u8 0,.int .u8 0,.int .u8 0,.int .u8 0,.int .u8 0,.int .u8 0,.int .u8 0,.int .u8 0,.int .u8 0]),
  oS (.store 27 (.tmp 13) (.tmp 23))])
 (.seq (.reg [oM 24 0,
  oF 25 0 13,
  oO 26 (.loadn 9 (.tmp 25)),
  oM 27 3,
  ⟨some 28,.call (.func 286) [(.tmp 24),(.tmp 26),(.tmp 27)],none,.t⟩,
  oM 29 0,
  oF 30 9 13,
  oO 31 (.loadn 9 (.tmp 30)),
  oM 32 4,
  oO 33 (.call (.func 286) [(.tmp 29),(.tmp 31),(.tmp 32)]),
  oO 34 (.bin .mul (.tmp 28) (.tmp 33)),
  oM 14 34])
 (.seq (.reg [oM 35 11,
  oN 36 35,
  oO 37 (.mv (oK 0))])
 (.blk 2 (.loop (.seq (.reg [oO 38 (.bin .lss (.tmp 37) (.tmp 36))])
 (.seq (.cond (.tmp 38) .skip (.exit 2))
 (.seq (.blk 3 (.seq (.reg [oM 39 37,
  oM 15 39])
 (.reg [oM 40 11,
  oM 41 15,
  oM 42 11,
  oM 43 15,
  oX 44 1 42 43,
  oL 45 44,
  oM 46 15,
  oF 47 18 13,
  oO 48 (.ixa 9 1 (.tmp 47) (.tmp 46)),
  oL 49 48,
  oO 50 (.conv .i64 (.tmp 49)),
  oM 51 14,
  oO 52 (.bin .mul (.tmp 50) (.tmp 51)),
  oO 53 (.bin .add (.tmp 45) (.tmp 52)),
  oM 54 0,
  oO 55 (.bin .rem (.tmp 53) (.tmp 54)),
  oX 56 1 40 41,
  oS (.store 1 (.tmp 56) (.tmp 55))])))
 (.reg [oO 57 (.bin .add (.tmp 37) (oK 1)),
  oM 37 57]))))))))))
 (.reg [oO 58 (.bin .add (.tmp 20) (oK 1)),
  oM 20 58])))))))
 (.seq (.reg [oM 59 11,
  oM 10 59])
 .ret))))⟩
theorem s164:compFn Try.prog Try.f164=some c164:=by kernel_rfl
def c165:XFn:=
 ⟨[.tmp 2],
 (.seq (.reg [oO 2 (.mv (.const (.slice none 0 0)))])
 (.seq (.reg [oO 3 (.mv (oK 0))])
 (.seq (.seq (.reg [oM 9 0,
  oN 10 9,
  oO 11 (.mv (oK 0))])
 (.blk 0 (.loop (.seq (.reg [oO 12 (.bin .lss (.tmp 11) (.tmp 10))])
 (.seq (.cond (.tmp 12) .skip (.exit 0))
 (.seq (.blk 1 (.seq (.reg [oX 13 1 9 11,
  oL 14 13,
  oM 5 14])
 (.seq (.reg [oM 15 3,
  oM 16 5,
  oN 17 16,
  oO 18 (.bin .add (.tmp 15) (.tmp 17)),
  oM 3 18])
 (.seq (.reg [oM 19 3,
  oO 20 (.bin .lss (.tmp 19) (oK 0))])
 (.cond (.tmp 20) (.reg [oO 21 (.fail),
  oS (.fail)]) .skip)))))
 (.reg [oO 22 (.bin .add (.tmp 11) (oK 1)),
  oM 11 22])))))))
 (.seq (.reg [oM 23 3,
  oO 24 (.call (.func 287) [(.const (.slice none 0 0)),(.tmp 23)]),
  oM 6 24])
 (.seq (.seq (.reg [oM 25 0,
  oN 26 25,
  oO 27 (.mv (oK 0))])
 (.blk 2 (.loop (.seq (.reg [oO 28 (.bin .lss (.tmp 27) (.tmp 26))])
 (.seq (.cond (.tmp 28) .skip (.exit 2))
 (.seq (.blk 3 (.seq (.reg [oX 29 1 25 27,
  oL 30 29,
  oM 8 30])
 (.reg [oM 31 6,
  oM 32 8,
  oO 33 (.app 2 1 8 (.tmp 31) (.tmp 32)),
  oM 6 33])))
 (.reg [oO 34 (.bin .add (.tmp 27) (oK 1)),
  oM 27 34])))))))
 (.seq (.reg [oM 35 6,
  oM 2 35])
 .ret))))))⟩
theorem s165:compFn Try.prog Try.f165=some c165:=by kernel_rfl
def c166:XFn:=
 ⟨[.tmp 2],
 (.seq (.reg [oO 2 (.mv (.const (.bool false)))])
 (.seq (.reg [oM 3 0,
  oO 4 (.bin .eql (.tmp 3) (oK 2)),
  oM 5 4,
  oG 6 (.mv (.tmp 0)) 5 false,
  oG 7 (.bin .eql (.tmp 6) (oK 3)) 5 false,
  oO 8 (.pick (.tmp 5) (.const (.bool true)) (.tmp 7)),
  oM 9 8,
  oG 10 (.mv (.tmp 0)) 9 false,
  oG 11 (.bin .eql (.tmp 10) (oK 5)) 9 false,
  oO 12 (.pick (.tmp 9) (.const (.bool true)) (.tmp 11)),
  oM 2 12])
 .ret))⟩
theorem s166:compFn Try.prog Try.f166=some c166:=by kernel_rfl
def c167:XFn:=
 ⟨[.tmp 2],
 (.seq (.reg [oO 2 (.mv (.const (.bool false)))])
 (.seq (.seq (.reg [oM 5 0,
  oN 6 5,
  oO 7 (.mv (oK 0))])
 (.blk 0 (.loop (.seq (.reg [oO 8 (.bin .lss (.tmp 7) (.tmp 6))])
 (.seq (.cond (.tmp 8) .skip (.exit 0))
 (.seq (.blk 1 (.seq (.reg [oX 9 1 5 7,
  oL 10 9,
  oM 4 10])
 (.seq (.reg [oM 11 4,
  oO 12 (.bin .lss (.tmp 11) (oK 1)),
  oM 13 12,
  oG 14 (.mv (.tmp 4)) 13 false,
  oG 15 (.bin .gtr (.tmp 14) (oK 3)) 13 false,
  oO 16 (.pick (.tmp 13) (.const (.bool true)) (.tmp 15))])
 (.cond (.tmp 16) (.seq (.reg [oO 2 (.mv (.const (.bool false)))])
 .ret) .skip))))
 (.reg [oO 17 (.bin .add (.tmp 7) (oK 1)),
  oM 7 17])))))))
 (.seq (.reg [oO 2 (.mv (.const (.bool true)))])
 .ret)))⟩
theorem s167:compFn Try.prog Try.f167=some c167:=by kernel_rfl
def c168:XFn:=
 ⟨[.tmp 8],
 (.seq (.reg [oO 8 (.mv (.const (.bool false)))])
 (.seq (.seq (.reg [oM 11 3,
  oN 12 11,
  oO 13 (.mv (oK 0))])
 (.blk 0 (.loop (.seq (.reg [oO 14 (.bin .lss (.tmp 13) (.tmp 12))])
 (.seq (.cond (.tmp 14) .skip (.exit 0))
 (.seq (.blk 1 (.seq (.reg [oX 15 1 11 13,
  oL 16 15,
  oM 10 16])
 (.seq (.reg [oM 17 10,
  oN 18 17,
  oM 19 2,
  oO 20 (.bin .neq (.tmp 18) (.tmp 19)),
  oM 21 20,
  oG 22 (.mv (.tmp 0)) 21 false,
  oG 23 (.mv (.tmp 10)) 21 false,
  oG 24 (.call (.func 184) [(.tmp 22),(.tmp 23)]) 21 false,
  oG 25 (.un .not (.tmp 24)) 21 false,
  oO 26 (.pick (.tmp 21) (.const (.bool true)) (.tmp 25))])
 (.cond (.tmp 26) (.seq (.reg [oO 8 (.mv (.const (.bool false)))])
 .ret) .skip))))
 (.reg [oO 27 (.bin .add (.tmp 13) (oK 1)),
  oM 13 27])))))))
 (.seq (.reg [oM 28 3,
  oN 29 28,
  oM 30 1,
  oO 31 (.bin .eql (.tmp 29) (.tmp 30)),
  oM 8 31])
 .ret)))⟩
theorem s168:compFn Try.prog Try.f168=some c168:=by kernel_rfl
def c170:XFn:=
 ⟨[.tmp 4],
 (.seq (.reg [oO 2 (.box 26 (.tmp 0)),
  oO 3 (.box 4 (.tmp 1)),
  oO 4 (.mv (.const (.slice none 0 0)))])
 (.seq (.reg [oO 8 (.loadn 5 (.tmp 2)),
  oO 9 (.call (.func 271) [(.tmp 8)]),
  oO 10 (.bslice 70 4 0 [.int .i64 0,.int .i64 0,.slice none 0 0,.slice none 0 0] []),
  oO 5 (.alloc 158 [.int .i64 0,.int .i64 0,.int .i64 0]),
  oO 6 (.alloc 124 [.slice none 0 0]),
  oS (.store 3 (.tmp 5) (.tmp 9)),
  oS (.store 1 (.tmp 6) (.tmp 10))])
 (.seq (.reg [oO 11 (.mkf 288 [(.tmp 3),(.tmp 6),(.tmp 2)]),
  oM 7 11])
 (.seq (.reg [oM 12 7,
  oO 13 (.ixa 3 1 (.tmp 5) (oK 0)),
  oL 14 13,
  oO 15 (.loadn 5 (.tmp 2)),
  oO 16 (.ixa 3 1 (.tmp 5) (oK 0)),
  oL 17 16,
  ⟨some 18,.call (.func 289) [(.tmp 15),(oK 0),(.tmp 17)],none,.t⟩,
  oO 19 (.call (.tmp 12) [(.tmp 14),(.tmp 18)])])
 (.seq (.reg [oM 20 7,
  oO 21 (.ixa 3 1 (.tmp 5) (oK 1)),
  oL 22 21,
  oO 23 (.loadn 5 (.tmp 2)),
  oO 24 (.ixa 3 1 (.tmp 5) (oK 1)),
  oL 25 24,
  ⟨some 26,.call (.func 289) [(.tmp 23),(oK 1),(.tmp 25)],none,.t⟩,
  oO 27 (.call (.tmp 20) [(.tmp 22),(.tmp 26)])])
 (.seq (.reg [oM 28 7,
  oF 29 4 2,
  oL 30 29,
  oN 31 30,
  oO 32 (.loadn 5 (.tmp 2)),
  oO 33 (.ixa 3 1 (.tmp 5) (oK 2)),
  oL 34 33,
  ⟨some 35,.call (.func 289) [(.tmp 32),(oK 2),(.tmp 34)],none,.t⟩,
  ⟨some 36,.call (.func 208) [(.tmp 35)],none,.t⟩,
  oO 37 (.call (.tmp 28) [(.tmp 31),(.tmp 36)])])
 (.seq (.reg [oL 38 6,
  oM 4 38])
 .ret)))))))⟩
theorem s170:compFn Try.prog Try.f170=some c170:=by kernel_rfl
def c171:XFn:=
 ⟨[.tmp 4],
 (.seq (.reg [oO 2 (.box 70 (.tmp 0)),
  oO 4 (.mv (.const (.slice none 0 0)))])
 (.seq (.reg [oM 11 1,
  oO 12 (.call (.func 285) [(.tmp 11)]),
  oM 5 12])
 (.seq (.seq (.reg [oF 13 2 2,
  oL 14 13,
  oN 15 14,
  oO 16 (.mv (oK 0))])
 (.blk 0 (.loop (.seq (.reg [oO 17 (.bin .lss (.tmp 16) (.tmp 15))])
 (.seq (.cond (.tmp 17) .skip (.exit 0))
 (.seq (.blk 1 (.seq (.reg [oX 18 3 14 16,
  oO 19 (.loadn 3 (.tmp 18)),
  oO 7 (.alloc 181 [.int .i64 0,.int .i64 0,.int .i64 0]),
  oS (.store 3 (.tmp 7) (.tmp 19))])
 (.reg [oM 20 5,
  oM 21 5,
  oF 22 0 7,
  oL 23 22,
  oX 24 1 21 23,
  oL 25 24,
  oF 26 2 7,
  oL 27 26,
  oM 28 5,
  oF 29 1 7,
  oL 30 29,
  oX 31 1 28 30,
  oL 32 31,
  oO 33 (.bin .mul (.tmp 27) (.tmp 32)),
  oO 34 (.bin .add (.tmp 25) (.tmp 33)),
  oF 35 0 2,
  oL 36 35,
  oO 37 (.bin .rem (.tmp 34) (.tmp 36)),
  oO 38 (.bslice 2 1 1 [.int .i64 0] [(0,1,(.tmp 37))]),
  oO 39 (.app 2 1 8 (.tmp 20) (.tmp 38)),
  oM 5 39])))
 (.reg [oO 40 (.bin .add (.tmp 16) (oK 1)),
  oM 16 40])))))))
 (.seq (.reg [oO 41 (.bslice 2 1 0 [.int .i64 0] []),
  oM 8 41])
 (.seq (.seq (.reg [oF 42 3 2,
  oL 43 42,
  oN 44 43,
  oO 45 (.mv (oK 0))])
 (.blk 2 (.loop (.seq (.reg [oO 46 (.bin .lss (.tmp 45) (.tmp 44))])
 (.seq (.cond (.tmp 46) .skip (.exit 2))
 (.seq (.blk 3 (.seq (.reg [oX 47 2 43 45,
  oO 48 (.loadn 2 (.tmp 47)),
  oO 10 (.alloc 183 [.int .i64 0,.int .i64 0]),
  oS (.store 2 (.tmp 10) (.tmp 48))])
 (.reg [oM 49 8,
  oF 50 1 10,
  oL 51 50,
  oM 52 5,
  oF 53 0 10,
  oL 54 53,
  oX 55 1 52 54,
  oL 56 55,
  oO 57 (.bin .mul (.tmp 51) (.tmp 56)),
  oF 58 0 2,
  oL 59 58,
  oO 60 (.bin .rem (.tmp 57) (.tmp 59)),
  oO 61 (.bslice 2 1 1 [.int .i64 0] [(0,1,(.tmp 60))]),
  oO 62 (.app 2 1 8 (.tmp 49) (.tmp 61)),
  oM 8 62])))
 (.reg [oO 63 (.bin .add (.tmp 45) (oK 1)),
  oM 45 63])))))))
 (.seq (.reg [oM 64 8,
  oM 4 64])
 .ret))))))⟩
theorem s171:compFn Try.prog Try.f171=some c171:=by kernel_rfl
def c181:XFn:=
 ⟨[.tmp 6],
 (.seq (.reg [oO 6 (.mv (.const (.bool false)))])
 (.seq (.reg [oM 7 0,
  oM 8 1,
  oO 9 (.bin .geq (.tmp 7) (.tmp 8)),
  oM 10 9,
  oG 11 (.mv (.tmp 0)) 10 true,
  oG 12 (.mv (.tmp 2)) 10 true,
  oG 13 (.bin .leq (.tmp 11) (.tmp 12)) 10 true,
  oO 14 (.pick (.tmp 10) (.tmp 13) (.const (.bool false))),
  oM 6 14])
 .ret))⟩
theorem s181:compFn Try.prog Try.f181=some c181:=by kernel_rfl
def c184:XFn:=
 ⟨[.tmp 4],
 (.seq (.reg [oO 4 (.mv (.const (.bool false)))])
 (.seq (.seq (.reg [oM 7 1,
  oN 8 7,
  oO 9 (.mv (oK 0))])
 (.blk 0 (.loop (.seq (.reg [oO 10 (.bin .lss (.tmp 9) (.tmp 8))])
 (.seq (.cond (.tmp 10) .skip (.exit 0))
 (.seq (.blk 1 (.seq (.reg [oX 11 1 7 9,
  oL 12 11,
  oM 6 12])
 (.seq (.reg [oM 13 6,
  oO 14 (.bin .lss (.tmp 13) (oK 0)),
  oM 15 14,
  oG 16 (.mv (.tmp 6)) 15 false,
  oG 17 (.mv (.tmp 0)) 15 false,
  oG 18 (.bin .geq (.tmp 16) (.tmp 17)) 15 false,
  oO 19 (.pick (.tmp 15) (.const (.bool true)) (.tmp 18))])
 (.cond (.tmp 19) (.seq (.reg [oO 4 (.mv (.const (.bool false)))])
 .ret) .skip))))
 (.reg [oO 20 (.bin .add (.tmp 9) (oK 1)),
  oM 9 20])))))))
 (.seq (.reg [oO 4 (.mv (.const (.bool true)))])
 .ret)))⟩
theorem s184:compFn Try.prog Try.f184=some c184:=by kernel_rfl
def c196:XFn:=
 ⟨[.celln 2 27],
 (.seq (.reg [oO 1 (.box 138 (.tmp 0)),
  oO 2 (.alloc 172 [.int .u8 0,.int .u8 0,.int .u8 0,.int .u8 0,.int .u8 0,.int .u8 0,.int .u8 0,.int .u8 0,.int .u8 0,.int .u8 0,.int .u8 0,.int .u8 0,.int .u8 0,.int .u8 0,.int .u8 0,.int .u8 0,.int .u8 0,.int .u8 0,.int .u8 0,.int .u8 0,.int .u8 0,.int .u8 0,.int .u8 0,.int .u8 0,.int .u8 0,.int .u8 0,.int .u8 0])])
 (.seq (.reg [oF 3 0 1,
  oO 4 (.loadn 9 (.tmp 3)),
  oF 5 9 1,
  oO 6 (.loadn 9 (.tmp 5)),
  oF 7 18 1,
  oO 8 (.loadn 9 (.tmp 7)),
  oO 9 (.build [.int .u8 0,.int .u8 0,.int .u8 0,.int .u8 0,.int .u8 0,.int .u8 0,.int .u8 0,.int .u8 0,.int .u8 0,.int .u8 0,.int .u8 0,.int .u8 0,.int .u8 0,.int .u8 0,.int .u8 0,.int .u8 0,.int .u8 0,.int .u8 0,.int .u8 0,.int .u8 0,.int .u8 0,.int .u8 0,.int .u8 0,.int .u8 0,.int .u8 0,.int .u8 0,.int .u8 0] [(0,9,(.tmp 4)),(9,9,(.tmp 6)),(18,9,(.tmp 8))]),
  oS (.store 27 (.tmp 2) (.tmp 9))])
 .ret))⟩
theorem s196:compFn Try.prog Try.f196=some c196:=by kernel_rfl
def c201:XFn:=
 ⟨[.tmp 2,.tmp 3,.tmp 4],
 (.seq (.reg [oO 2 (.mv (oK 0)),
  oO 3 (.mv (oK 0)),
  oO 4 (.mv (.const (.slice none 0 0)))])
 (.seq (.reg [oM 12 0,
  oO 13 (.bslice 2 1 4 [.int .i64 0] [(0,1,(oK 2)),(1,1,(oK 2)),(2,1,(oK 3)),(3,1,(oK 5))]),
  oO 14 (.call (.func 147) [(.tmp 12),(.tmp 13)]),
  oM 15 0,
  oO 16 (.bslice 2 1 6 [.int .i64 0] [(0,1,(oK 2)),(1,1,(oK 3)),(2,1,(oK 4)),(3,1,(oK 4)),(4,1,(oK 6)),(5,1,(oK 9))]),
  oO 17 (.call (.func 147) [(.tmp 15),(.tmp 16)]),
  oO 18 (.bslice 27 1 0 [.slice none 0 0] []),
  oM 5 14,
  oM 6 17,
  oM 7 18])
 (.seq (.seq (.reg [oM 19 0,
  oO 20 (.bslice 2 1 5 [.int .i64 0] [(0,1,(oK 1)),(1,1,(oK 2)),(2,1,(oK 3)),(3,1,(oK 4)),(4,1,(oK 7))]),
  oO 21 (.call (.func 147) [(.tmp 19),(.tmp 20)]),
  oM 8 21])
 (.blk 0 (.loop (.seq (.seq (.reg [oM 22 8,
  oO 23 (.bin .gtr (.tmp 22) (oK 0))])
 (.cond (.tmp 23) .skip (.exit 0)))
 (.seq (.blk 1 (.seq (.reg [oO 26 (.bslice 2 1 0 [.int .i64 0] []),
  oM 9 26])
 (.seq (.seq (.reg [oO 10 (.mv (oK 0))])
 (.blk 2 (.loop (.seq (.seq (.reg [oM 27 10,
  oM 28 6,
  oO 29 (.bin .lss (.tmp 27) (.tmp 28))])
 (.cond (.tmp 29) .skip (.exit 2)))
 (.seq (.blk 3 (.reg [oM 32 9,
  oM 33 0,
  oM 34 5,
  oO 35 (.call (.func 148) [(.tmp 33),(.tmp 34)]),
  oM 36 0,
  oO 37 (.call (.func 148) [(.tmp 36),(oK 2)]),
  oO 38 (.bin .mul (.tmp 35) (.tmp 37)),
  oO 39 (.bslice 2 1 1 [.int .i64 0] [(0,1,(.tmp 38))]),
  oO 40 (.app 2 1 8 (.tmp 32) (.tmp 39)),
  oM 9 40]))
 (.reg [oM 30 10,
  oO 31 (.bin .add (.tmp 30) (oK 1)),
  oM 10 31]))))))
 (.seq (.seq (.reg [oM 41 7,
  oN 42 41,
  oO 43 (.bin .gtr (.tmp 42) (oK 0)),
  oM 44 43,
  oG 45 (.mv (.tmp 0)) 44 true,
  oG 46 (.call (.func 148) [(.tmp 45),(oK 3)]) 44 true,
  oG 47 (.bin .eql (.tmp 46) (oK 0)) 44 true,
  oO 48 (.pick (.tmp 44) (.tmp 47) (.const (.bool false)))])
 (.cond (.tmp 48) (.seq (.reg [oM 49 7,
  oM 50 7,
  oN 51 50,
  oO 52 (.bin .sub (.tmp 51) (oK 1)),
  oX 53 1 49 52,
  oL 54 53,
  oO 55 (.call (.func 264) [(.tmp 54)]),
  oM 9 55])
 (.reg [oM 56 9,
  oM 57 0,
  oM 58 6,
  oO 59 (.call (.func 148) [(.tmp 57),(.tmp 58)]),
  oM 60 0,
  oM 61 5,
  oO 62 (.call (.func 148) [(.tmp 60),(.tmp 61)]),
  oX 63 1 56 59,
  oS (.store 1 (.tmp 63) (.tmp 62))])) .skip))
 (.reg [oM 64 7,
  oM 65 9,
  oO 66 (.bslice 27 1 1 [.slice none 0 0] [(0,1,(.tmp 65))]),
  oO 67 (.app 27 1 24 (.tmp 64) (.tmp 66)),
  oM 7 67])))))
 (.reg [oM 24 8,
  oO 25 (.bin .sub (.tmp 24) (oK 1)),
  oM 8 25]))))))
 (.seq (.seq (.reg [oM 68 0,
  oO 69 (.call (.func 148) [(.tmp 68),(oK 40)])])
 (.blk 4 (.seq (.reg [oO 71 (.bin .eql (.tmp 69) (oK 0)),
  oM 70 71])
 (.cond (.tmp 70) (.reg [oM 72 0,
  oO 73 (.bslice 2 1 2 [.int .i64 0] [(0,1,(oK 4)),(1,1,(oK 0))]),
  oO 74 (.call (.func 147) [(.tmp 72),(.tmp 73)]),
  oM 5 74]) (.seq (.reg [oO 76 (.bin .eql (.tmp 69) (oK 1)),
  oM 75 76])
 (.cond (.tmp 75) (.reg [oM 77 0,
  oM 78 6,
  oO 79 (.bin .add (.tmp 78) (oK 1)),
  oO 80 (.bslice 2 1 3 [.int .i64 0] [(0,1,(oK 0)),(1,1,(.tmp 79)),(2,1,(oK 31))]),
  oO 81 (.call (.func 147) [(.tmp 77),(.tmp 80)]),
  oM 6 81]) (.seq (.reg [oO 83 (.bin .eql (.tmp 69) (oK 2)),
  oM 82 83])
 (.cond (.tmp 82) (.seq (.reg [oM 84 7,
  oO 85 (.ixs 1 (.tmp 84) (oK 0)),
  oL 86 85,
  oM 11 86])
 (.reg [oM 87 11,
  oM 88 0,
  oM 89 5,
  oO 90 (.bslice 2 1 2 [.int .i64 0] [(0,1,(.tmp 89)),(1,1,(.const (.int .i64 (-1))))]),
  oO 91 (.call (.func 147) [(.tmp 88),(.tmp 90)]),
  oO 92 (.ixs 1 (.tmp 87) (oK 0)),
  oS (.store 1 (.tmp 92) (.tmp 91))])) .skip))))))))
 (.seq (.reg [oM 93 5,
  oM 94 6,
  oM 95 7,
  oM 2 93,
  oM 3 94,
  oM 4 95])
 .ret)))))⟩
theorem s201:compFn Try.prog Try.f201=some c201:=by kernel_rfl
def tab1:List (Nat×XFn):=[(12,c12),(13,c13),(20,c20),(21,c21),(23,c23),(48,c48),(54,c54),(55,c55),(59,c59),(67,c67),(135,c135),(136,c136),(137,c137),(138,c138),(139,c139),(140,c140),(141,c141),(142,c142),(143,c143),(144,c144),(145,c145),(147,c147),(148,c148),(149,c149),(154,c154),(162,c162),(163,c163),(164,c164),(165,c165),(166,c166),(167,c167),(168,c168),(170,c170),(171,c171),(181,c181),(184,c184),(196,c196),(201,c201)]
theorem ts1:TSound Try.prog (fun g=>tab1.lookup g):=by
 refine tsound_of_all (P:=Try.prog) (tab:=tab1) ?_
 intro p hp
 simp only[tab1,List.mem_cons,List.not_mem_nil,or_false] at hp
 rcases hp with rfl|rfl|rfl|rfl|rfl|rfl|rfl|rfl|rfl|rfl|rfl|rfl|rfl|rfl|rfl|rfl|rfl|rfl|rfl|rfl|rfl|rfl|rfl|rfl|rfl|rfl|rfl|rfl|rfl|rfl|rfl|rfl|rfl|rfl|rfl|rfl|rfl|rfl
 ·exact⟨_,Try.func12,s12⟩
 ·exact⟨_,Try.func13,s13⟩
 ·exact⟨_,Try.func20,s20⟩
 ·exact⟨_,Try.func21,s21⟩
 ·exact⟨_,Try.func23,s23⟩
 ·exact⟨_,Try.func48,s48⟩
 ·exact⟨_,Try.func54,s54⟩
 ·exact⟨_,Try.func55,s55⟩
 ·exact⟨_,Try.func59,s59⟩
 ·exact⟨_,Try.func67,s67⟩
 ·exact⟨_,Try.func135,s135⟩
 ·exact⟨_,Try.func136,s136⟩
 ·exact⟨_,Try.func137,s137⟩
 ·exact⟨_,Try.func138,s138⟩
 ·exact⟨_,Try.func139,s139⟩
 ·exact⟨_,Try.func140,s140⟩
 ·exact⟨_,Try.func141,s141⟩
 ·exact⟨_,Try.func142,s142⟩
 ·exact⟨_,Try.func143,s143⟩
 ·exact⟨_,Try.func144,s144⟩
 ·exact⟨_,Try.func145,s145⟩
 ·exact⟨_,Try.func147,s147⟩
 ·exact⟨_,Try.func148,s148⟩
 ·exact⟨_,Try.func149,s149⟩
 ·exact⟨_,Try.func154,s154⟩
 ·exact⟨_,Try.func162,s162⟩
 ·exact⟨_,Try.func163,s163⟩
 ·exact⟨_,Try.func164,s164⟩
 ·exact⟨_,Try.func165,s165⟩
 ·exact⟨_,Try.func166,s166⟩
 ·exact⟨_,Try.func167,s167⟩
 ·exact⟨_,Try.func168,s168⟩
 ·exact⟨_,Try.func170,s170⟩
 ·exact⟨_,Try.func171,s171⟩
 ·exact⟨_,Try.func181,s181⟩
 ·exact⟨_,Try.func184,s184⟩
 ·exact⟨_,Try.func196,s196⟩
 ·exact⟨_,Try.func201,s201⟩
end Go.Proofs.Ytapafdpnmakekaa.X
