/- Texts of one claim, put together by merge.py: XCode1. -/
import Derived.Test.YtigpfopobpoamaaGreatRE3
import Derived.Test.YtigpfopobpoamaaGreatProg
set_option linter.unusedVariables false
set_option maxRecDepth 4000
namespace Go.Proofs.YtigpfopobpoamaaGreat.X
open Go Go.RowKit
def c3:XFn:=
 ⟨[.tmp 2],
 (.seq (.reg [oO 2 (.mv (.const (.bool false)))])
 (.seq (.seq (.reg [oM 48 0,
  oO 49 (.call (.func 4) [(.tmp 48)])])
 (.cond (.tmp 49) (.seq (.reg [oO 2 (.mv (.const (.bool true)))])
 .ret) .skip))
 (.seq (.reg [oM 50 0,
  oO 51 (.call (.func 5) [(.tmp 50)]),
  oO 3 (.alloc 26 [.int .i64 0,.int .i64 0,.int .i64 0,.int .i64 0,.slice none 0 0]),
  oS (.store 5 (.tmp 3) (.tmp 51))])
 (.seq (.reg [oO 53 (.loadn 5 (.tmp 3)),
  oO 54 (.call (.func 6) [(.tmp 53)]),
  oM 52 54,
  oE 55 52 0,
  oE 56 52 1,
  oO 4 (.alloc 26 [.int .i64 0,.int .i64 0,.int .i64 0,.int .i64 0,.slice none 0 0]),
  oS (.store 5 (.tmp 4) (.tmp 55)),
  oM 5 56])
 (.seq (.reg [oO 58 (.loadn 5 (.tmp 3)),
  oO 59 (.call (.func 7) [(.tmp 58)]),
  oM 57 59,
  oE 60 57 0,
  oE 61 57 1,
  oO 6 (.alloc 26 [.int .i64 0,.int .i64 0,.int .i64 0,.int .i64 0,.slice none 0 0]),
  oS (.store 5 (.tmp 6) (.tmp 60)),
  oM 7 61])
 (.seq (.seq (.reg [oM 62 5,
  oM 63 7,
  oO 64 (.bin .neq (.tmp 62) (.tmp 63)),
  oM 65 64,
  oG 66 (.loadn 5 (.tmp 4)) 65 false,
  oG 67 (.loadn 5 (.tmp 6)) 65 false,
  oG 68 (.call (.func 8) [(.tmp 66),(.tmp 67)]) 65 false,
  oG 69 (.un .not (.tmp 68)) 65 false,
  oO 70 (.pick (.tmp 65) (.const (.bool true)) (.tmp 69))])
 (.cond (.tmp 70) (.seq (.reg [oO 2 (.mv (.const (.bool false)))])
 .ret) .skip))
 (.seq (.seq (.reg [oM 71 5,
  oO 72 (.bin .eql (.tmp 71) (oK 0))])
 (.cond (.tmp 72) (.seq (.reg [oO 74 (.loadn 5 (.tmp 3)),
  oO 75 (.loadn 5 (.tmp 4)),
  oO 76 (.call (.func 9) [(.tmp 74),(.tmp 75)]),
  oM 73 76,
  oE 77 73 0,
  oE 78 73 1,
  oM 8 77,
  oM 9 78])
 (.seq (.reg [oO 80 (.loadn 5 (.tmp 4)),
  oO 81 (.call (.func 6) [(.tmp 80)]),
  oM 79 81,
  oE 82 79 0,
  oE 83 79 1,
  oO 10 (.alloc 26 [.int .i64 0,.int .i64 0,.int .i64 0,.int .i64 0,.slice none 0 0]),
  oS (.store 5 (.tmp 10) (.tmp 82)),
  oM 11 83])
 (.seq (.reg [oM 84 9,
  oO 85 (.bin .neq (.tmp 84) (oK 0)),
  oM 86 85,
  oG 87 (.mv (.tmp 11)) 86 false,
  oG 88 (.bin .neq (.tmp 87) (oK 0)) 86 false,
  oO 89 (.pick (.tmp 86) (.const (.bool true)) (.tmp 88)),
  oM 90 89,
  oG 91 (.mv (.tmp 8)) 90 false,
  oG 92 (.un .not (.tmp 91)) 90 false,
  oO 93 (.pick (.tmp 90) (.const (.bool true)) (.tmp 92)),
  oM 94 93,
  oG 95 (.loadn 5 (.tmp 10)) 94 false,
  oG 96 (.loadn 5 (.tmp 4)) 94 false,
  oG 97 (.call (.func 8) [(.tmp 95),(.tmp 96)]) 94 false,
  oG 98 (.un .not (.tmp 97)) 94 false,
  oO 99 (.pick (.tmp 94) (.const (.bool true)) (.tmp 98)),
  oM 100 99,
  oG 101 (.fadr 4 (.tmp 4)) 100 false,
  oG 102 (.load1 (.tmp 101)) 100 false,
  oG 103 (.len (.tmp 102)) 100 false,
  oG 104 (.fadr 4 (.tmp 3)) 100 false,
  oG 105 (.load1 (.tmp 104)) 100 false,
  oG 106 (.len (.tmp 105)) 100 false,
  oG 107 (.bin .gtr (.tmp 103) (.tmp 106)) 100 false,
  oO 108 (.pick (.tmp 100) (.const (.bool true)) (.tmp 107))])
 (.cond (.tmp 108) (.seq (.reg [oO 2 (.mv (.const (.bool false)))])
 .ret) .skip)))) .skip))
 (.seq (.reg [oM 110 0,
  oO 111 (.call (.func 10) [(.tmp 110)]),
  oM 109 111,
  oE 112 109 0,
  oE 113 109 1,
  oE 114 109 2,
  oE 115 109 3,
  oO 12 (.alloc 26 [.int .i64 0,.int .i64 0,.int .i64 0,.int .i64 0,.slice none 0 0]),
  oO 15 (.alloc 34 [.int .u8 0,.int .u8 0,.int .u8 0,.int .u8 0,.int .u8 0,.int .u8 0,.int .u8 0,.int .u8 0,.int .u8 0]),
  oS (.store 5 (.tmp 12) (.tmp 112)),
  oM 13 113,
  oM 14 114,
  oS (.store 9 (.tmp 15) (.tmp 115))])
 (.seq (.reg [oO 117 (.loadn 5 (.tmp 12)),
  oM 118 13,
  oM 119 14,
  oO 120 (.loadn 9 (.tmp 15)),
  oO 121 (.call (.func 11) [(.tmp 117),(.tmp 118),(.tmp 119),(.tmp 120)]),
  oM 116 121,
  oE 122 116 0,
  oE 123 116 1,
  oO 16 (.alloc 26 [.int .i64 0,.int .i64 0,.int .i64 0,.int .i64 0,.slice none 0 0]),
  oS (.store 5 (.tmp 16) (.tmp 122)),
  oM 17 123])
 (.seq (.reg [oO 125 (.loadn 5 (.tmp 12)),
  oM 126 13,
  oM 127 14,
  oO 128 (.loadn 9 (.tmp 15)),
  oO 129 (.call (.func 12) [(.tmp 125),(.tmp 126),(.tmp 127),(.tmp 128)]),
  oM 124 129,
  oE 130 124 0,
  oE 131 124 1,
  oO 18 (.alloc 26 [.int .i64 0,.int .i64 0,.int .i64 0,.int .i64 0,.slice none 0 0]),
  oS (.store 5 (.tmp 18) (.tmp 130)),
  oM 19 131])
 (.seq (.seq (.reg [oM 132 17,
  oM 133 19,
  oO 134 (.bin .neq (.tmp 132) (.tmp 133)),
  oM 135 134,
  oG 136 (.loadn 5 (.tmp 16)) 135 false,
  oG 137 (.loadn 5 (.tmp 18)) 135 false,
  oG 138 (.call (.func 8) [(.tmp 136),(.tmp 137)]) 135 false,
  oG 139 (.un .not (.tmp 138)) 135 false,
  oO 140 (.pick (.tmp 135) (.const (.bool true)) (.tmp 139))])
 (.cond (.tmp 140) (.seq (.reg [oO 2 (.mv (.const (.bool false)))])
 .ret) .skip))
 (.seq (.seq (.reg [oM 141 17,
  oO 142 (.bin .eql (.tmp 141) (oK 0))])
 (.cond (.tmp 142) (.seq (.reg [oO 144 (.loadn 5 (.tmp 12)),
  oO 145 (.loadn 5 (.tmp 16)),
  oO 146 (.call (.func 9) [(.tmp 144),(.tmp 145)]),
  oM 143 146,
  oE 147 143 0,
  oE 148 143 1,
  oM 20 147,
  oM 21 148])
 (.seq (.reg [oM 149 21,
  oO 150 (.bin .neq (.tmp 149) (oK 0)),
  oM 151 150,
  oG 152 (.mv (.tmp 20)) 151 false,
  oG 153 (.un .not (.tmp 152)) 151 false,
  oO 154 (.pick (.tmp 151) (.const (.bool true)) (.tmp 153)),
  oM 155 154,
  oG 156 (.fadr 4 (.tmp 16)) 155 false,
  oG 157 (.load1 (.tmp 156)) 155 false,
  oG 158 (.len (.tmp 157)) 155 false,
  oG 159 (.fadr 4 (.tmp 12)) 155 false,
  oG 160 (.load1 (.tmp 159)) 155 false,
  oG 161 (.len (.tmp 160)) 155 false,
  oG 162 (.bin .add (.tmp 161) (oK 1)) 155 false,
  oG 163 (.bin .neq (.tmp 158) (.tmp 162)) 155 false,
  oO 164 (.pick (.tmp 155) (.const (.bool true)) (.tmp 163))])
 (.cond (.tmp 164) (.seq (.reg [oO 2 (.mv (.const (.bool false)))])
 .ret) .skip))) .skip))
 (.seq (.reg [oM 166 0,
  oO 167 (.call (.func 13) [(.tmp 166)]),
  oM 165 167,
  oE 168 165 0,
  oE 169 165 1,
  oE 170 165 2,
  oO 22 (.alloc 26 [.int .i64 0,.int .i64 0,.int .i64 0,.int .i64 0,.slice none 0 0]),
  oS (.store 5 (.tmp 22) (.tmp 168)),
  oM 23 169,
  oM 24 170])
 (.seq (.reg [oO 172 (.loadn 5 (.tmp 22)),
  oM 173 23,
  oM 174 24,
  oO 175 (.call (.func 14) [(.tmp 172),(.tmp 173),(.tmp 174)]),
  oM 171 175,
  oE 176 171 0,
  oE 177 171 1,
  oO 25 (.alloc 26 [.int .i64 0,.int .i64 0,.int .i64 0,.int .i64 0,.slice none 0 0]),
  oS (.store 5 (.tmp 25) (.tmp 176)),
  oM 26 177])
 (.seq (.reg [oO 179 (.loadn 5 (.tmp 22)),
  oM 180 23,
  oM 181 24,
  oO 182 (.call (.func 15) [(.tmp 179),(.tmp 180),(.tmp 181)]),
  oM 178 182,
  oE 183 178 0,
  oE 184 178 1,
  oO 27 (.alloc 26 [.int .i64 0,.int .i64 0,.int .i64 0,.int .i64 0,.slice none 0 0]),
  oS (.store 5 (.tmp 27) (.tmp 183)),
  oM 28 184])
 (.seq (.seq (.reg [oM 185 26,
  oM 186 28,
  oO 187 (.bin .neq (.tmp 185) (.tmp 186)),
  oM 188 187,
  oG 189 (.loadn 5 (.tmp 25)) 188 false,
  oG 190 (.loadn 5 (.tmp 27)) 188 false,
  oG 191 (.call (.func 8) [(.tmp 189),(.tmp 190)]) 188 false,
  oG 192 (.un .not (.tmp 191)) 188 false,
  oO 193 (.pick (.tmp 188) (.const (.bool true)) (.tmp 192))])
 (.cond (.tmp 193) (.seq (.reg [oO 2 (.mv (.const (.bool false)))])
 .ret) .skip))
 (.seq (.seq (.reg [oM 194 26,
  oO 195 (.bin .eql (.tmp 194) (oK 0))])
 (.cond (.tmp 195) (.seq (.reg [oO 197 (.loadn 5 (.tmp 22)),
  oO 198 (.loadn 5 (.tmp 25)),
  oO 199 (.call (.func 9) [(.tmp 197),(.tmp 198)]),
  oM 196 199,
  oE 200 196 0,
  oE 201 196 1,
  oM 29 200,
  oM 30 201])
 (.seq (.reg [oM 202 30,
  oO 203 (.bin .neq (.tmp 202) (oK 0)),
  oM 204 203,
  oG 205 (.mv (.tmp 29)) 204 false,
  oG 206 (.un .not (.tmp 205)) 204 false,
  oO 207 (.pick (.tmp 204) (.const (.bool true)) (.tmp 206))])
 (.cond (.tmp 207) (.seq (.reg [oO 2 (.mv (.const (.bool false)))])
 .ret) .skip))) .skip))
 (.seq (.reg [oM 209 0,
  oO 210 (.call (.func 16) [(.tmp 209)]),
  oM 208 210,
  oE 211 208 0,
  oE 212 208 1,
  oO 31 (.alloc 26 [.int .i64 0,.int .i64 0,.int .i64 0,.int .i64 0,.slice none 0 0]),
  oO 32 (.alloc 26 [.int .i64 0,.int .i64 0,.int .i64 0,.int .i64 0,.slice none 0 0]),
  oS (.store 5 (.tmp 31) (.tmp 211)),
  oS (.store 5 (.tmp 32) (.tmp 212))])
 (.seq (.reg [oO 214 (.loadn 5 (.tmp 31)),
  oO 215 (.loadn 5 (.tmp 32)),
  oO 216 (.call (.func 17) [(.tmp 214),(.tmp 215)]),
  oM 213 216,
  oE 217 213 0,
  oE 218 213 1,
  oM 33 217,
  oM 34 218])
 (.seq (.reg [oO 220 (.loadn 5 (.tmp 31)),
  oO 221 (.loadn 5 (.tmp 32)),
  oO 222 (.call (.func 18) [(.tmp 220),(.tmp 221)]),
  oM 219 222,
  oE 223 219 0,
  oE 224 219 1,
  oM 35 223,
  oM 36 224])
 (.seq (.reg [oO 226 (.loadn 5 (.tmp 31)),
  oO 227 (.loadn 5 (.tmp 32)),
  oO 228 (.call (.func 9) [(.tmp 226),(.tmp 227)]),
  oM 225 228,
  oE 229 225 0,
  oE 230 225 1,
  oM 37 229,
  oM 38 230])
 (.seq (.reg [oO 232 (.loadn 5 (.tmp 31)),
  oO 233 (.loadn 5 (.tmp 32)),
  oO 234 (.call (.func 19) [(.tmp 232),(.tmp 233)]),
  oM 231 234,
  oE 235 231 0,
  oE 236 231 1,
  oM 39 235,
  oM 40 236])
 (.seq (.seq (.reg [oM 237 34,
  oM 238 36,
  oO 239 (.bin .neq (.tmp 237) (.tmp 238)),
  oM 240 239,
  oG 241 (.mv (.tmp 33)) 240 false,
  oG 242 (.mv (.tmp 35)) 240 false,
  oG 243 (.eqb true (.tmp 241) (.tmp 242)) 240 false,
  oO 244 (.pick (.tmp 240) (.const (.bool true)) (.tmp 243)),
  oM 245 244,
  oG 246 (.mv (.tmp 38)) 245 false,
  oG 247 (.mv (.tmp 40)) 245 false,
  oG 248 (.bin .neq (.tmp 246) (.tmp 247)) 245 false,
  oO 249 (.pick (.tmp 245) (.const (.bool true)) (.tmp 248)),
  oM 250 249,
  oG 251 (.mv (.tmp 37)) 250 false,
  oG 252 (.mv (.tmp 39)) 250 false,
  oG 253 (.eqb true (.tmp 251) (.tmp 252)) 250 false,
  oO 254 (.pick (.tmp 250) (.const (.bool true)) (.tmp 253)),
  oM 255 254,
  oG 256 (.mv (.tmp 33)) 255 false,
  oG 257 (.mv (.tmp 256)) 255 false,
  oG 258 (.mv (.tmp 37)) 257 true,
  oG 259 (.un .not (.tmp 258)) 257 true,
  oG 260 (.pick (.tmp 257) (.tmp 259) (.const (.bool false))) 255 false,
  oO 261 (.pick (.tmp 255) (.const (.bool true)) (.tmp 260))])
 (.cond (.tmp 261) (.seq (.reg [oO 2 (.mv (.const (.bool false)))])
 .ret) .skip))
 (.seq (.reg [oM 262 0,
  oO 263 (.call (.func 20) [(.tmp 262)]),
  oO 41 (.alloc 26 [.int .i64 0,.int .i64 0,.int .i64 0,.int .i64 0,.slice none 0 0]),
  oS (.store 5 (.tmp 41) (.tmp 263))])
 (.seq (.reg [oO 265 (.loadn 5 (.tmp 41)),
  oO 266 (.call (.func 21) [(.tmp 265)]),
  oM 264 266,
  oE 267 264 0,
  oE 268 264 1,
  oO 42 (.alloc 26 [.int .i64 0,.int .i64 0,.int .i64 0,.int .i64 0,.slice none 0 0]),
  oS (.store 5 (.tmp 42) (.tmp 267)),
  oM 43 268])
 (.seq (.reg [oO 270 (.loadn 5 (.tmp 41)),
  oO 271 (.call (.func 22) [(.tmp 270)]),
  oM 269 271,
  oE 272 269 0,
  oE 273 269 1,
  oO 44 (.alloc 26 [.int .i64 0,.int .i64 0,.int .i64 0,.int .i64 0,.slice none 0 0]),
  oS (.store 5 (.tmp 44) (.tmp 272)),
  oM 45 273])
 (.seq (.seq (.reg [oM 274 43,
  oM 275 45,
  oO 276 (.bin .neq (.tmp 274) (.tmp 275)),
  oM 277 276,
  oG 278 (.loadn 5 (.tmp 42)) 277 false,
  oG 279 (.loadn 5 (.tmp 44)) 277 false,
  oG 280 (.call (.func 8) [(.tmp 278),(.tmp 279)]) 277 false,
  oG 281 (.un .not (.tmp 280)) 277 false,
  oO 282 (.pick (.tmp 277) (.const (.bool true)) (.tmp 281))])
 (.cond (.tmp 282) (.seq (.reg [oO 2 (.mv (.const (.bool false)))])
 .ret) .skip))
 (.seq (.seq (.reg [oM 283 43,
  oO 284 (.bin .eql (.tmp 283) (oK 0))])
 (.cond (.tmp 284) (.seq (.reg [oO 286 (.loadn 5 (.tmp 41)),
  oO 287 (.loadn 5 (.tmp 42)),
  oO 288 (.call (.func 17) [(.tmp 286),(.tmp 287)]),
  oM 285 288,
  oE 289 285 0,
  oE 290 285 1,
  oM 46 289,
  oM 47 290])
 (.seq (.reg [oM 291 47,
  oO 292 (.bin .neq (.tmp 291) (oK 0)),
  oM 293 292,
  oG 294 (.mv (.tmp 46)) 293 false,
  oG 295 (.un .not (.tmp 294)) 293 false,
  oO 296 (.pick (.tmp 293) (.const (.bool true)) (.tmp 295))])
 (.cond (.tmp 296) (.seq (.reg [oO 2 (.mv (.const (.bool false)))])
 .ret) .skip))) .skip))
 (.seq (.reg [oO 2 (.mv (.const (.bool true)))])
 .ret)))))))))))))))))))))))))))))⟩
theorem s3:compFn Tryz.prog Tryz.f3=some c3:=by kernel_rfl
def c4:XFn:=
 ⟨[.tmp 2],
 (.seq (.reg [oO 2 (.mv (.const (.bool false)))])
 (.seq (.reg [oM 3 0,
  oN 4 3,
  oO 5 (.bin .gtr (.tmp 4) (oK 4096)),
  oM 2 5])
 .ret))⟩
theorem s4:compFn Tryz.prog Tryz.f4=some c4:=by kernel_rfl
def c5:XFn:=
 ⟨[.celln 2 5],
 (.seq (.reg [oO 2 (.alloc 26 [.int .i64 0,.int .i64 0,.int .i64 0,.int .i64 0,.slice none 0 0])])
 (.seq (.reg [oM 7 0,
  oO 8 (.call (.func 23) [(.tmp 7)]),
  oM 3 8])
 (.seq (.reg [oM 9 3,
  oO 10 (.call (.func 24) [(.tmp 9)]),
  oO 4 (.alloc 26 [.int .i64 0,.int .i64 0,.int .i64 0,.int .i64 0,.slice none 0 0]),
  oS (.store 5 (.tmp 4) (.tmp 10))])
 (.seq (.seq (.reg [oO 11 (.loadn 5 (.tmp 4)),
  oO 12 (.call (.func 25) [(.tmp 11)]),
  oM 13 12,
  oG 14 (.mv (.tmp 3)) 13 true,
  oG 15 (.call (.func 26) [(.tmp 14),(oK 2)]) 13 true,
  oG 16 (.bin .eql (.tmp 15) (oK 0)) 13 true,
  oO 17 (.pick (.tmp 13) (.tmp 16) (.const (.bool false))),
  oM 18 17,
  oG 19 (.fadr 4 (.tmp 4)) 18 true,
  oG 20 (.load1 (.tmp 19)) 18 true,
  oG 21 (.len (.tmp 20)) 18 true,
  oG 22 (.bin .gtr (.tmp 21) (oK 0)) 18 true,
  oO 23 (.pick (.tmp 18) (.tmp 22) (.const (.bool false))),
  oM 24 23,
  oG 25 (.fadr 4 (.tmp 4)) 24 true,
  oG 26 (.load1 (.tmp 25)) 24 true,
  oG 27 (.len (.tmp 26)) 24 true,
  oG 28 (.bin .lss (.tmp 27) (oK 20)) 24 true,
  oO 29 (.pick (.tmp 24) (.tmp 28) (.const (.bool false)))])
 (.cond (.tmp 29) (.seq (.reg [oO 31 (.loadn 5 (.tmp 4)),
  oM 32 3,
  oF 33 4 4,
  oL 34 33,
  oN 35 34,
  ⟨some 36,.call (.func 26) [(.tmp 32),(.tmp 35)],none,(.s true [(.tmp 4)])⟩,
  oO 37 (.call (.func 15) [(.tmp 31),(oK 0),(.tmp 36)]),
  oM 30 37,
  oE 38 30 0,
  oE 39 30 1,
  oM 6 39,
  oO 5 (.boxn 26 5 (.tmp 38))])
 (.seq (.reg [oM 40 6,
  oO 41 (.bin .eql (.tmp 40) (oK 0))])
 (.cond (.tmp 41) (.seq (.reg [oO 42 (.loadn 5 (.tmp 5)),
  oS (.store 5 (.tmp 2) (.tmp 42))])
 .ret) .skip))) .skip))
 (.seq (.reg [oO 43 (.loadn 5 (.tmp 4)),
  oS (.store 5 (.tmp 2) (.tmp 43))])
 .ret)))))⟩
theorem s5:compFn Tryz.prog Tryz.f5=some c5:=by kernel_rfl
def c6:XFn:=
 ⟨[.celln 2 5,.tmp 3],
 (.seq (.reg [oO 1 (.box 26 (.tmp 0)),
  oO 2 (.alloc 26 [.int .i64 0,.int .i64 0,.int .i64 0,.int .i64 0,.slice none 0 0]),
  oO 3 (.mv (oK 0))])
 (.seq (.seq (.reg [oO 6 (.loadn 5 (.tmp 1)),
  oO 7 (.call (.func 27) [(.tmp 6)]),
  oO 8 (.un .not (.tmp 7))])
 (.cond (.tmp 8) (.seq (.reg [oO 9 (.build [.int .i64 0,.int .i64 0,.int .i64 0,.int .i64 0,.slice none 0 0] []),
  oS (.store 5 (.tmp 2) (.tmp 9)),
  oO 3 (.mv (oK 1))])
 .ret) .skip))
 (.seq (.reg [oO 10 (.loadn 5 (.tmp 1)),
  oO 11 (.call (.func 28) [(.tmp 10)]),
  oO 12 (.fld1 4 (.tmp 11)),
  oM 4 12,
  oO 5 (.mv (.const (.bool true)))])
 (.seq (.blk 0 (.loop (.seq (.seq (.reg [oM 13 5])
 (.cond (.tmp 13) .skip (.exit 0)))
 (.blk 1 (.reg [oF 15 0 1,
  oL 16 15,
  oM 17 4,
  oO 18 (.call (.func 29) [(.tmp 16),(.tmp 17)]),
  oM 14 18,
  oE 19 14 0,
  oE 20 14 1,
  oM 4 19,
  oM 5 20])))))
 (.seq (.reg [oO 21 (.loadn 5 (.tmp 1)),
  oM 22 4,
  oO 23 (.call (.func 30) [(.tmp 21),(.tmp 22)]),
  oS (.store 5 (.tmp 2) (.tmp 23)),
  oO 3 (.mv (oK 0))])
 .ret)))))⟩
theorem s6:compFn Tryz.prog Tryz.f6=some c6:=by kernel_rfl
def c7:XFn:=
 ⟨[.celln 2 5,.tmp 3],
 (.seq (.reg [oO 1 (.box 26 (.tmp 0)),
  oO 2 (.alloc 26 [.int .i64 0,.int .i64 0,.int .i64 0,.int .i64 0,.slice none 0 0]),
  oO 3 (.mv (oK 0))])
 (.seq (.seq (.reg [oO 4 (.loadn 5 (.tmp 1)),
  oO 5 (.call (.func 25) [(.tmp 4)]),
  oO 6 (.un .not (.tmp 5))])
 (.cond (.tmp 6) (.seq (.reg [oO 7 (.build [.int .i64 0,.int .i64 0,.int .i64 0,.int .i64 0,.slice none 0 0] []),
  oS (.store 5 (.tmp 2) (.tmp 7)),
  oO 3 (.mv (oK 1))])
 .ret) .skip))
 (.seq (.reg [oO 8 (.loadn 5 (.tmp 1)),
  oO 9 (.call (.func 31) [(.tmp 8)]),
  oS (.store 5 (.tmp 2) (.tmp 9)),
  oO 3 (.mv (oK 0))])
 .ret)))⟩
theorem s7:compFn Tryz.prog Tryz.f7=some c7:=by kernel_rfl
def c8:XFn:=
 ⟨[.tmp 4],
 (.seq (.reg [oO 2 (.box 26 (.tmp 0)),
  oO 3 (.box 26 (.tmp 1)),
  oO 4 (.mv (.const (.bool false)))])
 (.seq (.seq (.reg [oF 6 0 2,
  oL 7 6,
  oF 8 0 3,
  oL 9 8,
  oO 10 (.bin .neq (.tmp 7) (.tmp 9)),
  oM 11 10,
  oG 12 (.fadr 1 (.tmp 2)) 11 false,
  oG 13 (.load1 (.tmp 12)) 11 false,
  oG 14 (.fadr 1 (.tmp 3)) 11 false,
  oG 15 (.load1 (.tmp 14)) 11 false,
  oG 16 (.bin .neq (.tmp 13) (.tmp 15)) 11 false,
  oO 17 (.pick (.tmp 11) (.const (.bool true)) (.tmp 16)),
  oM 18 17,
  oG 19 (.fadr 2 (.tmp 2)) 18 false,
  oG 20 (.load1 (.tmp 19)) 18 false,
  oG 21 (.fadr 2 (.tmp 3)) 18 false,
  oG 22 (.load1 (.tmp 21)) 18 false,
  oG 23 (.bin .neq (.tmp 20) (.tmp 22)) 18 false,
  oO 24 (.pick (.tmp 18) (.const (.bool true)) (.tmp 23)),
  oM 25 24,
  oG 26 (.fadr 3 (.tmp 2)) 25 false,
  oG 27 (.load1 (.tmp 26)) 25 false,
  oG 28 (.fadr 3 (.tmp 3)) 25 false,
  oG 29 (.load1 (.tmp 28)) 25 false,
  oG 30 (.bin .neq (.tmp 27) (.tmp 29)) 25 false,
  oO 31 (.pick (.tmp 25) (.const (.bool true)) (.tmp 30)),
  oM 32 31,
  oG 33 (.fadr 4 (.tmp 2)) 32 false,
  oG 34 (.load1 (.tmp 33)) 32 false,
  oG 35 (.len (.tmp 34)) 32 false,
  oG 36 (.fadr 4 (.tmp 3)) 32 false,
  oG 37 (.load1 (.tmp 36)) 32 false,
  oG 38 (.len (.tmp 37)) 32 false,
  oG 39 (.bin .neq (.tmp 35) (.tmp 38)) 32 false,
  oO 40 (.pick (.tmp 32) (.const (.bool true)) (.tmp 39))])
 (.cond (.tmp 40) (.seq (.reg [oO 4 (.mv (.const (.bool false)))])
 .ret) .skip))
 (.seq (.seq (.reg [oO 5 (.mv (oK 0))])
 (.blk 0 (.loop (.seq (.seq (.reg [oM 41 5,
  oF 42 4 2,
  oL 43 42,
  oN 44 43,
  oO 45 (.bin .lss (.tmp 41) (.tmp 44))])
 (.cond (.tmp 45) .skip (.exit 0)))
 (.seq (.blk 1 (.seq (.reg [oF 48 4 2,
  oL 49 48,
  oM 50 5,
  oX 51 27 49 50,
  oO 52 (.loadn 27 (.tmp 51)),
  oF 53 4 3,
  oL 54 53,
  oM 55 5,
  oX 56 27 54 55,
  oO 57 (.loadn 27 (.tmp 56)),
  oO 58 (.eqa true 27 (.tmp 52) (.tmp 57))])
 (.cond (.tmp 58) (.seq (.reg [oO 4 (.mv (.const (.bool false)))])
 .ret) .skip)))
 (.reg [oM 46 5,
  oO 47 (.bin .add (.tmp 46) (oK 1)),
  oM 5 47]))))))
 (.seq (.reg [oO 4 (.mv (.const (.bool true)))])
 .ret))))⟩
theorem s8:compFn Tryz.prog Tryz.f8=some c8:=by kernel_rfl
def c9:XFn:=
 ⟨[.tmp 4,.tmp 5],
 (.seq (.reg [oO 2 (.box 26 (.tmp 0)),
  oO 3 (.box 26 (.tmp 1)),
  oO 4 (.mv (.const (.bool false))),
  oO 5 (.mv (oK 0))])
 (.seq (.seq (.reg [oO 7 (.loadn 5 (.tmp 2)),
  oO 8 (.loadn 5 (.tmp 3)),
  oO 9 (.call (.func 32) [(.tmp 7),(.tmp 8)]),
  oM 6 9])
 (.seq (.reg [oM 10 6,
  oO 11 (.bin .neq (.tmp 10) (oK 0))])
 (.cond (.tmp 11) (.seq (.reg [oM 12 6,
  oO 4 (.mv (.const (.bool false))),
  oM 5 12])
 .ret) .skip)))
 (.seq (.reg [oO 13 (.loadn 5 (.tmp 2)),
  ⟨some 14,.call (.func 34) [(.tmp 13)],none,.t⟩,
  oO 15 (.fld1 4 (.tmp 14)),
  oO 16 (.loadn 5 (.tmp 3)),
  oO 17 (.call (.func 34) [(.tmp 16)]),
  oO 18 (.fld1 4 (.tmp 17)),
  oO 19 (.call (.func 33) [(.tmp 15),(.tmp 18)]),
  oM 4 19,
  oO 5 (.mv (oK 0))])
 .ret)))⟩
theorem s9:compFn Tryz.prog Tryz.f9=some c9:=by kernel_rfl
def c10:XFn:=
 ⟨[.celln 2 5,.tmp 3,.tmp 4,.celln 5 9],
 (.seq (.reg [oO 2 (.alloc 26 [.int .i64 0,.int .i64 0,.int .i64 0,.int .i64 0,.slice none 0 0]),
  oO 3 (.mv (oK 0)),
  oO 4 (.mv (oK 0)),
  oO 5 (.alloc 34 [.int .u8 0,.int .u8 0,.int .u8 0,.int .u8 0,.int .u8 0,.int .u8 0,.int .u8 0,.int .u8 0,.int .u8 0])])
 (.seq (.reg [oM 11 0,
  oO 12 (.call (.func 23) [(.tmp 11)]),
  oM 6 12])
 (.seq (.reg [oM 13 6,
  oO 14 (.call (.func 24) [(.tmp 13)]),
  oO 7 (.alloc 26 [.int .i64 0,.int .i64 0,.int .i64 0,.int .i64 0,.slice none 0 0]),
  oS (.store 5 (.tmp 7) (.tmp 14))])
 (.seq (.reg [oM 15 6,
  oF 16 4 7,
  oL 17 16,
  oN 18 17,
  oO 19 (.bin .sub (.tmp 18) (oK 1)),
  oO 20 (.mm true (.tmp 19) [(oK 0)]),
  oO 21 (.call (.func 35) [(.tmp 15),(.tmp 20)]),
  oM 22 6,
  oO 23 (.call (.func 35) [(.tmp 22),(oK 2)]),
  oM 8 21,
  oM 9 23])
 (.seq (.seq (.reg [oO 24 (.loadn 5 (.tmp 7)),
  oO 25 (.call (.func 25) [(.tmp 24)]),
  oO 26 (.un .not (.tmp 25)),
  oM 27 26,
  oG 28 (.mv (.tmp 9)) 27 false,
  oG 29 (.call (.func 36) [(.tmp 28),(oK 0),(oK 2)]) 27 false,
  oG 30 (.un .not (.tmp 29)) 27 false,
  oO 31 (.pick (.tmp 27) (.const (.bool true)) (.tmp 30))])
 (.cond (.tmp 31) (.seq (.reg [oO 32 (.loadn 5 (.tmp 7)),
  oM 33 8,
  oM 34 9,
  oO 35 (.build [.int .u8 0,.int .u8 0,.int .u8 0,.int .u8 0,.int .u8 0,.int .u8 0,.int .u8 0,.int .u8 0,.int .u8 0] [(0,1,(.const (.int .u8 1)))]),
  oS (.store 5 (.tmp 2) (.tmp 32)),
  oM 3 33,
  oM 4 34,
  oS (.store 9 (.tmp 5) (.tmp 35))])
 .ret) .skip))
 (.seq (.reg [oM 36 6,
  oF 37 0 7,
  oL 38 37,
  oO 39 (.loadn 5 (.tmp 7)),
  oM 40 9,
  ⟨some 41,.call (.func 38) [(.tmp 39),(.tmp 40)],none,.t⟩,
  oO 42 (.call (.func 37) [(.tmp 36),(.tmp 38),(.tmp 41)]),
  oO 10 (.boxn 34 9 (.tmp 42))])
 (.seq (.seq (.reg [oM 43 6,
  oO 44 (.call (.func 26) [(.tmp 43),(oK 12)])])
 (.blk 0 (.seq (.reg [oO 46 (.bin .eql (.tmp 44) (oK 0)),
  oM 45 46])
 (.cond (.tmp 45) (.reg [oO 47 (.build [.int .u8 0,.int .u8 0,.int .u8 0,.int .u8 0,.int .u8 0,.int .u8 0,.int .u8 0,.int .u8 0,.int .u8 0] []),
  oS (.store 9 (.tmp 10) (.tmp 47))]) (.seq (.reg [oO 49 (.bin .eql (.tmp 44) (oK 1)),
  oM 48 49])
 (.cond (.tmp 48) (.reg [oM 50 6,
  oO 51 (.call (.func 26) [(.tmp 50),(oK 9)]),
  oM 52 6,
  oO 53 (.call (.func 26) [(.tmp 52),(oK 6)]),
  oO 54 (.conv .u8 (.tmp 53)),
  oO 55 (.ixa 9 1 (.tmp 10) (.tmp 51)),
  oS (.store 1 (.tmp 55) (.tmp 54))]) (.seq (.reg [oO 57 (.bin .eql (.tmp 44) (oK 2)),
  oM 56 57])
 (.cond (.tmp 56) (.seq (.reg [oO 58 (.loadn 5 (.tmp 7)),
  oM 59 8,
  oO 60 (.bslice 2 1 1 [.int .i64 0] [(0,1,(.tmp 59))]),
  oO 61 (.call (.func 39) [(.tmp 58),(.tmp 60)])])
 (.cond (.tmp 61) (.reg [oF 62 4 7,
  oL 63 62,
  oM 64 8,
  oX 65 27 63 64,
  oO 66 (.loadn 27 (.tmp 65)),
  oM 67 9,
  oO 68 (.call (.func 40) [(.tmp 66),(.tmp 67)]),
  oS (.store 9 (.tmp 10) (.tmp 68))]) .skip)) .skip))))))))
 (.seq (.reg [oO 69 (.loadn 5 (.tmp 7)),
  oM 70 8,
  oM 71 9,
  oO 72 (.loadn 9 (.tmp 10)),
  ⟨none,.store 5 (.tmp 2) (.tmp 69),none,(.s false [(.tmp 10)])⟩,
  oM 3 70,
  oM 4 71,
  oS (.store 9 (.tmp 5) (.tmp 72))])
 .ret))))))))⟩
theorem s10:compFn Tryz.prog Tryz.f10=some c10:=by kernel_rfl
def c11:XFn:=
 ⟨[.celln 8 5,.tmp 9],
 (.seq (.reg [oO 4 (.box 26 (.tmp 0)),
  oO 7 (.box 34 (.tmp 3)),
  oO 8 (.alloc 26 [.int .i64 0,.int .i64 0,.int .i64 0,.int .i64 0,.slice none 0 0]),
  oO 9 (.mv (oK 0))])
 (.seq (.blk 0 (.seq (.reg [oO 14 (.loadn 5 (.tmp 4)),
  oO 15 (.call (.func 27) [(.tmp 14)]),
  oO 16 (.un .not (.tmp 15)),
  oM 13 16])
 (.cond (.tmp 13) (.seq (.reg [oO 17 (.build [.int .i64 0,.int .i64 0,.int .i64 0,.int .i64 0,.slice none 0 0] []),
  oS (.store 5 (.tmp 8) (.tmp 17)),
  oO 9 (.mv (oK 1))])
 .ret) (.seq (.reg [oO 19 (.loadn 5 (.tmp 4)),
  oM 20 1,
  oO 21 (.bslice 2 1 1 [.int .i64 0] [(0,1,(.tmp 20))]),
  oO 22 (.call (.func 41) [(.tmp 19),(.tmp 21)]),
  oO 23 (.un .not (.tmp 22)),
  oM 24 23,
  oG 25 (.mv (.tmp 2)) 24 false,
  oG 26 (.bin .lss (.tmp 25) (oK 0)) 24 false,
  oO 27 (.pick (.tmp 24) (.const (.bool true)) (.tmp 26)),
  oM 28 27,
  oG 29 (.mv (.tmp 2)) 28 false,
  oG 30 (.bin .gtr (.tmp 29) (oK 2)) 28 false,
  oO 31 (.pick (.tmp 28) (.const (.bool true)) (.tmp 30)),
  oM 32 31,
  oG 33 (.fadr 0 (.tmp 4)) 32 false,
  oG 34 (.load1 (.tmp 33)) 32 false,
  oG 35 (.loadn 5 (.tmp 4)) 32 false,
  ⟨some 36,.call (.func 43) [(.tmp 35)],(some (32,false)),.t⟩,
  oG 37 (.mv (.tmp 2)) 32 false,
  oG 38 (.idx1 3 (.tmp 36) (.tmp 37)) 32 false,
  oG 39 (.loadn 9 (.tmp 7)) 32 false,
  oG 40 (.call (.func 42) [(.tmp 34),(.tmp 38),(.tmp 39)]) 32 false,
  oG 41 (.un .not (.tmp 40)) 32 false,
  oO 42 (.pick (.tmp 32) (.const (.bool true)) (.tmp 41)),
  oM 18 42])
 (.cond (.tmp 18) (.seq (.reg [oO 43 (.build [.int .i64 0,.int .i64 0,.int .i64 0,.int .i64 0,.slice none 0 0] []),
  oS (.store 5 (.tmp 8) (.tmp 43)),
  oO 9 (.mv (oK 2))])
 .ret) .skip)))))
 (.seq (.reg [oF 44 4 4,
  oL 45 44,
  oM 46 1,
  oX 47 27 45 46,
  oO 48 (.loadn 27 (.tmp 47)),
  oO 49 (.call (.func 44) [(.tmp 48)]),
  oO 10 (.alloc 68 [.int .u8 0,.int .u8 0,.int .u8 0,.int .u8 0,.int .u8 0,.int .u8 0,.int .u8 0,.int .u8 0,.int .u8 0,.int .u8 0,.int .u8 0,.int .u8 0,.int .u8 0,.int .u8 0,.int .u8 0,.int .u8 0,.int .u8 0,.int .u8 0,.int .u8 0,.int .u8 0,.int .u8 0,.int .u8 0,.int .u8 0,.int .u8 0,.int .u8 0,.int .u8 0,.int .u8 0]),
  oS (.store 27 (.tmp 10) (.tmp 49))])
 (.seq (.reg [oO 50 (.loadn 27 (.tmp 10)),
  oO 11 (.alloc 68 [.int .u8 0,.int .u8 0,.int .u8 0,.int .u8 0,.int .u8 0,.int .u8 0,.int .u8 0,.int .u8 0,.int .u8 0,.int .u8 0,.int .u8 0,.int .u8 0,.int .u8 0,.int .u8 0,.int .u8 0,.int .u8 0,.int .u8 0,.int .u8 0,.int .u8 0,.int .u8 0,.int .u8 0,.int .u8 0,.int .u8 0,.int .u8 0,.int .u8 0,.int .u8 0,.int .u8 0]),
  oS (.store 27 (.tmp 11) (.tmp 50))])
 (.seq (.blk 1 (.seq (.reg [oO 52 (.loadn 9 (.tmp 7)),
  oO 53 (.build [.int .u8 0,.int .u8 0,.int .u8 0,.int .u8 0,.int .u8 0,.int .u8 0,.int .u8 0,.int .u8 0,.int .u8 0] []),
  oO 54 (.eqa false 9 (.tmp 52) (.tmp 53)),
  oM 55 54,
  oG 56 (.loadn 9 (.tmp 7)) 55 false,
  oG 57 (.mv (.tmp 2)) 55 false,
  oG 58 (.ixa 3 9 (.tmp 10) (.tmp 57)) 55 false,
  oG 59 (.loadn 9 (.tmp 58)) 55 false,
  oG 60 (.eqa false 9 (.tmp 56) (.tmp 59)) 55 false,
  oO 61 (.pick (.tmp 55) (.const (.bool true)) (.tmp 60)),
  oM 51 61])
 (.cond (.tmp 51) (.seq (.reg [oO 62 (.build [.int .i64 0,.int .i64 0,.int .i64 0,.int .i64 0,.slice none 0 0] []),
  oS (.store 5 (.tmp 8) (.tmp 62)),
  oO 9 (.mv (oK 5))])
 .ret) (.seq (.reg [oF 64 4 4,
  oL 65 64,
  oN 66 65,
  oO 67 (.bin .eql (.tmp 66) (oK 30)),
  oM 63 67])
 (.cond (.tmp 63) (.seq (.reg [oO 68 (.build [.int .i64 0,.int .i64 0,.int .i64 0,.int .i64 0,.slice none 0 0] []),
  oS (.store 5 (.tmp 8) (.tmp 68)),
  oO 9 (.mv (oK 3))])
 .ret) .skip)))))
 (.seq (.reg [oM 69 2,
  oO 70 (.loadn 9 (.tmp 7)),
  oO 71 (.ixa 3 9 (.tmp 10) (.tmp 69)),
  oS (.store 9 (.tmp 71) (.tmp 70))])
 (.seq (.reg [oM 72 2,
  oF 73 0 4,
  oL 74 73,
  oM 75 2,
  oO 76 (.ixa 3 9 (.tmp 11) (.tmp 75)),
  oO 77 (.loadn 9 (.tmp 76)),
  oO 78 (.loadn 9 (.tmp 7)),
  oF 79 0 4,
  oL 80 79,
  oO 81 (.bin .sub (.tmp 80) (oK 1)),
  oO 82 (.call (.func 45) [(.tmp 74),(.tmp 77),(.tmp 78),(.tmp 81)]),
  oO 83 (.ixa 3 9 (.tmp 11) (.tmp 72)),
  oS (.store 9 (.tmp 83) (.tmp 82))])
 (.seq (.reg [oF 84 4 4,
  oL 85 84,
  oO 86 (.call (.func 46) [(.tmp 85)]),
  oM 12 86])
 (.seq (.reg [oM 87 12,
  oM 88 1,
  oO 89 (.loadn 27 (.tmp 10)),
  oO 90 (.call (.func 47) [(.tmp 89)]),
  oX 91 27 87 88,
  oS (.store 27 (.tmp 91) (.tmp 90))])
 (.seq (.reg [oO 92 (.loadn 5 (.tmp 4)),
  oM 93 12,
  oO 94 (.loadn 27 (.tmp 11)),
  ⟨some 95,.call (.func 47) [(.tmp 94)],none,.t⟩,
  oO 96 (.bslice 53 27 1 [.int .u8 0,.int .u8 0,.int .u8 0,.int .u8 0,.int .u8 0,.int .u8 0,.int .u8 0,.int .u8 0,.int .u8 0,.int .u8 0,.int .u8 0,.int .u8 0,.int .u8 0,.int .u8 0,.int .u8 0,.int .u8 0,.int .u8 0,.int .u8 0,.int .u8 0,.int .u8 0,.int .u8 0,.int .u8 0,.int .u8 0,.int .u8 0,.int .u8 0,.int .u8 0,.int .u8 0] [(0,27,(.tmp 95))]),
  ⟨some 97,.app 53 27 27 (.tmp 93) (.tmp 96),none,(.u [(.tmp 4)])⟩,
  oO 98 (.call (.func 30) [(.tmp 92),(.tmp 97)]),
  oS (.store 5 (.tmp 8) (.tmp 98)),
  oO 9 (.mv (oK 0))])
 .ret))))))))))⟩
theorem s11:compFn Tryz.prog Tryz.f11=some c11:=by kernel_rfl
def c12:XFn:=
 ⟨[.celln 8 5,.tmp 9],
 (.seq (.reg [oO 4 (.box 26 (.tmp 0)),
  oO 7 (.box 34 (.tmp 3)),
  oO 8 (.alloc 26 [.int .i64 0,.int .i64 0,.int .i64 0,.int .i64 0,.slice none 0 0]),
  oO 9 (.mv (oK 0))])
 (.seq (.blk 0 (.seq (.reg [oO 13 (.loadn 5 (.tmp 4)),
  oO 14 (.call (.func 25) [(.tmp 13)]),
  oO 15 (.un .not (.tmp 14)),
  oM 12 15])
 (.cond (.tmp 12) (.seq (.reg [oO 16 (.build [.int .i64 0,.int .i64 0,.int .i64 0,.int .i64 0,.slice none 0 0] []),
  oS (.store 5 (.tmp 8) (.tmp 16)),
  oO 9 (.mv (oK 1))])
 .ret) (.seq (.reg [oO 18 (.loadn 5 (.tmp 4)),
  oM 19 1,
  oO 20 (.bslice 2 1 1 [.int .i64 0] [(0,1,(.tmp 19))]),
  oO 21 (.call (.func 39) [(.tmp 18),(.tmp 20)]),
  oO 22 (.un .not (.tmp 21)),
  oM 23 22,
  oG 24 (.mv (.tmp 2)) 23 false,
  oG 25 (.call (.func 36) [(.tmp 24),(oK 0),(oK 2)]) 23 false,
  oG 26 (.un .not (.tmp 25)) 23 false,
  oO 27 (.pick (.tmp 23) (.const (.bool true)) (.tmp 26)),
  oM 17 27])
 (.cond (.tmp 17) (.seq (.reg [oO 28 (.build [.int .i64 0,.int .i64 0,.int .i64 0,.int .i64 0,.slice none 0 0] []),
  oS (.store 5 (.tmp 8) (.tmp 28)),
  oO 9 (.mv (oK 2))])
 .ret) (.seq (.reg [oF 30 0 4,
  oL 31 30,
  oO 32 (.loadn 9 (.tmp 7)),
  oO 33 (.loadn 5 (.tmp 4)),
  oM 34 2,
  ⟨some 35,.call (.func 38) [(.tmp 33),(.tmp 34)],none,.t⟩,
  oO 36 (.call (.func 48) [(.tmp 31),(.tmp 32),(.tmp 35)]),
  oO 37 (.un .not (.tmp 36)),
  oM 29 37])
 (.cond (.tmp 29) (.seq (.reg [oO 38 (.build [.int .i64 0,.int .i64 0,.int .i64 0,.int .i64 0,.slice none 0 0] []),
  oS (.store 5 (.tmp 8) (.tmp 38)),
  oO 9 (.mv (oK 2))])
 .ret) (.seq (.reg [oO 40 (.loadn 9 (.tmp 7)),
  oO 41 (.call (.func 49) [(.tmp 40)]),
  oM 42 41,
  oG 43 (.loadn 9 (.tmp 7)) 42 false,
  oG 44 (.fadr 4 (.tmp 4)) 42 false,
  oG 45 (.load1 (.tmp 44)) 42 false,
  oG 46 (.mv (.tmp 1)) 42 false,
  oG 47 (.ixs 27 (.tmp 45) (.tmp 46)) 42 false,
  oG 48 (.loadn 27 (.tmp 47)) 42 false,
  oG 49 (.mv (.tmp 2)) 42 false,
  ⟨some 50,.call (.func 40) [(.tmp 48),(.tmp 49)],(some (42,false)),.t⟩,
  oG 51 (.eqa false 9 (.tmp 43) (.tmp 50)) 42 false,
  oO 52 (.pick (.tmp 42) (.const (.bool true)) (.tmp 51)),
  oM 39 52])
 (.cond (.tmp 39) (.seq (.reg [oO 53 (.build [.int .i64 0,.int .i64 0,.int .i64 0,.int .i64 0,.slice none 0 0] []),
  oS (.store 5 (.tmp 8) (.tmp 53)),
  oO 9 (.mv (oK 5))])
 .ret) (.seq (.reg [oF 55 4 4,
  oL 56 55,
  oN 57 56,
  oO 58 (.bin .eql (.tmp 57) (oK 30)),
  oM 54 58])
 (.cond (.tmp 54) (.seq (.reg [oO 59 (.build [.int .i64 0,.int .i64 0,.int .i64 0,.int .i64 0,.slice none 0 0] []),
  oS (.store 5 (.tmp 8) (.tmp 59)),
  oO 9 (.mv (oK 3))])
 .ret) .skip)))))))))))
 (.seq (.reg [oO 60 (.bslice 53 27 0 [.int .u8 0,.int .u8 0,.int .u8 0,.int .u8 0,.int .u8 0,.int .u8 0,.int .u8 0,.int .u8 0,.int .u8 0,.int .u8 0,.int .u8 0,.int .u8 0,.int .u8 0,.int .u8 0,.int .u8 0,.int .u8 0,.int .u8 0,.int .u8 0,.int .u8 0,.int .u8 0,.int .u8 0,.int .u8 0,.int .u8 0,.int .u8 0,.int .u8 0,.int .u8 0,.int .u8 0] []),
  oF 61 4 4,
  oL 62 61,
  oO 63 (.app 53 27 27 (.tmp 60) (.tmp 62)),
  oM 10 63])
 (.seq (.reg [oM 64 10,
  oM 65 1,
  oX 66 27 64 65,
  oO 67 (.loadn 27 (.tmp 66)),
  oO 11 (.alloc 53 [.int .u8 0,.int .u8 0,.int .u8 0,.int .u8 0,.int .u8 0,.int .u8 0,.int .u8 0,.int .u8 0,.int .u8 0,.int .u8 0,.int .u8 0,.int .u8 0,.int .u8 0,.int .u8 0,.int .u8 0,.int .u8 0,.int .u8 0,.int .u8 0,.int .u8 0,.int .u8 0,.int .u8 0,.int .u8 0,.int .u8 0,.int .u8 0,.int .u8 0,.int .u8 0,.int .u8 0]),
  oS (.store 27 (.tmp 11) (.tmp 67))])
 (.seq (.reg [oM 68 10,
  oM 69 1,
  oO 70 (.loadn 27 (.tmp 11)),
  oM 71 2,
  oO 72 (.loadn 9 (.tmp 7)),
  oO 73 (.call (.func 50) [(.tmp 70),(.tmp 71),(.tmp 72)]),
  oX 74 27 68 69,
  oS (.store 27 (.tmp 74) (.tmp 73))])
 (.seq (.reg [oM 75 10,
  oO 76 (.loadn 27 (.tmp 11)),
  oM 77 2,
  oF 78 0 4,
  oL 79 78,
  oO 80 (.loadn 27 (.tmp 11)),
  oM 81 2,
  ⟨some 82,.call (.func 40) [(.tmp 80),(.tmp 81)],none,.t⟩,
  oO 83 (.loadn 9 (.tmp 7)),
  ⟨some 84,.call (.func 51) [(.tmp 79),(.tmp 82),(.tmp 83),(.const (.int .i64 (-1)))],none,.t⟩,
  oO 85 (.call (.func 50) [(.tmp 76),(.tmp 77),(.tmp 84)]),
  oO 86 (.bslice 53 27 1 [.int .u8 0,.int .u8 0,.int .u8 0,.int .u8 0,.int .u8 0,.int .u8 0,.int .u8 0,.int .u8 0,.int .u8 0,.int .u8 0,.int .u8 0,.int .u8 0,.int .u8 0,.int .u8 0,.int .u8 0,.int .u8 0,.int .u8 0,.int .u8 0,.int .u8 0,.int .u8 0,.int .u8 0,.int .u8 0,.int .u8 0,.int .u8 0,.int .u8 0,.int .u8 0,.int .u8 0] [(0,27,(.tmp 85))]),
  oO 87 (.app 53 27 27 (.tmp 75) (.tmp 86)),
  oM 10 87])
 (.seq (.reg [oO 88 (.loadn 5 (.tmp 4)),
  oM 89 10,
  oO 90 (.call (.func 52) [(.tmp 88),(.tmp 89)]),
  oS (.store 5 (.tmp 8) (.tmp 90)),
  oO 9 (.mv (oK 0))])
 .ret)))))))⟩
theorem s12:compFn Tryz.prog Tryz.f12=some c12:=by kernel_rfl
def c13:XFn:=
 ⟨[.celln 2 5,.tmp 3,.tmp 4],
 (.seq (.reg [oO 2 (.alloc 26 [.int .i64 0,.int .i64 0,.int .i64 0,.int .i64 0,.slice none 0 0]),
  oO 3 (.mv (oK 0)),
  oO 4 (.mv (oK 0))])
 (.seq (.reg [oM 8 0,
  oO 9 (.call (.func 23) [(.tmp 8)]),
  oM 5 9])
 (.seq (.reg [oM 10 5,
  oO 11 (.call (.func 24) [(.tmp 10)]),
  oO 6 (.alloc 26 [.int .i64 0,.int .i64 0,.int .i64 0,.int .i64 0,.slice none 0 0]),
  oS (.store 5 (.tmp 6) (.tmp 11))])
 (.seq (.reg [oF 12 4 6,
  oL 13 12,
  oN 14 13,
  oO 15 (.bin .sub (.tmp 14) (oK 1)),
  oO 16 (.mm true (.tmp 15) [(oK 0)]),
  oM 7 16])
 (.seq (.reg [oO 17 (.loadn 5 (.tmp 6)),
  oM 18 5,
  oM 19 7,
  ⟨some 20,.call (.func 35) [(.tmp 18),(.tmp 19)],none,(.s true [(.tmp 6)])⟩,
  oM 21 5,
  oM 22 7,
  ⟨some 23,.call (.func 35) [(.tmp 21),(.tmp 22)],none,(.s true [(.tmp 6)])⟩,
  oS (.store 5 (.tmp 2) (.tmp 17)),
  oM 3 20,
  oM 4 23])
 .ret)))))⟩
theorem s13:compFn Tryz.prog Tryz.f13=some c13:=by kernel_rfl
def c14:XFn:=
 ⟨[.celln 6 5,.tmp 7],
 (.seq (.reg [oO 3 (.box 26 (.tmp 0)),
  oO 6 (.alloc 26 [.int .i64 0,.int .i64 0,.int .i64 0,.int .i64 0,.slice none 0 0]),
  oO 7 (.mv (oK 0))])
 (.seq (.blk 0 (.seq (.reg [oO 13 (.loadn 5 (.tmp 3)),
  oO 14 (.call (.func 27) [(.tmp 13)]),
  oO 15 (.un .not (.tmp 14)),
  oM 12 15])
 (.cond (.tmp 12) (.seq (.reg [oO 16 (.build [.int .i64 0,.int .i64 0,.int .i64 0,.int .i64 0,.slice none 0 0] []),
  oS (.store 5 (.tmp 6) (.tmp 16)),
  oO 7 (.mv (oK 1))])
 .ret) (.seq (.reg [oO 18 (.loadn 5 (.tmp 3)),
  oM 19 1,
  oM 20 2,
  oO 21 (.bslice 2 1 2 [.int .i64 0] [(0,1,(.tmp 19)),(1,1,(.tmp 20))]),
  oO 22 (.call (.func 41) [(.tmp 18),(.tmp 21)]),
  oO 23 (.un .not (.tmp 22)),
  oM 17 23])
 (.cond (.tmp 17) (.seq (.reg [oO 24 (.build [.int .i64 0,.int .i64 0,.int .i64 0,.int .i64 0,.slice none 0 0] []),
  oS (.store 5 (.tmp 6) (.tmp 24)),
  oO 7 (.mv (oK 2))])
 .ret) (.seq (.reg [oM 26 1,
  oM 27 2,
  oO 28 (.bin .eql (.tmp 26) (.tmp 27)),
  oM 25 28])
 (.cond (.tmp 25) (.seq (.reg [oO 29 (.build [.int .i64 0,.int .i64 0,.int .i64 0,.int .i64 0,.slice none 0 0] []),
  oS (.store 5 (.tmp 6) (.tmp 29)),
  oO 7 (.mv (oK 5))])
 .ret) (.seq (.reg [oF 31 4 3,
  oL 32 31,
  oN 33 32,
  oO 34 (.bin .eql (.tmp 33) (oK 30)),
  oM 30 34])
 (.cond (.tmp 30) (.seq (.reg [oO 35 (.build [.int .i64 0,.int .i64 0,.int .i64 0,.int .i64 0,.slice none 0 0] []),
  oS (.store 5 (.tmp 6) (.tmp 35)),
  oO 7 (.mv (oK 3))])
 .ret) .skip)))))))))
 (.seq (.reg [oF 36 0 3,
  oL 37 36,
  oF 38 4 3,
  oL 39 38,
  ⟨some 40,.call (.func 46) [(.tmp 39)],none,(.u [(.tmp 36)])⟩,
  oM 8 37,
  oM 9 40])
 (.seq (.reg [oM 41 9,
  oM 42 1,
  oX 43 27 41 42,
  oO 44 (.loadn 27 (.tmp 43)),
  oM 45 9,
  oM 46 2,
  oX 47 27 45 46,
  oO 48 (.loadn 27 (.tmp 47)),
  oO 10 (.boxn 53 27 (.tmp 44)),
  oO 11 (.boxn 53 27 (.tmp 48))])
 (.seq (.reg [oM 49 9,
  oM 50 1,
  oM 51 8,
  oF 52 0 10,
  oO 53 (.loadn 9 (.tmp 52)),
  oF 54 0 11,
  oO 55 (.loadn 9 (.tmp 54)),
  oM 56 8,
  oO 57 (.bin .sub (.tmp 56) (oK 1)),
  ⟨some 58,.call (.func 45) [(.tmp 51),(.tmp 53),(.tmp 55),(.tmp 57)],none,.t⟩,
  oF 59 9 10,
  oO 60 (.loadn 9 (.tmp 59)),
  oF 61 18 10,
  oO 62 (.loadn 9 (.tmp 61)),
  oO 63 (.build [.int .u8 0,.int .u8 0,.int .u8 0,.int .u8 0,.int .u8 0,.int .u8 0,.int .u8 0,.int .u8 0,.int .u8 0,.int .u8 0,.int .u8 0,.int .u8 0,.int .u8 0,.int .u8 0,.int .u8 0,.int .u8 0,.int .u8 0,.int .u8 0,.int .u8 0,.int .u8 0,.int .u8 0,.int .u8 0,.int .u8 0,.int .u8 0,.int .u8 0,.int .u8 0,.int .u8 0] [(0,9,(.tmp 58)),(9,9,(.tmp 60)),(18,9,(.tmp 62))]),
  oX 64 27 49 50,
  oS (.store 27 (.tmp 64) (.tmp 63))])
 (.seq (.reg [oM 65 9,
  oM 66 2,
  oF 67 0 11,
  oO 68 (.loadn 9 (.tmp 67)),
  oF 69 9 10,
  oO 70 (.loadn 9 (.tmp 69)),
  oM 71 8,
  oF 72 18 10,
  oO 73 (.loadn 9 (.tmp 72)),
  oF 74 18 11,
  oO 75 (.loadn 9 (.tmp 74)),
  ⟨some 76,.call (.func 45) [(.tmp 71),(.tmp 73),(.tmp 75),(oK 1)],none,.t⟩,
  oO 77 (.build [.int .u8 0,.int .u8 0,.int .u8 0,.int .u8 0,.int .u8 0,.int .u8 0,.int .u8 0,.int .u8 0,.int .u8 0,.int .u8 0,.int .u8 0,.int .u8 0,.int .u8 0,.int .u8 0,.int .u8 0,.int .u8 0,.int .u8 0,.int .u8 0,.int .u8 0,.int .u8 0,.int .u8 0,.int .u8 0,.int .u8 0,.int .u8 0,.int .u8 0,.int .u8 0,.int .u8 0] [(0,9,(.tmp 68)),(9,9,(.tmp 70)),(18,9,(.tmp 76))]),
  oX 78 27 65 66,
  oS (.store 27 (.tmp 78) (.tmp 77))])
 (.seq (.reg [oM 79 9,
  oF 80 0 11,
  oO 81 (.loadn 9 (.tmp 80)),
  oM 82 8,
  oF 83 9 11,
  oO 84 (.loadn 9 (.tmp 83)),
  oF 85 9 10,
  oO 86 (.loadn 9 (.tmp 85)),
  oM 87 8,
  oO 88 (.bin .sub (.tmp 87) (oK 1)),
  ⟨some 89,.call (.func 45) [(.tmp 82),(.tmp 84),(.tmp 86),(.tmp 88)],none,.t⟩,
  oF 90 18 11,
  oO 91 (.loadn 9 (.tmp 90)),
  oO 92 (.build [.int .u8 0,.int .u8 0,.int .u8 0,.int .u8 0,.int .u8 0,.int .u8 0,.int .u8 0,.int .u8 0,.int .u8 0,.int .u8 0,.int .u8 0,.int .u8 0,.int .u8 0,.int .u8 0,.int .u8 0,.int .u8 0,.int .u8 0,.int .u8 0,.int .u8 0,.int .u8 0,.int .u8 0,.int .u8 0,.int .u8 0,.int .u8 0,.int .u8 0,.int .u8 0,.int .u8 0] [(0,9,(.tmp 81)),(9,9,(.tmp 89)),(18,9,(.tmp 91))]),
  oO 93 (.bslice 53 27 1 [.int .u8 0,.int .u8 0,.int .u8 0,.int .u8 0,.int .u8 0,.int .u8 0,.int .u8 0,.int .u8 0,.int .u8 0,.int .u8 0,.int .u8 0,.int .u8 0,.int .u8 0,.int .u8 0,.int .u8 0,.int .u8 0,.int .u8 0,.int .u8 0,.int .u8 0,.int .u8 0,.int .u8 0,.int .u8 0,.int .u8 0,.int .u8 0,.int .u8 0,.int .u8 0,.int .u8 0] [(0,27,(.tmp 92))]),
  oO 94 (.app 53 27 27 (.tmp 79) (.tmp 93)),
  oM 9 94])
 (.seq (.reg [oO 95 (.loadn 5 (.tmp 3)),
  oM 96 9,
  ⟨some 97,.call (.func 53) [(.tmp 96)],none,(.u [(.tmp 3)])⟩,
  oO 98 (.call (.func 30) [(.tmp 95),(.tmp 97)]),
  oS (.store 5 (.tmp 6) (.tmp 98)),
  oO 7 (.mv (oK 0))])
 .ret))))))))⟩
theorem s14:compFn Tryz.prog Tryz.f14=some c14:=by kernel_rfl
def c15:XFn:=
 ⟨[.celln 6 5,.tmp 7],
 (.seq (.reg [oO 3 (.box 26 (.tmp 0)),
  oO 6 (.alloc 26 [.int .i64 0,.int .i64 0,.int .i64 0,.int .i64 0,.slice none 0 0]),
  oO 7 (.mv (oK 0))])
 (.seq (.blk 0 (.seq (.reg [oO 12 (.loadn 5 (.tmp 3)),
  oO 13 (.call (.func 25) [(.tmp 12)]),
  oO 14 (.un .not (.tmp 13)),
  oM 11 14])
 (.cond (.tmp 11) (.seq (.reg [oO 15 (.build [.int .i64 0,.int .i64 0,.int .i64 0,.int .i64 0,.slice none 0 0] []),
  oS (.store 5 (.tmp 6) (.tmp 15)),
  oO 7 (.mv (oK 1))])
 .ret) (.seq (.reg [oO 17 (.loadn 5 (.tmp 3)),
  oM 18 1,
  oM 19 2,
  oO 20 (.bslice 2 1 2 [.int .i64 0] [(0,1,(.tmp 18)),(1,1,(.tmp 19))]),
  oO 21 (.call (.func 39) [(.tmp 17),(.tmp 20)]),
  oO 22 (.un .not (.tmp 21)),
  oM 16 22])
 (.cond (.tmp 16) (.seq (.reg [oO 23 (.build [.int .i64 0,.int .i64 0,.int .i64 0,.int .i64 0,.slice none 0 0] []),
  oS (.store 5 (.tmp 6) (.tmp 23)),
  oO 7 (.mv (oK 2))])
 .ret) (.seq (.reg [oM 25 1,
  oM 26 2,
  oO 27 (.bin .eql (.tmp 25) (.tmp 26)),
  oM 24 27])
 (.cond (.tmp 24) (.seq (.reg [oO 28 (.build [.int .i64 0,.int .i64 0,.int .i64 0,.int .i64 0,.slice none 0 0] []),
  oS (.store 5 (.tmp 6) (.tmp 28)),
  oO 7 (.mv (oK 5))])
 .ret) (.seq (.reg [oF 30 4 3,
  oL 31 30,
  oN 32 31,
  oO 33 (.bin .eql (.tmp 32) (oK 30)),
  oM 29 33])
 (.cond (.tmp 29) (.seq (.reg [oO 34 (.build [.int .i64 0,.int .i64 0,.int .i64 0,.int .i64 0,.slice none 0 0] []),
  oS (.store 5 (.tmp 6) (.tmp 34)),
  oO 7 (.mv (oK 3))])
 .ret) .skip)))))))))
 (.seq (.reg [oO 35 (.bslice 53 27 0 [.int .u8 0,.int .u8 0,.int .u8 0,.int .u8 0,.int .u8 0,.int .u8 0,.int .u8 0,.int .u8 0,.int .u8 0,.int .u8 0,.int .u8 0,.int .u8 0,.int .u8 0,.int .u8 0,.int .u8 0,.int .u8 0,.int .u8 0,.int .u8 0,.int .u8 0,.int .u8 0,.int .u8 0,.int .u8 0,.int .u8 0,.int .u8 0,.int .u8 0,.int .u8 0,.int .u8 0] []),
  oF 36 4 3,
  oL 37 36,
  oO 38 (.app 53 27 27 (.tmp 35) (.tmp 37)),
  oM 8 38])
 (.seq (.reg [oM 39 8,
  oM 40 1,
  oX 41 27 39 40,
  oO 42 (.loadn 27 (.tmp 41)),
  oM 43 8,
  oM 44 2,
  oX 45 27 43 44,
  oO 46 (.loadn 27 (.tmp 45)),
  oO 9 (.boxn 53 27 (.tmp 42)),
  oO 10 (.boxn 53 27 (.tmp 46))])
 (.seq (.reg [oM 47 8,
  oM 48 1,
  oO 49 (.loadn 27 (.tmp 9)),
  oF 50 0 3,
  oL 51 50,
  oF 52 0 9,
  oO 53 (.loadn 9 (.tmp 52)),
  oF 54 0 10,
  oO 55 (.loadn 9 (.tmp 54)),
  ⟨some 56,.call (.func 51) [(.tmp 51),(.tmp 53),(.tmp 55),(.const (.int .i64 (-1)))],none,.t⟩,
  oO 57 (.call (.func 50) [(.tmp 49),(oK 0),(.tmp 56)]),
  oX 58 27 47 48,
  oS (.store 27 (.tmp 58) (.tmp 57))])
 (.seq (.reg [oM 59 8,
  oM 60 2,
  oF 61 0 10,
  oO 62 (.loadn 9 (.tmp 61)),
  oF 63 9 9,
  oO 64 (.loadn 9 (.tmp 63)),
  oF 65 0 3,
  oL 66 65,
  oF 67 18 9,
  oO 68 (.loadn 9 (.tmp 67)),
  oF 69 18 10,
  oO 70 (.loadn 9 (.tmp 69)),
  ⟨some 71,.call (.func 51) [(.tmp 66),(.tmp 68),(.tmp 70),(oK 1)],none,.t⟩,
  oO 72 (.build [.int .u8 0,.int .u8 0,.int .u8 0,.int .u8 0,.int .u8 0,.int .u8 0,.int .u8 0,.int .u8 0,.int .u8 0,.int .u8 0,.int .u8 0,.int .u8 0,.int .u8 0,.int .u8 0,.int .u8 0,.int .u8 0,.int .u8 0,.int .u8 0,.int .u8 0,.int .u8 0,.int .u8 0,.int .u8 0,.int .u8 0,.int .u8 0,.int .u8 0,.int .u8 0,.int .u8 0] [(0,9,(.tmp 62)),(9,9,(.tmp 64)),(18,9,(.tmp 71))]),
  oX 73 27 59 60,
  oS (.store 27 (.tmp 73) (.tmp 72))])
 (.seq (.reg [oM 74 8,
  oO 75 (.loadn 27 (.tmp 10)),
  oF 76 0 3,
  oL 77 76,
  oF 78 9 10,
  oO 79 (.loadn 9 (.tmp 78)),
  oF 80 9 9,
  oO 81 (.loadn 9 (.tmp 80)),
  ⟨some 82,.call (.func 51) [(.tmp 77),(.tmp 79),(.tmp 81),(.const (.int .i64 (-1)))],none,.t⟩,
  oO 83 (.call (.func 50) [(.tmp 75),(oK 1),(.tmp 82)]),
  oO 84 (.bslice 53 27 1 [.int .u8 0,.int .u8 0,.int .u8 0,.int .u8 0,.int .u8 0,.int .u8 0,.int .u8 0,.int .u8 0,.int .u8 0,.int .u8 0,.int .u8 0,.int .u8 0,.int .u8 0,.int .u8 0,.int .u8 0,.int .u8 0,.int .u8 0,.int .u8 0,.int .u8 0,.int .u8 0,.int .u8 0,.int .u8 0,.int .u8 0,.int .u8 0,.int .u8 0,.int .u8 0,.int .u8 0] [(0,27,(.tmp 83))]),
  oO 85 (.app 53 27 27 (.tmp 74) (.tmp 84)),
  oM 8 85])
 (.seq (.reg [oO 86 (.loadn 5 (.tmp 3)),
  oM 87 8,
  oO 88 (.call (.func 52) [(.tmp 86),(.tmp 87)]),
  oS (.store 5 (.tmp 6) (.tmp 88)),
  oO 7 (.mv (oK 0))])
 .ret))))))))⟩
theorem s15:compFn Tryz.prog Tryz.f15=some c15:=by kernel_rfl
def c16:XFn:=
 ⟨[.celln 2 5,.celln 3 5],
 (.seq (.reg [oO 2 (.alloc 26 [.int .i64 0,.int .i64 0,.int .i64 0,.int .i64 0,.slice none 0 0]),
  oO 3 (.alloc 26 [.int .i64 0,.int .i64 0,.int .i64 0,.int .i64 0,.slice none 0 0])])
 (.seq (.reg [oM 7 0,
  oO 8 (.call (.func 54) [(.tmp 7)]),
  oM 6 8,
  oE 9 6 0,
  oE 10 6 1,
  oO 4 (.alloc 26 [.int .i64 0,.int .i64 0,.int .i64 0,.int .i64 0,.slice none 0 0]),
  oO 5 (.alloc 26 [.int .i64 0,.int .i64 0,.int .i64 0,.int .i64 0,.slice none 0 0]),
  oS (.store 5 (.tmp 4) (.tmp 9)),
  oS (.store 5 (.tmp 5) (.tmp 10))])
 (.seq (.reg [oO 11 (.loadn 5 (.tmp 4)),
  oO 12 (.loadn 5 (.tmp 5)),
  ⟨none,.store 5 (.tmp 2) (.tmp 11),none,(.s false [(.tmp 5)])⟩,
  oS (.store 5 (.tmp 3) (.tmp 12))])
 .ret)))⟩
theorem s16:compFn Tryz.prog Tryz.f16=some c16:=by kernel_rfl
def c17:XFn:=
 ⟨[.tmp 4,.tmp 5],
 (.seq (.reg [oO 2 (.box 26 (.tmp 0)),
  oO 3 (.box 26 (.tmp 1)),
  oO 4 (.mv (.const (.bool false))),
  oO 5 (.mv (oK 0))])
 (.seq (.seq (.reg [oO 7 (.loadn 5 (.tmp 2)),
  oO 8 (.loadn 5 (.tmp 3)),
  oO 9 (.call (.func 32) [(.tmp 7),(.tmp 8)]),
  oM 6 9])
 (.seq (.reg [oM 10 6,
  oO 11 (.bin .neq (.tmp 10) (oK 0))])
 (.cond (.tmp 11) (.seq (.reg [oM 12 6,
  oO 4 (.mv (.const (.bool false))),
  oM 5 12])
 .ret) .skip)))
 (.seq (.reg [oO 13 (.loadn 5 (.tmp 2)),
  ⟨some 14,.call (.func 28) [(.tmp 13)],none,.t⟩,
  ⟨some 15,.call (.func 56) [(.tmp 14)],none,.t⟩,
  oO 16 (.fld1 4 (.tmp 15)),
  oO 17 (.loadn 5 (.tmp 3)),
  oO 18 (.call (.func 28) [(.tmp 17)]),
  oO 19 (.call (.func 56) [(.tmp 18)]),
  oO 20 (.fld1 4 (.tmp 19)),
  oO 21 (.call (.func 55) [(.tmp 16),(.tmp 20)]),
  oM 4 21,
  oO 5 (.mv (oK 0))])
 .ret)))⟩
theorem s17:compFn Tryz.prog Tryz.f17=some c17:=by kernel_rfl
def c18:XFn:=
 ⟨[.tmp 4,.tmp 5],
 (.seq (.reg [oO 2 (.box 26 (.tmp 0)),
  oO 3 (.box 26 (.tmp 1)),
  oO 4 (.mv (.const (.bool false))),
  oO 5 (.mv (oK 0))])
 (.seq (.seq (.reg [oO 11 (.loadn 5 (.tmp 2)),
  oO 12 (.loadn 5 (.tmp 3)),
  oO 13 (.call (.func 57) [(.tmp 11),(.tmp 12)]),
  oM 6 13])
 (.seq (.reg [oM 14 6,
  oO 15 (.bin .neq (.tmp 14) (oK 0))])
 (.cond (.tmp 15) (.seq (.reg [oM 16 6,
  oO 4 (.mv (.const (.bool false))),
  oM 5 16])
 .ret) .skip)))
 (.seq (.reg [oO 17 (.loadn 5 (.tmp 2)),
  ⟨some 18,.call (.func 59) [(.tmp 17)],none,.t⟩,
  ⟨some 19,.call (.func 58) [(.tmp 18)],none,.t⟩,
  oO 20 (.loadn 5 (.tmp 3)),
  oO 21 (.call (.func 59) [(.tmp 20)]),
  oO 22 (.call (.func 58) [(.tmp 21)]),
  oO 7 (.boxn 26 5 (.tmp 19)),
  oO 8 (.boxn 26 5 (.tmp 22))])
 (.seq (.reg [oF 23 4 7,
  oL 24 23,
  oN 25 24,
  oF 26 4 8,
  oL 27 26,
  oN 28 27,
  oO 29 (.bin .eql (.tmp 25) (.tmp 28)),
  oM 9 29])
 (.seq (.seq (.reg [oO 10 (.mv (oK 0))])
 (.blk 0 (.loop (.seq (.seq (.reg [oM 30 10,
  oF 31 4 7,
  oL 32 31,
  oN 33 32,
  oO 34 (.bin .lss (.tmp 30) (.tmp 33)),
  oM 35 34,
  oG 36 (.mv (.tmp 9)) 35 true,
  oO 37 (.pick (.tmp 35) (.tmp 36) (.const (.bool false)))])
 (.cond (.tmp 37) .skip (.exit 0)))
 (.seq (.blk 1 (.reg [oF 40 4 7,
  oL 41 40,
  oM 42 10,
  oX 43 27 41 42,
  oO 44 (.loadn 27 (.tmp 43)),
  oF 45 4 8,
  oL 46 45,
  oM 47 10,
  oX 48 27 46 47,
  oO 49 (.loadn 27 (.tmp 48)),
  oO 50 (.eqa false 27 (.tmp 44) (.tmp 49)),
  oM 9 50]))
 (.reg [oM 38 10,
  oO 39 (.bin .add (.tmp 38) (oK 1)),
  oM 10 39]))))))
 (.seq (.reg [oM 51 9,
  oM 4 51,
  oO 5 (.mv (oK 0))])
 .ret))))))⟩
theorem s18:compFn Tryz.prog Tryz.f18=some c18:=by kernel_rfl
def c19:XFn:=
 ⟨[.tmp 4,.tmp 5],
 (.seq (.reg [oO 2 (.box 26 (.tmp 0)),
  oO 3 (.box 26 (.tmp 1)),
  oO 4 (.mv (.const (.bool false))),
  oO 5 (.mv (oK 0))])
 (.seq (.seq (.reg [oO 13 (.loadn 5 (.tmp 2)),
  oO 14 (.loadn 5 (.tmp 3)),
  oO 15 (.call (.func 57) [(.tmp 13),(.tmp 14)]),
  oM 6 15])
 (.seq (.reg [oM 16 6,
  oO 17 (.bin .neq (.tmp 16) (oK 0))])
 (.cond (.tmp 17) (.seq (.reg [oM 18 6,
  oO 4 (.mv (.const (.bool false))),
  oM 5 18])
 .ret) .skip)))
 (.seq (.reg [oO 20 (.loadn 5 (.tmp 2)),
  oO 21 (.call (.func 60) [(.tmp 20)]),
  oM 19 21,
  oE 22 19 0,
  oE 23 19 1,
  oE 24 19 2,
  oM 7 22,
  oM 8 23,
  oM 9 24])
 (.seq (.seq (.reg [oO 10 (.mv (oK 0))])
 (.blk 0 (.loop (.seq (.seq (.reg [oM 25 10,
  oM 26 7,
  oO 27 (.bin .lss (.tmp 25) (.tmp 26))])
 (.cond (.tmp 27) .skip (.exit 0)))
 (.seq (.blk 1 (.seq (.reg [oO 11 (.mv (oK 0))])
 (.blk 2 (.loop (.seq (.seq (.reg [oM 30 11,
  oM 31 8,
  oO 32 (.bin .lss (.tmp 30) (.tmp 31))])
 (.cond (.tmp 32) .skip (.exit 2)))
 (.seq (.blk 3 (.seq (.reg [oO 12 (.mv (oK 0))])
 (.blk 4 (.loop (.seq (.seq (.reg [oM 35 12,
  oM 36 9,
  oO 37 (.bin .lss (.tmp 35) (.tmp 36))])
 (.cond (.tmp 37) .skip (.exit 4)))
 (.seq (.blk 5 (.seq (.reg [oO 40 (.loadn 5 (.tmp 2)),
  oM 41 10,
  oM 42 11,
  oM 43 12,
  ⟨some 44,.call (.func 61) [(.tmp 40),(.tmp 41),(.tmp 42),(.tmp 43)],none,.t⟩,
  oO 45 (.loadn 5 (.tmp 3)),
  oM 46 10,
  oM 47 11,
  oM 48 12,
  oO 49 (.call (.func 61) [(.tmp 45),(.tmp 46),(.tmp 47),(.tmp 48)]),
  oO 50 (.bin .neq (.tmp 44) (.tmp 49))])
 (.cond (.tmp 50) (.seq (.reg [oO 4 (.mv (.const (.bool false))),
  oO 5 (.mv (oK 0))])
 .ret) .skip)))
 (.reg [oM 38 12,
  oO 39 (.bin .add (.tmp 38) (oK 1)),
  oM 12 39])))))))
 (.reg [oM 33 11,
  oO 34 (.bin .add (.tmp 33) (oK 1)),
  oM 11 34])))))))
 (.reg [oM 28 10,
  oO 29 (.bin .add (.tmp 28) (oK 1)),
  oM 10 29]))))))
 (.seq (.reg [oO 4 (.mv (.const (.bool true))),
  oO 5 (.mv (oK 0))])
 .ret)))))⟩
theorem s19:compFn Tryz.prog Tryz.f19=some c19:=by kernel_rfl
def c20:XFn:=
 ⟨[.celln 2 5],
 (.seq (.reg [oO 2 (.alloc 26 [.int .i64 0,.int .i64 0,.int .i64 0,.int .i64 0,.slice none 0 0])])
 (.seq (.reg [oM 3 0,
  oO 4 (.call (.func 23) [(.tmp 3)]),
  oO 5 (.call (.func 62) [(.tmp 4)]),
  oS (.store 5 (.tmp 2) (.tmp 5))])
 .ret))⟩
theorem s20:compFn Tryz.prog Tryz.f20=some c20:=by kernel_rfl
def c21:XFn:=
 ⟨[.celln 2 5,.tmp 3],
 (.seq (.reg [oO 1 (.box 26 (.tmp 0)),
  oO 2 (.alloc 26 [.int .i64 0,.int .i64 0,.int .i64 0,.int .i64 0,.slice none 0 0]),
  oO 3 (.mv (oK 0))])
 (.seq (.seq (.reg [oO 4 (.loadn 5 (.tmp 1)),
  oO 5 (.call (.func 27) [(.tmp 4)]),
  oO 6 (.un .not (.tmp 5))])
 (.cond (.tmp 6) (.seq (.reg [oO 7 (.build [.int .i64 0,.int .i64 0,.int .i64 0,.int .i64 0,.slice none 0 0] []),
  oS (.store 5 (.tmp 2) (.tmp 7)),
  oO 3 (.mv (oK 1))])
 .ret) .skip))
 (.seq (.reg [oO 8 (.loadn 5 (.tmp 1)),
  oO 9 (.call (.func 28) [(.tmp 8)]),
  oS (.store 5 (.tmp 2) (.tmp 9)),
  oO 3 (.mv (oK 0))])
 .ret)))⟩
theorem s21:compFn Tryz.prog Tryz.f21=some c21:=by kernel_rfl
def c22:XFn:=
 ⟨[.celln 2 5,.tmp 3],
 (.seq (.reg [oO 1 (.box 26 (.tmp 0)),
  oO 2 (.alloc 26 [.int .i64 0,.int .i64 0,.int .i64 0,.int .i64 0,.slice none 0 0]),
  oO 3 (.mv (oK 0))])
 (.seq (.seq (.reg [oO 4 (.loadn 5 (.tmp 1)),
  oO 5 (.call (.func 25) [(.tmp 4)]),
  oO 6 (.un .not (.tmp 5))])
 (.cond (.tmp 6) (.seq (.reg [oO 7 (.build [.int .i64 0,.int .i64 0,.int .i64 0,.int .i64 0,.slice none 0 0] []),
  oS (.store 5 (.tmp 2) (.tmp 7)),
  oO 3 (.mv (oK 1))])
 .ret) .skip))
 (.seq (.reg [oO 8 (.loadn 5 (.tmp 1)),
  oO 9 (.call (.func 59) [(.tmp 8)]),
  oS (.store 5 (.tmp 2) (.tmp 9)),
  oO 3 (.mv (oK 0))])
 .ret)))⟩
theorem s22:compFn Tryz.prog Tryz.f22=some c22:=by kernel_rfl
def c23:XFn:=
 ⟨[.tmp 2],
 (.seq (.reg [oO 2 (.mv (.const (.pointer none)))])
 (.seq (.reg [oM 5 0,
  oM 6 0,
  oN 7 6,
  oO 8 (.conv .u64 (.tmp 7)),
  oO 9 (.bin .add (.const (.int .u64 12619)) (.tmp 8)),
  oO 10 (.build [.slice none 0 0,.int .i64 0,.int .u64 0] [(0,1,(.tmp 5)),(2,1,(.tmp 9))]),
  oO 11 (.box 82 (.tmp 10)),
  oM 3 11])
 (.seq (.seq (.reg [oO 4 (.mv (oK 0))])
 (.blk 0 (.loop (.seq (.seq (.reg [oM 12 4,
  oM 13 0,
  oN 14 13,
  oO 15 (.bin .lss (.tmp 12) (.tmp 14)),
  oM 16 15,
  oG 17 (.mv (.tmp 4)) 16 true,
  oG 18 (.bin .lss (.tmp 17) (oK 4096)) 16 true,
  oO 19 (.pick (.tmp 16) (.tmp 18) (.const (.bool false)))])
 (.cond (.tmp 19) .skip (.exit 0)))
 (.seq (.blk 1 (.reg [oM 22 3,
  oM 23 3,
  oO 24 (.nchk (.tmp 23)),
  oF 25 2 24,
  oL 26 25,
  oO 27 (.bin .mul (.tmp 26) (.const (.int .u64 1099511628211))),
  oM 28 0,
  oM 29 4,
  oX 30 1 28 29,
  oL 31 30,
  oO 32 (.conv .u64 (.tmp 31)),
  oO 33 (.bin .add (.tmp 27) (.tmp 32)),
  oO 34 (.bin .add (.tmp 33) (.const (.int .u64 79))),
  oO 35 (.nchk (.tmp 22)),
  oF 36 2 35,
  oS (.store 1 (.tmp 36) (.tmp 34))]))
 (.reg [oM 20 4,
  oO 21 (.bin .add (.tmp 20) (oK 1)),
  oM 4 21]))))))
 (.seq (.reg [oM 37 3,
  oM 2 37])
 .ret))))⟩
theorem s23:compFn Tryz.prog Tryz.f23=some c23:=by kernel_rfl
def c24:XFn:=
 ⟨[.celln 2 5],
 (.seq (.reg [oO 2 (.alloc 26 [.int .i64 0,.int .i64 0,.int .i64 0,.int .i64 0,.slice none 0 0])])
 (.seq (.reg [oM 10 0,
  oO 11 (.call (.func 63) [(.tmp 10)]),
  oO 3 (.alloc 26 [.int .i64 0,.int .i64 0,.int .i64 0,.int .i64 0,.slice none 0 0]),
  oS (.store 5 (.tmp 3) (.tmp 11))])
 (.seq (.seq (.reg [oF 12 4 3,
  oL 13 12,
  oN 14 13,
  oM 4 14])
 (.seq (.reg [oM 15 4,
  oO 16 (.bin .gtr (.tmp 15) (oK 1)),
  oM 17 16,
  oG 18 (.mv (.tmp 0)) 17 true,
  oG 19 (.call (.func 26) [(.tmp 18),(oK 2)]) 17 true,
  oG 20 (.bin .eql (.tmp 19) (oK 0)) 17 true,
  oO 21 (.pick (.tmp 17) (.tmp 20) (.const (.bool false)))])
 (.cond (.tmp 21) (.seq (.reg [oO 22 (.bslice 53 27 0 [.int .u8 0,.int .u8 0,.int .u8 0,.int .u8 0,.int .u8 0,.int .u8 0,.int .u8 0,.int .u8 0,.int .u8 0,.int .u8 0,.int .u8 0,.int .u8 0,.int .u8 0,.int .u8 0,.int .u8 0,.int .u8 0,.int .u8 0,.int .u8 0,.int .u8 0,.int .u8 0,.int .u8 0,.int .u8 0,.int .u8 0,.int .u8 0,.int .u8 0,.int .u8 0,.int .u8 0] []),
  oF 23 4 3,
  oL 24 23,
  oO 25 (.app 53 27 27 (.tmp 22) (.tmp 24)),
  oM 5 25])
 (.seq (.reg [oM 26 0,
  oM 27 4,
  oO 28 (.call (.func 26) [(.tmp 26),(.tmp 27)]),
  oM 29 0,
  oM 30 4,
  oO 31 (.call (.func 26) [(.tmp 29),(.tmp 30)]),
  oM 6 28,
  oM 7 31])
 (.seq (.seq (.reg [oO 8 (.mv (oK 0))])
 (.blk 0 (.loop (.seq (.seq (.reg [oM 32 8,
  oO 33 (.bin .lss (.tmp 32) (oK 3))])
 (.cond (.tmp 33) .skip (.exit 0)))
 (.seq (.blk 1 (.seq (.reg [oM 36 0,
  oO 37 (.call (.func 26) [(.tmp 36),(oK 2)]),
  oO 38 (.bin .eql (.tmp 37) (oK 0))])
 (.cond (.tmp 38) (.seq (.reg [oM 39 5,
  oM 40 6,
  oX 41 27 39 40,
  oO 42 (.loadn 27 (.tmp 41)),
  oM 43 8,
  oO 44 (.call (.func 40) [(.tmp 42),(.tmp 43)]),
  oO 9 (.alloc 34 [.int .u8 0,.int .u8 0,.int .u8 0,.int .u8 0,.int .u8 0,.int .u8 0,.int .u8 0,.int .u8 0,.int .u8 0]),
  oS (.store 9 (.tmp 9) (.tmp 44))])
 (.seq (.seq (.reg [oM 45 0,
  oO 46 (.call (.func 26) [(.tmp 45),(oK 4)]),
  oO 47 (.bin .eql (.tmp 46) (oK 0))])
 (.cond (.tmp 47) (.reg [oF 48 0 3,
  oL 49 48,
  oO 50 (.loadn 9 (.tmp 9)),
  oM 51 0,
  oF 52 0 3,
  oL 53 52,
  oO 54 (.bin .sub (.tmp 53) (oK 1)),
  ⟨some 55,.call (.func 26) [(.tmp 51),(.tmp 54)],none,(.s true [(.tmp 48),(.tmp 9)])⟩,
  oO 56 (.bin .add (oK 1) (.tmp 55)),
  oO 57 (.call (.func 64) [(.tmp 49),(.tmp 50),(.tmp 56)]),
  oS (.store 9 (.tmp 9) (.tmp 57))]) .skip))
 (.reg [oM 58 5,
  oM 59 7,
  oM 60 5,
  oM 61 7,
  oX 62 27 60 61,
  oO 63 (.loadn 27 (.tmp 62)),
  oM 64 8,
  oO 65 (.loadn 9 (.tmp 9)),
  oO 66 (.call (.func 50) [(.tmp 63),(.tmp 64),(.tmp 65)]),
  oX 67 27 58 59,
  oS (.store 27 (.tmp 67) (.tmp 66))]))) .skip)))
 (.reg [oM 34 8,
  oO 35 (.bin .add (.tmp 34) (oK 1)),
  oM 8 35]))))))
 (.reg [oM 68 5,
  oF 69 4 3,
  oS (.store 1 (.tmp 69) (.tmp 68))])))) .skip)))
 (.seq (.reg [oM 70 0,
  oO 71 (.loadn 5 (.tmp 3)),
  oO 72 (.call (.func 65) [(.tmp 70),(.tmp 71)]),
  oS (.store 5 (.tmp 2) (.tmp 72))])
 .ret))))⟩
theorem s24:compFn Tryz.prog Tryz.f24=some c24:=by kernel_rfl
def c25:XFn:=
 ⟨[.tmp 2],
 (.seq (.reg [oO 1 (.box 26 (.tmp 0)),
  oO 2 (.mv (.const (.bool false)))])
 (.seq (.seq (.reg [oF 4 0 1,
  oL 5 4,
  oF 6 1 1,
  oL 7 6,
  oF 8 2 1,
  oL 9 8,
  oF 10 3 1,
  oL 11 10,
  oO 12 (.call (.func 66) [(.tmp 5),(.tmp 7),(.tmp 9),(.tmp 11)]),
  oO 13 (.un .not (.tmp 12)),
  oM 14 13,
  oG 15 (.fadr 4 (.tmp 1)) 14 false,
  oG 16 (.load1 (.tmp 15)) 14 false,
  oG 17 (.len (.tmp 16)) 14 false,
  oG 18 (.bin .gtr (.tmp 17) (oK 30)) 14 false,
  oO 19 (.pick (.tmp 14) (.const (.bool true)) (.tmp 18))])
 (.cond (.tmp 19) (.seq (.reg [oO 2 (.mv (.const (.bool false)))])
 .ret) .skip))
 (.seq (.seq (.reg [oO 3 (.mv (oK 0))])
 (.blk 0 (.loop (.seq (.seq (.reg [oM 20 3,
  oF 21 4 1,
  oL 22 21,
  oN 23 22,
  oO 24 (.bin .lss (.tmp 20) (.tmp 23))])
 (.cond (.tmp 24) .skip (.exit 0)))
 (.seq (.blk 1 (.seq (.reg [oO 27 (.loadn 5 (.tmp 1)),
  oF 28 4 1,
  oL 29 28,
  oM 30 3,
  oX 31 27 29 30,
  oO 32 (.loadn 27 (.tmp 31)),
  oO 33 (.call (.func 67) [(.tmp 27),(.tmp 32)]),
  oO 34 (.un .not (.tmp 33))])
 (.cond (.tmp 34) (.seq (.reg [oO 2 (.mv (.const (.bool false)))])
 .ret) .skip)))
 (.reg [oM 25 3,
  oO 26 (.bin .add (.tmp 25) (oK 1)),
  oM 3 26]))))))
 (.seq (.reg [oO 2 (.mv (.const (.bool true)))])
 .ret))))⟩
theorem s25:compFn Tryz.prog Tryz.f25=some c25:=by kernel_rfl
def c26:XFn:=
 ⟨[.tmp 4],
 (.seq (.reg [oO 4 (.mv (oK 0))])
 (.seq (.seq (.reg [oM 6 1,
  oO 7 (.bin .lss (.tmp 6) (oK 1))])
 (.cond (.tmp 7) (.seq (.reg [oO 4 (.mv (oK 0))])
 .ret) .skip))
 (.seq (.reg [oM 8 0,
  oM 9 0,
  oO 10 (.nchk (.tmp 9)),
  oF 11 2 10,
  oL 12 11,
  oO 13 (.bin .mul (.tmp 12) (.const (.int .u64 6364136223846793005))),
  oO 14 (.bin .add (.tmp 13) (.const (.int .u64 1442695040888963407))),
  oO 15 (.nchk (.tmp 8)),
  oF 16 2 15,
  oS (.store 1 (.tmp 16) (.tmp 14))])
 (.seq (.reg [oM 17 0,
  oO 18 (.nchk (.tmp 17)),
  oF 19 2 18,
  oL 20 19,
  oO 21 (.bin .shr (.tmp 20) (.const (.int .u64 33))),
  oO 22 (.bin .and (.tmp 21) (.const (.int .u64 16777215))),
  oO 23 (.conv .i64 (.tmp 22)),
  oM 5 23])
 (.seq (.seq (.reg [oM 24 0,
  oO 25 (.nchk (.tmp 24)),
  oF 26 1 25,
  oL 27 26,
  oM 28 0,
  oO 29 (.nchk (.tmp 28)),
  oF 30 0 29,
  oL 31 30,
  oN 32 31,
  oO 33 (.bin .lss (.tmp 27) (.tmp 32))])
 (.cond (.tmp 33) (.seq (.reg [oM 34 5,
  oM 35 0,
  oO 36 (.nchk (.tmp 35)),
  oF 37 0 36,
  oL 38 37,
  oM 39 0,
  oO 40 (.nchk (.tmp 39)),
  oF 41 1 40,
  oL 42 41,
  oX 43 1 38 42,
  oL 44 43,
  oO 45 (.conv .i64 (.tmp 44)),
  oO 46 (.bin .add (.tmp 34) (.tmp 45)),
  oM 5 46])
 (.reg [oM 47 0,
  oM 48 0,
  oO 49 (.nchk (.tmp 48)),
  oF 50 1 49,
  oL 51 50,
  oO 52 (.bin .add (.tmp 51) (oK 1)),
  oO 53 (.nchk (.tmp 47)),
  oF 54 1 53,
  oS (.store 1 (.tmp 54) (.tmp 52))])) .skip))
 (.seq (.reg [oM 55 5,
  oM 56 1,
  oO 57 (.bin .rem (.tmp 55) (.tmp 56)),
  oM 4 57])
 .ret))))))⟩
theorem s26:compFn Tryz.prog Tryz.f26=some c26:=by kernel_rfl
def c27:XFn:=
 ⟨[.tmp 2],
 (.seq (.reg [oO 1 (.box 26 (.tmp 0)),
  oO 2 (.mv (.const (.bool false)))])
 (.seq (.seq (.reg [oF 5 0 1,
  oL 6 5,
  oO 7 (.call (.func 68) [(.tmp 6)]),
  oO 8 (.un .not (.tmp 7)),
  oM 9 8,
  oG 10 (.fadr 1 (.tmp 1)) 9 false,
  oG 11 (.load1 (.tmp 10)) 9 false,
  oG 12 (.fadr 2 (.tmp 1)) 9 false,
  oG 13 (.load1 (.tmp 12)) 9 false,
  oG 14 (.fadr 3 (.tmp 1)) 9 false,
  oG 15 (.load1 (.tmp 14)) 9 false,
  oG 16 (.bslice 2 1 3 [.int .i64 0] [(0,1,(.tmp 11)),(1,1,(.tmp 13)),(2,1,(.tmp 15))]) 9 false,
  oG 17 (.call (.func 69) [(.tmp 16)]) 9 false,
  oG 18 (.un .not (.tmp 17)) 9 false,
  oO 19 (.pick (.tmp 9) (.const (.bool true)) (.tmp 18)),
  oM 20 19,
  oG 21 (.fadr 4 (.tmp 1)) 20 false,
  oG 22 (.load1 (.tmp 21)) 20 false,
  oG 23 (.len (.tmp 22)) 20 false,
  oG 24 (.bin .gtr (.tmp 23) (oK 30)) 20 false,
  oO 25 (.pick (.tmp 20) (.const (.bool true)) (.tmp 24))])
 (.cond (.tmp 25) (.seq (.reg [oO 2 (.mv (.const (.bool false)))])
 .ret) .skip))
 (.seq (.seq (.reg [oF 26 4 1,
  oL 27 26,
  oN 28 27,
  oO 29 (.mv (oK 0))])
 (.blk 0 (.loop (.seq (.reg [oO 30 (.bin .lss (.tmp 29) (.tmp 28))])
 (.seq (.cond (.tmp 30) .skip (.exit 0))
 (.seq (.blk 1 (.seq (.reg [oX 31 27 27 29,
  oO 32 (.loadn 27 (.tmp 31)),
  oO 4 (.alloc 53 [.int .u8 0,.int .u8 0,.int .u8 0,.int .u8 0,.int .u8 0,.int .u8 0,.int .u8 0,.int .u8 0,.int .u8 0,.int .u8 0,.int .u8 0,.int .u8 0,.int .u8 0,.int .u8 0,.int .u8 0,.int .u8 0,.int .u8 0,.int .u8 0,.int .u8 0,.int .u8 0,.int .u8 0,.int .u8 0,.int .u8 0,.int .u8 0,.int .u8 0,.int .u8 0,.int .u8 0]),
  oS (.store 27 (.tmp 4) (.tmp 32))])
 (.seq (.reg [oF 33 0 1,
  oL 34 33,
  oO 35 (.loadn 5 (.tmp 1)),
  ⟨some 36,.call (.func 43) [(.tmp 35)],none,.t⟩,
  oO 37 (.loadn 27 (.tmp 4)),
  oO 38 (.call (.func 70) [(.tmp 34),(.tmp 36),(.tmp 37)]),
  oO 39 (.un .not (.tmp 38))])
 (.cond (.tmp 39) (.seq (.reg [oO 2 (.mv (.const (.bool false)))])
 .ret) .skip))))
 (.reg [oO 40 (.bin .add (.tmp 29) (oK 1)),
  oM 29 40])))))))
 (.seq (.reg [oO 2 (.mv (.const (.bool true)))])
 .ret))))⟩
theorem s27:compFn Tryz.prog Tryz.f27=some c27:=by kernel_rfl
def c28:XFn:=
 ⟨[.celln 2 5],
 (.seq (.reg [oO 1 (.box 26 (.tmp 0)),
  oO 2 (.alloc 26 [.int .i64 0,.int .i64 0,.int .i64 0,.int .i64 0,.slice none 0 0])])
 (.seq (.reg [oO 6 (.bslice 53 27 0 [.int .u8 0,.int .u8 0,.int .u8 0,.int .u8 0,.int .u8 0,.int .u8 0,.int .u8 0,.int .u8 0,.int .u8 0,.int .u8 0,.int .u8 0,.int .u8 0,.int .u8 0,.int .u8 0,.int .u8 0,.int .u8 0,.int .u8 0,.int .u8 0,.int .u8 0,.int .u8 0,.int .u8 0,.int .u8 0,.int .u8 0,.int .u8 0,.int .u8 0,.int .u8 0,.int .u8 0] []),
  oM 3 6])
 (.seq (.seq (.reg [oF 7 4 1,
  oL 8 7,
  oN 9 8,
  oO 10 (.mv (oK 0))])
 (.blk 0 (.loop (.seq (.reg [oO 11 (.bin .lss (.tmp 10) (.tmp 9))])
 (.seq (.cond (.tmp 11) .skip (.exit 0))
 (.seq (.blk 1 (.seq (.reg [oX 12 27 8 10,
  oO 13 (.loadn 27 (.tmp 12)),
  oO 5 (.alloc 53 [.int .u8 0,.int .u8 0,.int .u8 0,.int .u8 0,.int .u8 0,.int .u8 0,.int .u8 0,.int .u8 0,.int .u8 0,.int .u8 0,.int .u8 0,.int .u8 0,.int .u8 0,.int .u8 0,.int .u8 0,.int .u8 0,.int .u8 0,.int .u8 0,.int .u8 0,.int .u8 0,.int .u8 0,.int .u8 0,.int .u8 0,.int .u8 0,.int .u8 0,.int .u8 0,.int .u8 0]),
  oS (.store 27 (.tmp 5) (.tmp 13))])
 (.reg [oM 14 3,
  oF 15 0 1,
  oL 16 15,
  oO 17 (.loadn 27 (.tmp 5)),
  oO 18 (.call (.func 71) [(.tmp 16),(.tmp 17)]),
  oO 19 (.bslice 53 27 1 [.int .u8 0,.int .u8 0,.int .u8 0,.int .u8 0,.int .u8 0,.int .u8 0,.int .u8 0,.int .u8 0,.int .u8 0,.int .u8 0,.int .u8 0,.int .u8 0,.int .u8 0,.int .u8 0,.int .u8 0,.int .u8 0,.int .u8 0,.int .u8 0,.int .u8 0,.int .u8 0,.int .u8 0,.int .u8 0,.int .u8 0,.int .u8 0,.int .u8 0,.int .u8 0,.int .u8 0] [(0,27,(.tmp 18))]),
  oO 20 (.app 53 27 27 (.tmp 14) (.tmp 19)),
  oM 3 20])))
 (.reg [oO 21 (.bin .add (.tmp 10) (oK 1)),
  oM 10 21])))))))
 (.seq (.reg [oO 22 (.loadn 5 (.tmp 1)),
  oM 23 3,
  oO 24 (.call (.func 30) [(.tmp 22),(.tmp 23)]),
  oS (.store 5 (.tmp 2) (.tmp 24))])
 .ret))))⟩
theorem s28:compFn Tryz.prog Tryz.f28=some c28:=by kernel_rfl
def c29:XFn:=
 ⟨[.tmp 4,.tmp 5],
 (.seq (.reg [oO 4 (.mv (.const (.slice none 0 0))),
  oO 5 (.mv (.const (.bool false)))])
 (.seq (.seq (.reg [oM 11 1,
  oN 12 11,
  oO 13 (.mv (oK 0))])
 (.blk 0 (.loop (.seq (.reg [oO 14 (.bin .lss (.tmp 13) (.tmp 12))])
 (.seq (.cond (.tmp 14) .skip (.exit 0))
 (.seq (.blk 1 (.seq (.reg [oM 15 13,
  oX 16 27 11 13,
  oO 17 (.loadn 27 (.tmp 16)),
  oO 7 (.alloc 53 [.int .u8 0,.int .u8 0,.int .u8 0,.int .u8 0,.int .u8 0,.int .u8 0,.int .u8 0,.int .u8 0,.int .u8 0,.int .u8 0,.int .u8 0,.int .u8 0,.int .u8 0,.int .u8 0,.int .u8 0,.int .u8 0,.int .u8 0,.int .u8 0,.int .u8 0,.int .u8 0,.int .u8 0,.int .u8 0,.int .u8 0,.int .u8 0,.int .u8 0,.int .u8 0,.int .u8 0]),
  oM 6 15,
  oS (.store 27 (.tmp 7) (.tmp 17))])
 (.seq (.reg [oM 18 6,
  oO 19 (.bin .add (.tmp 18) (oK 1)),
  oM 8 19])
 (.blk 2 (.loop (.seq (.seq (.reg [oM 20 8,
  oM 21 1,
  oN 22 21,
  oO 23 (.bin .lss (.tmp 20) (.tmp 22))])
 (.cond (.tmp 23) .skip (.exit 2)))
 (.seq (.blk 3 (.seq (.reg [oM 27 0,
  oO 28 (.loadn 27 (.tmp 7)),
  oM 29 1,
  oM 30 8,
  oX 31 27 29 30,
  oO 32 (.loadn 27 (.tmp 31)),
  oO 33 (.call (.func 72) [(.tmp 27),(.tmp 28),(.tmp 32)]),
  oM 26 33,
  oE 34 26 0,
  oE 35 26 1,
  oM 10 35,
  oO 9 (.boxn 53 27 (.tmp 34))])
 (.seq (.seq (.reg [oM 36 10,
  oO 37 (.un .not (.tmp 36))])
 (.cond (.tmp 37) (.exit 3) .skip))
 (.seq (.reg [oM 38 1,
  oM 39 8,
  oO 40 (.call (.func 73) [(.tmp 38),(.tmp 39)]),
  oM 1 40])
 (.seq (.seq (.reg [oO 41 (.loadn 27 (.tmp 9)),
  oO 42 (.call (.func 74) [(.tmp 41)])])
 (.cond (.tmp 42) (.seq (.reg [oM 43 1,
  oM 44 6,
  oO 45 (.call (.func 73) [(.tmp 43),(.tmp 44)]),
  oM 4 45,
  oO 5 (.mv (.const (.bool true)))])
 .ret) .skip))
 (.seq (.reg [oM 46 1,
  oM 47 6,
  oM 48 0,
  oO 49 (.loadn 27 (.tmp 9)),
  oO 50 (.call (.func 71) [(.tmp 48),(.tmp 49)]),
  oX 51 27 46 47,
  oS (.store 27 (.tmp 51) (.tmp 50))])
 (.seq (.reg [oM 52 1,
  oM 4 52,
  oO 5 (.mv (.const (.bool true)))])
 .ret)))))))
 (.reg [oM 24 8,
  oO 25 (.bin .add (.tmp 24) (oK 1)),
  oM 8 25]))))))))
 (.reg [oO 53 (.bin .add (.tmp 13) (oK 1)),
  oM 13 53])))))))
 (.seq (.reg [oM 54 1,
  oM 4 54,
  oO 5 (.mv (.const (.bool false)))])
 .ret)))⟩
theorem s29:compFn Tryz.prog Tryz.f29=some c29:=by kernel_rfl
def c30:XFn:=
 ⟨[.celln 4 5],
 (.seq (.reg [oO 2 (.box 26 (.tmp 0)),
  oO 4 (.alloc 26 [.int .i64 0,.int .i64 0,.int .i64 0,.int .i64 0,.slice none 0 0])])
 (.seq (.reg [oM 5 1,
  oF 6 4 2,
  oS (.store 1 (.tmp 6) (.tmp 5))])
 (.seq (.reg [oO 7 (.loadn 5 (.tmp 2)),
  oS (.store 5 (.tmp 4) (.tmp 7))])
 .ret)))⟩
theorem s30:compFn Tryz.prog Tryz.f30=some c30:=by kernel_rfl
def c31:XFn:=
 ⟨[.celln 2 5],
 (.seq (.reg [oO 1 (.box 26 (.tmp 0)),
  oO 2 (.alloc 26 [.int .i64 0,.int .i64 0,.int .i64 0,.int .i64 0,.slice none 0 0])])
 (.seq (.reg [oO 7 (.loadn 5 (.tmp 1)),
  oO 8 (.call (.func 59) [(.tmp 7)]),
  oO 3 (.alloc 26 [.int .i64 0,.int .i64 0,.int .i64 0,.int .i64 0,.slice none 0 0]),
  oS (.store 5 (.tmp 3) (.tmp 8)),
  oO 4 (.mv (.const (.bool true)))])
 (.seq (.blk 0 (.loop (.seq (.seq (.reg [oM 9 4])
 (.cond (.tmp 9) .skip (.exit 0)))
 (.blk 1 (.seq (.reg [oO 11 (.loadn 5 (.tmp 3)),
  oO 12 (.call (.func 75) [(.tmp 11)]),
  oM 10 12,
  oE 13 10 0,
  oE 14 10 1,
  oO 5 (.alloc 26 [.int .i64 0,.int .i64 0,.int .i64 0,.int .i64 0,.slice none 0 0]),
  oS (.store 5 (.tmp 5) (.tmp 13)),
  oM 6 14])
 (.seq (.reg [oO 15 (.loadn 5 (.tmp 5)),
  oS (.store 5 (.tmp 3) (.tmp 15))])
 (.reg [oM 16 6,
  oM 4 16])))))))
 (.seq (.reg [oO 17 (.loadn 5 (.tmp 3)),
  oS (.store 5 (.tmp 2) (.tmp 17))])
 .ret))))⟩
theorem s31:compFn Tryz.prog Tryz.f31=some c31:=by kernel_rfl
def c32:XFn:=
 ⟨[.tmp 4],
 (.seq (.reg [oO 2 (.box 26 (.tmp 0)),
  oO 3 (.box 26 (.tmp 1)),
  oO 4 (.mv (oK 0))])
 (.seq (.blk 0 (.seq (.reg [oO 6 (.loadn 5 (.tmp 2)),
  oO 7 (.loadn 5 (.tmp 3)),
  oO 8 (.bslice 26 5 2 [.int .i64 0,.int .i64 0,.int .i64 0,.int .i64 0,.slice none 0 0] [(0,5,(.tmp 6)),(5,5,(.tmp 7))]),
  oO 9 (.call (.func 76) [(.tmp 8)]),
  oO 10 (.un .not (.tmp 9)),
  oM 5 10])
 (.cond (.tmp 5) (.seq (.reg [oO 4 (.mv (oK 1))])
 .ret) (.seq (.reg [oF 12 0 2,
  oL 13 12,
  oF 14 0 3,
  oL 15 14,
  oO 16 (.bin .neq (.tmp 13) (.tmp 15)),
  oM 17 16,
  oG 18 (.fadr 1 (.tmp 2)) 17 false,
  oG 19 (.load1 (.tmp 18)) 17 false,
  oG 20 (.fadr 1 (.tmp 3)) 17 false,
  oG 21 (.load1 (.tmp 20)) 17 false,
  oG 22 (.bin .neq (.tmp 19) (.tmp 21)) 17 false,
  oO 23 (.pick (.tmp 17) (.const (.bool true)) (.tmp 22)),
  oM 24 23,
  oG 25 (.fadr 2 (.tmp 2)) 24 false,
  oG 26 (.load1 (.tmp 25)) 24 false,
  oG 27 (.fadr 2 (.tmp 3)) 24 false,
  oG 28 (.load1 (.tmp 27)) 24 false,
  oG 29 (.bin .neq (.tmp 26) (.tmp 28)) 24 false,
  oO 30 (.pick (.tmp 24) (.const (.bool true)) (.tmp 29)),
  oM 31 30,
  oG 32 (.fadr 3 (.tmp 2)) 31 false,
  oG 33 (.load1 (.tmp 32)) 31 false,
  oG 34 (.fadr 3 (.tmp 3)) 31 false,
  oG 35 (.load1 (.tmp 34)) 31 false,
  oG 36 (.bin .neq (.tmp 33) (.tmp 35)) 31 false,
  oO 37 (.pick (.tmp 31) (.const (.bool true)) (.tmp 36)),
  oM 11 37])
 (.cond (.tmp 11) (.seq (.reg [oO 4 (.mv (oK 2))])
 .ret) .skip)))))
 (.seq (.reg [oO 4 (.mv (oK 0))])
 .ret)))⟩
theorem s32:compFn Tryz.prog Tryz.f32=some c32:=by kernel_rfl
def c33:XFn:=
 ⟨[.tmp 4],
 (.seq (.reg [oO 4 (.mv (.const (.bool false)))])
 (.seq (.seq (.reg [oM 6 0,
  oN 7 6,
  oM 8 1,
  oN 9 8,
  oO 10 (.bin .neq (.tmp 7) (.tmp 9))])
 (.cond (.tmp 10) (.seq (.reg [oO 4 (.mv (.const (.bool false)))])
 .ret) .skip))
 (.seq (.seq (.reg [oM 11 0,
  oN 12 11,
  oO 13 (.mv (oK 0))])
 (.blk 0 (.loop (.seq (.reg [oO 14 (.bin .lss (.tmp 13) (.tmp 12))])
 (.seq (.cond (.tmp 14) .skip (.exit 0))
 (.seq (.blk 1 (.seq (.reg [oM 15 13,
  oM 5 15])
 (.seq (.reg [oM 16 0,
  oM 17 5,
  oX 18 1 16 17,
  oL 19 18,
  oM 20 1,
  oM 21 5,
  oX 22 1 20 21,
  oL 23 22,
  oO 24 (.bin .neq (.tmp 19) (.tmp 23))])
 (.cond (.tmp 24) (.seq (.reg [oO 4 (.mv (.const (.bool false)))])
 .ret) .skip))))
 (.reg [oO 25 (.bin .add (.tmp 13) (oK 1)),
  oM 13 25])))))))
 (.seq (.reg [oO 4 (.mv (.const (.bool true)))])
 .ret))))⟩
theorem s33:compFn Tryz.prog Tryz.f33=some c33:=by kernel_rfl
def c34:XFn:=
 ⟨[.celln 2 5],
 (.seq (.reg [oO 1 (.box 26 (.tmp 0)),
  oO 2 (.alloc 58 [.int .i64 0,.int .i64 0,.int .i64 0,.int .i64 0,.slice none 0 0])])
 (.seq (.reg [oO 4 (.loadn 5 (.tmp 1)),
  oO 5 (.call (.func 43) [(.tmp 4)]),
  oO 3 (.alloc 66 [.int .i64 0,.int .i64 0,.int .i64 0]),
  oS (.store 3 (.tmp 3) (.tmp 5))])
 (.seq (.reg [oF 6 0 1,
  oL 7 6,
  oO 8 (.ixa 3 1 (.tmp 3) (oK 0)),
  oL 9 8,
  oO 10 (.ixa 3 1 (.tmp 3) (oK 1)),
  oL 11 10,
  oO 12 (.ixa 3 1 (.tmp 3) (oK 2)),
  oL 13 12,
  oO 14 (.mkf 78 [(.tmp 1)]),
  oO 15 (.call (.func 77) [(.tmp 7),(.tmp 9),(.tmp 11),(.tmp 13),(.tmp 14)]),
  oS (.store 5 (.tmp 2) (.tmp 15))])
 .ret)))⟩
theorem s34:compFn Tryz.prog Tryz.f34=some c34:=by kernel_rfl
def c35:XFn:=
 ⟨[.tmp 4],
 (.seq (.reg [oO 4 (.mv (oK 0))])
 (.seq (.seq (.reg [oM 5 0,
  oO 6 (.call (.func 26) [(.tmp 5),(oK 14)]),
  oO 7 (.bin .eql (.tmp 6) (oK 0))])
 (.cond (.tmp 7) (.seq (.reg [oM 8 0,
  oM 9 1,
  oO 10 (.bin .add (.tmp 9) (oK 1)),
  oO 11 (.bslice 2 1 4 [.int .i64 0] [(0,1,(.const (.int .i64 (-1)))),(1,1,(.tmp 10)),(2,1,(oK 1099511627776)),(3,1,(.const (.int .i64 (-4611686018427387904))))]),
  oO 12 (.call (.func 80) [(.tmp 8),(.tmp 11)]),
  oM 4 12])
 .ret) .skip))
 (.seq (.reg [oM 13 0,
  oM 14 1,
  oO 15 (.bin .add (.tmp 14) (oK 1)),
  oO 16 (.call (.func 26) [(.tmp 13),(.tmp 15)]),
  oM 4 16])
 .ret)))⟩
theorem s35:compFn Tryz.prog Tryz.f35=some c35:=by kernel_rfl
def c36:XFn:=
 ⟨[.tmp 6],
 (.seq (.reg [oO 6 (.mv (.const (.bool false)))])
 (.seq (.reg [oM 7 0,
  oM 8 1,
  oO 9 (.bin .geq (.tmp 7) (.tmp 8)),
  oM 10 9,
  oG 11 (.mv (.tmp 0)) 10 true,
  oG 12 (.mv (.tmp 2)) 10 true,
  oG 13 (.bin .leq (.tmp 11) (.tmp 12)) 10 true,
  oO 14 (.pick (.tmp 10) (.tmp 13) (.const (.bool false))),
  oM 6 14])
 .ret))⟩
theorem s36:compFn Tryz.prog Tryz.f36=some c36:=by kernel_rfl
def c37:XFn:=
 ⟨[.celln 6 9],
 (.seq (.reg [oO 6 (.alloc 34 [.int .u8 0,.int .u8 0,.int .u8 0,.int .u8 0,.int .u8 0,.int .u8 0,.int .u8 0,.int .u8 0,.int .u8 0])])
 (.seq (.reg [oO 9 (.build [.int .u8 0,.int .u8 0,.int .u8 0,.int .u8 0,.int .u8 0,.int .u8 0,.int .u8 0,.int .u8 0,.int .u8 0] []),
  oO 7 (.alloc 34 [.int .u8 0,.int .u8 0,.int .u8 0,.int .u8 0,.int .u8 0,.int .u8 0,.int .u8 0,.int .u8 0,.int .u8 0]),
  oS (.store 9 (.tmp 7) (.tmp 9))])
 (.seq (.seq (.reg [oO 8 (.mv (oK 0))])
 (.blk 0 (.loop (.seq (.seq (.reg [oM 10 8,
  oM 11 2,
  oO 12 (.bin .lss (.tmp 10) (.tmp 11))])
 (.cond (.tmp 12) .skip (.exit 0)))
 (.seq (.blk 1 (.seq (.reg [oM 15 0,
  oO 16 (.call (.func 26) [(.tmp 15),(oK 2)]),
  oO 17 (.bin .eql (.tmp 16) (oK 0))])
 (.cond (.tmp 17) (.reg [oM 18 8,
  oM 19 0,
  oM 20 1,
  oO 21 (.call (.func 26) [(.tmp 19),(.tmp 20)]),
  oO 22 (.conv .u8 (.tmp 21)),
  oO 23 (.ixa 9 1 (.tmp 7) (.tmp 18)),
  oS (.store 1 (.tmp 23) (.tmp 22))]) .skip)))
 (.reg [oM 13 8,
  oO 14 (.bin .add (.tmp 13) (oK 1)),
  oM 8 14]))))))
 (.seq (.seq (.reg [oO 24 (.loadn 9 (.tmp 7)),
  oO 25 (.call (.func 49) [(.tmp 24)])])
 (.cond (.tmp 25) (.reg [oM 26 0,
  oM 27 2,
  oO 28 (.call (.func 26) [(.tmp 26),(.tmp 27)]),
  oM 29 0,
  oM 30 1,
  oO 31 (.bin .sub (.tmp 30) (oK 1)),
  oO 32 (.call (.func 26) [(.tmp 29),(.tmp 31)]),
  oO 33 (.bin .add (oK 1) (.tmp 32)),
  oO 34 (.conv .u8 (.tmp 33)),
  oO 35 (.ixa 9 1 (.tmp 7) (.tmp 28)),
  oS (.store 1 (.tmp 35) (.tmp 34))]) .skip))
 (.seq (.reg [oO 36 (.loadn 9 (.tmp 7)),
  oS (.store 9 (.tmp 6) (.tmp 36))])
 .ret)))))⟩
theorem s37:compFn Tryz.prog Tryz.f37=some c37:=by kernel_rfl
def tab1:List (Nat×XFn):=[(3,c3),(4,c4),(5,c5),(6,c6),(7,c7),(8,c8),(9,c9),(10,c10),(11,c11),(12,c12),(13,c13),(14,c14),(15,c15),(16,c16),(17,c17),(18,c18),(19,c19),(20,c20),(21,c21),(22,c22),(23,c23),(24,c24),(25,c25),(26,c26),(27,c27),(28,c28),(29,c29),(30,c30),(31,c31),(32,c32),(33,c33),(34,c34),(35,c35),(36,c36),(37,c37)]
theorem ts1:TSound Tryz.prog (fun g=>tab1.lookup g):=by
 refine tsound_of_all (P:=Tryz.prog) (tab:=tab1) ?_
 intro p hp
 simp only[tab1,List.mem_cons,List.not_mem_nil,or_false] at hp
 rcases hp with rfl|rfl|rfl|rfl|rfl|rfl|rfl|rfl|rfl|rfl|rfl|rfl|rfl|rfl|rfl|rfl|rfl|rfl|rfl|rfl|rfl|rfl|rfl|rfl|rfl|rfl|rfl|rfl|rfl|rfl|rfl|rfl|rfl|rfl|rfl
 ·exact⟨_,Tryz.func3,s3⟩
 ·exact⟨_,Tryz.func4,s4⟩
 ·exact⟨_,Tryz.func5,s5⟩
 ·exact⟨_,Tryz.func6,s6⟩
 ·exact⟨_,Tryz.func7,s7⟩
 ·exact⟨_,Tryz.func8,s8⟩
 ·exact⟨_,Tryz.func9,s9⟩
 ·exact⟨_,Tryz.func10,s10⟩
 ·exact⟨_,Tryz.func11,s11⟩
 ·exact⟨_,Tryz.func12,s12⟩
 ·exact⟨_,Tryz.func13,s13⟩
 ·exact⟨_,Tryz.func14,s14⟩
 ·exact⟨_,Tryz.func15,s15⟩
 ·exact⟨_,Tryz.func16,s16⟩
 ·exact⟨_,Tryz.func17,s17⟩
 ·exact⟨_,Tryz.func18,s18⟩
 ·exact⟨_,Tryz.func19,s19⟩
 ·exact⟨_,Tryz.func20,s20⟩
 ·exact⟨_,Tryz.func21,s21⟩
 ·exact⟨_,Tryz.func22,s22⟩
 ·exact⟨_,Tryz.func23,s23⟩
 ·exact⟨_,Tryz.func24,s24⟩
 ·exact⟨_,Tryz.func25,s25⟩
 ·exact⟨_,Tryz.func26,s26⟩
 ·exact⟨_,Tryz.func27,s27⟩
 ·exact⟨_,Tryz.func28,s28⟩
 ·exact⟨_,Tryz.func29,s29⟩
 ·exact⟨_,Tryz.func30,s30⟩
 ·exact⟨_,Tryz.func31,s31⟩
 ·exact⟨_,Tryz.func32,s32⟩
 ·exact⟨_,Tryz.func33,s33⟩
 ·exact⟨_,Tryz.func34,s34⟩
 ·exact⟨_,Tryz.func35,s35⟩
 ·exact⟨_,Tryz.func36,s36⟩
 ·exact⟨_,Tryz.func37,s37⟩
end Go.Proofs.YtigpfopobpoamaaGreat.X
