/- Texts of one claim, put together by merge.py: XCode1. -/
import Derived.Test.YtapafdpnmakekaaPG3
import Derived.Test.YtapafdpnmakekaaProg
set_option linter.unusedVariables false
set_option maxRecDepth 4000
namespace Go.Proofs.Ytapafdpnmakekaa.X
open Go Go.RowKit
def c6:XFn:=
 ⟨[.tmp 2],
 (.seq (.reg [oO 2 (.mv (.const (.bool false)))])
 (.seq (.seq (.reg [oM 50 0,
  oO 51 (.call (.func 13) [(.tmp 50)])])
 (.cond (.tmp 51) (.seq (.reg [oO 2 (.mv (.const (.bool true)))])
 .ret) .skip))
 (.seq (.reg [oM 53 0,
  oO 54 (.call (.func 49) [(.tmp 53)]),
  oM 52 54,
  oE 55 52 0,
  oE 56 52 1,
  oE 57 52 2,
  oM 3 55,
  oM 4 56,
  oM 5 57])
 (.seq (.reg [oM 59 3,
  oM 60 4,
  oM 61 5,
  oO 62 (.call (.func 50) [(.tmp 59),(.tmp 60),(.tmp 61)]),
  oM 58 62,
  oE 63 58 0,
  oE 64 58 1,
  oO 6 (.alloc 70 [.int .i64 0,.int .i64 0,.slice none 0 0,.slice none 0 0]),
  oS (.store 4 (.tmp 6) (.tmp 63)),
  oM 7 64])
 (.seq (.reg [oM 66 3,
  oM 67 4,
  oM 68 5,
  oO 69 (.call (.func 51) [(.tmp 66),(.tmp 67),(.tmp 68)]),
  oM 65 69,
  oE 70 65 0,
  oE 71 65 1,
  oO 8 (.alloc 70 [.int .i64 0,.int .i64 0,.slice none 0 0,.slice none 0 0]),
  oS (.store 4 (.tmp 8) (.tmp 70)),
  oM 9 71])
 (.seq (.reg [oM 73 3,
  oM 74 4,
  oM 75 5,
  oO 76 (.call (.func 52) [(.tmp 73),(.tmp 74),(.tmp 75)]),
  oM 72 76,
  oE 77 72 0,
  oE 78 72 1,
  oO 10 (.alloc 70 [.int .i64 0,.int .i64 0,.slice none 0 0,.slice none 0 0]),
  oS (.store 4 (.tmp 10) (.tmp 77)),
  oM 11 78])
 (.seq (.reg [oM 80 3,
  oM 81 4,
  oM 82 5,
  oO 83 (.call (.func 53) [(.tmp 80),(.tmp 81),(.tmp 82)]),
  oM 79 83,
  oE 84 79 0,
  oE 85 79 1,
  oO 12 (.alloc 70 [.int .i64 0,.int .i64 0,.slice none 0 0,.slice none 0 0]),
  oS (.store 4 (.tmp 12) (.tmp 84)),
  oM 13 85])
 (.seq (.seq (.reg [oM 86 7,
  oM 87 9,
  oO 88 (.bin .neq (.tmp 86) (.tmp 87)),
  oM 89 88,
  oG 90 (.loadn 4 (.tmp 6)) 89 false,
  oG 91 (.loadn 4 (.tmp 8)) 89 false,
  oG 92 (.call (.func 54) [(.tmp 90),(.tmp 91)]) 89 false,
  oG 93 (.un .not (.tmp 92)) 89 false,
  oO 94 (.pick (.tmp 89) (.const (.bool true)) (.tmp 93)),
  oM 95 94,
  oG 96 (.mv (.tmp 11)) 95 false,
  oG 97 (.mv (.tmp 13)) 95 false,
  oG 98 (.bin .neq (.tmp 96) (.tmp 97)) 95 false,
  oO 99 (.pick (.tmp 95) (.const (.bool true)) (.tmp 98)),
  oM 100 99,
  oG 101 (.loadn 4 (.tmp 10)) 100 false,
  oG 102 (.loadn 4 (.tmp 12)) 100 false,
  oG 103 (.call (.func 54) [(.tmp 101),(.tmp 102)]) 100 false,
  oG 104 (.un .not (.tmp 103)) 100 false,
  oO 105 (.pick (.tmp 100) (.const (.bool true)) (.tmp 104))])
 (.cond (.tmp 105) (.seq (.reg [oO 2 (.mv (.const (.bool false)))])
 .ret) .skip))
 (.seq (.seq (.reg [oM 106 7,
  oO 107 (.bin .eql (.tmp 106) (oK 0)),
  oM 108 107,
  oG 109 (.mv (.tmp 11)) 108 true,
  oG 110 (.bin .eql (.tmp 109) (oK 0)) 108 true,
  oO 111 (.pick (.tmp 108) (.tmp 110) (.const (.bool false)))])
 (.cond (.tmp 111) (.seq (.reg [oO 113 (.loadn 4 (.tmp 6)),
  oO 114 (.call (.func 55) [(.tmp 113)]),
  oM 112 114,
  oE 115 112 0,
  oE 116 112 1,
  oM 14 115,
  oM 15 116])
 (.seq (.reg [oO 118 (.loadn 4 (.tmp 10)),
  oO 119 (.call (.func 55) [(.tmp 118)]),
  oM 117 119,
  oE 120 117 0,
  oE 121 117 1,
  oM 16 120,
  oM 17 121])
 (.seq (.reg [oM 122 15,
  oO 123 (.bin .neq (.tmp 122) (oK 0)),
  oM 124 123,
  oG 125 (.mv (.tmp 17)) 124 false,
  oG 126 (.bin .neq (.tmp 125) (oK 0)) 124 false,
  oO 127 (.pick (.tmp 124) (.const (.bool true)) (.tmp 126)),
  oM 128 127,
  oG 129 (.mv (.tmp 14)) 128 false,
  oG 130 (.mv (.tmp 5)) 128 false,
  oG 131 (.call (.func 48) [(.tmp 129),(.tmp 130)]) 128 false,
  oG 132 (.un .not (.tmp 131)) 128 false,
  oO 133 (.pick (.tmp 128) (.const (.bool true)) (.tmp 132)),
  oM 134 133,
  oG 135 (.mv (.tmp 16)) 134 false,
  oG 136 (.mv (.tmp 5)) 134 false,
  oG 137 (.call (.func 48) [(.tmp 135),(.tmp 136)]) 134 false,
  oG 138 (.un .not (.tmp 137)) 134 false,
  oO 139 (.pick (.tmp 134) (.const (.bool true)) (.tmp 138)),
  oM 140 139,
  oG 141 (.fadr 2 (.tmp 6)) 140 false,
  oG 142 (.load1 (.tmp 141)) 140 false,
  oG 143 (.len (.tmp 142)) 140 false,
  oG 144 (.fadr 2 (.tmp 10)) 140 false,
  oG 145 (.load1 (.tmp 144)) 140 false,
  oG 146 (.len (.tmp 145)) 140 false,
  oG 147 (.bin .gtr (.tmp 143) (.tmp 146)) 140 false,
  oO 148 (.pick (.tmp 140) (.const (.bool true)) (.tmp 147))])
 (.cond (.tmp 148) (.seq (.reg [oO 2 (.mv (.const (.bool false)))])
 .ret) .skip)))) .skip))
 (.seq (.reg [oM 149 0,
  oO 150 (.call (.func 56) [(.tmp 149)]),
  oO 18 (.alloc 70 [.int .i64 0,.int .i64 0,.slice none 0 0,.slice none 0 0]),
  oS (.store 4 (.tmp 18) (.tmp 150))])
 (.seq (.reg [oO 152 (.loadn 4 (.tmp 18)),
  oO 153 (.call (.func 57) [(.tmp 152)]),
  oM 151 153,
  oE 154 151 0,
  oE 155 151 1,
  oO 19 (.alloc 70 [.int .i64 0,.int .i64 0,.slice none 0 0,.slice none 0 0]),
  oS (.store 4 (.tmp 19) (.tmp 154)),
  oM 20 155])
 (.seq (.reg [oO 157 (.loadn 4 (.tmp 18)),
  oO 158 (.call (.func 58) [(.tmp 157)]),
  oM 156 158,
  oE 159 156 0,
  oE 160 156 1,
  oO 21 (.alloc 70 [.int .i64 0,.int .i64 0,.slice none 0 0,.slice none 0 0]),
  oS (.store 4 (.tmp 21) (.tmp 159)),
  oM 22 160])
 (.seq (.seq (.reg [oM 161 20,
  oM 162 22,
  oO 163 (.bin .neq (.tmp 161) (.tmp 162)),
  oM 164 163,
  oG 165 (.loadn 4 (.tmp 19)) 164 false,
  oG 166 (.loadn 4 (.tmp 21)) 164 false,
  oG 167 (.call (.func 54) [(.tmp 165),(.tmp 166)]) 164 false,
  oG 168 (.un .not (.tmp 167)) 164 false,
  oO 169 (.pick (.tmp 164) (.const (.bool true)) (.tmp 168)),
  oM 170 169,
  oG 171 (.loadn 4 (.tmp 18)) 170 false,
  ⟨some 172,.call (.func 59) [(.tmp 171)],(some (170,false)),.t⟩,
  oG 173 (.loadn 4 (.tmp 18)) 170 false,
  oG 174 (.call (.func 60) [(.tmp 173)]) 170 false,
  oG 175 (.eqb true (.tmp 172) (.tmp 174)) 170 false,
  oO 176 (.pick (.tmp 170) (.const (.bool true)) (.tmp 175))])
 (.cond (.tmp 176) (.seq (.reg [oO 2 (.mv (.const (.bool false)))])
 .ret) .skip))
 (.seq (.seq (.reg [oM 177 20,
  oO 178 (.bin .eql (.tmp 177) (oK 0))])
 (.cond (.tmp 178) (.seq (.reg [oO 180 (.loadn 4 (.tmp 18)),
  oO 181 (.call (.func 55) [(.tmp 180)]),
  oM 179 181,
  oE 182 179 0,
  oE 183 179 1,
  oM 23 182,
  oM 24 183])
 (.seq (.reg [oO 185 (.loadn 4 (.tmp 19)),
  oO 186 (.call (.func 55) [(.tmp 185)]),
  oM 184 186,
  oE 187 184 0,
  oE 188 184 1,
  oM 25 187,
  oM 26 188])
 (.seq (.reg [oO 190 (.loadn 4 (.tmp 19)),
  oO 191 (.call (.func 57) [(.tmp 190)]),
  oM 189 191,
  oE 192 189 0,
  oE 193 189 1,
  oO 27 (.alloc 70 [.int .i64 0,.int .i64 0,.slice none 0 0,.slice none 0 0]),
  oS (.store 4 (.tmp 27) (.tmp 192)),
  oM 28 193])
 (.seq (.reg [oO 195 (.loadn 4 (.tmp 18)),
  oO 196 (.call (.func 61) [(.tmp 195)]),
  oM 194 196,
  oE 197 194 0,
  oE 198 194 1,
  oM 29 197,
  oM 30 198])
 (.seq (.reg [oO 200 (.loadn 4 (.tmp 19)),
  oO 201 (.call (.func 61) [(.tmp 200)]),
  oM 199 201,
  oE 202 199 0,
  oE 203 199 1,
  oM 31 202,
  oM 32 203])
 (.seq (.reg [oM 204 24,
  oO 205 (.bin .neq (.tmp 204) (oK 0)),
  oM 206 205,
  oG 207 (.mv (.tmp 26)) 206 false,
  oG 208 (.bin .neq (.tmp 207) (oK 0)) 206 false,
  oO 209 (.pick (.tmp 206) (.const (.bool true)) (.tmp 208)),
  oM 210 209,
  oG 211 (.mv (.tmp 28)) 210 false,
  oG 212 (.bin .neq (.tmp 211) (oK 0)) 210 false,
  oO 213 (.pick (.tmp 210) (.const (.bool true)) (.tmp 212)),
  oM 214 213,
  oG 215 (.mv (.tmp 30)) 214 false,
  oG 216 (.bin .neq (.tmp 215) (oK 0)) 214 false,
  oO 217 (.pick (.tmp 214) (.const (.bool true)) (.tmp 216)),
  oM 218 217,
  oG 219 (.mv (.tmp 32)) 218 false,
  oG 220 (.bin .neq (.tmp 219) (oK 0)) 218 false,
  oO 221 (.pick (.tmp 218) (.const (.bool true)) (.tmp 220)),
  oM 222 221,
  oG 223 (.mv (.tmp 23)) 222 false,
  oG 224 (.mv (.tmp 25)) 222 false,
  oG 225 (.call (.func 48) [(.tmp 223),(.tmp 224)]) 222 false,
  oG 226 (.un .not (.tmp 225)) 222 false,
  oO 227 (.pick (.tmp 222) (.const (.bool true)) (.tmp 226)),
  oM 228 227,
  oG 229 (.loadn 4 (.tmp 27)) 228 false,
  oG 230 (.loadn 4 (.tmp 19)) 228 false,
  oG 231 (.call (.func 54) [(.tmp 229),(.tmp 230)]) 228 false,
  oG 232 (.un .not (.tmp 231)) 228 false,
  oO 233 (.pick (.tmp 228) (.const (.bool true)) (.tmp 232)),
  oM 234 233,
  oG 235 (.mv (.tmp 29)) 234 false,
  oG 236 (.mv (.tmp 31)) 234 false,
  oG 237 (.call (.func 20) [(.tmp 235),(.tmp 236)]) 234 false,
  oG 238 (.un .not (.tmp 237)) 234 false,
  oO 239 (.pick (.tmp 234) (.const (.bool true)) (.tmp 238)),
  oM 240 239,
  oG 241 (.fadr 2 (.tmp 19)) 240 false,
  oG 242 (.load1 (.tmp 241)) 240 false,
  oG 243 (.len (.tmp 242)) 240 false,
  oG 244 (.fadr 2 (.tmp 18)) 240 false,
  oG 245 (.load1 (.tmp 244)) 240 false,
  oG 246 (.len (.tmp 245)) 240 false,
  oG 247 (.bin .gtr (.tmp 243) (.tmp 246)) 240 false,
  oO 248 (.pick (.tmp 240) (.const (.bool true)) (.tmp 247))])
 (.cond (.tmp 248) (.seq (.reg [oO 2 (.mv (.const (.bool false)))])
 .ret) .skip))))))) .skip))
 (.seq (.reg [oM 249 0,
  oO 250 (.call (.func 62) [(.tmp 249)]),
  oO 33 (.alloc 70 [.int .i64 0,.int .i64 0,.slice none 0 0,.slice none 0 0]),
  oS (.store 4 (.tmp 33) (.tmp 250))])
 (.seq (.reg [oO 252 (.loadn 4 (.tmp 33)),
  oO 253 (.call (.func 55) [(.tmp 252)]),
  oM 251 253,
  oE 254 251 0,
  oE 255 251 1,
  oM 34 254,
  oM 35 255])
 (.seq (.reg [oO 257 (.loadn 4 (.tmp 33)),
  oO 258 (.call (.func 63) [(.tmp 257)]),
  oM 256 258,
  oE 259 256 0,
  oE 260 256 1,
  oM 36 259,
  oM 37 260])
 (.seq (.reg [oM 261 0,
  oO 262 (.call (.func 64) [(.tmp 261)]),
  oO 38 (.alloc 70 [.int .i64 0,.int .i64 0,.slice none 0 0,.slice none 0 0]),
  oS (.store 4 (.tmp 38) (.tmp 262))])
 (.seq (.reg [oO 264 (.loadn 4 (.tmp 38)),
  oO 265 (.call (.func 61) [(.tmp 264)]),
  oM 263 265,
  oE 266 263 0,
  oE 267 263 1,
  oM 39 266,
  oM 40 267])
 (.seq (.reg [oO 269 (.loadn 4 (.tmp 38)),
  oO 270 (.call (.func 65) [(.tmp 269)]),
  oM 268 270,
  oE 271 268 0,
  oE 272 268 1,
  oM 41 271,
  oM 42 272])
 (.seq (.reg [oM 274 0,
  oO 275 (.call (.func 66) [(.tmp 274)]),
  oM 273 275,
  oE 276 273 0,
  oE 277 273 1,
  oE 278 273 2,
  oM 43 276,
  oM 44 277,
  oM 45 278])
 (.seq (.reg [oM 280 43,
  oM 281 44,
  oM 282 45,
  oO 283 (.call (.func 52) [(.tmp 280),(.tmp 281),(.tmp 282)]),
  oM 279 283,
  oE 284 279 0,
  oE 285 279 1,
  oO 46 (.alloc 70 [.int .i64 0,.int .i64 0,.slice none 0 0,.slice none 0 0]),
  oS (.store 4 (.tmp 46) (.tmp 284)),
  oM 47 285])
 (.seq (.reg [oM 287 43,
  oM 288 44,
  oM 289 45,
  oO 290 (.call (.func 53) [(.tmp 287),(.tmp 288),(.tmp 289)]),
  oM 286 290,
  oE 291 286 0,
  oE 292 286 1,
  oO 48 (.alloc 70 [.int .i64 0,.int .i64 0,.slice none 0 0,.slice none 0 0]),
  oS (.store 4 (.tmp 48) (.tmp 291)),
  oM 49 292])
 (.seq (.reg [oM 293 35,
  oM 294 37,
  oO 295 (.bin .eql (.tmp 293) (.tmp 294)),
  oM 296 295,
  oG 297 (.mv (.tmp 34)) 296 true,
  oG 298 (.mv (.tmp 36)) 296 true,
  oG 299 (.call (.func 48) [(.tmp 297),(.tmp 298)]) 296 true,
  oO 300 (.pick (.tmp 296) (.tmp 299) (.const (.bool false))),
  oM 301 300,
  oG 302 (.mv (.tmp 40)) 301 true,
  oG 303 (.mv (.tmp 42)) 301 true,
  oG 304 (.bin .eql (.tmp 302) (.tmp 303)) 301 true,
  oO 305 (.pick (.tmp 301) (.tmp 304) (.const (.bool false))),
  oM 306 305,
  oG 307 (.mv (.tmp 39)) 306 true,
  oG 308 (.mv (.tmp 41)) 306 true,
  oG 309 (.call (.func 20) [(.tmp 307),(.tmp 308)]) 306 true,
  oO 310 (.pick (.tmp 306) (.tmp 309) (.const (.bool false))),
  oM 311 310,
  oG 312 (.mv (.tmp 47)) 311 true,
  oG 313 (.mv (.tmp 49)) 311 true,
  oG 314 (.bin .eql (.tmp 312) (.tmp 313)) 311 true,
  oO 315 (.pick (.tmp 311) (.tmp 314) (.const (.bool false))),
  oM 316 315,
  oG 317 (.loadn 4 (.tmp 46)) 316 true,
  oG 318 (.loadn 4 (.tmp 48)) 316 true,
  oG 319 (.call (.func 54) [(.tmp 317),(.tmp 318)]) 316 true,
  oO 320 (.pick (.tmp 316) (.tmp 319) (.const (.bool false))),
  oM 2 320])
 .ret))))))))))))))))))))))))⟩
theorem s6:compFn Try.prog Try.f6=some c6:=by kernel_rfl
def c13:XFn:=
 ⟨[.tmp 2],
 (.seq (.reg [oO 2 (.mv (.const (.bool false)))])
 (.seq (.reg [oM 3 0,
  oN 4 3,
  oO 5 (.bin .gtr (.tmp 4) (oK 4096)),
  oM 2 5])
 .ret))⟩
theorem s13:compFn Try.prog Try.f13=some c13:=by kernel_rfl
def c20:XFn:=
 ⟨[.tmp 4],
 (.seq (.reg [oO 4 (.mv (.const (.bool false)))])
 (.seq (.seq (.reg [oM 6 0,
  oN 7 6,
  oM 8 1,
  oN 9 8,
  oO 10 (.bin .neq (.tmp 7) (.tmp 9))])
 (.cond (.tmp 10) (.seq (.reg [oO 4 (.mv (.const (.bool false)))])
 .ret) .skip))
 (.seq (.seq (.reg [oO 5 (.mv (oK 0))])
 (.blk 0 (.loop (.seq (.seq (.reg [oM 11 5,
  oM 12 0,
  oN 13 12,
  oO 14 (.bin .lss (.tmp 11) (.tmp 13))])
 (.cond (.tmp 14) .skip (.exit 0)))
 (.seq (.blk 1 (.seq (.reg [oM 17 0,
  oM 18 5,
  oX 19 1 17 18,
  oL 20 19,
  oM 21 1,
  oM 22 5,
  oX 23 1 21 22,
  oL 24 23,
  oO 25 (.bin .neq (.tmp 20) (.tmp 24))])
 (.cond (.tmp 25) (.seq (.reg [oO 4 (.mv (.const (.bool false)))])
 .ret) .skip)))
 (.reg [oM 15 5,
  oO 16 (.bin .add (.tmp 15) (oK 1)),
  oM 5 16]))))))
 (.seq (.reg [oO 4 (.mv (.const (.bool true)))])
 .ret))))⟩
theorem s20:compFn Try.prog Try.f20=some c20:=by kernel_rfl
def c48:XFn:=
 ⟨[.tmp 4],
 (.seq (.reg [oO 4 (.mv (.const (.bool false)))])
 (.seq (.seq (.reg [oM 6 0,
  oN 7 6,
  oM 8 1,
  oN 9 8,
  oO 10 (.bin .neq (.tmp 7) (.tmp 9))])
 (.cond (.tmp 10) (.seq (.reg [oO 4 (.mv (.const (.bool false)))])
 .ret) .skip))
 (.seq (.seq (.reg [oO 5 (.mv (oK 0))])
 (.blk 0 (.loop (.seq (.seq (.reg [oM 11 5,
  oM 12 0,
  oN 13 12,
  oO 14 (.bin .lss (.tmp 11) (.tmp 13))])
 (.cond (.tmp 14) .skip (.exit 0)))
 (.seq (.blk 1 (.seq (.reg [oM 17 0,
  oM 18 5,
  oX 19 1 17 18,
  oL 20 19,
  oM 21 1,
  oM 22 5,
  oX 23 1 21 22,
  oL 24 23,
  oO 25 (.call (.func 20) [(.tmp 20),(.tmp 24)]),
  oO 26 (.un .not (.tmp 25))])
 (.cond (.tmp 26) (.seq (.reg [oO 4 (.mv (.const (.bool false)))])
 .ret) .skip)))
 (.reg [oM 15 5,
  oO 16 (.bin .add (.tmp 15) (oK 1)),
  oM 5 16]))))))
 (.seq (.reg [oO 4 (.mv (.const (.bool true)))])
 .ret))))⟩
theorem s48:compFn Try.prog Try.f48=some c48:=by kernel_rfl
def c49:XFn:=
 ⟨[.tmp 2,.tmp 3,.tmp 4],
 (.seq (.reg [oO 2 (.mv (oK 0)),
  oO 3 (.mv (oK 0)),
  oO 4 (.mv (.const (.slice none 0 0)))])
 (.seq (.reg [oM 9 0,
  oO 10 (.call (.func 145) [(.tmp 9)]),
  oO 11 (.call (.func 201) [(.tmp 10)]),
  oM 8 11,
  oE 12 8 0,
  oE 13 8 1,
  oE 14 8 2,
  oM 5 12,
  oM 6 13,
  oM 7 14])
 (.seq (.reg [oM 15 5,
  oM 16 6,
  oM 17 7,
  oM 2 15,
  oM 3 16,
  oM 4 17])
 .ret)))⟩
theorem s49:compFn Try.prog Try.f49=some c49:=by kernel_rfl
def c50:XFn:=
 ⟨[.celln 6 4,.tmp 7],
 (.seq (.reg [oO 6 (.alloc 70 [.int .i64 0,.int .i64 0,.slice none 0 0,.slice none 0 0]),
  oO 7 (.mv (oK 0))])
 (.seq (.seq (.reg [oM 9 0,
  oM 10 1,
  oM 11 2,
  oO 12 (.call (.func 202) [(.tmp 9),(.tmp 10),(.tmp 11)]),
  oM 8 12])
 (.seq (.reg [oM 13 8,
  oO 14 (.bin .neq (.tmp 13) (oK 0))])
 (.cond (.tmp 14) (.seq (.reg [oO 15 (.build [.int .i64 0,.int .i64 0,.slice none 0 0,.slice none 0 0] []),
  oM 16 8,
  oS (.store 4 (.tmp 6) (.tmp 15)),
  oM 7 16])
 .ret) .skip)))
 (.seq (.reg [oM 17 0,
  oM 18 1,
  oM 19 2,
  oO 20 (.call (.func 203) [(.tmp 17),(.tmp 18),(.tmp 19)]),
  oS (.store 4 (.tmp 6) (.tmp 20)),
  oO 7 (.mv (oK 0))])
 .ret)))⟩
theorem s50:compFn Try.prog Try.f50=some c50:=by kernel_rfl
def c51:XFn:=
 ⟨[.celln 6 4,.tmp 7],
 (.seq (.reg [oO 6 (.alloc 70 [.int .i64 0,.int .i64 0,.slice none 0 0,.slice none 0 0]),
  oO 7 (.mv (oK 0))])
 (.seq (.seq (.reg [oM 9 0,
  oM 10 1,
  oM 11 2,
  oO 12 (.call (.func 204) [(.tmp 9),(.tmp 10),(.tmp 11)]),
  oM 8 12])
 (.seq (.reg [oM 13 8,
  oO 14 (.bin .neq (.tmp 13) (oK 0))])
 (.cond (.tmp 14) (.seq (.reg [oO 15 (.build [.int .i64 0,.int .i64 0,.slice none 0 0,.slice none 0 0] []),
  oM 16 8,
  oS (.store 4 (.tmp 6) (.tmp 15)),
  oM 7 16])
 .ret) .skip)))
 (.seq (.reg [oM 17 0,
  oM 18 1,
  oM 19 2,
  oO 20 (.call (.func 205) [(.tmp 17),(.tmp 18),(.tmp 19)]),
  oS (.store 4 (.tmp 6) (.tmp 20)),
  oO 7 (.mv (oK 0))])
 .ret)))⟩
theorem s51:compFn Try.prog Try.f51=some c51:=by kernel_rfl
def c52:XFn:=
 ⟨[.celln 6 4,.tmp 7],
 (.seq (.reg [oO 6 (.alloc 70 [.int .i64 0,.int .i64 0,.slice none 0 0,.slice none 0 0]),
  oO 7 (.mv (oK 0))])
 (.seq (.seq (.reg [oM 9 0,
  oM 10 1,
  oM 11 2,
  oO 12 (.call (.func 202) [(.tmp 9),(.tmp 10),(.tmp 11)]),
  oM 8 12])
 (.seq (.reg [oM 13 8,
  oO 14 (.bin .neq (.tmp 13) (oK 0))])
 (.cond (.tmp 14) (.seq (.reg [oO 15 (.build [.int .i64 0,.int .i64 0,.slice none 0 0,.slice none 0 0] []),
  oM 16 8,
  oS (.store 4 (.tmp 6) (.tmp 15)),
  oM 7 16])
 .ret) .skip)))
 (.seq (.reg [oM 17 0,
  oM 18 1,
  oO 19 (.build [.int .i64 0,.int .i64 0,.slice none 0 0,.slice none 0 0] [(0,1,(.tmp 17)),(1,1,(.tmp 18))]),
  oM 20 2,
  oO 21 (.call (.func 206) [(.tmp 19),(.tmp 20)]),
  oS (.store 4 (.tmp 6) (.tmp 21)),
  oO 7 (.mv (oK 0))])
 .ret)))⟩
theorem s52:compFn Try.prog Try.f52=some c52:=by kernel_rfl
def c53:XFn:=
 ⟨[.celln 6 4,.tmp 7],
 (.seq (.reg [oO 6 (.alloc 70 [.int .i64 0,.int .i64 0,.slice none 0 0,.slice none 0 0]),
  oO 7 (.mv (oK 0))])
 (.seq (.seq (.reg [oM 9 0,
  oM 10 1,
  oM 11 2,
  oO 12 (.call (.func 204) [(.tmp 9),(.tmp 10),(.tmp 11)]),
  oM 8 12])
 (.seq (.reg [oM 13 8,
  oO 14 (.bin .neq (.tmp 13) (oK 0))])
 (.cond (.tmp 14) (.seq (.reg [oO 15 (.build [.int .i64 0,.int .i64 0,.slice none 0 0,.slice none 0 0] []),
  oM 16 8,
  oS (.store 4 (.tmp 6) (.tmp 15)),
  oM 7 16])
 .ret) .skip)))
 (.seq (.reg [oM 17 0,
  oM 18 1,
  oM 19 2,
  oO 20 (.call (.func 207) [(.tmp 17),(.tmp 18),(.tmp 19)]),
  oS (.store 4 (.tmp 6) (.tmp 20)),
  oO 7 (.mv (oK 0))])
 .ret)))⟩
theorem s53:compFn Try.prog Try.f53=some c53:=by kernel_rfl
def c54:XFn:=
 ⟨[.tmp 4],
 (.seq (.reg [oO 2 (.box 70 (.tmp 0)),
  oO 3 (.box 70 (.tmp 1)),
  oO 4 (.mv (.const (.bool false)))])
 (.seq (.seq (.reg [oF 7 0 2,
  oL 8 7,
  oF 9 0 3,
  oL 10 9,
  oO 11 (.bin .neq (.tmp 8) (.tmp 10)),
  oM 12 11,
  oG 13 (.fadr 1 (.tmp 2)) 12 false,
  oG 14 (.load1 (.tmp 13)) 12 false,
  oG 15 (.fadr 1 (.tmp 3)) 12 false,
  oG 16 (.load1 (.tmp 15)) 12 false,
  oG 17 (.bin .neq (.tmp 14) (.tmp 16)) 12 false,
  oO 18 (.pick (.tmp 12) (.const (.bool true)) (.tmp 17)),
  oM 19 18,
  oG 20 (.fadr 2 (.tmp 2)) 19 false,
  oG 21 (.load1 (.tmp 20)) 19 false,
  oG 22 (.len (.tmp 21)) 19 false,
  oG 23 (.fadr 2 (.tmp 3)) 19 false,
  oG 24 (.load1 (.tmp 23)) 19 false,
  oG 25 (.len (.tmp 24)) 19 false,
  oG 26 (.bin .neq (.tmp 22) (.tmp 25)) 19 false,
  oO 27 (.pick (.tmp 19) (.const (.bool true)) (.tmp 26)),
  oM 28 27,
  oG 29 (.fadr 3 (.tmp 2)) 28 false,
  oG 30 (.load1 (.tmp 29)) 28 false,
  oG 31 (.len (.tmp 30)) 28 false,
  oG 32 (.fadr 3 (.tmp 3)) 28 false,
  oG 33 (.load1 (.tmp 32)) 28 false,
  oG 34 (.len (.tmp 33)) 28 false,
  oG 35 (.bin .neq (.tmp 31) (.tmp 34)) 28 false,
  oO 36 (.pick (.tmp 28) (.const (.bool true)) (.tmp 35))])
 (.cond (.tmp 36) (.seq (.reg [oO 4 (.mv (.const (.bool false)))])
 .ret) .skip))
 (.seq (.seq (.reg [oO 5 (.mv (oK 0))])
 (.blk 0 (.loop (.seq (.seq (.reg [oM 37 5,
  oF 38 2 2,
  oL 39 38,
  oN 40 39,
  oO 41 (.bin .lss (.tmp 37) (.tmp 40))])
 (.cond (.tmp 41) .skip (.exit 0)))
 (.seq (.blk 1 (.seq (.reg [oF 44 2 2,
  oL 45 44,
  oM 46 5,
  oX 47 3 45 46,
  oO 48 (.loadn 3 (.tmp 47)),
  oF 49 2 3,
  oL 50 49,
  oM 51 5,
  oX 52 3 50 51,
  oO 53 (.loadn 3 (.tmp 52)),
  oO 54 (.eqa true 3 (.tmp 48) (.tmp 53))])
 (.cond (.tmp 54) (.seq (.reg [oO 4 (.mv (.const (.bool false)))])
 .ret) .skip)))
 (.reg [oM 42 5,
  oO 43 (.bin .add (.tmp 42) (oK 1)),
  oM 5 43]))))))
 (.seq (.seq (.reg [oO 6 (.mv (oK 0))])
 (.blk 2 (.loop (.seq (.seq (.reg [oM 55 6,
  oF 56 3 2,
  oL 57 56,
  oN 58 57,
  oO 59 (.bin .lss (.tmp 55) (.tmp 58))])
 (.cond (.tmp 59) .skip (.exit 2)))
 (.seq (.blk 3 (.seq (.reg [oF 62 3 2,
  oL 63 62,
  oM 64 6,
  oX 65 2 63 64,
  oO 66 (.loadn 2 (.tmp 65)),
  oF 67 3 3,
  oL 68 67,
  oM 69 6,
  oX 70 2 68 69,
  oO 71 (.loadn 2 (.tmp 70)),
  oO 72 (.eqa true 2 (.tmp 66) (.tmp 71))])
 (.cond (.tmp 72) (.seq (.reg [oO 4 (.mv (.const (.bool false)))])
 .ret) .skip)))
 (.reg [oM 60 6,
  oO 61 (.bin .add (.tmp 60) (oK 1)),
  oM 6 61]))))))
 (.seq (.reg [oO 4 (.mv (.const (.bool true)))])
 .ret)))))⟩
theorem s54:compFn Try.prog Try.f54=some c54:=by kernel_rfl
def c55:XFn:=
 ⟨[.tmp 2,.tmp 3],
 (.seq (.reg [oO 1 (.box 70 (.tmp 0)),
  oO 2 (.mv (.const (.slice none 0 0))),
  oO 3 (.mv (oK 0))])
 (.seq (.seq (.reg [oO 7 (.loadn 4 (.tmp 1)),
  oO 8 (.call (.func 59) [(.tmp 7)]),
  oO 9 (.un .not (.tmp 8))])
 (.cond (.tmp 9) (.seq (.reg [oO 2 (.mv (.const (.slice none 0 0))),
  oO 3 (.mv (oK 1))])
 .ret) .skip))
 (.seq (.reg [oO 10 (.bslice 27 1 0 [.slice none 0 0] []),
  oM 4 10])
 (.seq (.seq (.reg [oF 11 1 1,
  oL 12 11,
  oO 13 (.mv (oK 0))])
 (.blk 0 (.loop (.seq (.reg [oO 14 (.bin .lss (.tmp 13) (.tmp 12))])
 (.seq (.cond (.tmp 14) .skip (.exit 0))
 (.seq (.blk 1 (.seq (.reg [oM 15 13,
  oM 5 15])
 (.seq (.reg [oF 16 1 1,
  oL 17 16,
  oO 18 (.mks 2 1 8 [.int .i64 0] (.tmp 17)),
  oM 6 18])
 (.seq (.reg [oM 19 6,
  oM 20 5,
  oX 21 1 19 20,
  oS (.store 1 (.tmp 21) (oK 1))])
 (.reg [oM 22 4,
  oO 23 (.loadn 4 (.tmp 1)),
  oM 24 6,
  oO 25 (.call (.func 171) [(.tmp 23),(.tmp 24)]),
  oO 26 (.bslice 27 1 1 [.slice none 0 0] [(0,1,(.tmp 25))]),
  oO 27 (.app 27 1 24 (.tmp 22) (.tmp 26)),
  oM 4 27])))))
 (.reg [oO 28 (.bin .add (.tmp 13) (oK 1)),
  oM 13 28])))))))
 (.seq (.reg [oM 29 4,
  oO 30 (.call (.func 208) [(.tmp 29)]),
  oM 2 30,
  oO 3 (.mv (oK 0))])
 .ret)))))⟩
theorem s55:compFn Try.prog Try.f55=some c55:=by kernel_rfl
def c56:XFn:=
 ⟨[.celln 2 4],
 (.seq (.reg [oO 2 (.alloc 70 [.int .i64 0,.int .i64 0,.slice none 0 0,.slice none 0 0])])
 (.seq (.reg [oM 3 0,
  oO 4 (.call (.func 145) [(.tmp 3)]),
  oO 5 (.call (.func 209) [(.tmp 4)]),
  oS (.store 4 (.tmp 2) (.tmp 5))])
 .ret))⟩
theorem s56:compFn Try.prog Try.f56=some c56:=by kernel_rfl
def c57:XFn:=
 ⟨[.celln 2 4,.tmp 3],
 (.seq (.reg [oO 1 (.box 70 (.tmp 0)),
  oO 2 (.alloc 70 [.int .i64 0,.int .i64 0,.slice none 0 0,.slice none 0 0]),
  oO 3 (.mv (oK 0))])
 (.seq (.seq (.reg [oO 16 (.loadn 4 (.tmp 1)),
  oO 17 (.call (.func 59) [(.tmp 16)]),
  oO 18 (.un .not (.tmp 17))])
 (.cond (.tmp 18) (.seq (.reg [oO 19 (.build [.int .i64 0,.int .i64 0,.slice none 0 0,.slice none 0 0] []),
  oS (.store 4 (.tmp 2) (.tmp 19)),
  oO 3 (.mv (oK 1))])
 .ret) .skip))
 (.seq (.reg [oF 20 1 1,
  oL 21 20,
  oM 4 21])
 (.seq (.reg [oM 22 4,
  oF 23 2 1,
  oL 24 23,
  oN 25 24,
  oO 26 (.bin .add (.tmp 22) (.tmp 25)),
  oO 27 (.mks 4 1 1 [.bool false] (.tmp 26)),
  oM 5 27])
 (.seq (.seq (.reg [oF 28 3 1,
  oL 29 28,
  oN 30 29,
  oO 31 (.mv (oK 0))])
 (.blk 0 (.loop (.seq (.reg [oO 32 (.bin .lss (.tmp 31) (.tmp 30))])
 (.seq (.cond (.tmp 32) .skip (.exit 0))
 (.seq (.blk 1 (.seq (.reg [oX 33 2 29 31,
  oO 34 (.loadn 2 (.tmp 33)),
  oO 7 (.alloc 183 [.int .i64 0,.int .i64 0]),
  oS (.store 2 (.tmp 7) (.tmp 34))])
 (.seq (.reg [oF 35 1 7,
  oL 36 35,
  oO 37 (.bin .neq (.tmp 36) (oK 0))])
 (.cond (.tmp 37) (.reg [oM 38 5,
  oF 39 0 7,
  oL 40 39,
  oX 41 1 38 40,
  oS (.store 1 (.tmp 41) (.const (.bool true)))]) .skip))))
 (.reg [oO 42 (.bin .add (.tmp 31) (oK 1)),
  oM 31 42])))))))
 (.seq (.seq (.reg [oF 43 2 1,
  oL 44 43,
  oN 45 44,
  oO 46 (.bin .sub (.tmp 45) (oK 1)),
  oM 8 46])
 (.blk 2 (.loop (.seq (.seq (.reg [oM 47 8,
  oO 48 (.bin .geq (.tmp 47) (oK 0))])
 (.cond (.tmp 48) .skip (.exit 2)))
 (.seq (.blk 3 (.seq (.reg [oM 51 5,
  oM 52 4,
  oM 53 8,
  oO 54 (.bin .add (.tmp 52) (.tmp 53)),
  oX 55 1 51 54,
  oL 56 55])
 (.cond (.tmp 56) (.seq (.reg [oM 57 5,
  oF 58 2 1,
  oL 59 58,
  oM 60 8,
  oX 61 3 59 60,
  oF 62 0 61,
  oL 63 62,
  oX 64 1 57 63,
  oS (.store 1 (.tmp 64) (.const (.bool true)))])
 (.reg [oM 65 5,
  oF 66 2 1,
  oL 67 66,
  oM 68 8,
  oX 69 3 67 68,
  oF 70 1 69,
  oL 71 70,
  oX 72 1 65 71,
  oS (.store 1 (.tmp 72) (.const (.bool true)))])) .skip)))
 (.reg [oM 49 8,
  oO 50 (.bin .sub (.tmp 49) (oK 1)),
  oM 8 50]))))))
 (.seq (.reg [oF 73 0 1,
  oL 74 73,
  oM 75 4,
  oO 76 (.build [.int .i64 0,.int .i64 0,.slice none 0 0,.slice none 0 0] [(0,1,(.tmp 74)),(1,1,(.tmp 75))]),
  oO 77 (.bslice 2 1 0 [.int .i64 0] []),
  oO 9 (.alloc 70 [.int .i64 0,.int .i64 0,.slice none 0 0,.slice none 0 0]),
  oS (.store 4 (.tmp 9) (.tmp 76)),
  oM 10 77])
 (.seq (.seq (.reg [oM 78 4,
  oO 79 (.mv (oK 0))])
 (.blk 4 (.loop (.seq (.reg [oO 80 (.bin .lss (.tmp 79) (.tmp 78))])
 (.seq (.cond (.tmp 80) .skip (.exit 4))
 (.seq (.blk 5 (.seq (.reg [oM 81 79,
  oM 11 81])
 (.reg [oM 82 10,
  oM 83 11,
  oO 84 (.bslice 2 1 1 [.int .i64 0] [(0,1,(.tmp 83))]),
  oO 85 (.app 2 1 8 (.tmp 82) (.tmp 84)),
  oM 10 85])))
 (.reg [oO 86 (.bin .add (.tmp 79) (oK 1)),
  oM 79 86])))))))
 (.seq (.seq (.reg [oF 87 2 1,
  oL 88 87,
  oN 89 88,
  oO 90 (.mv (oK 0))])
 (.blk 6 (.loop (.seq (.reg [oO 91 (.bin .lss (.tmp 90) (.tmp 89))])
 (.seq (.cond (.tmp 91) .skip (.exit 6))
 (.seq (.blk 7 (.seq (.reg [oM 92 90,
  oX 93 3 88 90,
  oO 94 (.loadn 3 (.tmp 93)),
  oO 13 (.alloc 181 [.int .i64 0,.int .i64 0,.int .i64 0]),
  oM 12 92,
  oS (.store 3 (.tmp 13) (.tmp 94))])
 (.seq (.reg [oM 95 10,
  oM 96 4,
  oF 97 2 9,
  oL 98 97,
  oN 99 98,
  oO 100 (.bin .add (.tmp 96) (.tmp 99)),
  oO 101 (.bslice 2 1 1 [.int .i64 0] [(0,1,(.tmp 100))]),
  oO 102 (.app 2 1 8 (.tmp 95) (.tmp 101)),
  oM 10 102])
 (.seq (.reg [oM 103 5,
  oM 104 4,
  oM 105 12,
  oO 106 (.bin .add (.tmp 104) (.tmp 105)),
  oX 107 1 103 106,
  oL 108 107])
 (.cond (.tmp 108) (.reg [oF 109 2 9,
  oL 110 109,
  oM 111 10,
  oF 112 0 13,
  oL 113 112,
  oX 114 1 111 113,
  oL 115 114,
  oM 116 10,
  oF 117 1 13,
  oL 118 117,
  oX 119 1 116 118,
  oL 120 119,
  oF 121 2 13,
  oL 122 121,
  oO 123 (.build [.int .i64 0,.int .i64 0,.int .i64 0] [(0,1,(.tmp 115)),(1,1,(.tmp 120)),(2,1,(.tmp 122))]),
  oO 124 (.bslice 181 3 1 [.int .i64 0,.int .i64 0,.int .i64 0] [(0,3,(.tmp 123))]),
  oO 125 (.app 181 3 24 (.tmp 110) (.tmp 124)),
  oF 126 2 9,
  oS (.store 1 (.tmp 126) (.tmp 125))]) .skip)))))
 (.reg [oO 127 (.bin .add (.tmp 90) (oK 1)),
  oM 90 127])))))))
 (.seq (.seq (.reg [oF 128 3 1,
  oL 129 128,
  oN 130 129,
  oO 131 (.mv (oK 0))])
 (.blk 8 (.loop (.seq (.reg [oO 132 (.bin .lss (.tmp 131) (.tmp 130))])
 (.seq (.cond (.tmp 132) .skip (.exit 8))
 (.seq (.blk 9 (.seq (.reg [oX 133 2 129 131,
  oO 134 (.loadn 2 (.tmp 133)),
  oO 15 (.alloc 183 [.int .i64 0,.int .i64 0]),
  oS (.store 2 (.tmp 15) (.tmp 134))])
 (.reg [oF 135 3 9,
  oL 136 135,
  oM 137 10,
  oF 138 0 15,
  oL 139 138,
  oX 140 1 137 139,
  oL 141 140,
  oF 142 1 15,
  oL 143 142,
  oO 144 (.build [.int .i64 0,.int .i64 0] [(0,1,(.tmp 141)),(1,1,(.tmp 143))]),
  oO 145 (.bslice 183 2 1 [.int .i64 0,.int .i64 0] [(0,2,(.tmp 144))]),
  oO 146 (.app 183 2 16 (.tmp 136) (.tmp 145)),
  oF 147 3 9,
  oS (.store 1 (.tmp 147) (.tmp 146))])))
 (.reg [oO 148 (.bin .add (.tmp 131) (oK 1)),
  oM 131 148])))))))
 (.seq (.reg [oO 149 (.loadn 4 (.tmp 9)),
  oS (.store 4 (.tmp 2) (.tmp 149)),
  oO 3 (.mv (oK 0))])
 .ret)))))))))))⟩
theorem s57:compFn Try.prog Try.f57=some c57:=by kernel_rfl
def c58:XFn:=
 ⟨[.celln 2 4,.tmp 3],
 (.seq (.reg [oO 1 (.box 70 (.tmp 0)),
  oO 2 (.alloc 70 [.int .i64 0,.int .i64 0,.slice none 0 0,.slice none 0 0]),
  oO 3 (.mv (oK 0))])
 (.seq (.seq (.reg [oO 16 (.loadn 4 (.tmp 1)),
  oO 17 (.call (.func 210) [(.tmp 16)]),
  oO 18 (.un .not (.tmp 17))])
 (.cond (.tmp 18) (.seq (.reg [oO 19 (.build [.int .i64 0,.int .i64 0,.slice none 0 0,.slice none 0 0] []),
  oS (.store 4 (.tmp 2) (.tmp 19)),
  oO 3 (.mv (oK 1))])
 .ret) .skip))
 (.seq (.reg [oF 20 1 1,
  oL 21 20,
  oF 22 2 1,
  oL 23 22,
  oN 24 23,
  oO 25 (.bin .add (.tmp 21) (.tmp 24)),
  oM 4 25])
 (.seq (.reg [oM 26 4,
  oO 27 (.mks 4 1 1 [.bool false] (.tmp 26)),
  oM 5 27])
 (.seq (.seq (.reg [oO 6 (.mv (oK 0))])
 (.blk 0 (.loop (.seq (.seq (.reg [oM 28 6,
  oF 29 3 1,
  oL 30 29,
  oN 31 30,
  oO 32 (.bin .lss (.tmp 28) (.tmp 31))])
 (.cond (.tmp 32) .skip (.exit 0)))
 (.seq (.blk 1 (.seq (.reg [oF 35 3 1,
  oL 36 35,
  oM 37 6,
  oX 38 2 36 37,
  oF 39 1 38,
  oL 40 39,
  oO 41 (.bin .neq (.tmp 40) (oK 0))])
 (.cond (.tmp 41) (.reg [oM 42 5,
  oF 43 3 1,
  oL 44 43,
  oM 45 6,
  oX 46 2 44 45,
  oF 47 0 46,
  oL 48 47,
  oX 49 1 42 48,
  oS (.store 1 (.tmp 49) (.const (.bool true)))]) .skip)))
 (.reg [oM 33 6,
  oO 34 (.bin .add (.tmp 33) (oK 1)),
  oM 6 34]))))))
 (.seq (.seq (.reg [oF 50 2 1,
  oL 51 50,
  oN 52 51,
  oO 53 (.bin .sub (.tmp 52) (oK 1)),
  oM 7 53])
 (.blk 2 (.loop (.seq (.seq (.reg [oM 54 7,
  oO 55 (.bin .geq (.tmp 54) (oK 0))])
 (.cond (.tmp 55) .skip (.exit 2)))
 (.seq (.blk 3 (.seq (.reg [oM 58 5,
  oF 59 1 1,
  oL 60 59,
  oM 61 7,
  oO 62 (.bin .add (.tmp 60) (.tmp 61)),
  oX 63 1 58 62,
  oL 64 63])
 (.cond (.tmp 64) (.seq (.reg [oM 65 5,
  oF 66 2 1,
  oL 67 66,
  oM 68 7,
  oX 69 3 67 68,
  oF 70 0 69,
  oL 71 70,
  oX 72 1 65 71,
  oS (.store 1 (.tmp 72) (.const (.bool true)))])
 (.reg [oM 73 5,
  oF 74 2 1,
  oL 75 74,
  oM 76 7,
  oX 77 3 75 76,
  oF 78 1 77,
  oL 79 78,
  oX 80 1 73 79,
  oS (.store 1 (.tmp 80) (.const (.bool true)))])) .skip)))
 (.reg [oM 56 7,
  oO 57 (.bin .sub (.tmp 56) (oK 1)),
  oM 7 57]))))))
 (.seq (.reg [oM 81 4,
  oO 82 (.mks 2 1 8 [.int .i64 0] (.tmp 81)),
  oM 8 82,
  oO 9 (.mv (oK 0))])
 (.seq (.seq (.reg [oO 10 (.mv (oK 0))])
 (.blk 4 (.loop (.seq (.seq (.reg [oM 83 10,
  oM 84 4,
  oO 85 (.bin .lss (.tmp 83) (.tmp 84))])
 (.cond (.tmp 85) .skip (.exit 4)))
 (.seq (.blk 5 (.seq (.reg [oM 88 10,
  oF 89 1 1,
  oL 90 89,
  oO 91 (.bin .lss (.tmp 88) (.tmp 90)),
  oM 92 91,
  oG 93 (.mv (.tmp 5)) 92 false,
  oG 94 (.mv (.tmp 10)) 92 false,
  oG 95 (.ixs 1 (.tmp 93) (.tmp 94)) 92 false,
  oG 96 (.load1 (.tmp 95)) 92 false,
  oO 97 (.pick (.tmp 92) (.const (.bool true)) (.tmp 96))])
 (.cond (.tmp 97) (.seq (.reg [oM 98 8,
  oM 99 10,
  oM 100 9,
  oX 101 1 98 99,
  oS (.store 1 (.tmp 101) (.tmp 100))])
 (.reg [oM 102 9,
  oO 103 (.bin .add (.tmp 102) (oK 1)),
  oM 9 103])) .skip)))
 (.reg [oM 86 10,
  oO 87 (.bin .add (.tmp 86) (oK 1)),
  oM 10 87]))))))
 (.seq (.reg [oF 104 0 1,
  oL 105 104,
  oF 106 1 1,
  oL 107 106,
  oO 108 (.bslice 181 3 0 [.int .i64 0,.int .i64 0,.int .i64 0] []),
  oO 109 (.bslice 183 2 0 [.int .i64 0,.int .i64 0] []),
  oO 110 (.build [.int .i64 0,.int .i64 0,.slice none 0 0,.slice none 0 0] [(0,1,(.tmp 105)),(1,1,(.tmp 107)),(2,1,(.tmp 108)),(3,1,(.tmp 109))]),
  oO 11 (.alloc 70 [.int .i64 0,.int .i64 0,.slice none 0 0,.slice none 0 0]),
  oS (.store 4 (.tmp 11) (.tmp 110))])
 (.seq (.seq (.reg [oO 12 (.mv (oK 0))])
 (.blk 6 (.loop (.seq (.seq (.reg [oM 111 12,
  oF 112 2 1,
  oL 113 112,
  oN 114 113,
  oO 115 (.bin .lss (.tmp 111) (.tmp 114))])
 (.cond (.tmp 115) .skip (.exit 6)))
 (.seq (.blk 7 (.seq (.reg [oF 118 2 1,
  oL 119 118,
  oM 120 12,
  oX 121 3 119 120,
  oO 122 (.loadn 3 (.tmp 121)),
  oO 13 (.alloc 181 [.int .i64 0,.int .i64 0,.int .i64 0]),
  oS (.store 3 (.tmp 13) (.tmp 122))])
 (.seq (.reg [oM 123 5,
  oF 124 1 1,
  oL 125 124,
  oM 126 12,
  oO 127 (.bin .add (.tmp 125) (.tmp 126)),
  oX 128 1 123 127,
  oL 129 128])
 (.cond (.tmp 129) (.reg [oF 130 2 11,
  oL 131 130,
  oM 132 8,
  oF 133 0 13,
  oL 134 133,
  oX 135 1 132 134,
  oL 136 135,
  oM 137 8,
  oF 138 1 13,
  oL 139 138,
  oX 140 1 137 139,
  oL 141 140,
  oF 142 2 13,
  oL 143 142,
  oO 144 (.build [.int .i64 0,.int .i64 0,.int .i64 0] [(0,1,(.tmp 136)),(1,1,(.tmp 141)),(2,1,(.tmp 143))]),
  oO 145 (.bslice 181 3 1 [.int .i64 0,.int .i64 0,.int .i64 0] [(0,3,(.tmp 144))]),
  oO 146 (.app 181 3 24 (.tmp 131) (.tmp 145)),
  oF 147 2 11,
  oS (.store 1 (.tmp 147) (.tmp 146))]) .skip))))
 (.reg [oM 116 12,
  oO 117 (.bin .add (.tmp 116) (oK 1)),
  oM 12 117]))))))
 (.seq (.seq (.reg [oO 14 (.mv (oK 0))])
 (.blk 8 (.loop (.seq (.seq (.reg [oM 148 14,
  oF 149 3 1,
  oL 150 149,
  oN 151 150,
  oO 152 (.bin .lss (.tmp 148) (.tmp 151))])
 (.cond (.tmp 152) .skip (.exit 8)))
 (.seq (.blk 9 (.seq (.reg [oF 155 3 1,
  oL 156 155,
  oM 157 14,
  oX 158 2 156 157,
  oO 159 (.loadn 2 (.tmp 158)),
  oO 15 (.alloc 183 [.int .i64 0,.int .i64 0]),
  oS (.store 2 (.tmp 15) (.tmp 159))])
 (.seq (.seq (.reg [oF 160 1 15,
  oL 161 160,
  oO 162 (.bin .neq (.tmp 161) (oK 0))])
 (.cond (.tmp 162) (.reg [oM 163 8,
  oF 164 0 15,
  oL 165 164,
  oX 166 1 163 165,
  oL 167 166,
  oF 168 0 15,
  oS (.store 1 (.tmp 168) (.tmp 167))]) .skip))
 (.reg [oF 169 3 11,
  oL 170 169,
  oO 171 (.loadn 2 (.tmp 15)),
  oO 172 (.bslice 183 2 1 [.int .i64 0,.int .i64 0] [(0,2,(.tmp 171))]),
  oO 173 (.app 183 2 16 (.tmp 170) (.tmp 172)),
  oF 174 3 11,
  oS (.store 1 (.tmp 174) (.tmp 173))]))))
 (.reg [oM 153 14,
  oO 154 (.bin .add (.tmp 153) (oK 1)),
  oM 14 154]))))))
 (.seq (.reg [oO 175 (.loadn 4 (.tmp 11)),
  oS (.store 4 (.tmp 2) (.tmp 175)),
  oO 3 (.mv (oK 0))])
 .ret))))))))))))⟩
theorem s58:compFn Try.prog Try.f58=some c58:=by kernel_rfl
def c59:XFn:=
 ⟨[.tmp 2],
 (.seq (.reg [oO 1 (.box 70 (.tmp 0)),
  oO 2 (.mv (.const (.bool false)))])
 (.seq (.seq (.reg [oF 9 0 1,
  oL 10 9,
  oO 11 (.call (.func 166) [(.tmp 10)]),
  oO 12 (.un .not (.tmp 11)),
  oM 13 12,
  oG 14 (.fadr 1 (.tmp 1)) 13 false,
  oG 15 (.load1 (.tmp 14)) 13 false,
  oG 16 (.bin .lss (.tmp 15) (oK 1)) 13 false,
  oO 17 (.pick (.tmp 13) (.const (.bool true)) (.tmp 16)),
  oM 18 17,
  oG 19 (.fadr 1 (.tmp 1)) 18 false,
  oG 20 (.load1 (.tmp 19)) 18 false,
  oG 21 (.bin .gtr (.tmp 20) (oK 30)) 18 false,
  oO 22 (.pick (.tmp 18) (.const (.bool true)) (.tmp 21)),
  oM 23 22,
  oG 24 (.fadr 2 (.tmp 1)) 23 false,
  oG 25 (.load1 (.tmp 24)) 23 false,
  oG 26 (.len (.tmp 25)) 23 false,
  oG 27 (.bin .gtr (.tmp 26) (oK 900)) 23 false,
  oO 28 (.pick (.tmp 23) (.const (.bool true)) (.tmp 27)),
  oM 29 28,
  oG 30 (.fadr 3 (.tmp 1)) 29 false,
  oG 31 (.load1 (.tmp 30)) 29 false,
  oG 32 (.len (.tmp 31)) 29 false,
  oG 33 (.bin .lss (.tmp 32) (oK 1)) 29 false,
  oO 34 (.pick (.tmp 29) (.const (.bool true)) (.tmp 33)),
  oM 35 34,
  oG 36 (.fadr 3 (.tmp 1)) 35 false,
  oG 37 (.load1 (.tmp 36)) 35 false,
  oG 38 (.len (.tmp 37)) 35 false,
  oG 39 (.bin .gtr (.tmp 38) (oK 30)) 35 false,
  oO 40 (.pick (.tmp 35) (.const (.bool true)) (.tmp 39))])
 (.cond (.tmp 40) (.seq (.reg [oO 2 (.mv (.const (.bool false)))])
 .ret) .skip))
 (.seq (.seq (.reg [oF 41 2 1,
  oL 42 41,
  oN 43 42,
  oO 44 (.mv (oK 0))])
 (.blk 0 (.loop (.seq (.reg [oO 45 (.bin .lss (.tmp 44) (.tmp 43))])
 (.seq (.cond (.tmp 45) .skip (.exit 0))
 (.seq (.blk 1 (.seq (.reg [oM 46 44,
  oX 47 3 42 44,
  oO 48 (.loadn 3 (.tmp 47)),
  oO 4 (.alloc 181 [.int .i64 0,.int .i64 0,.int .i64 0]),
  oM 3 46,
  oS (.store 3 (.tmp 4) (.tmp 48))])
 (.seq (.reg [oF 49 1 1,
  oL 50 49,
  oM 51 3,
  oO 52 (.bin .add (.tmp 50) (.tmp 51)),
  oM 5 52])
 (.seq (.reg [oF 53 0 4,
  oL 54 53,
  oO 55 (.bin .lss (.tmp 54) (oK 0)),
  oM 56 55,
  oG 57 (.fadr 0 (.tmp 4)) 56 false,
  oG 58 (.load1 (.tmp 57)) 56 false,
  oG 59 (.mv (.tmp 5)) 56 false,
  oG 60 (.bin .geq (.tmp 58) (.tmp 59)) 56 false,
  oO 61 (.pick (.tmp 56) (.const (.bool true)) (.tmp 60)),
  oM 62 61,
  oG 63 (.fadr 1 (.tmp 4)) 62 false,
  oG 64 (.load1 (.tmp 63)) 62 false,
  oG 65 (.bin .lss (.tmp 64) (oK 0)) 62 false,
  oO 66 (.pick (.tmp 62) (.const (.bool true)) (.tmp 65)),
  oM 67 66,
  oG 68 (.fadr 1 (.tmp 4)) 67 false,
  oG 69 (.load1 (.tmp 68)) 67 false,
  oG 70 (.mv (.tmp 5)) 67 false,
  oG 71 (.bin .geq (.tmp 69) (.tmp 70)) 67 false,
  oO 72 (.pick (.tmp 67) (.const (.bool true)) (.tmp 71)),
  oM 73 72,
  oG 74 (.fadr 0 (.tmp 4)) 73 false,
  oG 75 (.load1 (.tmp 74)) 73 false,
  oG 76 (.fadr 1 (.tmp 4)) 73 false,
  oG 77 (.load1 (.tmp 76)) 73 false,
  oG 78 (.bin .eql (.tmp 75) (.tmp 77)) 73 false,
  oO 79 (.pick (.tmp 73) (.const (.bool true)) (.tmp 78)),
  oM 80 79,
  oG 81 (.fadr 2 (.tmp 4)) 80 false,
  oG 82 (.load1 (.tmp 81)) 80 false,
  oG 83 (.bin .lss (.tmp 82) (oK 1)) 80 false,
  oO 84 (.pick (.tmp 80) (.const (.bool true)) (.tmp 83)),
  oM 85 84,
  oG 86 (.fadr 2 (.tmp 4)) 85 false,
  oG 87 (.load1 (.tmp 86)) 85 false,
  oG 88 (.fadr 0 (.tmp 1)) 85 false,
  oG 89 (.load1 (.tmp 88)) 85 false,
  oG 90 (.bin .geq (.tmp 87) (.tmp 89)) 85 false,
  oO 91 (.pick (.tmp 85) (.const (.bool true)) (.tmp 90))])
 (.cond (.tmp 91) (.seq (.reg [oO 2 (.mv (.const (.bool false)))])
 .ret) .skip)))))
 (.reg [oO 92 (.bin .add (.tmp 44) (oK 1)),
  oM 44 92])))))))
 (.seq (.reg [oF 93 1 1,
  oL 94 93,
  oF 95 2 1,
  oL 96 95,
  oN 97 96,
  oO 98 (.bin .add (.tmp 94) (.tmp 97)),
  oM 6 98])
 (.seq (.seq (.reg [oF 99 3 1,
  oL 100 99,
  oN 101 100,
  oO 102 (.mv (oK 0))])
 (.blk 2 (.loop (.seq (.reg [oO 103 (.bin .lss (.tmp 102) (.tmp 101))])
 (.seq (.cond (.tmp 103) .skip (.exit 2))
 (.seq (.blk 3 (.seq (.reg [oX 104 2 100 102,
  oO 105 (.loadn 2 (.tmp 104)),
  oO 8 (.alloc 183 [.int .i64 0,.int .i64 0]),
  oS (.store 2 (.tmp 8) (.tmp 105))])
 (.seq (.reg [oF 106 0 8,
  oL 107 106,
  oO 108 (.bin .lss (.tmp 107) (oK 0)),
  oM 109 108,
  oG 110 (.fadr 0 (.tmp 8)) 109 false,
  oG 111 (.load1 (.tmp 110)) 109 false,
  oG 112 (.mv (.tmp 6)) 109 false,
  oG 113 (.bin .geq (.tmp 111) (.tmp 112)) 109 false,
  oO 114 (.pick (.tmp 109) (.const (.bool true)) (.tmp 113)),
  oM 115 114,
  oG 116 (.fadr 1 (.tmp 8)) 115 false,
  oG 117 (.load1 (.tmp 116)) 115 false,
  oG 118 (.bin .lss (.tmp 117) (oK 0)) 115 false,
  oO 119 (.pick (.tmp 115) (.const (.bool true)) (.tmp 118)),
  oM 120 119,
  oG 121 (.fadr 1 (.tmp 8)) 120 false,
  oG 122 (.load1 (.tmp 121)) 120 false,
  oG 123 (.fadr 0 (.tmp 1)) 120 false,
  oG 124 (.load1 (.tmp 123)) 120 false,
  oG 125 (.bin .geq (.tmp 122) (.tmp 124)) 120 false,
  oO 126 (.pick (.tmp 120) (.const (.bool true)) (.tmp 125)),
  oM 127 126,
  oG 128 (.fadr 1 (.tmp 8)) 127 false,
  oG 129 (.load1 (.tmp 128)) 127 false,
  oG 130 (.bin .eql (.tmp 129) (oK 0)) 127 false,
  oG 131 (.mv (.tmp 130)) 127 false,
  oG 132 (.fadr 0 (.tmp 8)) 131 true,
  oG 133 (.load1 (.tmp 132)) 131 true,
  oG 134 (.bin .neq (.tmp 133) (oK 0)) 131 true,
  oG 135 (.pick (.tmp 131) (.tmp 134) (.const (.bool false))) 127 false,
  oO 136 (.pick (.tmp 127) (.const (.bool true)) (.tmp 135))])
 (.cond (.tmp 136) (.seq (.reg [oO 2 (.mv (.const (.bool false)))])
 .ret) .skip))))
 (.reg [oO 137 (.bin .add (.tmp 102) (oK 1)),
  oM 102 137])))))))
 (.seq (.reg [oO 2 (.mv (.const (.bool true)))])
 .ret))))))⟩
theorem s59:compFn Try.prog Try.f59=some c59:=by kernel_rfl
def c60:XFn:=
 ⟨[.tmp 2],
 (.seq (.reg [oO 1 (.box 70 (.tmp 0)),
  oO 2 (.mv (.const (.bool false)))])
 (.seq (.reg [oO 3 (.loadn 4 (.tmp 1)),
  oO 4 (.call (.func 210) [(.tmp 3)]),
  oM 2 4])
 .ret))⟩
theorem s60:compFn Try.prog Try.f60=some c60:=by kernel_rfl
def c61:XFn:=
 ⟨[.tmp 2,.tmp 3],
 (.seq (.reg [oO 1 (.box 70 (.tmp 0)),
  oO 2 (.mv (.const (.slice none 0 0))),
  oO 3 (.mv (oK 0))])
 (.seq (.seq (.reg [oO 10 (.loadn 4 (.tmp 1)),
  oO 11 (.call (.func 59) [(.tmp 10)]),
  oO 12 (.un .not (.tmp 11))])
 (.cond (.tmp 12) (.seq (.reg [oO 2 (.mv (.const (.slice none 0 0))),
  oO 3 (.mv (oK 1))])
 .ret) .skip))
 (.seq (.reg [oF 13 1 1,
  oL 14 13,
  oO 15 (.mks 2 1 8 [.int .i64 0] (.tmp 14)),
  oM 4 15])
 (.seq (.seq (.reg [oF 16 2 1,
  oL 17 16,
  oN 18 17,
  oO 19 (.mv (oK 0))])
 (.blk 0 (.loop (.seq (.reg [oO 20 (.bin .lss (.tmp 19) (.tmp 18))])
 (.seq (.cond (.tmp 20) .skip (.exit 0))
 (.seq (.blk 1 (.seq (.reg [oX 21 3 17 19,
  oO 22 (.loadn 3 (.tmp 21)),
  oO 6 (.alloc 181 [.int .i64 0,.int .i64 0,.int .i64 0]),
  oS (.store 3 (.tmp 6) (.tmp 22))])
 (.reg [oM 23 4,
  oM 24 4,
  oF 25 0 6,
  oL 26 25,
  oX 27 1 24 26,
  oL 28 27,
  oM 29 4,
  oF 30 1 6,
  oL 31 30,
  oX 32 1 29 31,
  oL 33 32,
  oO 34 (.mm true (.tmp 28) [(.tmp 33)]),
  oO 35 (.bin .add (oK 1) (.tmp 34)),
  oO 36 (.bslice 2 1 1 [.int .i64 0] [(0,1,(.tmp 35))]),
  oO 37 (.app 2 1 8 (.tmp 23) (.tmp 36)),
  oM 4 37])))
 (.reg [oO 38 (.bin .add (.tmp 19) (oK 1)),
  oM 19 38])))))))
 (.seq (.reg [oO 39 (.bslice 2 1 0 [.int .i64 0] []),
  oM 7 39])
 (.seq (.seq (.reg [oF 40 3 1,
  oL 41 40,
  oN 42 41,
  oO 43 (.mv (oK 0))])
 (.blk 2 (.loop (.seq (.reg [oO 44 (.bin .lss (.tmp 43) (.tmp 42))])
 (.seq (.cond (.tmp 44) .skip (.exit 2))
 (.seq (.blk 3 (.seq (.reg [oX 45 2 41 43,
  oO 46 (.loadn 2 (.tmp 45)),
  oO 9 (.alloc 183 [.int .i64 0,.int .i64 0]),
  oS (.store 2 (.tmp 9) (.tmp 46))])
 (.seq (.reg [oF 47 1 9,
  oL 48 47,
  oO 49 (.bin .eql (.tmp 48) (oK 0))])
 (.cond (.tmp 49) (.reg [oM 50 7,
  oO 51 (.bslice 2 1 1 [.int .i64 0] [(0,1,(oK 0))]),
  oO 52 (.app 2 1 8 (.tmp 50) (.tmp 51)),
  oM 7 52]) (.reg [oM 53 7,
  oM 54 4,
  oF 55 0 9,
  oL 56 55,
  oX 57 1 54 56,
  oL 58 57,
  oO 59 (.bslice 2 1 1 [.int .i64 0] [(0,1,(.tmp 58))]),
  oO 60 (.app 2 1 8 (.tmp 53) (.tmp 59)),
  oM 7 60])))))
 (.reg [oO 61 (.bin .add (.tmp 43) (oK 1)),
  oM 43 61])))))))
 (.seq (.reg [oM 62 7,
  oM 2 62,
  oO 3 (.mv (oK 0))])
 .ret)))))))⟩
theorem s61:compFn Try.prog Try.f61=some c61:=by kernel_rfl
def c62:XFn:=
 ⟨[.celln 2 4],
 (.seq (.reg [oO 2 (.alloc 70 [.int .i64 0,.int .i64 0,.slice none 0 0,.slice none 0 0])])
 (.seq (.reg [oM 3 0,
  oO 4 (.call (.func 145) [(.tmp 3)]),
  oO 5 (.call (.func 209) [(.tmp 4)]),
  oS (.store 4 (.tmp 2) (.tmp 5))])
 .ret))⟩
theorem s62:compFn Try.prog Try.f62=some c62:=by kernel_rfl
def c63:XFn:=
 ⟨[.tmp 2,.tmp 3],
 (.seq (.reg [oO 1 (.box 70 (.tmp 0)),
  oO 2 (.mv (.const (.slice none 0 0))),
  oO 3 (.mv (oK 0))])
 (.seq (.seq (.reg [oO 4 (.loadn 4 (.tmp 1)),
  oO 5 (.call (.func 210) [(.tmp 4)]),
  oO 6 (.un .not (.tmp 5))])
 (.cond (.tmp 6) (.seq (.reg [oO 2 (.mv (.const (.slice none 0 0))),
  oO 3 (.mv (oK 1))])
 .ret) .skip))
 (.seq (.reg [oO 7 (.loadn 4 (.tmp 1)),
  oO 8 (.call (.func 211) [(.tmp 7)]),
  oM 2 8,
  oO 3 (.mv (oK 0))])
 .ret)))⟩
theorem s63:compFn Try.prog Try.f63=some c63:=by kernel_rfl
def c64:XFn:=
 ⟨[.celln 2 4],
 (.seq (.reg [oO 2 (.alloc 70 [.int .i64 0,.int .i64 0,.slice none 0 0,.slice none 0 0])])
 (.seq (.reg [oM 3 0,
  oO 4 (.call (.func 145) [(.tmp 3)]),
  oO 5 (.call (.func 209) [(.tmp 4)]),
  oS (.store 4 (.tmp 2) (.tmp 5))])
 .ret))⟩
theorem s64:compFn Try.prog Try.f64=some c64:=by kernel_rfl
def c65:XFn:=
 ⟨[.tmp 2,.tmp 3],
 (.seq (.reg [oO 1 (.box 70 (.tmp 0)),
  oO 2 (.mv (.const (.slice none 0 0))),
  oO 3 (.mv (oK 0))])
 (.seq (.seq (.reg [oO 8 (.loadn 4 (.tmp 1)),
  oO 9 (.call (.func 210) [(.tmp 8)]),
  oO 10 (.un .not (.tmp 9))])
 (.cond (.tmp 10) (.seq (.reg [oO 2 (.mv (.const (.slice none 0 0))),
  oO 3 (.mv (oK 1))])
 .ret) .skip))
 (.seq (.reg [oF 11 1 1,
  oL 12 11,
  oO 13 (.mks 2 1 8 [.int .i64 0] (.tmp 12)),
  oO 14 (.bslice 2 1 0 [.int .i64 0] []),
  oM 4 13,
  oM 5 14])
 (.seq (.seq (.reg [oO 6 (.mv (oK 0))])
 (.blk 0 (.loop (.seq (.seq (.reg [oM 15 6,
  oF 16 2 1,
  oL 17 16,
  oN 18 17,
  oO 19 (.bin .lss (.tmp 15) (.tmp 18))])
 (.cond (.tmp 19) .skip (.exit 0)))
 (.seq (.blk 1 (.reg [oM 22 4,
  oM 23 4,
  oF 24 2 1,
  oL 25 24,
  oM 26 6,
  oX 27 3 25 26,
  oF 28 0 27,
  oL 29 28,
  oX 30 1 23 29,
  oL 31 30,
  oM 32 4,
  oF 33 2 1,
  oL 34 33,
  oM 35 6,
  oX 36 3 34 35,
  oF 37 1 36,
  oL 38 37,
  oX 39 1 32 38,
  oL 40 39,
  oO 41 (.mm true (.tmp 31) [(.tmp 40)]),
  oO 42 (.bin .add (oK 1) (.tmp 41)),
  oO 43 (.bslice 2 1 1 [.int .i64 0] [(0,1,(.tmp 42))]),
  oO 44 (.app 2 1 8 (.tmp 22) (.tmp 43)),
  oM 4 44]))
 (.reg [oM 20 6,
  oO 21 (.bin .add (.tmp 20) (oK 1)),
  oM 6 21]))))))
 (.seq (.seq (.reg [oO 7 (.mv (oK 0))])
 (.blk 2 (.loop (.seq (.seq (.reg [oM 45 7,
  oF 46 3 1,
  oL 47 46,
  oN 48 47,
  oO 49 (.bin .lss (.tmp 45) (.tmp 48))])
 (.cond (.tmp 49) .skip (.exit 2)))
 (.seq (.blk 3 (.seq (.reg [oF 52 3 1,
  oL 53 52,
  oM 54 7,
  oX 55 2 53 54,
  oF 56 1 55,
  oL 57 56,
  oO 58 (.bin .eql (.tmp 57) (oK 0))])
 (.cond (.tmp 58) (.reg [oM 59 5,
  oO 60 (.bslice 2 1 1 [.int .i64 0] [(0,1,(oK 0))]),
  oO 61 (.app 2 1 8 (.tmp 59) (.tmp 60)),
  oM 5 61]) (.reg [oM 62 5,
  oM 63 4,
  oF 64 3 1,
  oL 65 64,
  oM 66 7,
  oX 67 2 65 66,
  oF 68 0 67,
  oL 69 68,
  oX 70 1 63 69,
  oL 71 70,
  oO 72 (.bslice 2 1 1 [.int .i64 0] [(0,1,(.tmp 71))]),
  oO 73 (.app 2 1 8 (.tmp 62) (.tmp 72)),
  oM 5 73]))))
 (.reg [oM 50 7,
  oO 51 (.bin .add (.tmp 50) (oK 1)),
  oM 7 51]))))))
 (.seq (.reg [oM 74 5,
  oM 2 74,
  oO 3 (.mv (oK 0))])
 .ret))))))⟩
theorem s65:compFn Try.prog Try.f65=some c65:=by kernel_rfl
def c66:XFn:=
 ⟨[.tmp 2,.tmp 3,.tmp 4],
 (.seq (.reg [oO 2 (.mv (oK 0)),
  oO 3 (.mv (oK 0)),
  oO 4 (.mv (.const (.slice none 0 0)))])
 (.seq (.reg [oM 9 0,
  oO 10 (.call (.func 145) [(.tmp 9)]),
  oO 11 (.call (.func 201) [(.tmp 10)]),
  oM 8 11,
  oE 12 8 0,
  oE 13 8 1,
  oE 14 8 2,
  oM 5 12,
  oM 6 13,
  oM 7 14])
 (.seq (.reg [oM 15 5,
  oM 16 6,
  oM 17 7,
  oM 2 15,
  oM 3 16,
  oM 4 17])
 .ret)))⟩
theorem s66:compFn Try.prog Try.f66=some c66:=by kernel_rfl
def c145:XFn:=
 ⟨[.tmp 2],
 (.seq (.reg [oO 2 (.mv (.const (.pointer none)))])
 (.seq (.reg [oM 5 0,
  oM 6 0,
  oN 7 6,
  oO 8 (.conv .u64 (.tmp 7)),
  oO 9 (.bin .add (.const (.int .u64 12619)) (.tmp 8)),
  oO 10 (.build [.slice none 0 0,.int .i64 0,.int .u64 0] [(0,1,(.tmp 5)),(2,1,(.tmp 9))]),
  oO 11 (.box 220 (.tmp 10)),
  oM 3 11])
 (.seq (.seq (.reg [oO 4 (.mv (oK 0))])
 (.blk 0 (.loop (.seq (.seq (.reg [oM 12 4,
  oM 13 0,
  oN 14 13,
  oO 15 (.bin .lss (.tmp 12) (.tmp 14)),
  oM 16 15,
  oG 17 (.mv (.tmp 4)) 16 true,
  oG 18 (.bin .lss (.tmp 17) (oK 4096)) 16 true,
  oO 19 (.pick (.tmp 16) (.tmp 18) (.const (.bool false)))])
 (.cond (.tmp 19) .skip (.exit 0)))
 (.seq (.blk 1 (.reg [oM 22 3,
  oM 23 3,
  oO 24 (.nchk (.tmp 23)),
  oF 25 2 24,
  oL 26 25,
  oO 27 (.bin .mul (.tmp 26) (.const (.int .u64 1099511628211))),
  oM 28 0,
  oM 29 4,
  oX 30 1 28 29,
  oL 31 30,
  oO 32 (.conv .u64 (.tmp 31)),
  oO 33 (.bin .add (.tmp 27) (.tmp 32)),
  oO 34 (.bin .add (.tmp 33) (.const (.int .u64 79))),
  oO 35 (.nchk (.tmp 22)),
  oF 36 2 35,
  oS (.store 1 (.tmp 36) (.tmp 34))]))
 (.reg [oM 20 4,
  oO 21 (.bin .add (.tmp 20) (oK 1)),
  oM 4 21]))))))
 (.seq (.reg [oM 37 3,
  oM 2 37])
 .ret))))⟩
theorem s145:compFn Try.prog Try.f145=some c145:=by kernel_rfl
def c147:XFn:=
 ⟨[.tmp 4],
 (.seq (.reg [oO 4 (.mv (oK 0))])
 (.seq (.reg [oM 5 1,
  oM 6 0,
  oM 7 1,
  oN 8 7,
  oO 9 (.call (.func 148) [(.tmp 6),(.tmp 8)]),
  oX 10 1 5 9,
  oL 11 10,
  oM 4 11])
 .ret))⟩
theorem s147:compFn Try.prog Try.f147=some c147:=by kernel_rfl
def c148:XFn:=
 ⟨[.tmp 4],
 (.seq (.reg [oO 4 (.mv (oK 0))])
 (.seq (.seq (.reg [oM 6 1,
  oO 7 (.bin .lss (.tmp 6) (oK 1))])
 (.cond (.tmp 7) (.seq (.reg [oO 4 (.mv (oK 0))])
 .ret) .skip))
 (.seq (.reg [oM 8 0,
  oM 9 0,
  oO 10 (.nchk (.tmp 9)),
  oF 11 2 10,
  oL 12 11,
  oO 13 (.bin .mul (.tmp 12) (.const (.int .u64 6364136223846793005))),
  oO 14 (.bin .add (.tmp 13) (.const (.int .u64 1442695040888963407))),
  oO 15 (.nchk (.tmp 8)),
  oF 16 2 15,
  oS (.store 1 (.tmp 16) (.tmp 14))])
 (.seq (.reg [oM 17 0,
  oO 18 (.nchk (.tmp 17)),
  oF 19 2 18,
  oL 20 19,
  oO 21 (.bin .shr (.tmp 20) (.const (.int .u64 33))),
  oO 22 (.bin .and (.tmp 21) (.const (.int .u64 16777215))),
  oO 23 (.conv .i64 (.tmp 22)),
  oM 5 23])
 (.seq (.seq (.reg [oM 24 0,
  oO 25 (.nchk (.tmp 24)),
  oF 26 1 25,
  oL 27 26,
  oM 28 0,
  oO 29 (.nchk (.tmp 28)),
  oF 30 0 29,
  oL 31 30,
  oN 32 31,
  oO 33 (.bin .lss (.tmp 27) (.tmp 32))])
 (.cond (.tmp 33) (.seq (.reg [oM 34 5,
  oM 35 0,
  oO 36 (.nchk (.tmp 35)),
  oF 37 0 36,
  oL 38 37,
  oM 39 0,
  oO 40 (.nchk (.tmp 39)),
  oF 41 1 40,
  oL 42 41,
  oX 43 1 38 42,
  oL 44 43,
  oO 45 (.conv .i64 (.tmp 44)),
  oO 46 (.bin .add (.tmp 34) (.tmp 45)),
  oM 5 46])
 (.reg [oM 47 0,
  oM 48 0,
  oO 49 (.nchk (.tmp 48)),
  oF 50 1 49,
  oL 51 50,
  oO 52 (.bin .add (.tmp 51) (oK 1)),
  oO 53 (.nchk (.tmp 47)),
  oF 54 1 53,
  oS (.store 1 (.tmp 54) (.tmp 52))])) .skip))
 (.seq (.reg [oM 55 5,
  oM 56 1,
  oO 57 (.bin .rem (.tmp 55) (.tmp 56)),
  oM 4 57])
 .ret))))))⟩
theorem s148:compFn Try.prog Try.f148=some c148:=by kernel_rfl
def c166:XFn:=
 ⟨[.tmp 2],
 (.seq (.reg [oO 2 (.mv (.const (.bool false)))])
 (.seq (.reg [oM 3 0,
  oO 4 (.bin .eql (.tmp 3) (oK 2)),
  oM 5 4,
  oG 6 (.mv (.tmp 0)) 5 false,
  oG 7 (.bin .eql (.tmp 6) (oK 3)) 5 false,
  oO 8 (.pick (.tmp 5) (.const (.bool true)) (.tmp 7)),
  oM 9 8,
  oG 10 (.mv (.tmp 0)) 9 false,
  oG 11 (.bin .eql (.tmp 10) (oK 5)) 9 false,
  oO 12 (.pick (.tmp 9) (.const (.bool true)) (.tmp 11)),
  oM 2 12])
 .ret))⟩
theorem s166:compFn Try.prog Try.f166=some c166:=by kernel_rfl
def c168:XFn:=
 ⟨[.tmp 8],
 (.seq (.reg [oO 8 (.mv (.const (.bool false)))])
 (.seq (.seq (.reg [oM 11 3,
  oN 12 11,
  oO 13 (.mv (oK 0))])
 (.blk 0 (.loop (.seq (.reg [oO 14 (.bin .lss (.tmp 13) (.tmp 12))])
 (.seq (.cond (.tmp 14) .skip (.exit 0))
 (.seq (.blk 1 (.seq (.reg [oX 15 1 11 13,
  oL 16 15,
  oM 10 16])
 (.seq (.reg [oM 17 10,
  oN 18 17,
  oM 19 2,
  oO 20 (.bin .neq (.tmp 18) (.tmp 19)),
  oM 21 20,
  oG 22 (.mv (.tmp 0)) 21 false,
  oG 23 (.mv (.tmp 10)) 21 false,
  oG 24 (.call (.func 184) [(.tmp 22),(.tmp 23)]) 21 false,
  oG 25 (.un .not (.tmp 24)) 21 false,
  oO 26 (.pick (.tmp 21) (.const (.bool true)) (.tmp 25))])
 (.cond (.tmp 26) (.seq (.reg [oO 8 (.mv (.const (.bool false)))])
 .ret) .skip))))
 (.reg [oO 27 (.bin .add (.tmp 13) (oK 1)),
  oM 13 27])))))))
 (.seq (.reg [oM 28 3,
  oN 29 28,
  oM 30 1,
  oO 31 (.bin .eql (.tmp 29) (.tmp 30)),
  oM 8 31])
 .ret)))⟩
theorem s168:compFn Try.prog Try.f168=some c168:=by kernel_rfl
def c171:XFn:=
 ⟨[.tmp 4],
 (.seq (.reg [oO 2 (.box 70 (.tmp 0)),
  oO 4 (.mv (.const (.slice none 0 0)))])
 (.seq (.reg [oM 11 1,
  oO 12 (.call (.func 285) [(.tmp 11)]),
  oM 5 12])
 (.seq (.seq (.reg [oF 13 2 2,
  oL 14 13,
  oN 15 14,
  oO 16 (.mv (oK 0))])
 (.blk 0 (.loop (.seq (.reg [oO 17 (.bin .lss (.tmp 16) (.tmp 15))])
 (.seq (.cond (.tmp 17) .skip (.exit 0))
 (.seq (.blk 1 (.seq (.reg [oX 18 3 14 16,
  oO 19 (.loadn 3 (.tmp 18)),
  oO 7 (.alloc 181 [.int .i64 0,.int .i64 0,.int .i64 0]),
  oS (.store 3 (.tmp 7) (.tmp 19))])
 (.reg [oM 20 5,
  oM 21 5,
  oF 22 0 7,
  oL 23 22,
  oX 24 1 21 23,
  oL 25 24,
  oF 26 2 7,
  oL 27 26,
  oM 28 5,
  oF 29 1 7,
  oL 30 29,
  oX 31 1 28 30,
  oL 32 31,
  oO 33 (.bin .mul (.tmp 27) (.tmp 32)),
  oO 34 (.bin .add (.tmp 25) (.tmp 33)),
  oF 35 0 2,
  oL 36 35,
  oO 37 (.bin .rem (.tmp 34) (.tmp 36)),
  oO 38 (.bslice 2 1 1 [.int .i64 0] [(0,1,(.tmp 37))]),
  oO 39 (.app 2 1 8 (.tmp 20) (.tmp 38)),
  oM 5 39])))
 (.reg [oO 40 (.bin .add (.tmp 16) (oK 1)),
  oM 16 40])))))))
 (.seq (.reg [oO 41 (.bslice 2 1 0 [.int .i64 0] []),
  oM 8 41])
 (.seq (.seq (.reg [oF 42 3 2,
  oL 43 42,
  oN 44 43,
  oO 45 (.mv (oK 0))])
 (.blk 2 (.loop (.seq (.reg [oO 46 (.bin .lss (.tmp 45) (.tmp 44))])
 (.seq (.cond (.tmp 46) .skip (.exit 2))
 (.seq (.blk 3 (.seq (.reg [oX 47 2 43 45,
  oO 48 (.loadn 2 (.tmp 47)),
  oO 10 (.alloc 183 [.int .i64 0,.int .i64 0]),
  oS (.store 2 (.tmp 10) (.tmp 48))])
 (.reg [oM 49 8,
  oF 50 1 10,
  oL 51 50,
  oM 52 5,
  oF 53 0 10,
  oL 54 53,
  oX 55 1 52 54,
  oL 56 55,
  oO 57 (.bin .mul (.tmp 51) (.tmp 56)),
  oF 58 0 2,
  oL 59 58,
  oO 60 (.bin .rem (.tmp 57) (.tmp 59)),
  oO 61 (.bslice 2 1 1 [.int .i64 0] [(0,1,(.tmp 60))]),
  oO 62 (.app 2 1 8 (.tmp 49) (.tmp 61)),
  oM 8 62])))
 (.reg [oO 63 (.bin .add (.tmp 45) (oK 1)),
  oM 45 63])))))))
 (.seq (.reg [oM 64 8,
  oM 4 64])
 .ret))))))⟩
theorem s171:compFn Try.prog Try.f171=some c171:=by kernel_rfl
def c181:XFn:=
 ⟨[.tmp 6],
 (.seq (.reg [oO 6 (.mv (.const (.bool false)))])
 (.seq (.reg [oM 7 0,
  oM 8 1,
  oO 9 (.bin .geq (.tmp 7) (.tmp 8)),
  oM 10 9,
  oG 11 (.mv (.tmp 0)) 10 true,
  oG 12 (.mv (.tmp 2)) 10 true,
  oG 13 (.bin .leq (.tmp 11) (.tmp 12)) 10 true,
  oO 14 (.pick (.tmp 10) (.tmp 13) (.const (.bool false))),
  oM 6 14])
 .ret))⟩
theorem s181:compFn Try.prog Try.f181=some c181:=by kernel_rfl
def c184:XFn:=
 ⟨[.tmp 4],
 (.seq (.reg [oO 4 (.mv (.const (.bool false)))])
 (.seq (.seq (.reg [oM 7 1,
  oN 8 7,
  oO 9 (.mv (oK 0))])
 (.blk 0 (.loop (.seq (.reg [oO 10 (.bin .lss (.tmp 9) (.tmp 8))])
 (.seq (.cond (.tmp 10) .skip (.exit 0))
 (.seq (.blk 1 (.seq (.reg [oX 11 1 7 9,
  oL 12 11,
  oM 6 12])
 (.seq (.reg [oM 13 6,
  oO 14 (.bin .lss (.tmp 13) (oK 0)),
  oM 15 14,
  oG 16 (.mv (.tmp 6)) 15 false,
  oG 17 (.mv (.tmp 0)) 15 false,
  oG 18 (.bin .geq (.tmp 16) (.tmp 17)) 15 false,
  oO 19 (.pick (.tmp 15) (.const (.bool true)) (.tmp 18))])
 (.cond (.tmp 19) (.seq (.reg [oO 4 (.mv (.const (.bool false)))])
 .ret) .skip))))
 (.reg [oO 20 (.bin .add (.tmp 9) (oK 1)),
  oM 9 20])))))))
 (.seq (.reg [oO 4 (.mv (.const (.bool true)))])
 .ret)))⟩
theorem s184:compFn Try.prog Try.f184=some c184:=by kernel_rfl
def c201:XFn:=
 ⟨[.tmp 2,.tmp 3,.tmp 4],
 (.seq (.reg [oO 2 (.mv (oK 0)),
  oO 3 (.mv (oK 0)),
  oO 4 (.mv (.const (.slice none 0 0)))])
 (.seq (.reg [oM 12 0,
  oO 13 (.bslice 2 1 4 [.int .i64 0] [(0,1,(oK 2)),(1,1,(oK 2)),(2,1,(oK 3)),(3,1,(oK 5))]),
  oO 14 (.call (.func 147) [(.tmp 12),(.tmp 13)]),
  oM 15 0,
  oO 16 (.bslice 2 1 6 [.int .i64 0] [(0,1,(oK 2)),(1,1,(oK 3)),(2,1,(oK 4)),(3,1,(oK 4)),(4,1,(oK 6)),(5,1,(oK 9))]),
  oO 17 (.call (.func 147) [(.tmp 15),(.tmp 16)]),
  oO 18 (.bslice 27 1 0 [.slice none 0 0] []),
  oM 5 14,
  oM 6 17,
  oM 7 18])
 (.seq (.seq (.reg [oM 19 0,
  oO 20 (.bslice 2 1 5 [.int .i64 0] [(0,1,(oK 1)),(1,1,(oK 2)),(2,1,(oK 3)),(3,1,(oK 4)),(4,1,(oK 7))]),
  oO 21 (.call (.func 147) [(.tmp 19),(.tmp 20)]),
  oM 8 21])
 (.blk 0 (.loop (.seq (.seq (.reg [oM 22 8,
  oO 23 (.bin .gtr (.tmp 22) (oK 0))])
 (.cond (.tmp 23) .skip (.exit 0)))
 (.seq (.blk 1 (.seq (.reg [oO 26 (.bslice 2 1 0 [.int .i64 0] []),
  oM 9 26])
 (.seq (.seq (.reg [oO 10 (.mv (oK 0))])
 (.blk 2 (.loop (.seq (.seq (.reg [oM 27 10,
  oM 28 6,
  oO 29 (.bin .lss (.tmp 27) (.tmp 28))])
 (.cond (.tmp 29) .skip (.exit 2)))
 (.seq (.blk 3 (.reg [oM 32 9,
  oM 33 0,
  oM 34 5,
  oO 35 (.call (.func 148) [(.tmp 33),(.tmp 34)]),
  oM 36 0,
  oO 37 (.call (.func 148) [(.tmp 36),(oK 2)]),
  oO 38 (.bin .mul (.tmp 35) (.tmp 37)),
  oO 39 (.bslice 2 1 1 [.int .i64 0] [(0,1,(.tmp 38))]),
  oO 40 (.app 2 1 8 (.tmp 32) (.tmp 39)),
  oM 9 40]))
 (.reg [oM 30 10,
  oO 31 (.bin .add (.tmp 30) (oK 1)),
  oM 10 31]))))))
 (.seq (.seq (.reg [oM 41 7,
  oN 42 41,
  oO 43 (.bin .gtr (.tmp 42) (oK 0)),
  oM 44 43,
  oG 45 (.mv (.tmp 0)) 44 true,
  oG 46 (.call (.func 148) [(.tmp 45),(oK 3)]) 44 true,
  oG 47 (.bin .eql (.tmp 46) (oK 0)) 44 true,
  oO 48 (.pick (.tmp 44) (.tmp 47) (.const (.bool false)))])
 (.cond (.tmp 48) (.seq (.reg [oM 49 7,
  oM 50 7,
  oN 51 50,
  oO 52 (.bin .sub (.tmp 51) (oK 1)),
  oX 53 1 49 52,
  oL 54 53,
  oO 55 (.call (.func 264) [(.tmp 54)]),
  oM 9 55])
 (.reg [oM 56 9,
  oM 57 0,
  oM 58 6,
  oO 59 (.call (.func 148) [(.tmp 57),(.tmp 58)]),
  oM 60 0,
  oM 61 5,
  oO 62 (.call (.func 148) [(.tmp 60),(.tmp 61)]),
  oX 63 1 56 59,
  oS (.store 1 (.tmp 63) (.tmp 62))])) .skip))
 (.reg [oM 64 7,
  oM 65 9,
  oO 66 (.bslice 27 1 1 [.slice none 0 0] [(0,1,(.tmp 65))]),
  oO 67 (.app 27 1 24 (.tmp 64) (.tmp 66)),
  oM 7 67])))))
 (.reg [oM 24 8,
  oO 25 (.bin .sub (.tmp 24) (oK 1)),
  oM 8 25]))))))
 (.seq (.seq (.reg [oM 68 0,
  oO 69 (.call (.func 148) [(.tmp 68),(oK 40)])])
 (.blk 4 (.seq (.reg [oO 71 (.bin .eql (.tmp 69) (oK 0)),
  oM 70 71])
 (.cond (.tmp 70) (.reg [oM 72 0,
  oO 73 (.bslice 2 1 2 [.int .i64 0] [(0,1,(oK 4)),(1,1,(oK 0))]),
  oO 74 (.call (.func 147) [(.tmp 72),(.tmp 73)]),
  oM 5 74]) (.seq (.reg [oO 76 (.bin .eql (.tmp 69) (oK 1)),
  oM 75 76])
 (.cond (.tmp 75) (.reg [oM 77 0,
  oM 78 6,
  oO 79 (.bin .add (.tmp 78) (oK 1)),
  oO 80 (.bslice 2 1 3 [.int .i64 0] [(0,1,(oK 0)),(1,1,(.tmp 79)),(2,1,(oK 31))]),
  oO 81 (.call (.func 147) [(.tmp 77),(.tmp 80)]),
  oM 6 81]) (.seq (.reg [oO 83 (.bin .eql (.tmp 69) (oK 2)),
  oM 82 83])
 (.cond (.tmp 82) (.seq (.reg [oM 84 7,
  oO 85 (.ixs 1 (.tmp 84) (oK 0)),
  oL 86 85,
  oM 11 86])
 (.reg [oM 87 11,
  oM 88 0,
  oM 89 5,
  oO 90 (.bslice 2 1 2 [.int .i64 0] [(0,1,(.tmp 89)),(1,1,(.const (.int .i64 (-1))))]),
  oO 91 (.call (.func 147) [(.tmp 88),(.tmp 90)]),
  oO 92 (.ixs 1 (.tmp 87) (oK 0)),
  oS (.store 1 (.tmp 92) (.tmp 91))])) .skip))))))))
 (.seq (.reg [oM 93 5,
  oM 94 6,
  oM 95 7,
  oM 2 93,
  oM 3 94,
  oM 4 95])
 .ret)))))⟩
theorem s201:compFn Try.prog Try.f201=some c201:=by kernel_rfl
def c202:XFn:=
 ⟨[.tmp 6],
 (.seq (.reg [oO 6 (.mv (oK 0))])
 (.seq (.seq (.reg [oM 7 0,
  oO 8 (.call (.func 166) [(.tmp 7)]),
  oO 9 (.un .not (.tmp 8)),
  oM 10 9,
  oG 11 (.mv (.tmp 1)) 10 false,
  oG 12 (.bin .lss (.tmp 11) (oK 1)) 10 false,
  oO 13 (.pick (.tmp 10) (.const (.bool true)) (.tmp 12)),
  oM 14 13,
  oG 15 (.mv (.tmp 1)) 14 false,
  oG 16 (.bin .gtr (.tmp 15) (oK 30)) 14 false,
  oO 17 (.pick (.tmp 14) (.const (.bool true)) (.tmp 16)),
  oM 18 17,
  oG 19 (.mv (.tmp 2)) 18 false,
  oG 20 (.len (.tmp 19)) 18 false,
  oG 21 (.bin .lss (.tmp 20) (oK 1)) 18 false,
  oO 22 (.pick (.tmp 18) (.const (.bool true)) (.tmp 21)),
  oM 23 22,
  oG 24 (.mv (.tmp 2)) 23 false,
  oG 25 (.len (.tmp 24)) 23 false,
  oG 26 (.bin .gtr (.tmp 25) (oK 30)) 23 false,
  oO 27 (.pick (.tmp 23) (.const (.bool true)) (.tmp 26)),
  oM 28 27,
  oG 29 (.mv (.tmp 0)) 28 false,
  oG 30 (.mv (.tmp 2)) 28 false,
  oG 31 (.len (.tmp 30)) 28 false,
  oG 32 (.mv (.tmp 1)) 28 false,
  oG 33 (.mv (.tmp 2)) 28 false,
  oG 34 (.call (.func 168) [(.tmp 29),(.tmp 31),(.tmp 32),(.tmp 33)]) 28 false,
  oG 35 (.un .not (.tmp 34)) 28 false,
  oO 36 (.pick (.tmp 28) (.const (.bool true)) (.tmp 35))])
 (.cond (.tmp 36) (.seq (.reg [oO 6 (.mv (oK 2))])
 .ret) .skip))
 (.seq (.reg [oO 6 (.mv (oK 0))])
 .ret)))⟩
theorem s202:compFn Try.prog Try.f202=some c202:=by kernel_rfl
def tab1:List (Nat×XFn):=[(6,c6),(13,c13),(20,c20),(48,c48),(49,c49),(50,c50),(51,c51),(52,c52),(53,c53),(54,c54),(55,c55),(56,c56),(57,c57),(58,c58),(59,c59),(60,c60),(61,c61),(62,c62),(63,c63),(64,c64),(65,c65),(66,c66),(145,c145),(147,c147),(148,c148),(166,c166),(168,c168),(171,c171),(181,c181),(184,c184),(201,c201),(202,c202)]
theorem ts1:TSound Try.prog (fun g=>tab1.lookup g):=by
 refine tsound_of_all (P:=Try.prog) (tab:=tab1) ?_
 intro p hp
 simp only[tab1,List.mem_cons,List.not_mem_nil,or_false] at hp
 rcases hp with rfl|rfl|rfl|rfl|rfl|rfl|rfl|rfl|rfl|rfl|rfl|rfl|rfl|rfl|rfl|rfl|rfl|rfl|rfl|rfl|rfl|rfl|rfl|rfl|rfl|rfl|rfl|rfl|rfl|rfl|rfl|rfl
 ·exact⟨_,Try.func6,s6⟩
 ·exact⟨_,Try.func13,s13⟩
 ·exact⟨_,Try.func20,s20⟩
 ·exact⟨_,Try.func48,s48⟩
 ·exact⟨_,Try.func49,s49⟩
 ·exact⟨_,Try.func50,s50⟩
 ·exact⟨_,Try.func51,s51⟩
 ·exact⟨_,Try.func52,s52⟩
 ·exact⟨_,Try.func53,s53⟩
 ·exact⟨_,Try.func54,s54⟩
 ·exact⟨_,Try.func55,s55⟩
 ·exact⟨_,Try.func56,s56⟩
 ·exact⟨_,Try.func57,s57⟩
 ·exact⟨_,Try.func58,s58⟩
 ·exact⟨_,Try.func59,s59⟩
 ·exact⟨_,Try.func60,s60⟩
 ·exact⟨_,Try.func61,s61⟩
 ·exact⟨_,Try.func62,s62⟩
 ·exact⟨_,Try.func63,s63⟩
 ·exact⟨_,Try.func64,s64⟩
 ·exact⟨_,Try.func65,s65⟩
 ·exact⟨_,Try.func66,s66⟩
 ·exact⟨_,Try.func145,s145⟩
 ·exact⟨_,Try.func147,s147⟩
 ·exact⟨_,Try.func148,s148⟩
 ·exact⟨_,Try.func166,s166⟩
 ·exact⟨_,Try.func168,s168⟩
 ·exact⟨_,Try.func171,s171⟩
 ·exact⟨_,Try.func181,s181⟩
 ·exact⟨_,Try.func184,s184⟩
 ·exact⟨_,Try.func201,s201⟩
 ·exact⟨_,Try.func202,s202⟩
end Go.Proofs.Ytapafdpnmakekaa.X
