/- Texts of one claim, put together by merge.py: XCode1. -/
import Derived.Test.YtapafdpnmakekaaEQ3
import Derived.Test.YtapafdpnmakekaaProg
set_option linter.unusedVariables false
set_option maxRecDepth 4000
namespace Go.Proofs.Ytapafdpnmakekaa.X
open Go Go.RowKit
def c7:XFn:=
 ⟨[.tmp 2],
 (.seq (.reg [oO 2 (.mv (.const (.bool false)))])
 (.seq (.seq (.reg [oM 60 0,
  oO 61 (.call (.func 13) [(.tmp 60)])])
 (.cond (.tmp 61) (.seq (.reg [oO 2 (.mv (.const (.bool true)))])
 .ret) .skip))
 (.seq (.reg [oM 63 0,
  oO 64 (.call (.func 67) [(.tmp 63)]),
  oM 62 64,
  oE 65 62 0,
  oE 66 62 1,
  oE 67 62 2,
  oO 3 (.alloc 26 [.int .i64 0,.int .i64 0,.int .i64 0,.int .i64 0,.slice none 0 0]),
  oS (.store 5 (.tmp 3) (.tmp 65)),
  oM 4 66,
  oM 5 67])
 (.seq (.reg [oO 69 (.loadn 5 (.tmp 3)),
  oM 70 4,
  oM 71 5,
  oO 72 (.call (.func 21) [(.tmp 69),(.tmp 70),(.tmp 71)]),
  oM 68 72,
  oE 73 68 0,
  oE 74 68 1,
  oM 6 73,
  oM 7 74])
 (.seq (.reg [oO 76 (.loadn 5 (.tmp 3)),
  oM 77 4,
  oM 78 5,
  oO 79 (.call (.func 68) [(.tmp 76),(.tmp 77),(.tmp 78)]),
  oM 75 79,
  oE 80 75 0,
  oE 81 75 1,
  oM 8 80,
  oM 9 81])
 (.seq (.seq (.reg [oM 82 7,
  oM 83 9,
  oO 84 (.bin .neq (.tmp 82) (.tmp 83)),
  oM 85 84,
  oG 86 (.mv (.tmp 6)) 85 false,
  oG 87 (.mv (.tmp 8)) 85 false,
  oG 88 (.call (.func 48) [(.tmp 86),(.tmp 87)]) 85 false,
  oG 89 (.un .not (.tmp 88)) 85 false,
  oO 90 (.pick (.tmp 85) (.const (.bool true)) (.tmp 89))])
 (.cond (.tmp 90) (.seq (.reg [oO 2 (.mv (.const (.bool false)))])
 .ret) .skip))
 (.seq (.seq (.reg [oM 91 7,
  oO 92 (.bin .eql (.tmp 91) (oK 0))])
 (.cond (.tmp 92) (.seq (.reg [oO 94 (.loadn 5 (.tmp 3)),
  oO 95 (.call (.func 17) [(.tmp 94)]),
  oM 93 95,
  oE 96 93 0,
  oE 97 93 1,
  oM 10 96,
  oM 11 97])
 (.seq (.reg [oF 99 0 3,
  oL 100 99,
  oM 101 4,
  oM 102 5,
  oO 103 (.call (.func 22) [(.tmp 100),(.tmp 101),(.tmp 102)]),
  oM 98 103,
  oE 104 98 0,
  oE 105 98 1,
  oM 12 104,
  oM 13 105])
 (.seq (.reg [oM 106 11,
  oO 107 (.bin .neq (.tmp 106) (oK 0)),
  oM 108 107,
  oG 109 (.mv (.tmp 13)) 108 false,
  oG 110 (.bin .neq (.tmp 109) (oK 0)) 108 false,
  oO 111 (.pick (.tmp 108) (.const (.bool true)) (.tmp 110)),
  oM 112 111,
  oG 113 (.mv (.tmp 10)) 112 false,
  oG 114 (.mv (.tmp 113)) 112 false,
  oG 115 (.mv (.tmp 12)) 114 true,
  oG 116 (.mv (.tmp 6)) 114 true,
  oG 117 (.call (.func 48) [(.tmp 115),(.tmp 116)]) 114 true,
  oG 118 (.un .not (.tmp 117)) 114 true,
  oG 119 (.pick (.tmp 114) (.tmp 118) (.const (.bool false))) 112 false,
  oO 120 (.pick (.tmp 112) (.const (.bool true)) (.tmp 119))])
 (.cond (.tmp 120) (.seq (.reg [oO 2 (.mv (.const (.bool false)))])
 .ret) .skip)))) .skip))
 (.seq (.reg [oM 121 0,
  oO 122 (.call (.func 69) [(.tmp 121)]),
  oO 14 (.alloc 26 [.int .i64 0,.int .i64 0,.int .i64 0,.int .i64 0,.slice none 0 0]),
  oS (.store 5 (.tmp 14) (.tmp 122))])
 (.seq (.reg [oO 124 (.loadn 5 (.tmp 14)),
  oO 125 (.call (.func 70) [(.tmp 124)]),
  oM 123 125,
  oE 126 123 0,
  oE 127 123 1,
  oM 15 126,
  oM 16 127])
 (.seq (.reg [oO 129 (.loadn 5 (.tmp 14)),
  oO 130 (.call (.func 71) [(.tmp 129)]),
  oM 128 130,
  oE 131 128 0,
  oE 132 128 1,
  oM 17 131,
  oM 18 132])
 (.seq (.seq (.reg [oM 133 16,
  oM 134 18,
  oO 135 (.bin .neq (.tmp 133) (.tmp 134)),
  oM 136 135,
  oG 137 (.mv (.tmp 15)) 136 false,
  oG 138 (.mv (.tmp 17)) 136 false,
  oG 139 (.call (.func 20) [(.tmp 137),(.tmp 138)]) 136 false,
  oG 140 (.un .not (.tmp 139)) 136 false,
  oO 141 (.pick (.tmp 136) (.const (.bool true)) (.tmp 140))])
 (.cond (.tmp 141) (.seq (.reg [oO 2 (.mv (.const (.bool false)))])
 .ret) .skip))
 (.seq (.seq (.reg [oO 142 (.loadn 5 (.tmp 14)),
  oO 143 (.call (.func 72) [(.tmp 142)])])
 (.cond (.tmp 143) (.seq (.reg [oO 145 (.loadn 5 (.tmp 14)),
  oO 146 (.call (.func 73) [(.tmp 145)]),
  oM 144 146,
  oE 147 144 0,
  oE 148 144 1,
  oM 19 147,
  oM 20 148])
 (.seq (.reg [oO 150 (.loadn 5 (.tmp 14)),
  oO 151 (.call (.func 17) [(.tmp 150)]),
  oM 149 151,
  oE 152 149 0,
  oE 153 149 1,
  oM 21 152,
  oM 22 153])
 (.seq (.seq (.reg [oM 154 20,
  oO 155 (.bin .neq (.tmp 154) (oK 0)),
  oM 156 155,
  oG 157 (.mv (.tmp 22)) 156 false,
  oG 158 (.bin .neq (.tmp 157) (oK 0)) 156 false,
  oO 159 (.pick (.tmp 156) (.const (.bool true)) (.tmp 158)),
  oM 160 159,
  oG 161 (.mv (.tmp 21)) 160 false,
  oG 162 (.mv (.tmp 19)) 160 false,
  oG 163 (.bin .eql (.tmp 162) (oK 0)) 160 false,
  oG 164 (.eqb true (.tmp 161) (.tmp 163)) 160 false,
  oO 165 (.pick (.tmp 160) (.const (.bool true)) (.tmp 164)),
  oM 166 165,
  oG 167 (.mv (.tmp 21)) 166 false,
  oG 168 (.mv (.tmp 16)) 166 false,
  oG 169 (.bin .eql (.tmp 168) (oK 0)) 166 false,
  oG 170 (.eqb false (.tmp 167) (.tmp 169)) 166 false,
  oO 171 (.pick (.tmp 166) (.const (.bool true)) (.tmp 170))])
 (.cond (.tmp 171) (.seq (.reg [oO 2 (.mv (.const (.bool false)))])
 .ret) .skip))
 (.seq (.reg [oM 172 16,
  oO 173 (.bin .eql (.tmp 172) (oK 0))])
 (.cond (.tmp 173) (.seq (.reg [oO 175 (.loadn 5 (.tmp 14)),
  oM 176 15,
  oO 177 (.ixs 1 (.tmp 176) (oK 0)),
  oL 178 177,
  oM 179 15,
  oO 180 (.ixs 1 (.tmp 179) (oK 1)),
  oL 181 180,
  oM 182 15,
  oO 183 (.ixs 1 (.tmp 182) (oK 2)),
  oL 184 183,
  oO 185 (.call (.func 74) [(.tmp 175),(.tmp 178),(.tmp 181),(.tmp 184)]),
  oM 174 185,
  oE 186 174 0,
  oE 187 174 1,
  oM 23 186,
  oM 24 187])
 (.seq (.reg [oO 189 (.loadn 5 (.tmp 14)),
  oM 190 15,
  oO 191 (.ixs 1 (.tmp 190) (oK 0)),
  oL 192 191,
  oM 193 15,
  oO 194 (.ixs 1 (.tmp 193) (oK 1)),
  oL 195 194,
  oM 196 15,
  oO 197 (.ixs 1 (.tmp 196) (oK 2)),
  oL 198 197,
  oO 199 (.call (.func 75) [(.tmp 189),(.tmp 192),(.tmp 195),(.tmp 198)]),
  oM 188 199,
  oE 200 188 0,
  oE 201 188 1,
  oM 25 200,
  oM 26 201])
 (.seq (.reg [oM 202 24,
  oO 203 (.bin .neq (.tmp 202) (oK 0)),
  oM 204 203,
  oG 205 (.mv (.tmp 26)) 204 false,
  oG 206 (.bin .neq (.tmp 205) (oK 0)) 204 false,
  oO 207 (.pick (.tmp 204) (.const (.bool true)) (.tmp 206)),
  oM 208 207,
  oG 209 (.mv (.tmp 23)) 208 false,
  oG 210 (.mv (.tmp 25)) 208 false,
  oG 211 (.bin .eql (.tmp 209) (.tmp 210)) 208 false,
  oO 212 (.pick (.tmp 208) (.const (.bool true)) (.tmp 211))])
 (.cond (.tmp 212) (.seq (.reg [oO 2 (.mv (.const (.bool false)))])
 .ret) .skip)))) .skip))))) .skip))
 (.seq (.reg [oM 214 0,
  oO 215 (.call (.func 76) [(.tmp 214)]),
  oM 213 215,
  oE 216 213 0,
  oE 217 213 1,
  oE 218 213 2,
  oE 219 213 3,
  oO 27 (.alloc 26 [.int .i64 0,.int .i64 0,.int .i64 0,.int .i64 0,.slice none 0 0]),
  oS (.store 5 (.tmp 27) (.tmp 216)),
  oM 28 217,
  oM 29 218,
  oM 30 219])
 (.seq (.reg [oO 221 (.loadn 5 (.tmp 27)),
  oM 222 28,
  oM 223 29,
  oM 224 30,
  oO 225 (.call (.func 74) [(.tmp 221),(.tmp 222),(.tmp 223),(.tmp 224)]),
  oM 220 225,
  oE 226 220 0,
  oE 227 220 1,
  oM 31 226,
  oM 32 227])
 (.seq (.reg [oO 229 (.loadn 5 (.tmp 27)),
  oM 230 28,
  oM 231 29,
  oM 232 30,
  oO 233 (.call (.func 77) [(.tmp 229),(.tmp 230),(.tmp 231),(.tmp 232)]),
  oM 228 233,
  oE 234 228 0,
  oE 235 228 1,
  oM 33 234,
  oM 34 235])
 (.seq (.reg [oM 237 0,
  oO 238 (.call (.func 78) [(.tmp 237)]),
  oM 236 238,
  oE 239 236 0,
  oE 240 236 1,
  oE 241 236 2,
  oE 242 236 3,
  oO 35 (.alloc 26 [.int .i64 0,.int .i64 0,.int .i64 0,.int .i64 0,.slice none 0 0]),
  oS (.store 5 (.tmp 35) (.tmp 239)),
  oM 36 240,
  oM 37 241,
  oM 38 242])
 (.seq (.reg [oO 244 (.loadn 5 (.tmp 35)),
  oM 245 36,
  oM 246 37,
  oM 247 38,
  oO 248 (.call (.func 75) [(.tmp 244),(.tmp 245),(.tmp 246),(.tmp 247)]),
  oM 243 248,
  oE 249 243 0,
  oE 250 243 1,
  oM 39 249,
  oM 40 250])
 (.seq (.reg [oO 252 (.loadn 5 (.tmp 35)),
  oM 253 36,
  oM 254 37,
  oM 255 38,
  oO 256 (.call (.func 79) [(.tmp 252),(.tmp 253),(.tmp 254),(.tmp 255)]),
  oM 251 256,
  oE 257 251 0,
  oE 258 251 1,
  oM 41 257,
  oM 42 258])
 (.seq (.reg [oM 260 0,
  oO 261 (.call (.func 80) [(.tmp 260)]),
  oM 259 261,
  oE 262 259 0,
  oE 263 259 1,
  oE 264 259 2,
  oM 43 262,
  oM 44 263,
  oM 45 264])
 (.seq (.reg [oM 266 43,
  oM 267 44,
  oM 268 45,
  oO 269 (.call (.func 22) [(.tmp 266),(.tmp 267),(.tmp 268)]),
  oM 265 269,
  oE 270 265 0,
  oE 271 265 1,
  oM 46 270,
  oM 47 271])
 (.seq (.reg [oM 273 43,
  oM 274 44,
  oM 275 45,
  oO 276 (.call (.func 81) [(.tmp 273),(.tmp 274),(.tmp 275)]),
  oM 272 276,
  oE 277 272 0,
  oE 278 272 1,
  oM 48 277,
  oM 49 278])
 (.seq (.reg [oM 279 0,
  oO 280 (.call (.func 82) [(.tmp 279)]),
  oO 50 (.alloc 26 [.int .i64 0,.int .i64 0,.int .i64 0,.int .i64 0,.slice none 0 0]),
  oS (.store 5 (.tmp 50) (.tmp 280))])
 (.seq (.reg [oO 282 (.loadn 5 (.tmp 50)),
  oO 283 (.call (.func 73) [(.tmp 282)]),
  oM 281 283,
  oE 284 281 0,
  oE 285 281 1,
  oM 51 284,
  oM 52 285])
 (.seq (.reg [oO 287 (.loadn 5 (.tmp 50)),
  oO 288 (.call (.func 83) [(.tmp 287)]),
  oM 286 288,
  oE 289 286 0,
  oE 290 286 1,
  oM 53 289,
  oM 54 290])
 (.seq (.reg [oM 291 0,
  oO 292 (.call (.func 84) [(.tmp 291)]),
  oO 55 (.alloc 26 [.int .i64 0,.int .i64 0,.int .i64 0,.int .i64 0,.slice none 0 0]),
  oS (.store 5 (.tmp 55) (.tmp 292))])
 (.seq (.reg [oO 294 (.loadn 5 (.tmp 55)),
  oO 295 (.call (.func 17) [(.tmp 294)]),
  oM 293 295,
  oE 296 293 0,
  oE 297 293 1,
  oM 56 296,
  oM 57 297])
 (.seq (.reg [oO 299 (.loadn 5 (.tmp 55)),
  oO 300 (.call (.func 85) [(.tmp 299)]),
  oM 298 300,
  oE 301 298 0,
  oE 302 298 1,
  oM 58 301,
  oM 59 302])
 (.seq (.reg [oM 303 32,
  oM 304 34,
  oO 305 (.bin .eql (.tmp 303) (.tmp 304)),
  oM 306 305,
  oG 307 (.mv (.tmp 31)) 306 true,
  oG 308 (.mv (.tmp 33)) 306 true,
  oG 309 (.bin .eql (.tmp 307) (.tmp 308)) 306 true,
  oO 310 (.pick (.tmp 306) (.tmp 309) (.const (.bool false))),
  oM 311 310,
  oG 312 (.mv (.tmp 40)) 311 true,
  oG 313 (.mv (.tmp 42)) 311 true,
  oG 314 (.bin .eql (.tmp 312) (.tmp 313)) 311 true,
  oO 315 (.pick (.tmp 311) (.tmp 314) (.const (.bool false))),
  oM 316 315,
  oG 317 (.mv (.tmp 39)) 316 true,
  oG 318 (.mv (.tmp 41)) 316 true,
  oG 319 (.bin .eql (.tmp 317) (.tmp 318)) 316 true,
  oO 320 (.pick (.tmp 316) (.tmp 319) (.const (.bool false))),
  oM 321 320,
  oG 322 (.mv (.tmp 47)) 321 true,
  oG 323 (.mv (.tmp 49)) 321 true,
  oG 324 (.bin .eql (.tmp 322) (.tmp 323)) 321 true,
  oO 325 (.pick (.tmp 321) (.tmp 324) (.const (.bool false))),
  oM 326 325,
  oG 327 (.mv (.tmp 46)) 326 true,
  oG 328 (.mv (.tmp 48)) 326 true,
  oG 329 (.call (.func 48) [(.tmp 327),(.tmp 328)]) 326 true,
  oO 330 (.pick (.tmp 326) (.tmp 329) (.const (.bool false))),
  oM 331 330,
  oG 332 (.mv (.tmp 52)) 331 true,
  oG 333 (.mv (.tmp 54)) 331 true,
  oG 334 (.bin .eql (.tmp 332) (.tmp 333)) 331 true,
  oO 335 (.pick (.tmp 331) (.tmp 334) (.const (.bool false))),
  oM 336 335,
  oG 337 (.mv (.tmp 51)) 336 true,
  oG 338 (.mv (.tmp 53)) 336 true,
  oG 339 (.bin .eql (.tmp 337) (.tmp 338)) 336 true,
  oO 340 (.pick (.tmp 336) (.tmp 339) (.const (.bool false))),
  oM 341 340,
  oG 342 (.mv (.tmp 57)) 341 true,
  oG 343 (.mv (.tmp 59)) 341 true,
  oG 344 (.bin .eql (.tmp 342) (.tmp 343)) 341 true,
  oO 345 (.pick (.tmp 341) (.tmp 344) (.const (.bool false))),
  oM 346 345,
  oG 347 (.mv (.tmp 56)) 346 true,
  oG 348 (.mv (.tmp 58)) 346 true,
  oG 349 (.eqb false (.tmp 347) (.tmp 348)) 346 true,
  oO 350 (.pick (.tmp 346) (.tmp 349) (.const (.bool false))),
  oM 2 350])
 .ret))))))))))))))))))))))))))))⟩
theorem s7:compFn Try.prog Try.f7=some c7:=by kernel_rfl
def c13:XFn:=
 ⟨[.tmp 2],
 (.seq (.reg [oO 2 (.mv (.const (.bool false)))])
 (.seq (.reg [oM 3 0,
  oN 4 3,
  oO 5 (.bin .gtr (.tmp 4) (oK 4096)),
  oM 2 5])
 .ret))⟩
theorem s13:compFn Try.prog Try.f13=some c13:=by kernel_rfl
def c17:XFn:=
 ⟨[.tmp 2,.tmp 3],
 (.seq (.reg [oO 1 (.box 26 (.tmp 0)),
  oO 2 (.mv (.const (.bool false))),
  oO 3 (.mv (oK 0))])
 (.seq (.seq (.reg [oO 4 (.loadn 5 (.tmp 1)),
  oO 5 (.call (.func 149) [(.tmp 4)]),
  oO 6 (.un .not (.tmp 5))])
 (.cond (.tmp 6) (.seq (.reg [oO 2 (.mv (.const (.bool false))),
  oO 3 (.mv (oK 1))])
 .ret) .skip))
 (.seq (.reg [oO 7 (.loadn 5 (.tmp 1)),
  oO 8 (.call (.func 158) [(.tmp 7)]),
  oN 9 8,
  oO 10 (.bin .eql (.tmp 9) (oK 0)),
  oM 2 10,
  oO 3 (.mv (oK 0))])
 .ret)))⟩
theorem s17:compFn Try.prog Try.f17=some c17:=by kernel_rfl
def c20:XFn:=
 ⟨[.tmp 4],
 (.seq (.reg [oO 4 (.mv (.const (.bool false)))])
 (.seq (.seq (.reg [oM 6 0,
  oN 7 6,
  oM 8 1,
  oN 9 8,
  oO 10 (.bin .neq (.tmp 7) (.tmp 9))])
 (.cond (.tmp 10) (.seq (.reg [oO 4 (.mv (.const (.bool false)))])
 .ret) .skip))
 (.seq (.seq (.reg [oO 5 (.mv (oK 0))])
 (.blk 0 (.loop (.seq (.seq (.reg [oM 11 5,
  oM 12 0,
  oN 13 12,
  oO 14 (.bin .lss (.tmp 11) (.tmp 13))])
 (.cond (.tmp 14) .skip (.exit 0)))
 (.seq (.blk 1 (.seq (.reg [oM 17 0,
  oM 18 5,
  oX 19 1 17 18,
  oL 20 19,
  oM 21 1,
  oM 22 5,
  oX 23 1 21 22,
  oL 24 23,
  oO 25 (.bin .neq (.tmp 20) (.tmp 24))])
 (.cond (.tmp 25) (.seq (.reg [oO 4 (.mv (.const (.bool false)))])
 .ret) .skip)))
 (.reg [oM 15 5,
  oO 16 (.bin .add (.tmp 15) (oK 1)),
  oM 5 16]))))))
 (.seq (.reg [oO 4 (.mv (.const (.bool true)))])
 .ret))))⟩
theorem s20:compFn Try.prog Try.f20=some c20:=by kernel_rfl
def c21:XFn:=
 ⟨[.tmp 6,.tmp 7],
 (.seq (.reg [oO 3 (.box 26 (.tmp 0)),
  oO 6 (.mv (.const (.slice none 0 0))),
  oO 7 (.mv (oK 0))])
 (.seq (.seq (.reg [oO 9 (.loadn 5 (.tmp 3)),
  oM 10 1,
  oM 11 2,
  oO 12 (.call (.func 162) [(.tmp 9),(.tmp 10),(.tmp 11)]),
  oM 8 12])
 (.seq (.reg [oM 13 8,
  oO 14 (.bin .neq (.tmp 13) (oK 0))])
 (.cond (.tmp 14) (.seq (.reg [oM 15 8,
  oO 6 (.mv (.const (.slice none 0 0))),
  oM 7 15])
 .ret) .skip)))
 (.seq (.reg [oF 16 0 3,
  oL 17 16,
  oF 18 4 3,
  oL 19 18,
  oF 20 1 3,
  oL 21 20,
  oF 22 3 3,
  oL 23 22,
  oO 24 (.bin .mul (.tmp 21) (.tmp 23)),
  oM 25 1,
  ⟨some 26,.call (.func 165) [(.tmp 25)],none,.t⟩,
  oM 27 2,
  ⟨some 28,.call (.func 165) [(.tmp 27)],none,.t⟩,
  ⟨some 29,.call (.func 164) [(.tmp 17),(.tmp 19),(.tmp 24),(.tmp 26),(.tmp 28)],none,.t⟩,
  oF 30 3 3,
  oL 31 30,
  oO 32 (.call (.func 163) [(.tmp 29),(.tmp 31)]),
  oM 6 32,
  oO 7 (.mv (oK 0))])
 .ret)))⟩
theorem s21:compFn Try.prog Try.f21=some c21:=by kernel_rfl
def c22:XFn:=
 ⟨[.tmp 6,.tmp 7],
 (.seq (.reg [oO 6 (.mv (.const (.slice none 0 0))),
  oO 7 (.mv (oK 0))])
 (.seq (.reg [oM 11 1,
  oN 12 11,
  oM 13 2,
  oN 14 13,
  oM 8 12,
  oM 9 14])
 (.seq (.seq (.reg [oM 15 0,
  oO 16 (.call (.func 166) [(.tmp 15)]),
  oO 17 (.un .not (.tmp 16)),
  oM 18 17,
  oG 19 (.mv (.tmp 8)) 18 false,
  oG 20 (.mv (.tmp 9)) 18 false,
  oG 21 (.bslice 2 1 2 [.int .i64 0] [(0,1,(.tmp 19)),(1,1,(.tmp 20))]) 18 false,
  oG 22 (.call (.func 167) [(.tmp 21)]) 18 false,
  oG 23 (.un .not (.tmp 22)) 18 false,
  oO 24 (.pick (.tmp 18) (.const (.bool true)) (.tmp 23))])
 (.cond (.tmp 24) (.seq (.reg [oO 6 (.mv (.const (.slice none 0 0))),
  oO 7 (.mv (oK 2))])
 .ret) .skip))
 (.seq (.reg [oM 25 2,
  oO 26 (.ixs 1 (.tmp 25) (oK 0)),
  oL 27 26,
  oN 28 27,
  oM 10 28])
 (.seq (.seq (.reg [oM 29 10,
  oO 30 (.bslice 2 1 1 [.int .i64 0] [(0,1,(.tmp 29))]),
  oO 31 (.call (.func 167) [(.tmp 30)]),
  oO 32 (.un .not (.tmp 31)),
  oM 33 32,
  oG 34 (.mv (.tmp 0)) 33 false,
  oG 35 (.mv (.tmp 8)) 33 false,
  oG 36 (.mv (.tmp 9)) 33 false,
  oG 37 (.mv (.tmp 1)) 33 false,
  oG 38 (.call (.func 168) [(.tmp 34),(.tmp 35),(.tmp 36),(.tmp 37)]) 33 false,
  oG 39 (.un .not (.tmp 38)) 33 false,
  oO 40 (.pick (.tmp 33) (.const (.bool true)) (.tmp 39)),
  oM 41 40,
  oG 42 (.mv (.tmp 0)) 41 false,
  oG 43 (.mv (.tmp 9)) 41 false,
  oG 44 (.mv (.tmp 10)) 41 false,
  oG 45 (.mv (.tmp 2)) 41 false,
  oG 46 (.call (.func 168) [(.tmp 42),(.tmp 43),(.tmp 44),(.tmp 45)]) 41 false,
  oG 47 (.un .not (.tmp 46)) 41 false,
  oO 48 (.pick (.tmp 41) (.const (.bool true)) (.tmp 47))])
 (.cond (.tmp 48) (.seq (.reg [oO 6 (.mv (.const (.slice none 0 0))),
  oO 7 (.mv (oK 2))])
 .ret) .skip))
 (.seq (.reg [oM 49 0,
  oM 50 1,
  oM 51 2,
  oO 52 (.call (.func 169) [(.tmp 49),(.tmp 50),(.tmp 51)]),
  oM 6 52,
  oO 7 (.mv (oK 0))])
 .ret))))))⟩
theorem s22:compFn Try.prog Try.f22=some c22:=by kernel_rfl
def c48:XFn:=
 ⟨[.tmp 4],
 (.seq (.reg [oO 4 (.mv (.const (.bool false)))])
 (.seq (.seq (.reg [oM 6 0,
  oN 7 6,
  oM 8 1,
  oN 9 8,
  oO 10 (.bin .neq (.tmp 7) (.tmp 9))])
 (.cond (.tmp 10) (.seq (.reg [oO 4 (.mv (.const (.bool false)))])
 .ret) .skip))
 (.seq (.seq (.reg [oO 5 (.mv (oK 0))])
 (.blk 0 (.loop (.seq (.seq (.reg [oM 11 5,
  oM 12 0,
  oN 13 12,
  oO 14 (.bin .lss (.tmp 11) (.tmp 13))])
 (.cond (.tmp 14) .skip (.exit 0)))
 (.seq (.blk 1 (.seq (.reg [oM 17 0,
  oM 18 5,
  oX 19 1 17 18,
  oL 20 19,
  oM 21 1,
  oM 22 5,
  oX 23 1 21 22,
  oL 24 23,
  oO 25 (.call (.func 20) [(.tmp 20),(.tmp 24)]),
  oO 26 (.un .not (.tmp 25))])
 (.cond (.tmp 26) (.seq (.reg [oO 4 (.mv (.const (.bool false)))])
 .ret) .skip)))
 (.reg [oM 15 5,
  oO 16 (.bin .add (.tmp 15) (oK 1)),
  oM 5 16]))))))
 (.seq (.reg [oO 4 (.mv (.const (.bool true)))])
 .ret))))⟩
theorem s48:compFn Try.prog Try.f48=some c48:=by kernel_rfl
def c67:XFn:=
 ⟨[.celln 2 5,.tmp 3,.tmp 4],
 (.seq (.reg [oO 2 (.alloc 26 [.int .i64 0,.int .i64 0,.int .i64 0,.int .i64 0,.slice none 0 0]),
  oO 3 (.mv (.const (.slice none 0 0))),
  oO 4 (.mv (.const (.slice none 0 0)))])
 (.seq (.reg [oM 8 0,
  oO 9 (.call (.func 145) [(.tmp 8)]),
  oM 5 9])
 (.seq (.reg [oM 10 5,
  oO 11 (.call (.func 212) [(.tmp 10)]),
  oO 6 (.alloc 26 [.int .i64 0,.int .i64 0,.int .i64 0,.int .i64 0,.slice none 0 0]),
  oS (.store 5 (.tmp 6) (.tmp 11))])
 (.seq (.reg [oF 12 0 6,
  oL 13 12,
  oO 14 (.mm true (.tmp 13) [(oK 1)]),
  oO 15 (.mm false (.tmp 14) [(oK 5)]),
  oM 7 15])
 (.seq (.reg [oO 16 (.loadn 5 (.tmp 6)),
  oM 17 5,
  oM 18 7,
  oF 19 1 6,
  oL 20 19,
  oF 21 2 6,
  oL 22 21,
  ⟨some 23,.call (.func 213) [(.tmp 17),(.tmp 18),(.tmp 20),(.tmp 22)],none,(.s true [(.tmp 6)])⟩,
  oM 24 5,
  oM 25 7,
  oF 26 2 6,
  ⟨some 27,.load1 (.tmp 26),none,(.s false [(.tmp 17)])⟩,
  oF 28 3 6,
  ⟨some 29,.load1 (.tmp 28),none,(.s false [(.tmp 17)])⟩,
  ⟨some 30,.call (.func 213) [(.tmp 24),(.tmp 25),(.tmp 27),(.tmp 29)],none,(.s true [(.tmp 6)])⟩,
  oS (.store 5 (.tmp 2) (.tmp 16)),
  oM 3 23,
  oM 4 30])
 .ret)))))⟩
theorem s67:compFn Try.prog Try.f67=some c67:=by kernel_rfl
def c68:XFn:=
 ⟨[.tmp 6,.tmp 7],
 (.seq (.reg [oO 3 (.box 26 (.tmp 0)),
  oO 6 (.mv (.const (.slice none 0 0))),
  oO 7 (.mv (oK 0))])
 (.seq (.blk 0 (.seq (.reg [oO 9 (.loadn 5 (.tmp 3)),
  oO 10 (.call (.func 154) [(.tmp 9)]),
  oO 11 (.un .not (.tmp 10)),
  oM 8 11])
 (.cond (.tmp 8) (.seq (.reg [oO 6 (.mv (.const (.slice none 0 0))),
  oO 7 (.mv (oK 1))])
 .ret) (.seq (.reg [oF 13 0 3,
  oL 14 13,
  oM 15 1,
  oF 16 1 3,
  oL 17 16,
  oF 18 2 3,
  oL 19 18,
  oO 20 (.call (.func 214) [(.tmp 14),(.tmp 15),(.tmp 17),(.tmp 19)]),
  oO 21 (.un .not (.tmp 20)),
  oM 22 21,
  oG 23 (.fadr 0 (.tmp 3)) 22 false,
  oG 24 (.load1 (.tmp 23)) 22 false,
  oG 25 (.mv (.tmp 2)) 22 false,
  oG 26 (.fadr 2 (.tmp 3)) 22 false,
  oG 27 (.load1 (.tmp 26)) 22 false,
  oG 28 (.fadr 3 (.tmp 3)) 22 false,
  oG 29 (.load1 (.tmp 28)) 22 false,
  oG 30 (.call (.func 214) [(.tmp 24),(.tmp 25),(.tmp 27),(.tmp 29)]) 22 false,
  oG 31 (.un .not (.tmp 30)) 22 false,
  oO 32 (.pick (.tmp 22) (.const (.bool true)) (.tmp 31)),
  oM 12 32])
 (.cond (.tmp 12) (.seq (.reg [oO 6 (.mv (.const (.slice none 0 0))),
  oO 7 (.mv (oK 2))])
 .ret) .skip)))))
 (.seq (.reg [oO 33 (.loadn 5 (.tmp 3)),
  oM 34 1,
  oM 35 2,
  oO 36 (.call (.func 215) [(.tmp 33),(.tmp 34),(.tmp 35)]),
  oM 6 36,
  oO 7 (.mv (oK 0))])
 .ret)))⟩
theorem s68:compFn Try.prog Try.f68=some c68:=by kernel_rfl
def c69:XFn:=
 ⟨[.celln 2 5],
 (.seq (.reg [oO 2 (.alloc 26 [.int .i64 0,.int .i64 0,.int .i64 0,.int .i64 0,.slice none 0 0])])
 (.seq (.reg [oM 3 0,
  oO 4 (.call (.func 145) [(.tmp 3)]),
  oO 5 (.call (.func 212) [(.tmp 4)]),
  oS (.store 5 (.tmp 2) (.tmp 5))])
 .ret))⟩
theorem s69:compFn Try.prog Try.f69=some c69:=by kernel_rfl
def c70:XFn:=
 ⟨[.tmp 2,.tmp 3],
 (.seq (.reg [oO 1 (.box 26 (.tmp 0)),
  oO 2 (.mv (.const (.slice none 0 0))),
  oO 3 (.mv (oK 0))])
 (.seq (.seq (.reg [oO 5 (.loadn 5 (.tmp 1)),
  oO 6 (.call (.func 149) [(.tmp 5)]),
  oO 7 (.un .not (.tmp 6))])
 (.cond (.tmp 7) (.seq (.reg [oO 2 (.mv (.const (.slice none 0 0))),
  oO 3 (.mv (oK 1))])
 .ret) .skip))
 (.seq (.reg [oO 8 (.loadn 5 (.tmp 1)),
  oO 9 (.call (.func 158) [(.tmp 8)]),
  oM 4 9])
 (.seq (.seq (.reg [oM 10 4,
  oN 11 10,
  oO 12 (.bin .eql (.tmp 11) (oK 0))])
 (.cond (.tmp 12) (.seq (.reg [oO 2 (.mv (.const (.slice none 0 0))),
  oO 3 (.mv (oK 4))])
 .ret) .skip))
 (.seq (.reg [oM 13 4,
  oO 14 (.ixs 1 (.tmp 13) (oK 0)),
  oL 15 14,
  oM 2 15,
  oO 3 (.mv (oK 0))])
 .ret)))))⟩
theorem s70:compFn Try.prog Try.f70=some c70:=by kernel_rfl
def c71:XFn:=
 ⟨[.tmp 2,.tmp 3],
 (.seq (.reg [oO 1 (.box 26 (.tmp 0)),
  oO 2 (.mv (.const (.slice none 0 0))),
  oO 3 (.mv (oK 0))])
 (.seq (.seq (.reg [oO 6 (.loadn 5 (.tmp 1)),
  oO 7 (.call (.func 154) [(.tmp 6)]),
  oO 8 (.un .not (.tmp 7))])
 (.cond (.tmp 8) (.seq (.reg [oO 2 (.mv (.const (.slice none 0 0))),
  oO 3 (.mv (oK 1))])
 .ret) .skip))
 (.seq (.reg [oO 10 (.loadn 5 (.tmp 1)),
  oO 11 (.call (.func 216) [(.tmp 10)]),
  oM 9 11,
  oE 12 9 0,
  oE 13 9 1,
  oM 4 12,
  oM 5 13])
 (.seq (.seq (.reg [oM 14 5,
  oO 15 (.bin .eql (.tmp 14) (oK 0))])
 (.cond (.tmp 15) (.seq (.reg [oO 2 (.mv (.const (.slice none 0 0))),
  oO 3 (.mv (oK 4))])
 .ret) .skip))
 (.seq (.reg [oM 16 4,
  oM 2 16,
  oO 3 (.mv (oK 0))])
 .ret)))))⟩
theorem s71:compFn Try.prog Try.f71=some c71:=by kernel_rfl
def c72:XFn:=
 ⟨[.tmp 2],
 (.seq (.reg [oO 1 (.box 26 (.tmp 0)),
  oO 2 (.mv (.const (.bool false)))])
 (.seq (.reg [oO 3 (.loadn 5 (.tmp 1)),
  oO 4 (.call (.func 154) [(.tmp 3)]),
  oM 2 4])
 .ret))⟩
theorem s72:compFn Try.prog Try.f72=some c72:=by kernel_rfl
def c73:XFn:=
 ⟨[.tmp 2,.tmp 3],
 (.seq (.reg [oO 1 (.box 26 (.tmp 0)),
  oO 2 (.mv (oK 0)),
  oO 3 (.mv (oK 0))])
 (.seq (.seq (.reg [oO 4 (.loadn 5 (.tmp 1)),
  oO 5 (.call (.func 149) [(.tmp 4)]),
  oO 6 (.un .not (.tmp 5))])
 (.cond (.tmp 6) (.seq (.reg [oO 2 (.mv (oK 0)),
  oO 3 (.mv (oK 1))])
 .ret) .skip))
 (.seq (.reg [oO 7 (.loadn 5 (.tmp 1)),
  oO 8 (.call (.func 158) [(.tmp 7)]),
  oN 9 8,
  oM 2 9,
  oO 3 (.mv (oK 0))])
 .ret)))⟩
theorem s73:compFn Try.prog Try.f73=some c73:=by kernel_rfl
def c74:XFn:=
 ⟨[.tmp 8,.tmp 9],
 (.seq (.reg [oO 4 (.box 26 (.tmp 0)),
  oO 8 (.mv (oK 0)),
  oO 9 (.mv (oK 0))])
 (.seq (.seq (.reg [oO 11 (.loadn 5 (.tmp 4)),
  oM 12 1,
  oM 13 2,
  oM 14 3,
  oO 15 (.bslice 2 1 3 [.int .i64 0] [(0,1,(.tmp 12)),(1,1,(.tmp 13)),(2,1,(.tmp 14))]),
  oO 16 (.call (.func 217) [(.tmp 11),(.tmp 15)]),
  oM 10 16])
 (.seq (.reg [oM 17 10,
  oO 18 (.bin .neq (.tmp 17) (oK 0))])
 (.cond (.tmp 18) (.seq (.reg [oM 19 10,
  oO 8 (.mv (oK 0)),
  oM 9 19])
 .ret) .skip)))
 (.seq (.reg [oO 20 (.loadn 5 (.tmp 4)),
  oM 21 1,
  oM 22 2,
  oM 23 3,
  oO 24 (.call (.func 218) [(.tmp 20),(.tmp 21),(.tmp 22),(.tmp 23)]),
  oM 8 24,
  oO 9 (.mv (oK 0))])
 .ret)))⟩
theorem s74:compFn Try.prog Try.f74=some c74:=by kernel_rfl
def c75:XFn:=
 ⟨[.tmp 8,.tmp 9],
 (.seq (.reg [oO 4 (.box 26 (.tmp 0)),
  oO 8 (.mv (oK 0)),
  oO 9 (.mv (oK 0))])
 (.seq (.seq (.reg [oO 11 (.loadn 5 (.tmp 4)),
  oM 12 1,
  oM 13 2,
  oM 14 3,
  oO 15 (.bslice 2 1 3 [.int .i64 0] [(0,1,(.tmp 12)),(1,1,(.tmp 13)),(2,1,(.tmp 14))]),
  oO 16 (.call (.func 217) [(.tmp 11),(.tmp 15)]),
  oM 10 16])
 (.seq (.reg [oM 17 10,
  oO 18 (.bin .neq (.tmp 17) (oK 0))])
 (.cond (.tmp 18) (.seq (.reg [oM 19 10,
  oO 8 (.mv (oK 0)),
  oM 9 19])
 .ret) .skip)))
 (.seq (.reg [oO 20 (.loadn 5 (.tmp 4)),
  oM 21 1,
  oM 22 2,
  oM 23 3,
  oO 24 (.call (.func 219) [(.tmp 20),(.tmp 21),(.tmp 22),(.tmp 23)]),
  oM 8 24,
  oO 9 (.mv (oK 0))])
 .ret)))⟩
theorem s75:compFn Try.prog Try.f75=some c75:=by kernel_rfl
def c76:XFn:=
 ⟨[.celln 2 5,.tmp 3,.tmp 4,.tmp 5],
 (.seq (.reg [oO 2 (.alloc 26 [.int .i64 0,.int .i64 0,.int .i64 0,.int .i64 0,.slice none 0 0]),
  oO 3 (.mv (oK 0)),
  oO 4 (.mv (oK 0)),
  oO 5 (.mv (oK 0))])
 (.seq (.reg [oM 11 0,
  oO 12 (.call (.func 220) [(.tmp 11)]),
  oM 10 12,
  oE 13 10 0,
  oE 14 10 1,
  oE 15 10 2,
  oE 16 10 3,
  oO 6 (.alloc 26 [.int .i64 0,.int .i64 0,.int .i64 0,.int .i64 0,.slice none 0 0]),
  oS (.store 5 (.tmp 6) (.tmp 13)),
  oM 7 14,
  oM 8 15,
  oM 9 16])
 (.seq (.reg [oO 17 (.loadn 5 (.tmp 6)),
  oM 18 7,
  oM 19 8,
  oM 20 9,
  oS (.store 5 (.tmp 2) (.tmp 17)),
  oM 3 18,
  oM 4 19,
  oM 5 20])
 .ret)))⟩
theorem s76:compFn Try.prog Try.f76=some c76:=by kernel_rfl
def c77:XFn:=
 ⟨[.tmp 8,.tmp 9],
 (.seq (.reg [oO 4 (.box 26 (.tmp 0)),
  oO 8 (.mv (oK 0)),
  oO 9 (.mv (oK 0))])
 (.seq (.seq (.reg [oO 11 (.loadn 5 (.tmp 4)),
  oM 12 1,
  oM 13 2,
  oM 14 3,
  oO 15 (.call (.func 221) [(.tmp 11),(.tmp 12),(.tmp 13),(.tmp 14)]),
  oM 10 15])
 (.seq (.reg [oM 16 10,
  oO 17 (.bin .neq (.tmp 16) (oK 0))])
 (.cond (.tmp 17) (.seq (.reg [oM 18 10,
  oO 8 (.mv (oK 0)),
  oM 9 18])
 .ret) .skip)))
 (.seq (.reg [oO 19 (.loadn 5 (.tmp 4)),
  oM 20 1,
  oM 21 2,
  oM 22 3,
  oO 23 (.call (.func 222) [(.tmp 19),(.tmp 20),(.tmp 21),(.tmp 22)]),
  oM 8 23,
  oO 9 (.mv (oK 0))])
 .ret)))⟩
theorem s77:compFn Try.prog Try.f77=some c77:=by kernel_rfl
def c78:XFn:=
 ⟨[.celln 2 5,.tmp 3,.tmp 4,.tmp 5],
 (.seq (.reg [oO 2 (.alloc 26 [.int .i64 0,.int .i64 0,.int .i64 0,.int .i64 0,.slice none 0 0]),
  oO 3 (.mv (oK 0)),
  oO 4 (.mv (oK 0)),
  oO 5 (.mv (oK 0))])
 (.seq (.reg [oM 11 0,
  oO 12 (.call (.func 220) [(.tmp 11)]),
  oM 10 12,
  oE 13 10 0,
  oE 14 10 1,
  oE 15 10 2,
  oE 16 10 3,
  oO 6 (.alloc 26 [.int .i64 0,.int .i64 0,.int .i64 0,.int .i64 0,.slice none 0 0]),
  oS (.store 5 (.tmp 6) (.tmp 13)),
  oM 7 14,
  oM 8 15,
  oM 9 16])
 (.seq (.reg [oO 17 (.loadn 5 (.tmp 6)),
  oM 18 7,
  oM 19 8,
  oM 20 9,
  oS (.store 5 (.tmp 2) (.tmp 17)),
  oM 3 18,
  oM 4 19,
  oM 5 20])
 .ret)))⟩
theorem s78:compFn Try.prog Try.f78=some c78:=by kernel_rfl
def c79:XFn:=
 ⟨[.tmp 8,.tmp 9],
 (.seq (.reg [oO 4 (.box 26 (.tmp 0)),
  oO 8 (.mv (oK 0)),
  oO 9 (.mv (oK 0))])
 (.seq (.seq (.reg [oO 11 (.loadn 5 (.tmp 4)),
  oM 12 1,
  oM 13 2,
  oM 14 3,
  oO 15 (.call (.func 221) [(.tmp 11),(.tmp 12),(.tmp 13),(.tmp 14)]),
  oM 10 15])
 (.seq (.reg [oM 16 10,
  oO 17 (.bin .neq (.tmp 16) (oK 0))])
 (.cond (.tmp 17) (.seq (.reg [oM 18 10,
  oO 8 (.mv (oK 0)),
  oM 9 18])
 .ret) .skip)))
 (.seq (.reg [oO 19 (.loadn 5 (.tmp 4)),
  oM 20 1,
  oM 21 2,
  oM 22 3,
  oO 23 (.call (.func 223) [(.tmp 19),(.tmp 20),(.tmp 21),(.tmp 22)]),
  oM 8 23,
  oO 9 (.mv (oK 0))])
 .ret)))⟩
theorem s79:compFn Try.prog Try.f79=some c79:=by kernel_rfl
def c80:XFn:=
 ⟨[.tmp 2,.tmp 3,.tmp 4],
 (.seq (.reg [oO 2 (.mv (oK 0)),
  oO 3 (.mv (.const (.slice none 0 0))),
  oO 4 (.mv (.const (.slice none 0 0)))])
 (.seq (.reg [oM 10 0,
  oO 11 (.call (.func 145) [(.tmp 10)]),
  oM 5 11])
 (.seq (.reg [oM 12 5,
  oO 13 (.bslice 2 1 5 [.int .i64 0] [(0,1,(oK 2)),(1,1,(oK 3)),(2,1,(oK 5)),(3,1,(oK 2)),(4,1,(oK 4))]),
  oO 14 (.call (.func 147) [(.tmp 12),(.tmp 13)]),
  oM 15 5,
  oO 16 (.bslice 2 1 3 [.int .i64 0] [(0,1,(oK 1)),(1,1,(oK 2)),(2,1,(oK 3))]),
  oO 17 (.call (.func 147) [(.tmp 15),(.tmp 16)]),
  oM 18 5,
  oO 19 (.bslice 2 1 3 [.int .i64 0] [(0,1,(oK 1)),(1,1,(oK 2)),(2,1,(oK 3))]),
  oO 20 (.call (.func 147) [(.tmp 18),(.tmp 19)]),
  oM 21 5,
  oO 22 (.bslice 2 1 3 [.int .i64 0] [(0,1,(oK 1)),(1,1,(oK 2)),(2,1,(oK 3))]),
  oO 23 (.call (.func 147) [(.tmp 21),(.tmp 22)]),
  oM 6 14,
  oM 7 17,
  oM 8 20,
  oM 9 23])
 (.seq (.reg [oM 24 6,
  oM 25 5,
  oM 26 6,
  oM 27 7,
  oM 28 8,
  oO 29 (.call (.func 213) [(.tmp 25),(.tmp 26),(.tmp 27),(.tmp 28)]),
  oM 30 5,
  oM 31 6,
  oM 32 8,
  oM 33 9,
  oO 34 (.call (.func 213) [(.tmp 30),(.tmp 31),(.tmp 32),(.tmp 33)]),
  oM 2 24,
  oM 3 29,
  oM 4 34])
 .ret))))⟩
theorem s80:compFn Try.prog Try.f80=some c80:=by kernel_rfl
def c81:XFn:=
 ⟨[.tmp 6,.tmp 7],
 (.seq (.reg [oO 6 (.mv (.const (.slice none 0 0))),
  oO 7 (.mv (oK 0))])
 (.seq (.seq (.reg [oM 11 0,
  oO 12 (.call (.func 224) [(.tmp 11)]),
  oO 13 (.un .not (.tmp 12)),
  oM 14 13,
  oG 15 (.mv (.tmp 1)) 14 false,
  oG 16 (.len (.tmp 15)) 14 false,
  oG 17 (.bin .lss (.tmp 16) (oK 1)) 14 false,
  oO 18 (.pick (.tmp 14) (.const (.bool true)) (.tmp 17)),
  oM 19 18,
  oG 20 (.mv (.tmp 1)) 19 false,
  oG 21 (.len (.tmp 20)) 19 false,
  oG 22 (.bin .gtr (.tmp 21) (oK 3)) 19 false,
  oO 23 (.pick (.tmp 19) (.const (.bool true)) (.tmp 22)),
  oM 24 23,
  oG 25 (.mv (.tmp 2)) 24 false,
  oG 26 (.len (.tmp 25)) 24 false,
  oG 27 (.bin .lss (.tmp 26) (oK 1)) 24 false,
  oO 28 (.pick (.tmp 24) (.const (.bool true)) (.tmp 27)),
  oM 29 28,
  oG 30 (.mv (.tmp 2)) 29 false,
  oG 31 (.len (.tmp 30)) 29 false,
  oG 32 (.bin .gtr (.tmp 31) (oK 3)) 29 false,
  oO 33 (.pick (.tmp 29) (.const (.bool true)) (.tmp 32))])
 (.cond (.tmp 33) (.seq (.reg [oO 6 (.mv (.const (.slice none 0 0))),
  oO 7 (.mv (oK 2))])
 .ret) .skip))
 (.seq (.reg [oM 34 1,
  oN 35 34,
  oM 36 2,
  oN 37 36,
  oM 38 2,
  oO 39 (.ixs 1 (.tmp 38) (oK 0)),
  oL 40 39,
  oN 41 40,
  oM 8 35,
  oM 9 37,
  oM 10 41])
 (.seq (.seq (.reg [oM 42 10,
  oO 43 (.call (.func 181) [(.tmp 42),(oK 1),(oK 3)]),
  oO 44 (.un .not (.tmp 43)),
  oM 45 44,
  oG 46 (.mv (.tmp 0)) 45 false,
  oG 47 (.mv (.tmp 1)) 45 false,
  oG 48 (.mv (.tmp 8)) 45 false,
  oG 49 (.mv (.tmp 9)) 45 false,
  oG 50 (.call (.func 214) [(.tmp 46),(.tmp 47),(.tmp 48),(.tmp 49)]) 45 false,
  oG 51 (.un .not (.tmp 50)) 45 false,
  oO 52 (.pick (.tmp 45) (.const (.bool true)) (.tmp 51)),
  oM 53 52,
  oG 54 (.mv (.tmp 0)) 53 false,
  oG 55 (.mv (.tmp 2)) 53 false,
  oG 56 (.mv (.tmp 9)) 53 false,
  oG 57 (.mv (.tmp 10)) 53 false,
  oG 58 (.call (.func 214) [(.tmp 54),(.tmp 55),(.tmp 56),(.tmp 57)]) 53 false,
  oG 59 (.un .not (.tmp 58)) 53 false,
  oO 60 (.pick (.tmp 53) (.const (.bool true)) (.tmp 59))])
 (.cond (.tmp 60) (.seq (.reg [oO 6 (.mv (.const (.slice none 0 0))),
  oO 7 (.mv (oK 2))])
 .ret) .skip))
 (.seq (.reg [oM 61 0,
  oM 62 1,
  oM 63 2,
  oO 64 (.call (.func 225) [(.tmp 61),(.tmp 62),(.tmp 63)]),
  oM 6 64,
  oO 7 (.mv (oK 0))])
 .ret)))))⟩
theorem s81:compFn Try.prog Try.f81=some c81:=by kernel_rfl
def c82:XFn:=
 ⟨[.celln 2 5],
 (.seq (.reg [oO 2 (.alloc 26 [.int .i64 0,.int .i64 0,.int .i64 0,.int .i64 0,.slice none 0 0])])
 (.seq (.reg [oM 3 0,
  oO 4 (.call (.func 145) [(.tmp 3)]),
  oO 5 (.call (.func 212) [(.tmp 4)]),
  oS (.store 5 (.tmp 2) (.tmp 5))])
 .ret))⟩
theorem s82:compFn Try.prog Try.f82=some c82:=by kernel_rfl
def c83:XFn:=
 ⟨[.tmp 2,.tmp 3],
 (.seq (.reg [oO 1 (.box 26 (.tmp 0)),
  oO 2 (.mv (oK 0)),
  oO 3 (.mv (oK 0))])
 (.seq (.seq (.reg [oO 6 (.loadn 5 (.tmp 1)),
  oO 7 (.call (.func 154) [(.tmp 6)]),
  oO 8 (.un .not (.tmp 7))])
 (.cond (.tmp 8) (.seq (.reg [oO 2 (.mv (oK 0)),
  oO 3 (.mv (oK 1))])
 .ret) .skip))
 (.seq (.reg [oO 10 (.loadn 5 (.tmp 1)),
  oO 11 (.call (.func 216) [(.tmp 10)]),
  oM 9 11,
  oE 12 9 0,
  oE 13 9 1,
  oM 4 12,
  oM 5 13])
 (.seq (.reg [oM 14 5,
  oM 2 14,
  oO 3 (.mv (oK 0))])
 .ret))))⟩
theorem s83:compFn Try.prog Try.f83=some c83:=by kernel_rfl
def c84:XFn:=
 ⟨[.celln 2 5],
 (.seq (.reg [oO 2 (.alloc 26 [.int .i64 0,.int .i64 0,.int .i64 0,.int .i64 0,.slice none 0 0])])
 (.seq (.reg [oM 3 0,
  oO 4 (.call (.func 145) [(.tmp 3)]),
  oO 5 (.call (.func 212) [(.tmp 4)]),
  oS (.store 5 (.tmp 2) (.tmp 5))])
 .ret))⟩
theorem s84:compFn Try.prog Try.f84=some c84:=by kernel_rfl
def c85:XFn:=
 ⟨[.tmp 2,.tmp 3],
 (.seq (.reg [oO 1 (.box 26 (.tmp 0)),
  oO 2 (.mv (.const (.bool false))),
  oO 3 (.mv (oK 0))])
 (.seq (.seq (.reg [oO 4 (.loadn 5 (.tmp 1)),
  oO 5 (.call (.func 154) [(.tmp 4)]),
  oO 6 (.un .not (.tmp 5))])
 (.cond (.tmp 6) (.seq (.reg [oO 2 (.mv (.const (.bool false))),
  oO 3 (.mv (oK 1))])
 .ret) .skip))
 (.seq (.reg [oO 7 (.loadn 5 (.tmp 1)),
  oO 8 (.call (.func 226) [(.tmp 7)]),
  oM 2 8,
  oO 3 (.mv (oK 0))])
 .ret)))⟩
theorem s85:compFn Try.prog Try.f85=some c85:=by kernel_rfl
def c145:XFn:=
 ⟨[.tmp 2],
 (.seq (.reg [oO 2 (.mv (.const (.pointer none)))])
 (.seq (.reg [oM 5 0,
  oM 6 0,
  oN 7 6,
  oO 8 (.conv .u64 (.tmp 7)),
  oO 9 (.bin .add (.const (.int .u64 12619)) (.tmp 8)),
  oO 10 (.build [.slice none 0 0,.int .i64 0,.int .u64 0] [(0,1,(.tmp 5)),(2,1,(.tmp 9))]),
  oO 11 (.box 220 (.tmp 10)),
  oM 3 11])
 (.seq (.seq (.reg [oO 4 (.mv (oK 0))])
 (.blk 0 (.loop (.seq (.seq (.reg [oM 12 4,
  oM 13 0,
  oN 14 13,
  oO 15 (.bin .lss (.tmp 12) (.tmp 14)),
  oM 16 15,
  oG 17 (.mv (.tmp 4)) 16 true,
  oG 18 (.bin .lss (.tmp 17) (oK 4096)) 16 true,
  oO 19 (.pick (.tmp 16) (.tmp 18) (.const (.bool false)))])
 (.cond (.tmp 19) .skip (.exit 0)))
 (.seq (.blk 1 (.reg [oM 22 3,
  oM 23 3,
  oO 24 (.nchk (.tmp 23)),
  oF 25 2 24,
  oL 26 25,
  oO 27 (.bin .mul (.tmp 26) (.const (.int .u64 1099511628211))),
  oM 28 0,
  oM 29 4,
  oX 30 1 28 29,
  oL 31 30,
  oO 32 (.conv .u64 (.tmp 31)),
  oO 33 (.bin .add (.tmp 27) (.tmp 32)),
  oO 34 (.bin .add (.tmp 33) (.const (.int .u64 79))),
  oO 35 (.nchk (.tmp 22)),
  oF 36 2 35,
  oS (.store 1 (.tmp 36) (.tmp 34))]))
 (.reg [oM 20 4,
  oO 21 (.bin .add (.tmp 20) (oK 1)),
  oM 4 21]))))))
 (.seq (.reg [oM 37 3,
  oM 2 37])
 .ret))))⟩
theorem s145:compFn Try.prog Try.f145=some c145:=by kernel_rfl
def c147:XFn:=
 ⟨[.tmp 4],
 (.seq (.reg [oO 4 (.mv (oK 0))])
 (.seq (.reg [oM 5 1,
  oM 6 0,
  oM 7 1,
  oN 8 7,
  oO 9 (.call (.func 148) [(.tmp 6),(.tmp 8)]),
  oX 10 1 5 9,
  oL 11 10,
  oM 4 11])
 .ret))⟩
theorem s147:compFn Try.prog Try.f147=some c147:=by kernel_rfl
def c148:XFn:=
 ⟨[.tmp 4],
 (.seq (.reg [oO 4 (.mv (oK 0))])
 (.seq (.seq (.reg [oM 6 1,
  oO 7 (.bin .lss (.tmp 6) (oK 1))])
 (.cond (.tmp 7) (.seq (.reg [oO 4 (.mv (oK 0))])
 .ret) .skip))
 (.seq (.reg [oM 8 0,
  oM 9 0,
  oO 10 (.nchk (.tmp 9)),
  oF 11 2 10,
  oL 12 11,
  oO 13 (.bin .mul (.tmp 12) (.const (.int .u64 6364136223846793005))),
  oO 14 (.bin .add (.tmp 13) (.const (.int .u64 1442695040888963407))),
  oO 15 (.nchk (.tmp 8)),
  oF 16 2 15,
  oS (.store 1 (.tmp 16) (.tmp 14))])
 (.seq (.reg [oM 17 0,
  oO 18 (.nchk (.tmp 17)),
  oF 19 2 18,
  oL 20 19,
  oO 21 (.bin .shr (.tmp 20) (.const (.int .u64 33))),
  oO 22 (.bin .and (.tmp 21) (.const (.int .u64 16777215))),
  oO 23 (.conv .i64 (.tmp 22)),
  oM 5 23])
 (.seq (.seq (.reg [oM 24 0,
  oO 25 (.nchk (.tmp 24)),
  oF 26 1 25,
  oL 27 26,
  oM 28 0,
  oO 29 (.nchk (.tmp 28)),
  oF 30 0 29,
  oL 31 30,
  oN 32 31,
  oO 33 (.bin .lss (.tmp 27) (.tmp 32))])
 (.cond (.tmp 33) (.seq (.reg [oM 34 5,
  oM 35 0,
  oO 36 (.nchk (.tmp 35)),
  oF 37 0 36,
  oL 38 37,
  oM 39 0,
  oO 40 (.nchk (.tmp 39)),
  oF 41 1 40,
  oL 42 41,
  oX 43 1 38 42,
  oL 44 43,
  oO 45 (.conv .i64 (.tmp 44)),
  oO 46 (.bin .add (.tmp 34) (.tmp 45)),
  oM 5 46])
 (.reg [oM 47 0,
  oM 48 0,
  oO 49 (.nchk (.tmp 48)),
  oF 50 1 49,
  oL 51 50,
  oO 52 (.bin .add (.tmp 51) (oK 1)),
  oO 53 (.nchk (.tmp 47)),
  oF 54 1 53,
  oS (.store 1 (.tmp 54) (.tmp 52))])) .skip))
 (.seq (.reg [oM 55 5,
  oM 56 1,
  oO 57 (.bin .rem (.tmp 55) (.tmp 56)),
  oM 4 57])
 .ret))))))⟩
theorem s148:compFn Try.prog Try.f148=some c148:=by kernel_rfl
def c149:XFn:=
 ⟨[.tmp 2],
 (.seq (.reg [oO 1 (.box 26 (.tmp 0)),
  oO 2 (.mv (.const (.bool false)))])
 (.seq (.seq (.reg [oF 5 0 1,
  oL 6 5,
  oO 7 (.call (.func 166) [(.tmp 6)]),
  oO 8 (.un .not (.tmp 7)),
  oM 9 8,
  oG 10 (.fadr 1 (.tmp 1)) 9 false,
  oG 11 (.load1 (.tmp 10)) 9 false,
  oG 12 (.fadr 2 (.tmp 1)) 9 false,
  oG 13 (.load1 (.tmp 12)) 9 false,
  oG 14 (.fadr 3 (.tmp 1)) 9 false,
  oG 15 (.load1 (.tmp 14)) 9 false,
  oG 16 (.bslice 2 1 3 [.int .i64 0] [(0,1,(.tmp 11)),(1,1,(.tmp 13)),(2,1,(.tmp 15))]) 9 false,
  oG 17 (.call (.func 167) [(.tmp 16)]) 9 false,
  oG 18 (.un .not (.tmp 17)) 9 false,
  oO 19 (.pick (.tmp 9) (.const (.bool true)) (.tmp 18)),
  oM 20 19,
  oG 21 (.fadr 4 (.tmp 1)) 20 false,
  oG 22 (.load1 (.tmp 21)) 20 false,
  oG 23 (.len (.tmp 22)) 20 false,
  oG 24 (.bin .gtr (.tmp 23) (oK 30)) 20 false,
  oO 25 (.pick (.tmp 20) (.const (.bool true)) (.tmp 24))])
 (.cond (.tmp 25) (.seq (.reg [oO 2 (.mv (.const (.bool false)))])
 .ret) .skip))
 (.seq (.seq (.reg [oF 26 4 1,
  oL 27 26,
  oN 28 27,
  oO 29 (.mv (oK 0))])
 (.blk 0 (.loop (.seq (.reg [oO 30 (.bin .lss (.tmp 29) (.tmp 28))])
 (.seq (.cond (.tmp 30) .skip (.exit 0))
 (.seq (.blk 1 (.seq (.reg [oX 31 27 27 29,
  oO 32 (.loadn 27 (.tmp 31)),
  oO 4 (.alloc 138 [.int .u8 0,.int .u8 0,.int .u8 0,.int .u8 0,.int .u8 0,.int .u8 0,.int .u8 0,.int .u8 0,.int .u8 0,.int .u8 0,.int .u8 0,.int .u8 0,.int .u8 0,.int .u8 0,.int .u8 0,.int .u8 0,.int .u8 0,.int .u8 0,.int .u8 0,.int .u8 0,.int .u8 0,.int .u8 0,.int .u8 0,.int .u8 0,.int .u8 0,.int .u8 0,.int .u8 0]),
  oS (.store 27 (.tmp 4) (.tmp 32))])
 (.seq (.reg [oF 33 0 1,
  oL 34 33,
  oO 35 (.loadn 5 (.tmp 1)),
  ⟨some 36,.call (.func 271) [(.tmp 35)],none,.t⟩,
  oO 37 (.loadn 27 (.tmp 4)),
  oO 38 (.call (.func 270) [(.tmp 34),(.tmp 36),(.tmp 37)]),
  oO 39 (.un .not (.tmp 38))])
 (.cond (.tmp 39) (.seq (.reg [oO 2 (.mv (.const (.bool false)))])
 .ret) .skip))))
 (.reg [oO 40 (.bin .add (.tmp 29) (oK 1)),
  oM 29 40])))))))
 (.seq (.reg [oO 2 (.mv (.const (.bool true)))])
 .ret))))⟩
theorem s149:compFn Try.prog Try.f149=some c149:=by kernel_rfl
def c154:XFn:=
 ⟨[.tmp 2],
 (.seq (.reg [oO 1 (.box 26 (.tmp 0)),
  oO 2 (.mv (.const (.bool false)))])
 (.seq (.seq (.reg [oF 4 0 1,
  oL 5 4,
  oF 6 1 1,
  oL 7 6,
  oF 8 2 1,
  oL 9 8,
  oF 10 3 1,
  oL 11 10,
  oO 12 (.call (.func 275) [(.tmp 5),(.tmp 7),(.tmp 9),(.tmp 11)]),
  oO 13 (.un .not (.tmp 12)),
  oM 14 13,
  oG 15 (.fadr 4 (.tmp 1)) 14 false,
  oG 16 (.load1 (.tmp 15)) 14 false,
  oG 17 (.len (.tmp 16)) 14 false,
  oG 18 (.bin .gtr (.tmp 17) (oK 30)) 14 false,
  oO 19 (.pick (.tmp 14) (.const (.bool true)) (.tmp 18))])
 (.cond (.tmp 19) (.seq (.reg [oO 2 (.mv (.const (.bool false)))])
 .ret) .skip))
 (.seq (.seq (.reg [oO 3 (.mv (oK 0))])
 (.blk 0 (.loop (.seq (.seq (.reg [oM 20 3,
  oF 21 4 1,
  oL 22 21,
  oN 23 22,
  oO 24 (.bin .lss (.tmp 20) (.tmp 23))])
 (.cond (.tmp 24) .skip (.exit 0)))
 (.seq (.blk 1 (.seq (.reg [oO 27 (.loadn 5 (.tmp 1)),
  oF 28 4 1,
  oL 29 28,
  oM 30 3,
  oX 31 27 29 30,
  oO 32 (.loadn 27 (.tmp 31)),
  oO 33 (.call (.func 276) [(.tmp 27),(.tmp 32)]),
  oO 34 (.un .not (.tmp 33))])
 (.cond (.tmp 34) (.seq (.reg [oO 2 (.mv (.const (.bool false)))])
 .ret) .skip)))
 (.reg [oM 25 3,
  oO 26 (.bin .add (.tmp 25) (oK 1)),
  oM 3 26]))))))
 (.seq (.reg [oO 2 (.mv (.const (.bool true)))])
 .ret))))⟩
theorem s154:compFn Try.prog Try.f154=some c154:=by kernel_rfl
def c158:XFn:=
 ⟨[.tmp 2],
 (.seq (.reg [oO 1 (.box 26 (.tmp 0)),
  oO 2 (.mv (.const (.slice none 0 0)))])
 (.seq (.reg [oO 8 (.bslice 27 1 0 [.slice none 0 0] []),
  oO 9 (.loadn 5 (.tmp 1)),
  oO 10 (.call (.func 271) [(.tmp 9)]),
  oO 4 (.alloc 158 [.int .i64 0,.int .i64 0,.int .i64 0]),
  oM 3 8,
  oS (.store 3 (.tmp 4) (.tmp 10))])
 (.seq (.seq (.reg [oO 11 (.ixa 3 1 (.tmp 4) (oK 0)),
  oL 12 11,
  oO 13 (.mv (oK 0))])
 (.blk 0 (.loop (.seq (.reg [oO 14 (.bin .lss (.tmp 13) (.tmp 12))])
 (.seq (.cond (.tmp 14) .skip (.exit 0))
 (.seq (.blk 1 (.seq (.reg [oM 15 13,
  oM 5 15])
 (.seq (.reg [oO 16 (.ixa 3 1 (.tmp 4) (oK 1)),
  oL 17 16,
  oO 18 (.mv (oK 0))])
 (.blk 2 (.loop (.seq (.reg [oO 19 (.bin .lss (.tmp 18) (.tmp 17))])
 (.seq (.cond (.tmp 19) .skip (.exit 2))
 (.seq (.blk 3 (.seq (.reg [oM 20 18,
  oM 6 20])
 (.seq (.reg [oO 21 (.ixa 3 1 (.tmp 4) (oK 2)),
  oL 22 21,
  oO 23 (.mv (oK 0))])
 (.blk 4 (.loop (.seq (.reg [oO 24 (.bin .lss (.tmp 23) (.tmp 22))])
 (.seq (.cond (.tmp 24) .skip (.exit 4))
 (.seq (.blk 5 (.seq (.reg [oM 25 23,
  oM 7 25])
 (.seq (.reg [oO 26 (.loadn 5 (.tmp 1)),
  oM 27 5,
  oM 28 6,
  oM 29 7,
  ⟨some 30,.call (.func 218) [(.tmp 26),(.tmp 27),(.tmp 28),(.tmp 29)],none,.t⟩,
  oO 31 (.loadn 5 (.tmp 1)),
  oM 32 5,
  oM 33 6,
  oM 34 7,
  oO 35 (.call (.func 219) [(.tmp 31),(.tmp 32),(.tmp 33),(.tmp 34)]),
  oO 36 (.bin .neq (.tmp 30) (.tmp 35))])
 (.cond (.tmp 36) (.reg [oM 37 3,
  oM 38 5,
  oM 39 6,
  oM 40 7,
  oO 41 (.bslice 2 1 3 [.int .i64 0] [(0,1,(.tmp 38)),(1,1,(.tmp 39)),(2,1,(.tmp 40))]),
  oO 42 (.bslice 27 1 1 [.slice none 0 0] [(0,1,(.tmp 41))]),
  oO 43 (.app 27 1 24 (.tmp 37) (.tmp 42)),
  oM 3 43]) .skip))))
 (.reg [oO 44 (.bin .add (.tmp 23) (oK 1)),
  oM 23 44])))))))))
 (.reg [oO 45 (.bin .add (.tmp 18) (oK 1)),
  oM 18 45])))))))))
 (.reg [oO 46 (.bin .add (.tmp 13) (oK 1)),
  oM 13 46])))))))
 (.seq (.reg [oM 47 3,
  oM 2 47])
 .ret))))⟩
theorem s158:compFn Try.prog Try.f158=some c158:=by kernel_rfl
def c162:XFn:=
 ⟨[.tmp 6],
 (.seq (.reg [oO 3 (.box 26 (.tmp 0)),
  oO 6 (.mv (oK 0))])
 (.seq (.blk 0 (.seq (.reg [oO 8 (.loadn 5 (.tmp 3)),
  oO 9 (.call (.func 149) [(.tmp 8)]),
  oO 10 (.un .not (.tmp 9)),
  oM 7 10])
 (.cond (.tmp 7) (.seq (.reg [oO 6 (.mv (oK 1))])
 .ret) (.seq (.reg [oF 12 0 3,
  oL 13 12,
  oF 14 1 3,
  oL 15 14,
  oF 16 2 3,
  oL 17 16,
  oM 18 1,
  oO 19 (.call (.func 168) [(.tmp 13),(.tmp 15),(.tmp 17),(.tmp 18)]),
  oO 20 (.un .not (.tmp 19)),
  oM 21 20,
  oG 22 (.fadr 0 (.tmp 3)) 21 false,
  oG 23 (.load1 (.tmp 22)) 21 false,
  oG 24 (.fadr 2 (.tmp 3)) 21 false,
  oG 25 (.load1 (.tmp 24)) 21 false,
  oG 26 (.fadr 3 (.tmp 3)) 21 false,
  oG 27 (.load1 (.tmp 26)) 21 false,
  oG 28 (.mv (.tmp 2)) 21 false,
  oG 29 (.call (.func 168) [(.tmp 23),(.tmp 25),(.tmp 27),(.tmp 28)]) 21 false,
  oG 30 (.un .not (.tmp 29)) 21 false,
  oO 31 (.pick (.tmp 21) (.const (.bool true)) (.tmp 30)),
  oM 11 31])
 (.cond (.tmp 11) (.seq (.reg [oO 6 (.mv (oK 2))])
 .ret) .skip)))))
 (.seq (.reg [oO 6 (.mv (oK 0))])
 .ret)))⟩
theorem s162:compFn Try.prog Try.f162=some c162:=by kernel_rfl
def c163:XFn:=
 ⟨[.tmp 4],
 (.seq (.reg [oO 4 (.mv (.const (.slice none 0 0)))])
 (.seq (.reg [oO 7 (.bslice 27 1 0 [.slice none 0 0] []),
  oM 5 7])
 (.seq (.seq (.reg [oO 6 (.mv (oK 0))])
 (.blk 0 (.loop (.seq (.seq (.reg [oM 8 6,
  oM 9 0,
  oN 10 9,
  oO 11 (.bin .lss (.tmp 8) (.tmp 10))])
 (.cond (.tmp 11) .skip (.exit 0)))
 (.seq (.blk 1 (.reg [oM 15 5,
  oM 16 0,
  oM 17 6,
  oM 18 6,
  oM 19 1,
  oO 20 (.bin .add (.tmp 18) (.tmp 19)),
  oO 21 (.slc 1 (.tmp 16) (some (.tmp 17)) (some (.tmp 20))),
  oO 22 (.call (.func 285) [(.tmp 21)]),
  oO 23 (.bslice 27 1 1 [.slice none 0 0] [(0,1,(.tmp 22))]),
  oO 24 (.app 27 1 24 (.tmp 15) (.tmp 23)),
  oM 5 24]))
 (.reg [oM 12 6,
  oM 13 1,
  oO 14 (.bin .add (.tmp 12) (.tmp 13)),
  oM 6 14]))))))
 (.seq (.reg [oM 25 5,
  oM 4 25])
 .ret))))⟩
theorem s163:compFn Try.prog Try.f163=some c163:=by kernel_rfl
def c164:XFn:=
 ⟨[.tmp 10],
 (.seq (.reg [oO 10 (.mv (.const (.slice none 0 0)))])
 (.seq (.reg [oM 16 2,
  oO 17 (.mks 2 1 8 [.int .i64 0] (.tmp 16)),
  oM 11 17])
 (.seq (.seq (.reg [oM 18 1,
  oN 19 18,
  oO 20 (.mv (oK 0))])
 (.blk 0 (.loop (.seq (.reg [oO 21 (.bin .lss (.tmp 20) (.tmp 19))])
 (.seq (.cond (.tmp 21) .skip (.exit 0))
 (.seq (.blk 1 (.seq (.reg [oX 22 27 18 20,
  oO 23 (.loadn 27 (.tmp 22)),
  oO 13 (.alloc 138 [.int .u8 0,.int .u8 0,.int .u8 0,.int .u8 0,.int .u8 0,.int .u8 0,.int .u8 0,.int .u8 0,.int .u8 0,.int .u8 0,.int .u8 0,.int .u8 0,.int .u8 0,.int .u8 0,.int .u8 0,.int .u8 0,.int .u8 0,.int .u8 0,.int .u8 0,.int .u8 0,.int .u8 0,.int .u8 0,.int .u8 0,.int .u8 0,.int .u8 0,.int .u8 0,.int .u8 0]),
  oS (.store 27 (.tmp 13) (.tmp 23))])
 (.seq (.reg [oM 24 0,
  oF 25 0 13,
  oO 26 (.loadn 9 (.tmp 25)),
  oM 27 3,
  ⟨some 28,.call (.func 286) [(.tmp 24),(.tmp 26),(.tmp 27)],none,.t⟩,
  oM 29 0,
  oF 30 9 13,
  oO 31 (.loadn 9 (.tmp 30)),
  oM 32 4,
  oO 33 (.call (.func 286) [(.tmp 29),(.tmp 31),(.tmp 32)]),
  oO 34 (.bin .mul (.tmp 28) (.tmp 33)),
  oM 14 34])
 (.seq (.reg [oM 35 11,
  oN 36 35,
  oO 37 (.mv (oK 0))])
 (.blk 2 (.loop (.seq (.reg [oO 38 (.bin .lss (.tmp 37) (.tmp 36))])
 (.seq (.cond (.tmp 38) .skip (.exit 2))
 (.seq (.blk 3 (.seq (.reg [oM 39 37,
  oM 15 39])
 (.reg [oM 40 11,
  oM 41 15,
  oM 42 11,
  oM 43 15,
  oX 44 1 42 43,
  oL 45 44,
  oM 46 15,
  oF 47 18 13,
  oO 48 (.ixa 9 1 (.tmp 47) (.tmp 46)),
  oL 49 48,
  oO 50 (.conv .i64 (.tmp 49)),
  oM 51 14,
  oO 52 (.bin .mul (.tmp 50) (.tmp 51)),
  oO 53 (.bin .add (.tmp 45) (.tmp 52)),
  oM 54 0,
  oO 55 (.bin .rem (.tmp 53) (.tmp 54)),
  oX 56 1 40 41,
  oS (.store 1 (.tmp 56) (.tmp 55))])))
 (.reg [oO 57 (.bin .add (.tmp 37) (oK 1)),
  oM 37 57]))))))))))
 (.reg [oO 58 (.bin .add (.tmp 20) (oK 1)),
  oM 20 58])))))))
 (.seq (.reg [oM 59 11,
  oM 10 59])
 .ret))))⟩
theorem s164:compFn Try.prog Try.f164=some c164:=by kernel_rfl
def c165:XFn:=
 ⟨[.tmp 2],
 (.seq (.reg [oO 2 (.mv (.const (.slice none 0 0)))])
 (.seq (.reg [oO 3 (.mv (oK 0))])
 (.seq (.seq (.reg [oM 9 0,
  oN 10 9,
  oO 11 (.mv (oK 0))])
 (.blk 0 (.loop (.seq (.reg [oO 12 (.bin .lss (.tmp 11) (.tmp 10))])
 (.seq (.cond (.tmp 12) .skip (.exit 0))
 (.seq (.blk 1 (.seq (.reg [oX 13 1 9 11,
  oL 14 13,
  oM 5 14])
 (.seq (.reg [oM 15 3,
  oM 16 5,
  oN 17 16,
  oO 18 (.bin .add (.tmp 15) (.tmp 17)),
  oM 3 18])
 (.seq (.reg [oM 19 3,
  oO 20 (.bin .lss (.tmp 19) (oK 0))])
 (.cond (.tmp 20) (.reg [oO 21 (.fail),
  oS (.fail)]) .skip)))))
 (.reg [oO 22 (.bin .add (.tmp 11) (oK 1)),
  oM 11 22])))))))
 (.seq (.reg [oM 23 3,
  oO 24 (.call (.func 287) [(.const (.slice none 0 0)),(.tmp 23)]),
  oM 6 24])
 (.seq (.seq (.reg [oM 25 0,
  oN 26 25,
  oO 27 (.mv (oK 0))])
 (.blk 2 (.loop (.seq (.reg [oO 28 (.bin .lss (.tmp 27) (.tmp 26))])
 (.seq (.cond (.tmp 28) .skip (.exit 2))
 (.seq (.blk 3 (.seq (.reg [oX 29 1 25 27,
  oL 30 29,
  oM 8 30])
 (.reg [oM 31 6,
  oM 32 8,
  oO 33 (.app 2 1 8 (.tmp 31) (.tmp 32)),
  oM 6 33])))
 (.reg [oO 34 (.bin .add (.tmp 27) (oK 1)),
  oM 27 34])))))))
 (.seq (.reg [oM 35 6,
  oM 2 35])
 .ret))))))⟩
theorem s165:compFn Try.prog Try.f165=some c165:=by kernel_rfl
def c166:XFn:=
 ⟨[.tmp 2],
 (.seq (.reg [oO 2 (.mv (.const (.bool false)))])
 (.seq (.reg [oM 3 0,
  oO 4 (.bin .eql (.tmp 3) (oK 2)),
  oM 5 4,
  oG 6 (.mv (.tmp 0)) 5 false,
  oG 7 (.bin .eql (.tmp 6) (oK 3)) 5 false,
  oO 8 (.pick (.tmp 5) (.const (.bool true)) (.tmp 7)),
  oM 9 8,
  oG 10 (.mv (.tmp 0)) 9 false,
  oG 11 (.bin .eql (.tmp 10) (oK 5)) 9 false,
  oO 12 (.pick (.tmp 9) (.const (.bool true)) (.tmp 11)),
  oM 2 12])
 .ret))⟩
theorem s166:compFn Try.prog Try.f166=some c166:=by kernel_rfl
def c167:XFn:=
 ⟨[.tmp 2],
 (.seq (.reg [oO 2 (.mv (.const (.bool false)))])
 (.seq (.seq (.reg [oM 5 0,
  oN 6 5,
  oO 7 (.mv (oK 0))])
 (.blk 0 (.loop (.seq (.reg [oO 8 (.bin .lss (.tmp 7) (.tmp 6))])
 (.seq (.cond (.tmp 8) .skip (.exit 0))
 (.seq (.blk 1 (.seq (.reg [oX 9 1 5 7,
  oL 10 9,
  oM 4 10])
 (.seq (.reg [oM 11 4,
  oO 12 (.bin .lss (.tmp 11) (oK 1)),
  oM 13 12,
  oG 14 (.mv (.tmp 4)) 13 false,
  oG 15 (.bin .gtr (.tmp 14) (oK 3)) 13 false,
  oO 16 (.pick (.tmp 13) (.const (.bool true)) (.tmp 15))])
 (.cond (.tmp 16) (.seq (.reg [oO 2 (.mv (.const (.bool false)))])
 .ret) .skip))))
 (.reg [oO 17 (.bin .add (.tmp 7) (oK 1)),
  oM 7 17])))))))
 (.seq (.reg [oO 2 (.mv (.const (.bool true)))])
 .ret)))⟩
theorem s167:compFn Try.prog Try.f167=some c167:=by kernel_rfl
def c168:XFn:=
 ⟨[.tmp 8],
 (.seq (.reg [oO 8 (.mv (.const (.bool false)))])
 (.seq (.seq (.reg [oM 11 3,
  oN 12 11,
  oO 13 (.mv (oK 0))])
 (.blk 0 (.loop (.seq (.reg [oO 14 (.bin .lss (.tmp 13) (.tmp 12))])
 (.seq (.cond (.tmp 14) .skip (.exit 0))
 (.seq (.blk 1 (.seq (.reg [oX 15 1 11 13,
  oL 16 15,
  oM 10 16])
 (.seq (.reg [oM 17 10,
  oN 18 17,
  oM 19 2,
  oO 20 (.bin .neq (.tmp 18) (.tmp 19)),
  oM 21 20,
  oG 22 (.mv (.tmp 0)) 21 false,
  oG 23 (.mv (.tmp 10)) 21 false,
  oG 24 (.call (.func 184) [(.tmp 22),(.tmp 23)]) 21 false,
  oG 25 (.un .not (.tmp 24)) 21 false,
  oO 26 (.pick (.tmp 21) (.const (.bool true)) (.tmp 25))])
 (.cond (.tmp 26) (.seq (.reg [oO 8 (.mv (.const (.bool false)))])
 .ret) .skip))))
 (.reg [oO 27 (.bin .add (.tmp 13) (oK 1)),
  oM 13 27])))))))
 (.seq (.reg [oM 28 3,
  oN 29 28,
  oM 30 1,
  oO 31 (.bin .eql (.tmp 29) (.tmp 30)),
  oM 8 31])
 .ret)))⟩
theorem s168:compFn Try.prog Try.f168=some c168:=by kernel_rfl
def c169:XFn:=
 ⟨[.tmp 6],
 (.seq (.reg [oO 6 (.mv (.const (.slice none 0 0)))])
 (.seq (.reg [oO 14 (.bslice 27 1 0 [.slice none 0 0] []),
  oM 7 14])
 (.seq (.seq (.reg [oM 15 1,
  oN 16 15,
  oO 17 (.mv (oK 0))])
 (.blk 0 (.loop (.seq (.reg [oO 18 (.bin .lss (.tmp 17) (.tmp 16))])
 (.seq (.cond (.tmp 18) .skip (.exit 0))
 (.seq (.blk 1 (.seq (.reg [oX 19 1 15 17,
  oL 20 19,
  oM 9 20])
 (.seq (.reg [oM 21 2,
  oO 22 (.ixs 1 (.tmp 21) (oK 0)),
  oL 23 22,
  oN 24 23,
  oO 25 (.mks 2 1 8 [.int .i64 0] (.tmp 24)),
  oM 10 25])
 (.seq (.seq (.reg [oM 26 10,
  oN 27 26,
  oO 28 (.mv (oK 0))])
 (.blk 2 (.loop (.seq (.reg [oO 29 (.bin .lss (.tmp 28) (.tmp 27))])
 (.seq (.cond (.tmp 29) .skip (.exit 2))
 (.seq (.blk 3 (.seq (.reg [oM 30 28,
  oM 11 30])
 (.seq (.reg [oM 31 9,
  oN 32 31,
  oO 33 (.mv (oK 0))])
 (.blk 4 (.loop (.seq (.reg [oO 34 (.bin .lss (.tmp 33) (.tmp 32))])
 (.seq (.cond (.tmp 34) .skip (.exit 4))
 (.seq (.blk 5 (.seq (.reg [oM 35 33,
  oX 36 1 31 33,
  oL 37 36,
  oM 12 35,
  oM 13 37])
 (.reg [oM 38 10,
  oM 39 11,
  oM 40 10,
  oM 41 11,
  oX 42 1 40 41,
  oL 43 42,
  oM 44 13,
  oM 45 2,
  oM 46 12,
  oX 47 1 45 46,
  oL 48 47,
  oM 49 11,
  oX 50 1 48 49,
  oL 51 50,
  oO 52 (.bin .mul (.tmp 44) (.tmp 51)),
  oO 53 (.bin .add (.tmp 43) (.tmp 52)),
  oM 54 0,
  oO 55 (.bin .rem (.tmp 53) (.tmp 54)),
  oX 56 1 38 39,
  oS (.store 1 (.tmp 56) (.tmp 55))])))
 (.reg [oO 57 (.bin .add (.tmp 33) (oK 1)),
  oM 33 57])))))))))
 (.reg [oO 58 (.bin .add (.tmp 28) (oK 1)),
  oM 28 58])))))))
 (.reg [oM 59 7,
  oM 60 10,
  oO 61 (.bslice 27 1 1 [.slice none 0 0] [(0,1,(.tmp 60))]),
  oO 62 (.app 27 1 24 (.tmp 59) (.tmp 61)),
  oM 7 62])))))
 (.reg [oO 63 (.bin .add (.tmp 17) (oK 1)),
  oM 17 63])))))))
 (.seq (.reg [oM 64 7,
  oM 6 64])
 .ret))))⟩
theorem s169:compFn Try.prog Try.f169=some c169:=by kernel_rfl
def tab1:List (Nat×XFn):=[(7,c7),(13,c13),(17,c17),(20,c20),(21,c21),(22,c22),(48,c48),(67,c67),(68,c68),(69,c69),(70,c70),(71,c71),(72,c72),(73,c73),(74,c74),(75,c75),(76,c76),(77,c77),(78,c78),(79,c79),(80,c80),(81,c81),(82,c82),(83,c83),(84,c84),(85,c85),(145,c145),(147,c147),(148,c148),(149,c149),(154,c154),(158,c158),(162,c162),(163,c163),(164,c164),(165,c165),(166,c166),(167,c167),(168,c168),(169,c169)]
theorem ts1:TSound Try.prog (fun g=>tab1.lookup g):=by
 refine tsound_of_all (P:=Try.prog) (tab:=tab1) ?_
 intro p hp
 simp only[tab1,List.mem_cons,List.not_mem_nil,or_false] at hp
 rcases hp with rfl|rfl|rfl|rfl|rfl|rfl|rfl|rfl|rfl|rfl|rfl|rfl|rfl|rfl|rfl|rfl|rfl|rfl|rfl|rfl|rfl|rfl|rfl|rfl|rfl|rfl|rfl|rfl|rfl|rfl|rfl|rfl|rfl|rfl|rfl|rfl|rfl|rfl|rfl|rfl
 ·exact⟨_,Try.func7,s7⟩
 ·exact⟨_,Try.func13,s13⟩
 ·exact⟨_,Try.func17,s17⟩
 ·exact⟨_,Try.func20,s20⟩
 ·exact⟨_,Try.func21,s21⟩
 ·exact⟨_,Try.func22,s22⟩
 ·exact⟨_,Try.func48,s48⟩
 ·exact⟨_,Try.func67,s67⟩
 ·exact⟨_,Try.func68,s68⟩
 ·exact⟨_,Try.func69,s69⟩
 ·exact⟨_,Try.func70,s70⟩
 ·exact⟨_,Try.func71,s71⟩
 ·exact⟨_,Try.func72,s72⟩
 ·exact⟨_,Try.func73,s73⟩
 ·exact⟨_,Try.func74,s74⟩
 ·exact⟨_,Try.func75,s75⟩
 ·exact⟨_,Try.func76,s76⟩
 ·exact⟨_,Try.func77,s77⟩
 ·exact⟨_,Try.func78,s78⟩
 ·exact⟨_,Try.func79,s79⟩
 ·exact⟨_,Try.func80,s80⟩
 ·exact⟨_,Try.func81,s81⟩
 ·exact⟨_,Try.func82,s82⟩
 ·exact⟨_,Try.func83,s83⟩
 ·exact⟨_,Try.func84,s84⟩
 ·exact⟨_,Try.func85,s85⟩
 ·exact⟨_,Try.func145,s145⟩
 ·exact⟨_,Try.func147,s147⟩
 ·exact⟨_,Try.func148,s148⟩
 ·exact⟨_,Try.func149,s149⟩
 ·exact⟨_,Try.func154,s154⟩
 ·exact⟨_,Try.func158,s158⟩
 ·exact⟨_,Try.func162,s162⟩
 ·exact⟨_,Try.func163,s163⟩
 ·exact⟨_,Try.func164,s164⟩
 ·exact⟨_,Try.func165,s165⟩
 ·exact⟨_,Try.func166,s166⟩
 ·exact⟨_,Try.func167,s167⟩
 ·exact⟨_,Try.func168,s168⟩
 ·exact⟨_,Try.func169,s169⟩
end Go.Proofs.Ytapafdpnmakekaa.X
