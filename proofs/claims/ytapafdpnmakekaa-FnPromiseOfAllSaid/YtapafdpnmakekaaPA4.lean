/- Texts of one claim, put together by merge.py: XCode1. -/
import Derived.Test.YtapafdpnmakekaaPA3
import Derived.Test.YtapafdpnmakekaaProg
set_option linter.unusedVariables false
set_option maxRecDepth 4000
namespace Go.Proofs.Ytapafdpnmakekaa.X
open Go Go.RowKit
def c11:XFn:=
 ⟨[.tmp 8],
 (.seq (.reg [oO 4 (.box 26 (.tmp 0)),
  oO 8 (.mv (.const (.bool false)))])
 (.seq (.seq (.reg [oF 39 4 4,
  oL 40 39,
  oN 41 40,
  oO 42 (.bin .gtr (.tmp 41) (oK 1000)),
  oM 43 42,
  oG 44 (.mv (.tmp 1)) 43 false,
  oG 45 (.len (.tmp 44)) 43 false,
  oG 46 (.bin .gtr (.tmp 45) (oK 1000)) 43 false,
  oO 47 (.pick (.tmp 43) (.const (.bool true)) (.tmp 46)),
  oM 48 47,
  oG 49 (.mv (.tmp 2)) 48 false,
  oG 50 (.len (.tmp 49)) 48 false,
  oG 51 (.bin .gtr (.tmp 50) (oK 1000)) 48 false,
  oO 52 (.pick (.tmp 48) (.const (.bool true)) (.tmp 51)),
  oM 53 52,
  oG 54 (.mv (.tmp 3)) 53 false,
  oG 55 (.len (.tmp 54)) 53 false,
  oG 56 (.bin .gtr (.tmp 55) (oK 1000)) 53 false,
  oO 57 (.pick (.tmp 53) (.const (.bool true)) (.tmp 56))])
 (.cond (.tmp 57) (.seq (.reg [oO 8 (.mv (.const (.bool true)))])
 .ret) .skip))
 (.seq (.reg [oO 59 (.loadn 5 (.tmp 4)),
  oM 60 1,
  oO 61 (.call (.func 15) [(.tmp 59),(.tmp 60)]),
  oM 58 61,
  oE 62 58 0,
  oE 63 58 1,
  oO 9 (.alloc 26 [.int .i64 0,.int .i64 0,.int .i64 0,.int .i64 0,.slice none 0 0]),
  oS (.store 5 (.tmp 9) (.tmp 62)),
  oM 10 63])
 (.seq (.reg [oO 65 (.loadn 5 (.tmp 4)),
  oM 66 1,
  oO 67 (.call (.func 16) [(.tmp 65),(.tmp 66)]),
  oM 64 67,
  oE 68 64 0,
  oE 69 64 1,
  oO 11 (.alloc 26 [.int .i64 0,.int .i64 0,.int .i64 0,.int .i64 0,.slice none 0 0]),
  oS (.store 5 (.tmp 11) (.tmp 68)),
  oM 12 69])
 (.seq (.seq (.reg [oM 70 10,
  oM 71 12,
  oO 72 (.bin .neq (.tmp 70) (.tmp 71)),
  oM 73 72,
  oG 74 (.loadn 5 (.tmp 9)) 73 false,
  oG 75 (.loadn 5 (.tmp 11)) 73 false,
  oG 76 (.call (.func 133) [(.tmp 74),(.tmp 75)]) 73 false,
  oG 77 (.un .not (.tmp 76)) 73 false,
  oO 78 (.pick (.tmp 73) (.const (.bool true)) (.tmp 77))])
 (.cond (.tmp 78) (.seq (.reg [oO 8 (.mv (.const (.bool false)))])
 .ret) .skip))
 (.seq (.seq (.reg [oM 79 10,
  oO 80 (.bin .neq (.tmp 79) (oK 0))])
 (.cond (.tmp 80) (.seq (.reg [oO 8 (.mv (.const (.bool true)))])
 .ret) .skip))
 (.seq (.reg [oO 82 (.loadn 5 (.tmp 4)),
  oO 83 (.call (.func 17) [(.tmp 82)]),
  oM 81 83,
  oE 84 81 0,
  oE 85 81 1,
  oM 13 84,
  oM 14 85])
 (.seq (.reg [oO 87 (.loadn 5 (.tmp 9)),
  oO 88 (.call (.func 17) [(.tmp 87)]),
  oM 86 88,
  oE 89 86 0,
  oE 90 86 1,
  oM 15 89,
  oM 16 90])
 (.seq (.reg [oO 92 (.loadn 5 (.tmp 9)),
  oO 93 (.call (.func 18) [(.tmp 92)]),
  oM 91 93,
  oE 94 91 0,
  oE 95 91 1,
  oO 17 (.alloc 26 [.int .i64 0,.int .i64 0,.int .i64 0,.int .i64 0,.slice none 0 0]),
  oS (.store 5 (.tmp 17) (.tmp 94)),
  oM 18 95])
 (.seq (.reg [oO 97 (.loadn 5 (.tmp 17)),
  oO 98 (.call (.func 17) [(.tmp 97)]),
  oM 96 98,
  oE 99 96 0,
  oE 100 96 1,
  oM 19 99,
  oM 20 100])
 (.seq (.reg [oO 102 (.loadn 5 (.tmp 11)),
  oO 103 (.call (.func 134) [(.tmp 102)]),
  oM 101 103,
  oE 104 101 0,
  oE 105 101 1,
  oO 21 (.alloc 26 [.int .i64 0,.int .i64 0,.int .i64 0,.int .i64 0,.slice none 0 0]),
  oS (.store 5 (.tmp 21) (.tmp 104)),
  oM 22 105])
 (.seq (.seq (.reg [oO 106 (.loadn 5 (.tmp 17)),
  oO 107 (.loadn 5 (.tmp 21)),
  oO 108 (.call (.func 133) [(.tmp 106),(.tmp 107)]),
  oO 109 (.un .not (.tmp 108))])
 (.cond (.tmp 109) (.seq (.reg [oO 8 (.mv (.const (.bool false)))])
 .ret) .skip))
 (.seq (.reg [oO 111 (.loadn 5 (.tmp 4)),
  oO 112 (.call (.func 19) [(.tmp 111)]),
  oM 110 112,
  oE 113 110 0,
  oE 114 110 1,
  oO 23 (.alloc 36 [.int .i64 0,.int .i64 0,.int .i64 0,.int .i64 0,.slice none 0 0]),
  oS (.store 5 (.tmp 23) (.tmp 113)),
  oM 24 114])
 (.seq (.reg [oO 116 (.loadn 5 (.tmp 17)),
  oO 117 (.call (.func 19) [(.tmp 116)]),
  oM 115 117,
  oE 118 115 0,
  oE 119 115 1,
  oO 25 (.alloc 36 [.int .i64 0,.int .i64 0,.int .i64 0,.int .i64 0,.slice none 0 0]),
  oS (.store 5 (.tmp 25) (.tmp 118)),
  oM 26 119])
 (.seq (.seq (.reg [oM 120 14,
  oO 121 (.bin .neq (.tmp 120) (oK 0)),
  oM 122 121,
  oG 123 (.mv (.tmp 16)) 122 false,
  oG 124 (.bin .neq (.tmp 123) (oK 0)) 122 false,
  oO 125 (.pick (.tmp 122) (.const (.bool true)) (.tmp 124)),
  oM 126 125,
  oG 127 (.mv (.tmp 18)) 126 false,
  oG 128 (.bin .neq (.tmp 127) (oK 0)) 126 false,
  oO 129 (.pick (.tmp 126) (.const (.bool true)) (.tmp 128)),
  oM 130 129,
  oG 131 (.mv (.tmp 20)) 130 false,
  oG 132 (.bin .neq (.tmp 131) (oK 0)) 130 false,
  oO 133 (.pick (.tmp 130) (.const (.bool true)) (.tmp 132)),
  oM 134 133,
  oG 135 (.mv (.tmp 24)) 134 false,
  oG 136 (.bin .neq (.tmp 135) (oK 0)) 134 false,
  oO 137 (.pick (.tmp 134) (.const (.bool true)) (.tmp 136)),
  oM 138 137,
  oG 139 (.mv (.tmp 26)) 138 false,
  oG 140 (.bin .neq (.tmp 139) (oK 0)) 138 false,
  oO 141 (.pick (.tmp 138) (.const (.bool true)) (.tmp 140)),
  oM 142 141,
  oG 143 (.mv (.tmp 13)) 142 false,
  oG 144 (.mv (.tmp 15)) 142 false,
  oG 145 (.eqb true (.tmp 143) (.tmp 144)) 142 false,
  oO 146 (.pick (.tmp 142) (.const (.bool true)) (.tmp 145)),
  oM 147 146,
  oG 148 (.mv (.tmp 13)) 147 false,
  oG 149 (.mv (.tmp 19)) 147 false,
  oG 150 (.eqb true (.tmp 148) (.tmp 149)) 147 false,
  oO 151 (.pick (.tmp 147) (.const (.bool true)) (.tmp 150)),
  oM 152 151,
  oG 153 (.fadr 4 (.tmp 23)) 152 false,
  oG 154 (.load1 (.tmp 153)) 152 false,
  oG 155 (.fadr 4 (.tmp 25)) 152 false,
  oG 156 (.load1 (.tmp 155)) 152 false,
  oG 157 (.call (.func 20) [(.tmp 154),(.tmp 156)]) 152 false,
  oG 158 (.un .not (.tmp 157)) 152 false,
  oO 159 (.pick (.tmp 152) (.const (.bool true)) (.tmp 158))])
 (.cond (.tmp 159) (.seq (.reg [oO 8 (.mv (.const (.bool false)))])
 .ret) .skip))
 (.seq (.reg [oO 161 (.loadn 5 (.tmp 4)),
  oM 162 2,
  oM 163 3,
  oO 164 (.call (.func 21) [(.tmp 161),(.tmp 162),(.tmp 163)]),
  oM 160 164,
  oE 165 160 0,
  oE 166 160 1,
  oM 27 165,
  oM 28 166])
 (.seq (.reg [oO 168 (.loadn 5 (.tmp 17)),
  oM 169 2,
  oM 170 3,
  oO 171 (.call (.func 21) [(.tmp 168),(.tmp 169),(.tmp 170)]),
  oM 167 171,
  oE 172 167 0,
  oE 173 167 1,
  oM 29 172,
  oM 30 173])
 (.seq (.reg [oF 175 0 4,
  oL 176 175,
  oM 177 2,
  oM 178 3,
  oO 179 (.call (.func 22) [(.tmp 176),(.tmp 177),(.tmp 178)]),
  oM 174 179,
  oE 180 174 0,
  oE 181 174 1,
  oM 31 180,
  oM 32 181])
 (.seq (.reg [oO 183 (.loadn 5 (.tmp 4)),
  oM 184 2,
  oM 185 3,
  oO 186 (.call (.func 68) [(.tmp 183),(.tmp 184),(.tmp 185)]),
  oM 182 186,
  oE 187 182 0,
  oE 188 182 1,
  oM 33 187,
  oM 34 188])
 (.seq (.seq (.reg [oM 189 28,
  oM 190 34,
  oO 191 (.bin .neq (.tmp 189) (.tmp 190))])
 (.cond (.tmp 191) (.seq (.reg [oO 8 (.mv (.const (.bool false)))])
 .ret) .skip))
 (.seq (.seq (.reg [oM 192 28,
  oO 193 (.bin .neq (.tmp 192) (oK 0))])
 (.cond (.tmp 193) (.seq (.reg [oO 8 (.mv (.const (.bool true)))])
 .ret) .skip))
 (.seq (.seq (.reg [oM 194 30,
  oO 195 (.bin .neq (.tmp 194) (oK 0)),
  oM 196 195,
  oG 197 (.mv (.tmp 32)) 196 false,
  oG 198 (.bin .neq (.tmp 197) (oK 0)) 196 false,
  oO 199 (.pick (.tmp 196) (.const (.bool true)) (.tmp 198)),
  oM 200 199,
  oG 201 (.mv (.tmp 27)) 200 false,
  oG 202 (.len (.tmp 201)) 200 false,
  oG 203 (.mv (.tmp 29)) 200 false,
  oG 204 (.len (.tmp 203)) 200 false,
  oG 205 (.bin .neq (.tmp 202) (.tmp 204)) 200 false,
  oO 206 (.pick (.tmp 200) (.const (.bool true)) (.tmp 205)),
  oM 207 206,
  oG 208 (.mv (.tmp 27)) 207 false,
  oG 209 (.len (.tmp 208)) 207 false,
  oG 210 (.mv (.tmp 31)) 207 false,
  oG 211 (.len (.tmp 210)) 207 false,
  oG 212 (.bin .neq (.tmp 209) (.tmp 211)) 207 false,
  oO 213 (.pick (.tmp 207) (.const (.bool true)) (.tmp 212))])
 (.cond (.tmp 213) (.seq (.reg [oO 8 (.mv (.const (.bool false)))])
 .ret) .skip))
 (.seq (.seq (.reg [oO 35 (.mv (oK 0))])
 (.blk 0 (.loop (.seq (.seq (.reg [oM 214 35,
  oM 215 27,
  oN 216 215,
  oO 217 (.bin .lss (.tmp 214) (.tmp 216))])
 (.cond (.tmp 217) .skip (.exit 0)))
 (.seq (.blk 1 (.seq (.reg [oM 220 27,
  oM 221 35,
  oX 222 1 220 221,
  oL 223 222,
  oM 224 29,
  oM 225 35,
  oX 226 1 224 225,
  oL 227 226,
  oO 228 (.call (.func 20) [(.tmp 223),(.tmp 227)]),
  oO 229 (.un .not (.tmp 228)),
  oM 230 229,
  oG 231 (.mv (.tmp 13)) 230 false,
  oG 232 (.mv (.tmp 231)) 230 false,
  oG 233 (.mv (.tmp 27)) 232 true,
  oG 234 (.mv (.tmp 35)) 232 true,
  oG 235 (.ixs 1 (.tmp 233) (.tmp 234)) 232 true,
  oG 236 (.load1 (.tmp 235)) 232 true,
  oG 237 (.mv (.tmp 31)) 232 true,
  oG 238 (.mv (.tmp 35)) 232 true,
  oG 239 (.ixs 1 (.tmp 237) (.tmp 238)) 232 true,
  oG 240 (.load1 (.tmp 239)) 232 true,
  oG 241 (.call (.func 20) [(.tmp 236),(.tmp 240)]) 232 true,
  oG 242 (.un .not (.tmp 241)) 232 true,
  oG 243 (.pick (.tmp 232) (.tmp 242) (.const (.bool false))) 230 false,
  oO 244 (.pick (.tmp 230) (.const (.bool true)) (.tmp 243))])
 (.cond (.tmp 244) (.seq (.reg [oO 8 (.mv (.const (.bool false)))])
 .ret) .skip)))
 (.reg [oM 218 35,
  oO 219 (.bin .add (.tmp 218) (oK 1)),
  oM 35 219]))))))
 (.seq (.seq (.reg [oF 245 4 17,
  oL 246 245,
  oN 247 246,
  oO 248 (.bin .gtr (.tmp 247) (oK 0))])
 (.cond (.tmp 248) (.seq (.reg [oO 250 (.loadn 5 (.tmp 17)),
  oM 251 2,
  oM 252 3,
  oO 253 (.call (.func 23) [(.tmp 250),(.const (.bool true)),(.tmp 251),(.tmp 252)]),
  oM 249 253,
  oE 254 249 0,
  oE 255 249 1,
  oM 36 254,
  oM 37 255])
 (.seq (.seq (.reg [oM 256 37,
  oO 257 (.bin .neq (.tmp 256) (oK 0)),
  oM 258 257,
  oG 259 (.mv (.tmp 36)) 258 false,
  oG 260 (.len (.tmp 259)) 258 false,
  oG 261 (.mv (.tmp 27)) 258 false,
  oG 262 (.len (.tmp 261)) 258 false,
  oG 263 (.bin .neq (.tmp 260) (.tmp 262)) 258 false,
  oO 264 (.pick (.tmp 258) (.const (.bool true)) (.tmp 263))])
 (.cond (.tmp 264) (.seq (.reg [oO 8 (.mv (.const (.bool false)))])
 .ret) .skip))
 (.seq (.reg [oO 38 (.mv (oK 0))])
 (.blk 2 (.loop (.seq (.seq (.reg [oM 265 38,
  oM 266 27,
  oN 267 266,
  oO 268 (.bin .lss (.tmp 265) (.tmp 267))])
 (.cond (.tmp 268) .skip (.exit 2)))
 (.seq (.blk 3 (.seq (.reg [oM 271 27,
  oM 272 38,
  oX 273 1 271 272,
  oL 274 273,
  oM 275 36,
  oM 276 38,
  oX 277 1 275 276,
  oL 278 277,
  oO 279 (.call (.func 20) [(.tmp 274),(.tmp 278)]),
  oO 280 (.un .not (.tmp 279))])
 (.cond (.tmp 280) (.seq (.reg [oO 8 (.mv (.const (.bool false)))])
 .ret) .skip)))
 (.reg [oM 269 38,
  oO 270 (.bin .add (.tmp 269) (oK 1)),
  oM 38 270])))))))) .skip))
 (.seq (.reg [oO 8 (.mv (.const (.bool true)))])
 .ret)))))))))))))))))))))))))⟩
theorem s11:compFn Try.prog Try.f11=some c11:=by kernel_rfl
def c15:XFn:=
 ⟨[.celln 4 5,.tmp 5],
 (.seq (.reg [oO 2 (.box 26 (.tmp 0)),
  oO 4 (.alloc 26 [.int .i64 0,.int .i64 0,.int .i64 0,.int .i64 0,.slice none 0 0]),
  oO 5 (.mv (oK 0))])
 (.seq (.seq (.reg [oO 12 (.loadn 5 (.tmp 2)),
  oO 13 (.call (.func 149) [(.tmp 12)]),
  oO 14 (.un .not (.tmp 13))])
 (.cond (.tmp 14) (.seq (.reg [oO 15 (.build [.int .i64 0,.int .i64 0,.int .i64 0,.int .i64 0,.slice none 0 0] []),
  oS (.store 5 (.tmp 4) (.tmp 15)),
  oO 5 (.mv (oK 1))])
 .ret) .skip))
 (.seq (.seq (.reg [oM 16 1,
  oN 17 16,
  oO 18 (.bin .gtr (.tmp 17) (oK 200))])
 (.cond (.tmp 18) (.seq (.reg [oO 19 (.build [.int .i64 0,.int .i64 0,.int .i64 0,.int .i64 0,.slice none 0 0] []),
  oS (.store 5 (.tmp 4) (.tmp 19)),
  oO 5 (.mv (oK 2))])
 .ret) .skip))
 (.seq (.seq (.reg [oM 20 1,
  oN 21 20,
  oO 22 (.mv (oK 0))])
 (.blk 0 (.loop (.seq (.reg [oO 23 (.bin .lss (.tmp 22) (.tmp 21))])
 (.seq (.cond (.tmp 23) .skip (.exit 0))
 (.seq (.blk 1 (.seq (.reg [oX 24 1 20 22,
  oL 25 24,
  oM 7 25])
 (.seq (.reg [oM 26 7,
  oO 27 (.bin .lss (.tmp 26) (oK 0))])
 (.cond (.tmp 27) (.seq (.reg [oO 28 (.build [.int .i64 0,.int .i64 0,.int .i64 0,.int .i64 0,.slice none 0 0] []),
  oS (.store 5 (.tmp 4) (.tmp 28)),
  oO 5 (.mv (oK 2))])
 .ret) .skip))))
 (.reg [oO 29 (.bin .add (.tmp 22) (oK 1)),
  oM 22 29])))))))
 (.seq (.reg [oO 30 (.loadn 5 (.tmp 2)),
  oF 31 4 2,
  oL 32 31,
  ⟨some 33,.call (.func 151) [(.tmp 32)],none,(.u [(.tmp 2)])⟩,
  oO 34 (.call (.func 150) [(.tmp 30),(.tmp 33)]),
  oS (.store 5 (.tmp 2) (.tmp 34))])
 (.seq (.seq (.reg [oM 35 1,
  oN 36 35,
  oO 37 (.mv (oK 0))])
 (.blk 2 (.loop (.seq (.reg [oO 38 (.bin .lss (.tmp 37) (.tmp 36))])
 (.seq (.cond (.tmp 38) .skip (.exit 2))
 (.seq (.blk 3 (.seq (.reg [oX 39 1 35 37,
  oL 40 39,
  oM 9 40])
 (.seq (.reg [oO 41 (.loadn 5 (.tmp 2)),
  oO 42 (.call (.func 152) [(.tmp 41)]),
  oM 10 42])
 (.seq (.reg [oM 43 10,
  oN 44 43,
  oO 45 (.bin .gtr (.tmp 44) (oK 0))])
 (.cond (.tmp 45) (.seq (.reg [oM 46 10,
  oM 47 9,
  oM 48 10,
  oN 49 48,
  oO 50 (.bin .rem (.tmp 47) (.tmp 49)),
  oX 51 1 46 50,
  oL 52 51,
  oM 11 52])
 (.reg [oO 53 (.loadn 5 (.tmp 2)),
  oM 54 11,
  oO 55 (.ixs 1 (.tmp 54) (oK 0)),
  oL 56 55,
  oM 57 11,
  oO 58 (.ixs 1 (.tmp 57) (oK 1)),
  oL 59 58,
  oM 60 11,
  oO 61 (.ixs 1 (.tmp 60) (oK 2)),
  oL 62 61,
  oO 63 (.call (.func 153) [(.tmp 53),(.tmp 56),(.tmp 59),(.tmp 62),(oK 1)]),
  oS (.store 5 (.tmp 2) (.tmp 63))])) .skip)))))
 (.reg [oO 64 (.bin .add (.tmp 37) (oK 1)),
  oM 37 64])))))))
 (.seq (.reg [oO 65 (.loadn 5 (.tmp 2)),
  oS (.store 5 (.tmp 4) (.tmp 65)),
  oO 5 (.mv (oK 0))])
 .ret)))))))⟩
theorem s15:compFn Try.prog Try.f15=some c15:=by kernel_rfl
def c16:XFn:=
 ⟨[.celln 4 5,.tmp 5],
 (.seq (.reg [oO 2 (.box 26 (.tmp 0)),
  oO 4 (.alloc 26 [.int .i64 0,.int .i64 0,.int .i64 0,.int .i64 0,.slice none 0 0]),
  oO 5 (.mv (oK 0))])
 (.seq (.seq (.reg [oO 11 (.loadn 5 (.tmp 2)),
  oO 12 (.call (.func 154) [(.tmp 11)]),
  oO 13 (.un .not (.tmp 12))])
 (.cond (.tmp 13) (.seq (.reg [oO 14 (.build [.int .i64 0,.int .i64 0,.int .i64 0,.int .i64 0,.slice none 0 0] []),
  oS (.store 5 (.tmp 4) (.tmp 14)),
  oO 5 (.mv (oK 1))])
 .ret) .skip))
 (.seq (.seq (.reg [oM 15 1,
  oN 16 15,
  oO 17 (.bin .gtr (.tmp 16) (oK 200))])
 (.cond (.tmp 17) (.seq (.reg [oO 18 (.build [.int .i64 0,.int .i64 0,.int .i64 0,.int .i64 0,.slice none 0 0] []),
  oS (.store 5 (.tmp 4) (.tmp 18)),
  oO 5 (.mv (oK 2))])
 .ret) .skip))
 (.seq (.seq (.reg [oO 6 (.mv (oK 0))])
 (.blk 0 (.loop (.seq (.seq (.reg [oM 19 6,
  oM 20 1,
  oN 21 20,
  oO 22 (.bin .lss (.tmp 19) (.tmp 21))])
 (.cond (.tmp 22) .skip (.exit 0)))
 (.seq (.blk 1 (.seq (.reg [oM 25 1,
  oM 26 6,
  oX 27 1 25 26,
  oL 28 27,
  oO 29 (.bin .lss (.tmp 28) (oK 0))])
 (.cond (.tmp 29) (.seq (.reg [oO 30 (.build [.int .i64 0,.int .i64 0,.int .i64 0,.int .i64 0,.slice none 0 0] []),
  oS (.store 5 (.tmp 4) (.tmp 30)),
  oO 5 (.mv (oK 2))])
 .ret) .skip)))
 (.reg [oM 23 6,
  oO 24 (.bin .add (.tmp 23) (oK 1)),
  oM 6 24]))))))
 (.seq (.reg [oO 31 (.loadn 5 (.tmp 2)),
  oF 32 4 2,
  oL 33 32,
  oO 34 (.call (.func 155) [(.tmp 31),(.tmp 33)]),
  oO 7 (.alloc 26 [.int .i64 0,.int .i64 0,.int .i64 0,.int .i64 0,.slice none 0 0]),
  oS (.store 5 (.tmp 7) (.tmp 34))])
 (.seq (.seq (.reg [oO 8 (.mv (oK 0))])
 (.blk 2 (.loop (.seq (.seq (.reg [oM 35 8,
  oM 36 1,
  oN 37 36,
  oO 38 (.bin .lss (.tmp 35) (.tmp 37))])
 (.cond (.tmp 38) .skip (.exit 2)))
 (.seq (.blk 3 (.seq (.reg [oO 41 (.loadn 5 (.tmp 7)),
  oO 42 (.call (.func 156) [(.tmp 41)]),
  oM 9 42])
 (.seq (.seq (.reg [oM 43 9,
  oN 44 43,
  oO 45 (.bin .eql (.tmp 44) (oK 0))])
 (.cond (.tmp 45) (.exit 2) .skip))
 (.seq (.reg [oM 46 9,
  oM 47 1,
  oM 48 8,
  oX 49 1 47 48,
  oL 50 49,
  oM 51 9,
  oN 52 51,
  oO 53 (.bin .rem (.tmp 50) (.tmp 52)),
  oX 54 1 46 53,
  oL 55 54,
  oM 10 55])
 (.reg [oO 56 (.loadn 5 (.tmp 7)),
  oM 57 10,
  oO 58 (.ixs 1 (.tmp 57) (oK 0)),
  oL 59 58,
  oM 60 10,
  oO 61 (.ixs 1 (.tmp 60) (oK 1)),
  oL 62 61,
  oM 63 10,
  oO 64 (.ixs 1 (.tmp 63) (oK 2)),
  oL 65 64,
  oO 66 (.call (.func 157) [(.tmp 56),(.tmp 59),(.tmp 62),(.tmp 65),(oK 1)]),
  oS (.store 5 (.tmp 7) (.tmp 66))])))))
 (.reg [oM 39 8,
  oO 40 (.bin .add (.tmp 39) (oK 1)),
  oM 8 40]))))))
 (.seq (.reg [oO 67 (.loadn 5 (.tmp 7)),
  oS (.store 5 (.tmp 4) (.tmp 67)),
  oO 5 (.mv (oK 0))])
 .ret)))))))⟩
theorem s16:compFn Try.prog Try.f16=some c16:=by kernel_rfl
def c17:XFn:=
 ⟨[.tmp 2,.tmp 3],
 (.seq (.reg [oO 1 (.box 26 (.tmp 0)),
  oO 2 (.mv (.const (.bool false))),
  oO 3 (.mv (oK 0))])
 (.seq (.seq (.reg [oO 4 (.loadn 5 (.tmp 1)),
  oO 5 (.call (.func 149) [(.tmp 4)]),
  oO 6 (.un .not (.tmp 5))])
 (.cond (.tmp 6) (.seq (.reg [oO 2 (.mv (.const (.bool false))),
  oO 3 (.mv (oK 1))])
 .ret) .skip))
 (.seq (.reg [oO 7 (.loadn 5 (.tmp 1)),
  oO 8 (.call (.func 158) [(.tmp 7)]),
  oN 9 8,
  oO 10 (.bin .eql (.tmp 9) (oK 0)),
  oM 2 10,
  oO 3 (.mv (oK 0))])
 .ret)))⟩
theorem s17:compFn Try.prog Try.f17=some c17:=by kernel_rfl
def c18:XFn:=
 ⟨[.celln 2 5,.tmp 3],
 (.seq (.reg [oO 1 (.box 26 (.tmp 0)),
  oO 2 (.alloc 26 [.int .i64 0,.int .i64 0,.int .i64 0,.int .i64 0,.slice none 0 0]),
  oO 3 (.mv (oK 0))])
 (.seq (.seq (.reg [oO 6 (.loadn 5 (.tmp 1)),
  oO 7 (.call (.func 149) [(.tmp 6)]),
  oO 8 (.un .not (.tmp 7))])
 (.cond (.tmp 8) (.seq (.reg [oO 9 (.build [.int .i64 0,.int .i64 0,.int .i64 0,.int .i64 0,.slice none 0 0] []),
  oS (.store 5 (.tmp 2) (.tmp 9)),
  oO 3 (.mv (oK 1))])
 .ret) .skip))
 (.seq (.reg [oO 10 (.loadn 5 (.tmp 1)),
  oO 11 (.call (.func 159) [(.tmp 10)]),
  oO 12 (.fld1 4 (.tmp 11)),
  oM 4 12,
  oO 5 (.mv (.const (.bool true)))])
 (.seq (.blk 0 (.loop (.seq (.seq (.reg [oM 13 5])
 (.cond (.tmp 13) .skip (.exit 0)))
 (.blk 1 (.reg [oF 15 0 1,
  oL 16 15,
  oM 17 4,
  oO 18 (.call (.func 160) [(.tmp 16),(.tmp 17)]),
  oM 14 18,
  oE 19 14 0,
  oE 20 14 1,
  oM 4 19,
  oM 5 20])))))
 (.seq (.reg [oO 21 (.loadn 5 (.tmp 1)),
  oM 22 4,
  oO 23 (.call (.func 150) [(.tmp 21),(.tmp 22)]),
  oS (.store 5 (.tmp 2) (.tmp 23)),
  oO 3 (.mv (oK 0))])
 .ret)))))⟩
theorem s18:compFn Try.prog Try.f18=some c18:=by kernel_rfl
def c19:XFn:=
 ⟨[.celln 2 5,.tmp 3],
 (.seq (.reg [oO 1 (.box 26 (.tmp 0)),
  oO 2 (.alloc 36 [.int .i64 0,.int .i64 0,.int .i64 0,.int .i64 0,.slice none 0 0]),
  oO 3 (.mv (oK 0))])
 (.seq (.seq (.reg [oO 4 (.loadn 5 (.tmp 1)),
  oO 5 (.call (.func 149) [(.tmp 4)]),
  oO 6 (.un .not (.tmp 5))])
 (.cond (.tmp 6) (.seq (.reg [oO 7 (.build [.int .i64 0,.int .i64 0,.int .i64 0,.int .i64 0,.slice none 0 0] []),
  oS (.store 5 (.tmp 2) (.tmp 7)),
  oO 3 (.mv (oK 1))])
 .ret) .skip))
 (.seq (.reg [oO 8 (.loadn 5 (.tmp 1)),
  oO 9 (.call (.func 161) [(.tmp 8)]),
  oS (.store 5 (.tmp 2) (.tmp 9)),
  oO 3 (.mv (oK 0))])
 .ret)))⟩
theorem s19:compFn Try.prog Try.f19=some c19:=by kernel_rfl
def c20:XFn:=
 ⟨[.tmp 4],
 (.seq (.reg [oO 4 (.mv (.const (.bool false)))])
 (.seq (.seq (.reg [oM 6 0,
  oN 7 6,
  oM 8 1,
  oN 9 8,
  oO 10 (.bin .neq (.tmp 7) (.tmp 9))])
 (.cond (.tmp 10) (.seq (.reg [oO 4 (.mv (.const (.bool false)))])
 .ret) .skip))
 (.seq (.seq (.reg [oO 5 (.mv (oK 0))])
 (.blk 0 (.loop (.seq (.seq (.reg [oM 11 5,
  oM 12 0,
  oN 13 12,
  oO 14 (.bin .lss (.tmp 11) (.tmp 13))])
 (.cond (.tmp 14) .skip (.exit 0)))
 (.seq (.blk 1 (.seq (.reg [oM 17 0,
  oM 18 5,
  oX 19 1 17 18,
  oL 20 19,
  oM 21 1,
  oM 22 5,
  oX 23 1 21 22,
  oL 24 23,
  oO 25 (.bin .neq (.tmp 20) (.tmp 24))])
 (.cond (.tmp 25) (.seq (.reg [oO 4 (.mv (.const (.bool false)))])
 .ret) .skip)))
 (.reg [oM 15 5,
  oO 16 (.bin .add (.tmp 15) (oK 1)),
  oM 5 16]))))))
 (.seq (.reg [oO 4 (.mv (.const (.bool true)))])
 .ret))))⟩
theorem s20:compFn Try.prog Try.f20=some c20:=by kernel_rfl
def c21:XFn:=
 ⟨[.tmp 6,.tmp 7],
 (.seq (.reg [oO 3 (.box 26 (.tmp 0)),
  oO 6 (.mv (.const (.slice none 0 0))),
  oO 7 (.mv (oK 0))])
 (.seq (.seq (.reg [oO 9 (.loadn 5 (.tmp 3)),
  oM 10 1,
  oM 11 2,
  oO 12 (.call (.func 162) [(.tmp 9),(.tmp 10),(.tmp 11)]),
  oM 8 12])
 (.seq (.reg [oM 13 8,
  oO 14 (.bin .neq (.tmp 13) (oK 0))])
 (.cond (.tmp 14) (.seq (.reg [oM 15 8,
  oO 6 (.mv (.const (.slice none 0 0))),
  oM 7 15])
 .ret) .skip)))
 (.seq (.reg [oF 16 0 3,
  oL 17 16,
  oF 18 4 3,
  oL 19 18,
  oF 20 1 3,
  oL 21 20,
  oF 22 3 3,
  oL 23 22,
  oO 24 (.bin .mul (.tmp 21) (.tmp 23)),
  oM 25 1,
  ⟨some 26,.call (.func 165) [(.tmp 25)],none,.t⟩,
  oM 27 2,
  ⟨some 28,.call (.func 165) [(.tmp 27)],none,.t⟩,
  ⟨some 29,.call (.func 164) [(.tmp 17),(.tmp 19),(.tmp 24),(.tmp 26),(.tmp 28)],none,.t⟩,
  oF 30 3 3,
  oL 31 30,
  oO 32 (.call (.func 163) [(.tmp 29),(.tmp 31)]),
  oM 6 32,
  oO 7 (.mv (oK 0))])
 .ret)))⟩
theorem s21:compFn Try.prog Try.f21=some c21:=by kernel_rfl
def c22:XFn:=
 ⟨[.tmp 6,.tmp 7],
 (.seq (.reg [oO 6 (.mv (.const (.slice none 0 0))),
  oO 7 (.mv (oK 0))])
 (.seq (.reg [oM 11 1,
  oN 12 11,
  oM 13 2,
  oN 14 13,
  oM 8 12,
  oM 9 14])
 (.seq (.seq (.reg [oM 15 0,
  oO 16 (.call (.func 166) [(.tmp 15)]),
  oO 17 (.un .not (.tmp 16)),
  oM 18 17,
  oG 19 (.mv (.tmp 8)) 18 false,
  oG 20 (.mv (.tmp 9)) 18 false,
  oG 21 (.bslice 2 1 2 [.int .i64 0] [(0,1,(.tmp 19)),(1,1,(.tmp 20))]) 18 false,
  oG 22 (.call (.func 167) [(.tmp 21)]) 18 false,
  oG 23 (.un .not (.tmp 22)) 18 false,
  oO 24 (.pick (.tmp 18) (.const (.bool true)) (.tmp 23))])
 (.cond (.tmp 24) (.seq (.reg [oO 6 (.mv (.const (.slice none 0 0))),
  oO 7 (.mv (oK 2))])
 .ret) .skip))
 (.seq (.reg [oM 25 2,
  oO 26 (.ixs 1 (.tmp 25) (oK 0)),
  oL 27 26,
  oN 28 27,
  oM 10 28])
 (.seq (.seq (.reg [oM 29 10,
  oO 30 (.bslice 2 1 1 [.int .i64 0] [(0,1,(.tmp 29))]),
  oO 31 (.call (.func 167) [(.tmp 30)]),
  oO 32 (.un .not (.tmp 31)),
  oM 33 32,
  oG 34 (.mv (.tmp 0)) 33 false,
  oG 35 (.mv (.tmp 8)) 33 false,
  oG 36 (.mv (.tmp 9)) 33 false,
  oG 37 (.mv (.tmp 1)) 33 false,
  oG 38 (.call (.func 168) [(.tmp 34),(.tmp 35),(.tmp 36),(.tmp 37)]) 33 false,
  oG 39 (.un .not (.tmp 38)) 33 false,
  oO 40 (.pick (.tmp 33) (.const (.bool true)) (.tmp 39)),
  oM 41 40,
  oG 42 (.mv (.tmp 0)) 41 false,
  oG 43 (.mv (.tmp 9)) 41 false,
  oG 44 (.mv (.tmp 10)) 41 false,
  oG 45 (.mv (.tmp 2)) 41 false,
  oG 46 (.call (.func 168) [(.tmp 42),(.tmp 43),(.tmp 44),(.tmp 45)]) 41 false,
  oG 47 (.un .not (.tmp 46)) 41 false,
  oO 48 (.pick (.tmp 41) (.const (.bool true)) (.tmp 47))])
 (.cond (.tmp 48) (.seq (.reg [oO 6 (.mv (.const (.slice none 0 0))),
  oO 7 (.mv (oK 2))])
 .ret) .skip))
 (.seq (.reg [oM 49 0,
  oM 50 1,
  oM 51 2,
  oO 52 (.call (.func 169) [(.tmp 49),(.tmp 50),(.tmp 51)]),
  oM 6 52,
  oO 7 (.mv (oK 0))])
 .ret))))))⟩
theorem s22:compFn Try.prog Try.f22=some c22:=by kernel_rfl
def c23:XFn:=
 ⟨[.tmp 8,.tmp 9],
 (.seq (.reg [oO 4 (.box 26 (.tmp 0)),
  oO 8 (.mv (.const (.slice none 0 0))),
  oO 9 (.mv (oK 0))])
 (.seq (.seq (.reg [oO 15 (.loadn 5 (.tmp 4)),
  oM 16 2,
  oM 17 3,
  oO 18 (.call (.func 162) [(.tmp 15),(.tmp 16),(.tmp 17)]),
  oM 10 18])
 (.seq (.reg [oM 19 10,
  oO 20 (.bin .neq (.tmp 19) (oK 0))])
 (.cond (.tmp 20) (.seq (.reg [oM 21 10,
  oO 8 (.mv (.const (.slice none 0 0))),
  oM 9 21])
 .ret) .skip)))
 (.seq (.seq (.reg [oF 22 4 4,
  oL 23 22,
  oN 24 23,
  oO 25 (.bin .eql (.tmp 24) (oK 0))])
 (.cond (.tmp 25) (.seq (.reg [oO 8 (.mv (.const (.slice none 0 0))),
  oO 9 (.mv (oK 5))])
 .ret) .skip))
 (.seq (.reg [oO 26 (.loadn 5 (.tmp 4)),
  oM 27 1,
  oO 28 (.call (.func 170) [(.tmp 26),(.tmp 27)]),
  oM 11 28])
 (.seq (.reg [oM 29 11,
  oO 30 (.ixs 4 (.tmp 29) (oK 0)),
  oO 31 (.loadn 4 (.tmp 30)),
  oM 32 2,
  ⟨some 33,.call (.func 165) [(.tmp 32)],none,.t⟩,
  ⟨some 34,.call (.func 171) [(.tmp 31),(.tmp 33)],none,.t⟩,
  oM 35 11,
  oO 36 (.ixs 4 (.tmp 35) (oK 1)),
  oO 37 (.loadn 4 (.tmp 36)),
  oM 38 3,
  ⟨some 39,.call (.func 165) [(.tmp 38)],none,.t⟩,
  oO 40 (.call (.func 171) [(.tmp 37),(.tmp 39)]),
  oM 12 34,
  oM 13 40])
 (.seq (.seq (.reg [oM 41 12,
  oN 42 41,
  oO 43 (.mv (oK 0))])
 (.blk 0 (.loop (.seq (.reg [oO 44 (.bin .lss (.tmp 43) (.tmp 42))])
 (.seq (.cond (.tmp 44) .skip (.exit 0))
 (.seq (.blk 1 (.seq (.reg [oM 45 43,
  oM 14 45])
 (.reg [oM 46 12,
  oM 47 14,
  oM 48 12,
  oM 49 14,
  oX 50 1 48 49,
  oL 51 50,
  oM 52 13,
  oM 53 14,
  oX 54 1 52 53,
  oL 55 54,
  oO 56 (.bin .mul (.tmp 51) (.tmp 55)),
  oF 57 0 4,
  oL 58 57,
  oO 59 (.bin .rem (.tmp 56) (.tmp 58)),
  oX 60 1 46 47,
  oS (.store 1 (.tmp 60) (.tmp 59))])))
 (.reg [oO 61 (.bin .add (.tmp 43) (oK 1)),
  oM 43 61])))))))
 (.seq (.reg [oM 62 11,
  oO 63 (.ixs 4 (.tmp 62) (oK 2)),
  oO 64 (.loadn 4 (.tmp 63)),
  oM 65 12,
  ⟨some 66,.call (.func 171) [(.tmp 64),(.tmp 65)],none,.t⟩,
  oF 67 3 4,
  oL 68 67,
  oO 69 (.call (.func 163) [(.tmp 66),(.tmp 68)]),
  oM 8 69,
  oO 9 (.mv (oK 0))])
 .ret)))))))⟩
theorem s23:compFn Try.prog Try.f23=some c23:=by kernel_rfl
def c68:XFn:=
 ⟨[.tmp 6,.tmp 7],
 (.seq (.reg [oO 3 (.box 26 (.tmp 0)),
  oO 6 (.mv (.const (.slice none 0 0))),
  oO 7 (.mv (oK 0))])
 (.seq (.blk 0 (.seq (.reg [oO 9 (.loadn 5 (.tmp 3)),
  oO 10 (.call (.func 154) [(.tmp 9)]),
  oO 11 (.un .not (.tmp 10)),
  oM 8 11])
 (.cond (.tmp 8) (.seq (.reg [oO 6 (.mv (.const (.slice none 0 0))),
  oO 7 (.mv (oK 1))])
 .ret) (.seq (.reg [oF 13 0 3,
  oL 14 13,
  oM 15 1,
  oF 16 1 3,
  oL 17 16,
  oF 18 2 3,
  oL 19 18,
  oO 20 (.call (.func 214) [(.tmp 14),(.tmp 15),(.tmp 17),(.tmp 19)]),
  oO 21 (.un .not (.tmp 20)),
  oM 22 21,
  oG 23 (.fadr 0 (.tmp 3)) 22 false,
  oG 24 (.load1 (.tmp 23)) 22 false,
  oG 25 (.mv (.tmp 2)) 22 false,
  oG 26 (.fadr 2 (.tmp 3)) 22 false,
  oG 27 (.load1 (.tmp 26)) 22 false,
  oG 28 (.fadr 3 (.tmp 3)) 22 false,
  oG 29 (.load1 (.tmp 28)) 22 false,
  oG 30 (.call (.func 214) [(.tmp 24),(.tmp 25),(.tmp 27),(.tmp 29)]) 22 false,
  oG 31 (.un .not (.tmp 30)) 22 false,
  oO 32 (.pick (.tmp 22) (.const (.bool true)) (.tmp 31)),
  oM 12 32])
 (.cond (.tmp 12) (.seq (.reg [oO 6 (.mv (.const (.slice none 0 0))),
  oO 7 (.mv (oK 2))])
 .ret) .skip)))))
 (.seq (.reg [oO 33 (.loadn 5 (.tmp 3)),
  oM 34 1,
  oM 35 2,
  oO 36 (.call (.func 215) [(.tmp 33),(.tmp 34),(.tmp 35)]),
  oM 6 36,
  oO 7 (.mv (oK 0))])
 .ret)))⟩
theorem s68:compFn Try.prog Try.f68=some c68:=by kernel_rfl
def c133:XFn:=
 ⟨[.tmp 4],
 (.seq (.reg [oO 2 (.box 26 (.tmp 0)),
  oO 3 (.box 26 (.tmp 1)),
  oO 4 (.mv (.const (.bool false)))])
 (.seq (.seq (.reg [oF 6 0 2,
  oL 7 6,
  oF 8 0 3,
  oL 9 8,
  oO 10 (.bin .neq (.tmp 7) (.tmp 9)),
  oM 11 10,
  oG 12 (.fadr 1 (.tmp 2)) 11 false,
  oG 13 (.load1 (.tmp 12)) 11 false,
  oG 14 (.fadr 1 (.tmp 3)) 11 false,
  oG 15 (.load1 (.tmp 14)) 11 false,
  oG 16 (.bin .neq (.tmp 13) (.tmp 15)) 11 false,
  oO 17 (.pick (.tmp 11) (.const (.bool true)) (.tmp 16)),
  oM 18 17,
  oG 19 (.fadr 2 (.tmp 2)) 18 false,
  oG 20 (.load1 (.tmp 19)) 18 false,
  oG 21 (.fadr 2 (.tmp 3)) 18 false,
  oG 22 (.load1 (.tmp 21)) 18 false,
  oG 23 (.bin .neq (.tmp 20) (.tmp 22)) 18 false,
  oO 24 (.pick (.tmp 18) (.const (.bool true)) (.tmp 23)),
  oM 25 24,
  oG 26 (.fadr 3 (.tmp 2)) 25 false,
  oG 27 (.load1 (.tmp 26)) 25 false,
  oG 28 (.fadr 3 (.tmp 3)) 25 false,
  oG 29 (.load1 (.tmp 28)) 25 false,
  oG 30 (.bin .neq (.tmp 27) (.tmp 29)) 25 false,
  oO 31 (.pick (.tmp 25) (.const (.bool true)) (.tmp 30)),
  oM 32 31,
  oG 33 (.fadr 4 (.tmp 2)) 32 false,
  oG 34 (.load1 (.tmp 33)) 32 false,
  oG 35 (.len (.tmp 34)) 32 false,
  oG 36 (.fadr 4 (.tmp 3)) 32 false,
  oG 37 (.load1 (.tmp 36)) 32 false,
  oG 38 (.len (.tmp 37)) 32 false,
  oG 39 (.bin .neq (.tmp 35) (.tmp 38)) 32 false,
  oO 40 (.pick (.tmp 32) (.const (.bool true)) (.tmp 39))])
 (.cond (.tmp 40) (.seq (.reg [oO 4 (.mv (.const (.bool false)))])
 .ret) .skip))
 (.seq (.seq (.reg [oO 5 (.mv (oK 0))])
 (.blk 0 (.loop (.seq (.seq (.reg [oM 41 5,
  oF 42 4 2,
  oL 43 42,
  oN 44 43,
  oO 45 (.bin .lss (.tmp 41) (.tmp 44))])
 (.cond (.tmp 45) .skip (.exit 0)))
 (.seq (.blk 1 (.seq (.reg [oF 48 4 2,
  oL 49 48,
  oM 50 5,
  oX 51 27 49 50,
  oO 52 (.loadn 27 (.tmp 51)),
  oF 53 4 3,
  oL 54 53,
  oM 55 5,
  oX 56 27 54 55,
  oO 57 (.loadn 27 (.tmp 56)),
  oO 58 (.eqa true 27 (.tmp 52) (.tmp 57))])
 (.cond (.tmp 58) (.seq (.reg [oO 4 (.mv (.const (.bool false)))])
 .ret) .skip)))
 (.reg [oM 46 5,
  oO 47 (.bin .add (.tmp 46) (oK 1)),
  oM 5 47]))))))
 (.seq (.reg [oO 4 (.mv (.const (.bool true)))])
 .ret))))⟩
theorem s133:compFn Try.prog Try.f133=some c133:=by kernel_rfl
def c134:XFn:=
 ⟨[.celln 2 5,.tmp 3],
 (.seq (.reg [oO 1 (.box 26 (.tmp 0)),
  oO 2 (.alloc 26 [.int .i64 0,.int .i64 0,.int .i64 0,.int .i64 0,.slice none 0 0]),
  oO 3 (.mv (oK 0))])
 (.seq (.seq (.reg [oO 4 (.loadn 5 (.tmp 1)),
  oO 5 (.call (.func 154) [(.tmp 4)]),
  oO 6 (.un .not (.tmp 5))])
 (.cond (.tmp 6) (.seq (.reg [oO 7 (.build [.int .i64 0,.int .i64 0,.int .i64 0,.int .i64 0,.slice none 0 0] []),
  oS (.store 5 (.tmp 2) (.tmp 7)),
  oO 3 (.mv (oK 1))])
 .ret) .skip))
 (.seq (.reg [oO 8 (.loadn 5 (.tmp 1)),
  oO 9 (.call (.func 259) [(.tmp 8)]),
  oS (.store 5 (.tmp 2) (.tmp 9)),
  oO 3 (.mv (oK 0))])
 .ret)))⟩
theorem s134:compFn Try.prog Try.f134=some c134:=by kernel_rfl
def c149:XFn:=
 ⟨[.tmp 2],
 (.seq (.reg [oO 1 (.box 26 (.tmp 0)),
  oO 2 (.mv (.const (.bool false)))])
 (.seq (.seq (.reg [oF 5 0 1,
  oL 6 5,
  oO 7 (.call (.func 166) [(.tmp 6)]),
  oO 8 (.un .not (.tmp 7)),
  oM 9 8,
  oG 10 (.fadr 1 (.tmp 1)) 9 false,
  oG 11 (.load1 (.tmp 10)) 9 false,
  oG 12 (.fadr 2 (.tmp 1)) 9 false,
  oG 13 (.load1 (.tmp 12)) 9 false,
  oG 14 (.fadr 3 (.tmp 1)) 9 false,
  oG 15 (.load1 (.tmp 14)) 9 false,
  oG 16 (.bslice 2 1 3 [.int .i64 0] [(0,1,(.tmp 11)),(1,1,(.tmp 13)),(2,1,(.tmp 15))]) 9 false,
  oG 17 (.call (.func 167) [(.tmp 16)]) 9 false,
  oG 18 (.un .not (.tmp 17)) 9 false,
  oO 19 (.pick (.tmp 9) (.const (.bool true)) (.tmp 18)),
  oM 20 19,
  oG 21 (.fadr 4 (.tmp 1)) 20 false,
  oG 22 (.load1 (.tmp 21)) 20 false,
  oG 23 (.len (.tmp 22)) 20 false,
  oG 24 (.bin .gtr (.tmp 23) (oK 30)) 20 false,
  oO 25 (.pick (.tmp 20) (.const (.bool true)) (.tmp 24))])
 (.cond (.tmp 25) (.seq (.reg [oO 2 (.mv (.const (.bool false)))])
 .ret) .skip))
 (.seq (.seq (.reg [oF 26 4 1,
  oL 27 26,
  oN 28 27,
  oO 29 (.mv (oK 0))])
 (.blk 0 (.loop (.seq (.reg [oO 30 (.bin .lss (.tmp 29) (.tmp 28))])
 (.seq (.cond (.tmp 30) .skip (.exit 0))
 (.seq (.blk 1 (.seq (.reg [oX 31 27 27 29,
  oO 32 (.loadn 27 (.tmp 31)),
  oO 4 (.alloc 138 [.int .u8 0,.int .u8 0,.int .u8 0,.int .u8 0,.int .u8 0,.int .u8 0,.int .u8 0,.int .u8 0,.int .u8 0,.int .u8 0,.int .u8 0,.int .u8 0,.int .u8 0,.int .u8 0,.int .u8 0,.int .u8 0,.int .u8 0,.int .u8 0,.int .u8 0,.int .u8 0,.int .u8 0,.int .u8 0,.int .u8 0,.int .u8 0,.int .u8 0,.int .u8 0,.int .u8 0]),
  oS (.store 27 (.tmp 4) (.tmp 32))])
 (.seq (.reg [oF 33 0 1,
  oL 34 33,
  oO 35 (.loadn 5 (.tmp 1)),
  ⟨some 36,.call (.func 271) [(.tmp 35)],none,.t⟩,
  oO 37 (.loadn 27 (.tmp 4)),
  oO 38 (.call (.func 270) [(.tmp 34),(.tmp 36),(.tmp 37)]),
  oO 39 (.un .not (.tmp 38))])
 (.cond (.tmp 39) (.seq (.reg [oO 2 (.mv (.const (.bool false)))])
 .ret) .skip))))
 (.reg [oO 40 (.bin .add (.tmp 29) (oK 1)),
  oM 29 40])))))))
 (.seq (.reg [oO 2 (.mv (.const (.bool true)))])
 .ret))))⟩
theorem s149:compFn Try.prog Try.f149=some c149:=by kernel_rfl
def c150:XFn:=
 ⟨[.celln 4 5],
 (.seq (.reg [oO 2 (.box 26 (.tmp 0)),
  oO 4 (.alloc 26 [.int .i64 0,.int .i64 0,.int .i64 0,.int .i64 0,.slice none 0 0])])
 (.seq (.reg [oM 5 1,
  oF 6 4 2,
  oS (.store 1 (.tmp 6) (.tmp 5))])
 (.seq (.reg [oO 7 (.loadn 5 (.tmp 2)),
  oS (.store 5 (.tmp 4) (.tmp 7))])
 .ret)))⟩
theorem s150:compFn Try.prog Try.f150=some c150:=by kernel_rfl
def c151:XFn:=
 ⟨[.tmp 2],
 (.seq (.reg [oO 2 (.mv (.const (.slice none 0 0)))])
 (.seq (.seq (.reg [oM 3 0,
  oO 4 (.isnil false (.tmp 3))])
 (.cond (.tmp 4) (.seq (.reg [oO 2 (.mv (.const (.slice none 0 0)))])
 .ret) .skip))
 (.seq (.reg [oO 5 (.bslice 138 27 0 [.int .u8 0,.int .u8 0,.int .u8 0,.int .u8 0,.int .u8 0,.int .u8 0,.int .u8 0,.int .u8 0,.int .u8 0,.int .u8 0,.int .u8 0,.int .u8 0,.int .u8 0,.int .u8 0,.int .u8 0,.int .u8 0,.int .u8 0,.int .u8 0,.int .u8 0,.int .u8 0,.int .u8 0,.int .u8 0,.int .u8 0,.int .u8 0,.int .u8 0,.int .u8 0,.int .u8 0] []),
  oM 6 0,
  oO 7 (.app 138 27 27 (.tmp 5) (.tmp 6)),
  oM 2 7])
 .ret)))⟩
theorem s151:compFn Try.prog Try.f151=some c151:=by kernel_rfl
def c152:XFn:=
 ⟨[.tmp 2],
 (.seq (.reg [oO 1 (.box 26 (.tmp 0)),
  oO 2 (.mv (.const (.slice none 0 0)))])
 (.seq (.reg [oO 9 (.bslice 27 1 0 [.slice none 0 0] []),
  oM 3 9])
 (.seq (.seq (.reg [oF 10 4 1,
  oL 11 10,
  oN 12 11,
  oO 13 (.mv (oK 0))])
 (.blk 0 (.loop (.seq (.reg [oO 14 (.bin .lss (.tmp 13) (.tmp 12))])
 (.seq (.cond (.tmp 14) .skip (.exit 0))
 (.seq (.blk 1 (.seq (.reg [oM 15 13,
  oX 16 27 11 13,
  oO 17 (.loadn 27 (.tmp 16)),
  oO 5 (.alloc 138 [.int .u8 0,.int .u8 0,.int .u8 0,.int .u8 0,.int .u8 0,.int .u8 0,.int .u8 0,.int .u8 0,.int .u8 0,.int .u8 0,.int .u8 0,.int .u8 0,.int .u8 0,.int .u8 0,.int .u8 0,.int .u8 0,.int .u8 0,.int .u8 0,.int .u8 0,.int .u8 0,.int .u8 0,.int .u8 0,.int .u8 0,.int .u8 0,.int .u8 0,.int .u8 0,.int .u8 0]),
  oM 4 15,
  oS (.store 27 (.tmp 5) (.tmp 17))])
 (.seq (.reg [oF 18 4 1,
  oL 19 18,
  oN 20 19,
  oO 21 (.mv (oK 0))])
 (.blk 2 (.loop (.seq (.reg [oO 22 (.bin .lss (.tmp 21) (.tmp 20))])
 (.seq (.cond (.tmp 22) .skip (.exit 2))
 (.seq (.blk 3 (.seq (.reg [oM 23 21,
  oX 24 27 19 21,
  oO 25 (.loadn 27 (.tmp 24)),
  oO 7 (.alloc 138 [.int .u8 0,.int .u8 0,.int .u8 0,.int .u8 0,.int .u8 0,.int .u8 0,.int .u8 0,.int .u8 0,.int .u8 0,.int .u8 0,.int .u8 0,.int .u8 0,.int .u8 0,.int .u8 0,.int .u8 0,.int .u8 0,.int .u8 0,.int .u8 0,.int .u8 0,.int .u8 0,.int .u8 0,.int .u8 0,.int .u8 0,.int .u8 0,.int .u8 0,.int .u8 0,.int .u8 0]),
  oM 6 23,
  oS (.store 27 (.tmp 7) (.tmp 25))])
 (.seq (.reg [oO 26 (.mv (oK 0))])
 (.blk 4 (.loop (.seq (.reg [oO 27 (.bin .lss (.tmp 26) (oK 3))])
 (.seq (.cond (.tmp 27) .skip (.exit 4))
 (.seq (.blk 5 (.seq (.reg [oM 28 26,
  oM 8 28])
 (.seq (.reg [oM 29 4,
  oM 30 6,
  oO 31 (.bin .neq (.tmp 29) (.tmp 30)),
  oM 32 31,
  oG 33 (.loadn 27 (.tmp 5)) 32 true,
  ⟨some 34,.call (.func 196) [(.tmp 33)],(some (32,true)),.t⟩,
  oG 35 (.mv (.tmp 8)) 32 true,
  oG 36 (.idxn 3 9 (.tmp 34) (.tmp 35)) 32 true,
  oG 37 (.loadn 27 (.tmp 7)) 32 true,
  oG 38 (.call (.func 196) [(.tmp 37)]) 32 true,
  oG 39 (.mv (.tmp 8)) 32 true,
  oG 40 (.idxn 3 9 (.tmp 38) (.tmp 39)) 32 true,
  oG 41 (.eqa false 9 (.tmp 36) (.tmp 40)) 32 true,
  oO 42 (.pick (.tmp 32) (.tmp 41) (.const (.bool false)))])
 (.cond (.tmp 42) (.reg [oM 43 3,
  oM 44 4,
  oM 45 6,
  oM 46 8,
  oO 47 (.bslice 2 1 3 [.int .i64 0] [(0,1,(.tmp 44)),(1,1,(.tmp 45)),(2,1,(.tmp 46))]),
  oO 48 (.bslice 27 1 1 [.slice none 0 0] [(0,1,(.tmp 47))]),
  oO 49 (.app 27 1 24 (.tmp 43) (.tmp 48)),
  oM 3 49]) .skip))))
 (.reg [oO 50 (.bin .add (.tmp 26) (oK 1)),
  oM 26 50])))))))))
 (.reg [oO 51 (.bin .add (.tmp 21) (oK 1)),
  oM 21 51])))))))))
 (.reg [oO 52 (.bin .add (.tmp 13) (oK 1)),
  oM 13 52])))))))
 (.seq (.reg [oM 53 3,
  oM 2 53])
 .ret))))⟩
theorem s152:compFn Try.prog Try.f152=some c152:=by kernel_rfl
def c153:XFn:=
 ⟨[.celln 10 5],
 (.seq (.reg [oO 5 (.box 26 (.tmp 0)),
  oO 10 (.alloc 26 [.int .i64 0,.int .i64 0,.int .i64 0,.int .i64 0,.slice none 0 0])])
 (.seq (.reg [oF 16 4 5,
  oL 17 16,
  oO 18 (.call (.func 151) [(.tmp 17)]),
  oM 11 18])
 (.seq (.reg [oM 19 11,
  oM 20 1,
  oX 21 27 19 20,
  oO 22 (.loadn 27 (.tmp 21)),
  ⟨some 23,.call (.func 196) [(.tmp 22)],none,.t⟩,
  oM 24 11,
  oM 25 2,
  oX 26 27 24 25,
  oO 27 (.loadn 27 (.tmp 26)),
  oO 28 (.call (.func 196) [(.tmp 27)]),
  oO 12 (.boxn 172 27 (.tmp 23)),
  oO 13 (.boxn 172 27 (.tmp 28))])
 (.seq (.reg [oM 29 3,
  oO 30 (.bin .add (.tmp 29) (oK 1)),
  oO 31 (.bin .rem (.tmp 30) (oK 3)),
  oM 32 3,
  oO 33 (.bin .add (.tmp 32) (oK 2)),
  oO 34 (.bin .rem (.tmp 33) (oK 3)),
  oM 14 31,
  oM 15 34])
 (.seq (.reg [oM 35 14,
  oF 36 0 5,
  oL 37 36,
  oM 38 14,
  oO 39 (.ixa 3 9 (.tmp 12) (.tmp 38)),
  oO 40 (.loadn 9 (.tmp 39)),
  oM 41 14,
  oO 42 (.ixa 3 9 (.tmp 13) (.tmp 41)),
  oO 43 (.loadn 9 (.tmp 42)),
  oM 44 4,
  oO 45 (.call (.func 272) [(.tmp 37),(.tmp 40),(.tmp 43),(.tmp 44)]),
  oO 46 (.ixa 3 9 (.tmp 12) (.tmp 35)),
  oS (.store 9 (.tmp 46) (.tmp 45))])
 (.seq (.reg [oM 47 15,
  oF 48 0 5,
  oL 49 48,
  oM 50 15,
  oO 51 (.ixa 3 9 (.tmp 13) (.tmp 50)),
  oO 52 (.loadn 9 (.tmp 51)),
  oM 53 15,
  oO 54 (.ixa 3 9 (.tmp 12) (.tmp 53)),
  oO 55 (.loadn 9 (.tmp 54)),
  oF 56 0 5,
  oL 57 56,
  oM 58 4,
  oO 59 (.bin .sub (.tmp 57) (.tmp 58)),
  oO 60 (.call (.func 272) [(.tmp 49),(.tmp 52),(.tmp 55),(.tmp 59)]),
  oO 61 (.ixa 3 9 (.tmp 13) (.tmp 47)),
  oS (.store 9 (.tmp 61) (.tmp 60))])
 (.seq (.reg [oM 62 11,
  oM 63 1,
  oM 64 11,
  oM 65 2,
  oO 66 (.loadn 27 (.tmp 12)),
  ⟨some 67,.call (.func 273) [(.tmp 66)],none,.t⟩,
  oO 68 (.loadn 27 (.tmp 13)),
  oO 69 (.call (.func 273) [(.tmp 68)]),
  oX 70 27 62 63,
  oS (.store 27 (.tmp 70) (.tmp 67)),
  oX 71 27 64 65,
  oS (.store 27 (.tmp 71) (.tmp 69))])
 (.seq (.reg [oO 72 (.loadn 5 (.tmp 5)),
  oM 73 11,
  ⟨some 74,.call (.func 274) [(.tmp 73)],none,(.u [(.tmp 5)])⟩,
  oO 75 (.call (.func 150) [(.tmp 72),(.tmp 74)]),
  oS (.store 5 (.tmp 10) (.tmp 75))])
 .ret))))))))⟩
theorem s153:compFn Try.prog Try.f153=some c153:=by kernel_rfl
def c154:XFn:=
 ⟨[.tmp 2],
 (.seq (.reg [oO 1 (.box 26 (.tmp 0)),
  oO 2 (.mv (.const (.bool false)))])
 (.seq (.seq (.reg [oF 4 0 1,
  oL 5 4,
  oF 6 1 1,
  oL 7 6,
  oF 8 2 1,
  oL 9 8,
  oF 10 3 1,
  oL 11 10,
  oO 12 (.call (.func 275) [(.tmp 5),(.tmp 7),(.tmp 9),(.tmp 11)]),
  oO 13 (.un .not (.tmp 12)),
  oM 14 13,
  oG 15 (.fadr 4 (.tmp 1)) 14 false,
  oG 16 (.load1 (.tmp 15)) 14 false,
  oG 17 (.len (.tmp 16)) 14 false,
  oG 18 (.bin .gtr (.tmp 17) (oK 30)) 14 false,
  oO 19 (.pick (.tmp 14) (.const (.bool true)) (.tmp 18))])
 (.cond (.tmp 19) (.seq (.reg [oO 2 (.mv (.const (.bool false)))])
 .ret) .skip))
 (.seq (.seq (.reg [oO 3 (.mv (oK 0))])
 (.blk 0 (.loop (.seq (.seq (.reg [oM 20 3,
  oF 21 4 1,
  oL 22 21,
  oN 23 22,
  oO 24 (.bin .lss (.tmp 20) (.tmp 23))])
 (.cond (.tmp 24) .skip (.exit 0)))
 (.seq (.blk 1 (.seq (.reg [oO 27 (.loadn 5 (.tmp 1)),
  oF 28 4 1,
  oL 29 28,
  oM 30 3,
  oX 31 27 29 30,
  oO 32 (.loadn 27 (.tmp 31)),
  oO 33 (.call (.func 276) [(.tmp 27),(.tmp 32)]),
  oO 34 (.un .not (.tmp 33))])
 (.cond (.tmp 34) (.seq (.reg [oO 2 (.mv (.const (.bool false)))])
 .ret) .skip)))
 (.reg [oM 25 3,
  oO 26 (.bin .add (.tmp 25) (oK 1)),
  oM 3 26]))))))
 (.seq (.reg [oO 2 (.mv (.const (.bool true)))])
 .ret))))⟩
theorem s154:compFn Try.prog Try.f154=some c154:=by kernel_rfl
def c155:XFn:=
 ⟨[.celln 4 5],
 (.seq (.reg [oO 2 (.box 26 (.tmp 0)),
  oO 4 (.alloc 26 [.int .i64 0,.int .i64 0,.int .i64 0,.int .i64 0,.slice none 0 0])])
 (.seq (.reg [oO 8 (.loadn 5 (.tmp 2)),
  oO 9 (.call (.func 277) [(.tmp 8)]),
  oO 5 (.alloc 26 [.int .i64 0,.int .i64 0,.int .i64 0,.int .i64 0,.slice none 0 0]),
  oS (.store 5 (.tmp 5) (.tmp 9))])
 (.seq (.seq (.reg [oO 6 (.mv (oK 0))])
 (.blk 0 (.loop (.seq (.seq (.reg [oM 10 6,
  oM 11 1,
  oN 12 11,
  oO 13 (.bin .lss (.tmp 10) (.tmp 12))])
 (.cond (.tmp 13) .skip (.exit 0)))
 (.seq (.blk 1 (.seq (.reg [oM 16 1,
  oM 17 6,
  oX 18 27 16 17,
  oO 19 (.loadn 27 (.tmp 18)),
  oO 7 (.alloc 138 [.int .u8 0,.int .u8 0,.int .u8 0,.int .u8 0,.int .u8 0,.int .u8 0,.int .u8 0,.int .u8 0,.int .u8 0,.int .u8 0,.int .u8 0,.int .u8 0,.int .u8 0,.int .u8 0,.int .u8 0,.int .u8 0,.int .u8 0,.int .u8 0,.int .u8 0,.int .u8 0,.int .u8 0,.int .u8 0,.int .u8 0,.int .u8 0,.int .u8 0,.int .u8 0,.int .u8 0]),
  oS (.store 27 (.tmp 7) (.tmp 19))])
 (.seq (.reg [oF 20 0 7,
  oO 21 (.loadn 9 (.tmp 20)),
  oO 22 (.call (.func 278) [(.tmp 21)]),
  oO 23 (.un .not (.tmp 22)),
  oM 24 23,
  oG 25 (.fadr 9 (.tmp 7)) 24 true,
  oG 26 (.loadn 9 (.tmp 25)) 24 true,
  oG 27 (.call (.func 278) [(.tmp 26)]) 24 true,
  oG 28 (.un .not (.tmp 27)) 24 true,
  oO 29 (.pick (.tmp 24) (.tmp 28) (.const (.bool false))),
  oM 30 29,
  oG 31 (.fadr 18 (.tmp 7)) 30 true,
  oG 32 (.loadn 9 (.tmp 31)) 30 true,
  oG 33 (.call (.func 278) [(.tmp 32)]) 30 true,
  oG 34 (.un .not (.tmp 33)) 30 true,
  oO 35 (.pick (.tmp 30) (.tmp 34) (.const (.bool false)))])
 (.cond (.tmp 35) (.reg [oF 36 4 5,
  oL 37 36,
  oO 38 (.loadn 27 (.tmp 7)),
  oO 39 (.bslice 138 27 1 [.int .u8 0,.int .u8 0,.int .u8 0,.int .u8 0,.int .u8 0,.int .u8 0,.int .u8 0,.int .u8 0,.int .u8 0,.int .u8 0,.int .u8 0,.int .u8 0,.int .u8 0,.int .u8 0,.int .u8 0,.int .u8 0,.int .u8 0,.int .u8 0,.int .u8 0,.int .u8 0,.int .u8 0,.int .u8 0,.int .u8 0,.int .u8 0,.int .u8 0,.int .u8 0,.int .u8 0] [(0,27,(.tmp 38))]),
  oO 40 (.app 138 27 27 (.tmp 37) (.tmp 39)),
  oF 41 4 5,
  oS (.store 1 (.tmp 41) (.tmp 40))]) .skip))))
 (.reg [oM 14 6,
  oO 15 (.bin .add (.tmp 14) (oK 1)),
  oM 6 15]))))))
 (.seq (.reg [oO 42 (.loadn 5 (.tmp 5)),
  oS (.store 5 (.tmp 4) (.tmp 42))])
 .ret))))⟩
theorem s155:compFn Try.prog Try.f155=some c155:=by kernel_rfl
def c156:XFn:=
 ⟨[.tmp 2],
 (.seq (.reg [oO 1 (.box 26 (.tmp 0)),
  oO 2 (.mv (.const (.slice none 0 0)))])
 (.seq (.reg [oO 7 (.bslice 27 1 0 [.slice none 0 0] []),
  oM 3 7])
 (.seq (.seq (.reg [oO 4 (.mv (oK 0))])
 (.blk 0 (.loop (.seq (.seq (.reg [oM 8 4,
  oF 9 4 1,
  oL 10 9,
  oN 11 10,
  oO 12 (.bin .lss (.tmp 8) (.tmp 11))])
 (.cond (.tmp 12) .skip (.exit 0)))
 (.seq (.blk 1 (.seq (.reg [oO 5 (.mv (oK 0))])
 (.blk 2 (.loop (.seq (.seq (.reg [oM 15 5,
  oF 16 4 1,
  oL 17 16,
  oN 18 17,
  oO 19 (.bin .lss (.tmp 15) (.tmp 18))])
 (.cond (.tmp 19) .skip (.exit 2)))
 (.seq (.blk 3 (.seq (.reg [oO 6 (.mv (oK 0))])
 (.blk 4 (.loop (.seq (.seq (.reg [oM 22 6,
  oO 23 (.bin .lss (.tmp 22) (oK 3)),
  oM 24 23,
  oG 25 (.mv (.tmp 4)) 24 true,
  oG 26 (.mv (.tmp 5)) 24 true,
  oG 27 (.bin .neq (.tmp 25) (.tmp 26)) 24 true,
  oO 28 (.pick (.tmp 24) (.tmp 27) (.const (.bool false)))])
 (.cond (.tmp 28) .skip (.exit 4)))
 (.seq (.blk 5 (.seq (.reg [oF 31 4 1,
  oL 32 31,
  oM 33 4,
  oX 34 27 32 33,
  oO 35 (.loadn 27 (.tmp 34)),
  oM 36 6,
  ⟨some 37,.call (.func 198) [(.tmp 35),(.tmp 36)],none,.t⟩,
  oF 38 4 1,
  oL 39 38,
  oM 40 5,
  oX 41 27 39 40,
  oO 42 (.loadn 27 (.tmp 41)),
  oM 43 6,
  oO 44 (.call (.func 198) [(.tmp 42),(.tmp 43)]),
  oO 45 (.eqa false 9 (.tmp 37) (.tmp 44))])
 (.cond (.tmp 45) (.reg [oM 46 3,
  oM 47 4,
  oM 48 5,
  oM 49 6,
  oO 50 (.bslice 2 1 3 [.int .i64 0] [(0,1,(.tmp 47)),(1,1,(.tmp 48)),(2,1,(.tmp 49))]),
  oO 51 (.bslice 27 1 1 [.slice none 0 0] [(0,1,(.tmp 50))]),
  oO 52 (.app 27 1 24 (.tmp 46) (.tmp 51)),
  oM 3 52]) .skip)))
 (.reg [oM 29 6,
  oO 30 (.bin .add (.tmp 29) (oK 1)),
  oM 6 30])))))))
 (.reg [oM 20 5,
  oO 21 (.bin .add (.tmp 20) (oK 1)),
  oM 5 21])))))))
 (.reg [oM 13 4,
  oO 14 (.bin .add (.tmp 13) (oK 1)),
  oM 4 14]))))))
 (.seq (.reg [oM 53 3,
  oM 2 53])
 .ret))))⟩
theorem s156:compFn Try.prog Try.f156=some c156:=by kernel_rfl
def c157:XFn:=
 ⟨[.celln 10 5],
 (.seq (.reg [oO 5 (.box 26 (.tmp 0)),
  oO 10 (.alloc 26 [.int .i64 0,.int .i64 0,.int .i64 0,.int .i64 0,.slice none 0 0])])
 (.seq (.reg [oO 16 (.bslice 138 27 0 [.int .u8 0,.int .u8 0,.int .u8 0,.int .u8 0,.int .u8 0,.int .u8 0,.int .u8 0,.int .u8 0,.int .u8 0,.int .u8 0,.int .u8 0,.int .u8 0,.int .u8 0,.int .u8 0,.int .u8 0,.int .u8 0,.int .u8 0,.int .u8 0,.int .u8 0,.int .u8 0,.int .u8 0,.int .u8 0,.int .u8 0,.int .u8 0,.int .u8 0,.int .u8 0,.int .u8 0] []),
  oF 17 4 5,
  oL 18 17,
  oO 19 (.app 138 27 27 (.tmp 16) (.tmp 18)),
  oM 11 19])
 (.seq (.reg [oM 20 3,
  oO 21 (.bin .add (.tmp 20) (oK 1)),
  oO 22 (.bin .rem (.tmp 21) (oK 3)),
  oM 23 3,
  oO 24 (.bin .add (.tmp 23) (oK 2)),
  oO 25 (.bin .rem (.tmp 24) (oK 3)),
  oM 12 22,
  oM 13 25])
 (.seq (.reg [oM 26 11,
  oM 27 1,
  oX 28 27 26 27,
  oO 29 (.loadn 27 (.tmp 28)),
  oM 30 11,
  oM 31 2,
  oX 32 27 30 31,
  oO 33 (.loadn 27 (.tmp 32)),
  oO 14 (.boxn 138 27 (.tmp 29)),
  oO 15 (.boxn 138 27 (.tmp 33))])
 (.seq (.reg [oM 34 11,
  oM 35 1,
  oO 36 (.loadn 27 (.tmp 14)),
  oM 37 12,
  oF 38 0 5,
  oL 39 38,
  oO 40 (.loadn 27 (.tmp 14)),
  oM 41 12,
  ⟨some 42,.call (.func 198) [(.tmp 40),(.tmp 41)],none,.t⟩,
  oO 43 (.loadn 27 (.tmp 15)),
  oM 44 12,
  ⟨some 45,.call (.func 198) [(.tmp 43),(.tmp 44)],none,.t⟩,
  oM 46 4,
  ⟨some 47,.call (.func 279) [(.tmp 39),(.tmp 42),(.tmp 45),(.tmp 46)],none,.t⟩,
  oO 48 (.call (.func 268) [(.tmp 36),(.tmp 37),(.tmp 47)]),
  oX 49 27 34 35,
  oS (.store 27 (.tmp 49) (.tmp 48))])
 (.seq (.reg [oM 50 11,
  oM 51 2,
  oO 52 (.loadn 27 (.tmp 15)),
  oM 53 13,
  oF 54 0 5,
  oL 55 54,
  oO 56 (.loadn 27 (.tmp 15)),
  oM 57 13,
  ⟨some 58,.call (.func 198) [(.tmp 56),(.tmp 57)],none,.t⟩,
  oO 59 (.loadn 27 (.tmp 14)),
  oM 60 13,
  ⟨some 61,.call (.func 198) [(.tmp 59),(.tmp 60)],none,.t⟩,
  oM 62 4,
  oO 63 (.un .neg (.tmp 62)),
  ⟨some 64,.call (.func 279) [(.tmp 55),(.tmp 58),(.tmp 61),(.tmp 63)],none,.t⟩,
  oO 65 (.call (.func 268) [(.tmp 52),(.tmp 53),(.tmp 64)]),
  oX 66 27 50 51,
  oS (.store 27 (.tmp 66) (.tmp 65))])
 (.seq (.reg [oO 67 (.loadn 5 (.tmp 5)),
  oM 68 11,
  oO 69 (.call (.func 155) [(.tmp 67),(.tmp 68)]),
  oS (.store 5 (.tmp 10) (.tmp 69))])
 .ret)))))))⟩
theorem s157:compFn Try.prog Try.f157=some c157:=by kernel_rfl
def c158:XFn:=
 ⟨[.tmp 2],
 (.seq (.reg [oO 1 (.box 26 (.tmp 0)),
  oO 2 (.mv (.const (.slice none 0 0)))])
 (.seq (.reg [oO 8 (.bslice 27 1 0 [.slice none 0 0] []),
  oO 9 (.loadn 5 (.tmp 1)),
  oO 10 (.call (.func 271) [(.tmp 9)]),
  oO 4 (.alloc 158 [.int .i64 0,.int .i64 0,.int .i64 0]),
  oM 3 8,
  oS (.store 3 (.tmp 4) (.tmp 10))])
 (.seq (.seq (.reg [oO 11 (.ixa 3 1 (.tmp 4) (oK 0)),
  oL 12 11,
  oO 13 (.mv (oK 0))])
 (.blk 0 (.loop (.seq (.reg [oO 14 (.bin .lss (.tmp 13) (.tmp 12))])
 (.seq (.cond (.tmp 14) .skip (.exit 0))
 (.seq (.blk 1 (.seq (.reg [oM 15 13,
  oM 5 15])
 (.seq (.reg [oO 16 (.ixa 3 1 (.tmp 4) (oK 1)),
  oL 17 16,
  oO 18 (.mv (oK 0))])
 (.blk 2 (.loop (.seq (.reg [oO 19 (.bin .lss (.tmp 18) (.tmp 17))])
 (.seq (.cond (.tmp 19) .skip (.exit 2))
 (.seq (.blk 3 (.seq (.reg [oM 20 18,
  oM 6 20])
 (.seq (.reg [oO 21 (.ixa 3 1 (.tmp 4) (oK 2)),
  oL 22 21,
  oO 23 (.mv (oK 0))])
 (.blk 4 (.loop (.seq (.reg [oO 24 (.bin .lss (.tmp 23) (.tmp 22))])
 (.seq (.cond (.tmp 24) .skip (.exit 4))
 (.seq (.blk 5 (.seq (.reg [oM 25 23,
  oM 7 25])
 (.seq (.reg [oO 26 (.loadn 5 (.tmp 1)),
  oM 27 5,
  oM 28 6,
  oM 29 7,
  ⟨some 30,.call (.func 218) [(.tmp 26),(.tmp 27),(.tmp 28),(.tmp 29)],none,.t⟩,
  oO 31 (.loadn 5 (.tmp 1)),
  oM 32 5,
  oM 33 6,
  oM 34 7,
  oO 35 (.call (.func 219) [(.tmp 31),(.tmp 32),(.tmp 33),(.tmp 34)]),
  oO 36 (.bin .neq (.tmp 30) (.tmp 35))])
 (.cond (.tmp 36) (.reg [oM 37 3,
  oM 38 5,
  oM 39 6,
  oM 40 7,
  oO 41 (.bslice 2 1 3 [.int .i64 0] [(0,1,(.tmp 38)),(1,1,(.tmp 39)),(2,1,(.tmp 40))]),
  oO 42 (.bslice 27 1 1 [.slice none 0 0] [(0,1,(.tmp 41))]),
  oO 43 (.app 27 1 24 (.tmp 37) (.tmp 42)),
  oM 3 43]) .skip))))
 (.reg [oO 44 (.bin .add (.tmp 23) (oK 1)),
  oM 23 44])))))))))
 (.reg [oO 45 (.bin .add (.tmp 18) (oK 1)),
  oM 18 45])))))))))
 (.reg [oO 46 (.bin .add (.tmp 13) (oK 1)),
  oM 13 46])))))))
 (.seq (.reg [oM 47 3,
  oM 2 47])
 .ret))))⟩
theorem s158:compFn Try.prog Try.f158=some c158:=by kernel_rfl
def c159:XFn:=
 ⟨[.celln 2 5],
 (.seq (.reg [oO 1 (.box 26 (.tmp 0)),
  oO 2 (.alloc 26 [.int .i64 0,.int .i64 0,.int .i64 0,.int .i64 0,.slice none 0 0])])
 (.seq (.reg [oO 6 (.bslice 138 27 0 [.int .u8 0,.int .u8 0,.int .u8 0,.int .u8 0,.int .u8 0,.int .u8 0,.int .u8 0,.int .u8 0,.int .u8 0,.int .u8 0,.int .u8 0,.int .u8 0,.int .u8 0,.int .u8 0,.int .u8 0,.int .u8 0,.int .u8 0,.int .u8 0,.int .u8 0,.int .u8 0,.int .u8 0,.int .u8 0,.int .u8 0,.int .u8 0,.int .u8 0,.int .u8 0,.int .u8 0] []),
  oM 3 6])
 (.seq (.seq (.reg [oF 7 4 1,
  oL 8 7,
  oN 9 8,
  oO 10 (.mv (oK 0))])
 (.blk 0 (.loop (.seq (.reg [oO 11 (.bin .lss (.tmp 10) (.tmp 9))])
 (.seq (.cond (.tmp 11) .skip (.exit 0))
 (.seq (.blk 1 (.seq (.reg [oX 12 27 8 10,
  oO 13 (.loadn 27 (.tmp 12)),
  oO 5 (.alloc 138 [.int .u8 0,.int .u8 0,.int .u8 0,.int .u8 0,.int .u8 0,.int .u8 0,.int .u8 0,.int .u8 0,.int .u8 0,.int .u8 0,.int .u8 0,.int .u8 0,.int .u8 0,.int .u8 0,.int .u8 0,.int .u8 0,.int .u8 0,.int .u8 0,.int .u8 0,.int .u8 0,.int .u8 0,.int .u8 0,.int .u8 0,.int .u8 0,.int .u8 0,.int .u8 0,.int .u8 0]),
  oS (.store 27 (.tmp 5) (.tmp 13))])
 (.reg [oM 14 3,
  oF 15 0 1,
  oL 16 15,
  oO 17 (.loadn 27 (.tmp 5)),
  oO 18 (.call (.func 280) [(.tmp 16),(.tmp 17)]),
  oO 19 (.bslice 138 27 1 [.int .u8 0,.int .u8 0,.int .u8 0,.int .u8 0,.int .u8 0,.int .u8 0,.int .u8 0,.int .u8 0,.int .u8 0,.int .u8 0,.int .u8 0,.int .u8 0,.int .u8 0,.int .u8 0,.int .u8 0,.int .u8 0,.int .u8 0,.int .u8 0,.int .u8 0,.int .u8 0,.int .u8 0,.int .u8 0,.int .u8 0,.int .u8 0,.int .u8 0,.int .u8 0,.int .u8 0] [(0,27,(.tmp 18))]),
  oO 20 (.app 138 27 27 (.tmp 14) (.tmp 19)),
  oM 3 20])))
 (.reg [oO 21 (.bin .add (.tmp 10) (oK 1)),
  oM 10 21])))))))
 (.seq (.reg [oO 22 (.loadn 5 (.tmp 1)),
  oM 23 3,
  oO 24 (.call (.func 150) [(.tmp 22),(.tmp 23)]),
  oS (.store 5 (.tmp 2) (.tmp 24))])
 .ret))))⟩
theorem s159:compFn Try.prog Try.f159=some c159:=by kernel_rfl
def c160:XFn:=
 ⟨[.tmp 4,.tmp 5],
 (.seq (.reg [oO 4 (.mv (.const (.slice none 0 0))),
  oO 5 (.mv (.const (.bool false)))])
 (.seq (.seq (.reg [oM 11 1,
  oN 12 11,
  oO 13 (.mv (oK 0))])
 (.blk 0 (.loop (.seq (.reg [oO 14 (.bin .lss (.tmp 13) (.tmp 12))])
 (.seq (.cond (.tmp 14) .skip (.exit 0))
 (.seq (.blk 1 (.seq (.reg [oM 15 13,
  oX 16 27 11 13,
  oO 17 (.loadn 27 (.tmp 16)),
  oO 7 (.alloc 138 [.int .u8 0,.int .u8 0,.int .u8 0,.int .u8 0,.int .u8 0,.int .u8 0,.int .u8 0,.int .u8 0,.int .u8 0,.int .u8 0,.int .u8 0,.int .u8 0,.int .u8 0,.int .u8 0,.int .u8 0,.int .u8 0,.int .u8 0,.int .u8 0,.int .u8 0,.int .u8 0,.int .u8 0,.int .u8 0,.int .u8 0,.int .u8 0,.int .u8 0,.int .u8 0,.int .u8 0]),
  oM 6 15,
  oS (.store 27 (.tmp 7) (.tmp 17))])
 (.seq (.reg [oM 18 6,
  oO 19 (.bin .add (.tmp 18) (oK 1)),
  oM 8 19])
 (.blk 2 (.loop (.seq (.seq (.reg [oM 20 8,
  oM 21 1,
  oN 22 21,
  oO 23 (.bin .lss (.tmp 20) (.tmp 22))])
 (.cond (.tmp 23) .skip (.exit 2)))
 (.seq (.blk 3 (.seq (.reg [oM 27 0,
  oO 28 (.loadn 27 (.tmp 7)),
  oM 29 1,
  oM 30 8,
  oX 31 27 29 30,
  oO 32 (.loadn 27 (.tmp 31)),
  oO 33 (.call (.func 281) [(.tmp 27),(.tmp 28),(.tmp 32)]),
  oM 26 33,
  oE 34 26 0,
  oE 35 26 1,
  oM 10 35,
  oO 9 (.boxn 138 27 (.tmp 34))])
 (.seq (.seq (.reg [oM 36 10,
  oO 37 (.un .not (.tmp 36))])
 (.cond (.tmp 37) (.exit 3) .skip))
 (.seq (.reg [oM 38 1,
  oM 39 8,
  oO 40 (.call (.func 282) [(.tmp 38),(.tmp 39)]),
  oM 1 40])
 (.seq (.seq (.reg [oO 41 (.loadn 27 (.tmp 9)),
  oO 42 (.call (.func 283) [(.tmp 41)])])
 (.cond (.tmp 42) (.seq (.reg [oM 43 1,
  oM 44 6,
  oO 45 (.call (.func 282) [(.tmp 43),(.tmp 44)]),
  oM 4 45,
  oO 5 (.mv (.const (.bool true)))])
 .ret) .skip))
 (.seq (.reg [oM 46 1,
  oM 47 6,
  oM 48 0,
  oO 49 (.loadn 27 (.tmp 9)),
  oO 50 (.call (.func 280) [(.tmp 48),(.tmp 49)]),
  oX 51 27 46 47,
  oS (.store 27 (.tmp 51) (.tmp 50))])
 (.seq (.reg [oM 52 1,
  oM 4 52,
  oO 5 (.mv (.const (.bool true)))])
 .ret)))))))
 (.reg [oM 24 8,
  oO 25 (.bin .add (.tmp 24) (oK 1)),
  oM 8 25]))))))))
 (.reg [oO 53 (.bin .add (.tmp 13) (oK 1)),
  oM 13 53])))))))
 (.seq (.reg [oM 54 1,
  oM 4 54,
  oO 5 (.mv (.const (.bool false)))])
 .ret)))⟩
theorem s160:compFn Try.prog Try.f160=some c160:=by kernel_rfl
def c161:XFn:=
 ⟨[.celln 2 5],
 (.seq (.reg [oO 1 (.box 26 (.tmp 0)),
  oO 2 (.alloc 36 [.int .i64 0,.int .i64 0,.int .i64 0,.int .i64 0,.slice none 0 0])])
 (.seq (.reg [oO 4 (.loadn 5 (.tmp 1)),
  oO 5 (.call (.func 271) [(.tmp 4)]),
  oO 3 (.alloc 158 [.int .i64 0,.int .i64 0,.int .i64 0]),
  oS (.store 3 (.tmp 3) (.tmp 5))])
 (.seq (.reg [oF 6 0 1,
  oL 7 6,
  oO 8 (.ixa 3 1 (.tmp 3) (oK 0)),
  oL 9 8,
  oO 10 (.ixa 3 1 (.tmp 3) (oK 1)),
  oL 11 10,
  oO 12 (.ixa 3 1 (.tmp 3) (oK 2)),
  oL 13 12,
  oO 14 (.mkf 284 [(.tmp 1)]),
  oO 15 (.call (.func 178) [(.tmp 7),(.tmp 9),(.tmp 11),(.tmp 13),(.tmp 14)]),
  oS (.store 5 (.tmp 2) (.tmp 15))])
 .ret)))⟩
theorem s161:compFn Try.prog Try.f161=some c161:=by kernel_rfl
def c162:XFn:=
 ⟨[.tmp 6],
 (.seq (.reg [oO 3 (.box 26 (.tmp 0)),
  oO 6 (.mv (oK 0))])
 (.seq (.blk 0 (.seq (.reg [oO 8 (.loadn 5 (.tmp 3)),
  oO 9 (.call (.func 149) [(.tmp 8)]),
  oO 10 (.un .not (.tmp 9)),
  oM 7 10])
 (.cond (.tmp 7) (.seq (.reg [oO 6 (.mv (oK 1))])
 .ret) (.seq (.reg [oF 12 0 3,
  oL 13 12,
  oF 14 1 3,
  oL 15 14,
  oF 16 2 3,
  oL 17 16,
  oM 18 1,
  oO 19 (.call (.func 168) [(.tmp 13),(.tmp 15),(.tmp 17),(.tmp 18)]),
  oO 20 (.un .not (.tmp 19)),
  oM 21 20,
  oG 22 (.fadr 0 (.tmp 3)) 21 false,
  oG 23 (.load1 (.tmp 22)) 21 false,
  oG 24 (.fadr 2 (.tmp 3)) 21 false,
  oG 25 (.load1 (.tmp 24)) 21 false,
  oG 26 (.fadr 3 (.tmp 3)) 21 false,
  oG 27 (.load1 (.tmp 26)) 21 false,
  oG 28 (.mv (.tmp 2)) 21 false,
  oG 29 (.call (.func 168) [(.tmp 23),(.tmp 25),(.tmp 27),(.tmp 28)]) 21 false,
  oG 30 (.un .not (.tmp 29)) 21 false,
  oO 31 (.pick (.tmp 21) (.const (.bool true)) (.tmp 30)),
  oM 11 31])
 (.cond (.tmp 11) (.seq (.reg [oO 6 (.mv (oK 2))])
 .ret) .skip)))))
 (.seq (.reg [oO 6 (.mv (oK 0))])
 .ret)))⟩
theorem s162:compFn Try.prog Try.f162=some c162:=by kernel_rfl
def c163:XFn:=
 ⟨[.tmp 4],
 (.seq (.reg [oO 4 (.mv (.const (.slice none 0 0)))])
 (.seq (.reg [oO 7 (.bslice 27 1 0 [.slice none 0 0] []),
  oM 5 7])
 (.seq (.seq (.reg [oO 6 (.mv (oK 0))])
 (.blk 0 (.loop (.seq (.seq (.reg [oM 8 6,
  oM 9 0,
  oN 10 9,
  oO 11 (.bin .lss (.tmp 8) (.tmp 10))])
 (.cond (.tmp 11) .skip (.exit 0)))
 (.seq (.blk 1 (.reg [oM 15 5,
  oM 16 0,
  oM 17 6,
  oM 18 6,
  oM 19 1,
  oO 20 (.bin .add (.tmp 18) (.tmp 19)),
  oO 21 (.slc 1 (.tmp 16) (some (.tmp 17)) (some (.tmp 20))),
  oO 22 (.call (.func 285) [(.tmp 21)]),
  oO 23 (.bslice 27 1 1 [.slice none 0 0] [(0,1,(.tmp 22))]),
  oO 24 (.app 27 1 24 (.tmp 15) (.tmp 23)),
  oM 5 24]))
 (.reg [oM 12 6,
  oM 13 1,
  oO 14 (.bin .add (.tmp 12) (.tmp 13)),
  oM 6 14]))))))
 (.seq (.reg [oM 25 5,
  oM 4 25])
 .ret))))⟩
theorem s163:compFn Try.prog Try.f163=some c163:=by kernel_rfl
def c164:XFn:=
 ⟨[.tmp 10],
 (.seq (.reg [oO 10 (.mv (.const (.slice none 0 0)))])
 (.seq (.reg [oM 16 2,
  oO 17 (.mks 2 1 8 [.int .i64 0] (.tmp 16)),
  oM 11 17])
 (.seq (.seq (.reg [oM 18 1,
  oN 19 18,
  oO 20 (.mv (oK 0))])
 (.blk 0 (.loop (.seq (.reg [oO 21 (.bin .lss (.tmp 20) (.tmp 19))])
 (.seq (.cond (.tmp 21) .skip (.exit 0))
 (.seq (.blk 1 (.seq (.reg [oX 22 27 18 20,
  oO 23 (.loadn 27 (.tmp 22)),
  oO 13 (.alloc 138 [.int .u8 0,.int .u8 0,.int .u8 0,.int .u8 0,.int .u8 0,.int .u8 0,.int .u8 0,.int .u8 0,.int .u8 0,.int .u8 0,.int .u8 0,.int .u8 0,.int .u8 0,.int .u8 0,.int .u8 0,.int .u8 0,.int .u8 0,.int .u8 0,.int .u8 0,.int .u8 0,.int .u8 0,.int .u8 0,.int .u8 0,.int .u8 0,.int .u8 0,.int .u8 0,.int .u8 0]),
  oS (.store 27 (.tmp 13) (.tmp 23))])
 (.seq (.reg [oM 24 0,
  oF 25 0 13,
  oO 26 (.loadn 9 (.tmp 25)),
  oM 27 3,
  ⟨some 28,.call (.func 286) [(.tmp 24),(.tmp 26),(.tmp 27)],none,.t⟩,
  oM 29 0,
  oF 30 9 13,
  oO 31 (.loadn 9 (.tmp 30)),
  oM 32 4,
  oO 33 (.call (.func 286) [(.tmp 29),(.tmp 31),(.tmp 32)]),
  oO 34 (.bin .mul (.tmp 28) (.tmp 33)),
  oM 14 34])
 (.seq (.reg [oM 35 11,
  oN 36 35,
  oO 37 (.mv (oK 0))])
 (.blk 2 (.loop (.seq (.reg [oO 38 (.bin .lss (.tmp 37) (.tmp 36))])
 (.seq (.cond (.tmp 38) .skip (.exit 2))
 (.seq (.blk 3 (.seq (.reg [oM 39 37,
  oM 15 39])
 (.reg [oM 40 11,
  oM 41 15,
  oM 42 11,
  oM 43 15,
  oX 44 1 42 43,
  oL 45 44,
  oM 46 15,
  oF 47 18 13,
  oO 48 (.ixa 9 1 (.tmp 47) (.tmp 46)),
  oL 49 48,
  oO 50 (.conv .i64 (.tmp 49)),
  oM 51 14,
  oO 52 (.bin .mul (.tmp 50) (.tmp 51)),
  oO 53 (.bin .add (.tmp 45) (.tmp 52)),
  oM 54 0,
  oO 55 (.bin .rem (.tmp 53) (.tmp 54)),
  oX 56 1 40 41,
  oS (.store 1 (.tmp 56) (.tmp 55))])))
 (.reg [oO 57 (.bin .add (.tmp 37) (oK 1)),
  oM 37 57]))))))))))
 (.reg [oO 58 (.bin .add (.tmp 20) (oK 1)),
  oM 20 58])))))))
 (.seq (.reg [oM 59 11,
  oM 10 59])
 .ret))))⟩
theorem s164:compFn Try.prog Try.f164=some c164:=by kernel_rfl
def c165:XFn:=
 ⟨[.tmp 2],
 (.seq (.reg [oO 2 (.mv (.const (.slice none 0 0)))])
 (.seq (.reg [oO 3 (.mv (oK 0))])
 (.seq (.seq (.reg [oM 9 0,
  oN 10 9,
  oO 11 (.mv (oK 0))])
 (.blk 0 (.loop (.seq (.reg [oO 12 (.bin .lss (.tmp 11) (.tmp 10))])
 (.seq (.cond (.tmp 12) .skip (.exit 0))
 (.seq (.blk 1 (.seq (.reg [oX 13 1 9 11,
  oL 14 13,
  oM 5 14])
 (.seq (.reg [oM 15 3,
  oM 16 5,
  oN 17 16,
  oO 18 (.bin .add (.tmp 15) (.tmp 17)),
  oM 3 18])
 (.seq (.reg [oM 19 3,
  oO 20 (.bin .lss (.tmp 19) (oK 0))])
 (.cond (.tmp 20) (.reg [oO 21 (.fail),
  oS (.fail)]) .skip)))))
 (.reg [oO 22 (.bin .add (.tmp 11) (oK 1)),
  oM 11 22])))))))
 (.seq (.reg [oM 23 3,
  oO 24 (.call (.func 287) [(.const (.slice none 0 0)),(.tmp 23)]),
  oM 6 24])
 (.seq (.seq (.reg [oM 25 0,
  oN 26 25,
  oO 27 (.mv (oK 0))])
 (.blk 2 (.loop (.seq (.reg [oO 28 (.bin .lss (.tmp 27) (.tmp 26))])
 (.seq (.cond (.tmp 28) .skip (.exit 2))
 (.seq (.blk 3 (.seq (.reg [oX 29 1 25 27,
  oL 30 29,
  oM 8 30])
 (.reg [oM 31 6,
  oM 32 8,
  oO 33 (.app 2 1 8 (.tmp 31) (.tmp 32)),
  oM 6 33])))
 (.reg [oO 34 (.bin .add (.tmp 27) (oK 1)),
  oM 27 34])))))))
 (.seq (.reg [oM 35 6,
  oM 2 35])
 .ret))))))⟩
theorem s165:compFn Try.prog Try.f165=some c165:=by kernel_rfl
def c166:XFn:=
 ⟨[.tmp 2],
 (.seq (.reg [oO 2 (.mv (.const (.bool false)))])
 (.seq (.reg [oM 3 0,
  oO 4 (.bin .eql (.tmp 3) (oK 2)),
  oM 5 4,
  oG 6 (.mv (.tmp 0)) 5 false,
  oG 7 (.bin .eql (.tmp 6) (oK 3)) 5 false,
  oO 8 (.pick (.tmp 5) (.const (.bool true)) (.tmp 7)),
  oM 9 8,
  oG 10 (.mv (.tmp 0)) 9 false,
  oG 11 (.bin .eql (.tmp 10) (oK 5)) 9 false,
  oO 12 (.pick (.tmp 9) (.const (.bool true)) (.tmp 11)),
  oM 2 12])
 .ret))⟩
theorem s166:compFn Try.prog Try.f166=some c166:=by kernel_rfl
def c167:XFn:=
 ⟨[.tmp 2],
 (.seq (.reg [oO 2 (.mv (.const (.bool false)))])
 (.seq (.seq (.reg [oM 5 0,
  oN 6 5,
  oO 7 (.mv (oK 0))])
 (.blk 0 (.loop (.seq (.reg [oO 8 (.bin .lss (.tmp 7) (.tmp 6))])
 (.seq (.cond (.tmp 8) .skip (.exit 0))
 (.seq (.blk 1 (.seq (.reg [oX 9 1 5 7,
  oL 10 9,
  oM 4 10])
 (.seq (.reg [oM 11 4,
  oO 12 (.bin .lss (.tmp 11) (oK 1)),
  oM 13 12,
  oG 14 (.mv (.tmp 4)) 13 false,
  oG 15 (.bin .gtr (.tmp 14) (oK 3)) 13 false,
  oO 16 (.pick (.tmp 13) (.const (.bool true)) (.tmp 15))])
 (.cond (.tmp 16) (.seq (.reg [oO 2 (.mv (.const (.bool false)))])
 .ret) .skip))))
 (.reg [oO 17 (.bin .add (.tmp 7) (oK 1)),
  oM 7 17])))))))
 (.seq (.reg [oO 2 (.mv (.const (.bool true)))])
 .ret)))⟩
theorem s167:compFn Try.prog Try.f167=some c167:=by kernel_rfl
def c168:XFn:=
 ⟨[.tmp 8],
 (.seq (.reg [oO 8 (.mv (.const (.bool false)))])
 (.seq (.seq (.reg [oM 11 3,
  oN 12 11,
  oO 13 (.mv (oK 0))])
 (.blk 0 (.loop (.seq (.reg [oO 14 (.bin .lss (.tmp 13) (.tmp 12))])
 (.seq (.cond (.tmp 14) .skip (.exit 0))
 (.seq (.blk 1 (.seq (.reg [oX 15 1 11 13,
  oL 16 15,
  oM 10 16])
 (.seq (.reg [oM 17 10,
  oN 18 17,
  oM 19 2,
  oO 20 (.bin .neq (.tmp 18) (.tmp 19)),
  oM 21 20,
  oG 22 (.mv (.tmp 0)) 21 false,
  oG 23 (.mv (.tmp 10)) 21 false,
  oG 24 (.call (.func 184) [(.tmp 22),(.tmp 23)]) 21 false,
  oG 25 (.un .not (.tmp 24)) 21 false,
  oO 26 (.pick (.tmp 21) (.const (.bool true)) (.tmp 25))])
 (.cond (.tmp 26) (.seq (.reg [oO 8 (.mv (.const (.bool false)))])
 .ret) .skip))))
 (.reg [oO 27 (.bin .add (.tmp 13) (oK 1)),
  oM 13 27])))))))
 (.seq (.reg [oM 28 3,
  oN 29 28,
  oM 30 1,
  oO 31 (.bin .eql (.tmp 29) (.tmp 30)),
  oM 8 31])
 .ret)))⟩
theorem s168:compFn Try.prog Try.f168=some c168:=by kernel_rfl
def c169:XFn:=
 ⟨[.tmp 6],
 (.seq (.reg [oO 6 (.mv (.const (.slice none 0 0)))])
 (.seq (.reg [oO 14 (.bslice 27 1 0 [.slice none 0 0] []),
  oM 7 14])
 (.seq (.seq (.reg [oM 15 1,
  oN 16 15,
  oO 17 (.mv (oK 0))])
 (.blk 0 (.loop (.seq (.reg [oO 18 (.bin .lss (.tmp 17) (.tmp 16))])
 (.seq (.cond (.tmp 18) .skip (.exit 0))
 (.seq (.blk 1 (.seq (.reg [oX 19 1 15 17,
  oL 20 19,
  oM 9 20])
 (.seq (.reg [oM 21 2,
  oO 22 (.ixs 1 (.tmp 21) (oK 0)),
  oL 23 22,
  oN 24 23,
  oO 25 (.mks 2 1 8 [.int .i64 0] (.tmp 24)),
  oM 10 25])
 (.seq (.seq (.reg [oM 26 10,
  oN 27 26,
  oO 28 (.mv (oK 0))])
 (.blk 2 (.loop (.seq (.reg [oO 29 (.bin .lss (.tmp 28) (.tmp 27))])
 (.seq (.cond (.tmp 29) .skip (.exit 2))
 (.seq (.blk 3 (.seq (.reg [oM 30 28,
  oM 11 30])
 (.seq (.reg [oM 31 9,
  oN 32 31,
  oO 33 (.mv (oK 0))])
 (.blk 4 (.loop (.seq (.reg [oO 34 (.bin .lss (.tmp 33) (.tmp 32))])
 (.seq (.cond (.tmp 34) .skip (.exit 4))
 (.seq (.blk 5 (.seq (.reg [oM 35 33,
  oX 36 1 31 33,
  oL 37 36,
  oM 12 35,
  oM 13 37])
 (.reg [oM 38 10,
  oM 39 11,
  oM 40 10,
  oM 41 11,
  oX 42 1 40 41,
  oL 43 42,
  oM 44 13,
  oM 45 2,
  oM 46 12,
  oX 47 1 45 46,
  oL 48 47,
  oM 49 11,
  oX 50 1 48 49,
  oL 51 50,
  oO 52 (.bin .mul (.tmp 44) (.tmp 51)),
  oO 53 (.bin .add (.tmp 43) (.tmp 52)),
  oM 54 0,
  oO 55 (.bin .rem (.tmp 53) (.tmp 54)),
  oX 56 1 38 39,
  oS (.store 1 (.tmp 56) (.tmp 55))])))
 (.reg [oO 57 (.bin .add (.tmp 33) (oK 1)),
  oM 33 57])))))))))
 (.reg [oO 58 (.bin .add (.tmp 28) (oK 1)),
  oM 28 58])))))))
 (.reg [oM 59 7,
  oM 60 10,
  oO 61 (.bslice 27 1 1 [.slice none 0 0] [(0,1,(.tmp 60))]),
  oO 62 (.app 27 1 24 (.tmp 59) (.tmp 61)),
  oM 7 62])))))
 (.reg [oO 63 (.bin .add (.tmp 17) (oK 1)),
  oM 17 63])))))))
 (.seq (.reg [oM 64 7,
  oM 6 64])
 .ret))))⟩
theorem s169:compFn Try.prog Try.f169=some c169:=by kernel_rfl
def c170:XFn:=
 ⟨[.tmp 4],
 (.seq (.reg [oO 2 (.box 26 (.tmp 0)),
  oO 3 (.box 4 (.tmp 1)),
  oO 4 (.mv (.const (.slice none 0 0)))])
 (.seq (.reg [oO 8 (.loadn 5 (.tmp 2)),
  oO 9 (.call (.func 271) [(.tmp 8)]),
  oO 10 (.bslice 70 4 0 [.int .i64 0,.int .i64 0,.slice none 0 0,.slice none 0 0] []),
  oO 5 (.alloc 158 [.int .i64 0,.int .i64 0,.int .i64 0]),
  oO 6 (.alloc 124 [.slice none 0 0]),
  oS (.store 3 (.tmp 5) (.tmp 9)),
  oS (.store 1 (.tmp 6) (.tmp 10))])
 (.seq (.reg [oO 11 (.mkf 288 [(.tmp 3),(.tmp 6),(.tmp 2)]),
  oM 7 11])
 (.seq (.reg [oM 12 7,
  oO 13 (.ixa 3 1 (.tmp 5) (oK 0)),
  oL 14 13,
  oO 15 (.loadn 5 (.tmp 2)),
  oO 16 (.ixa 3 1 (.tmp 5) (oK 0)),
  oL 17 16,
  ⟨some 18,.call (.func 289) [(.tmp 15),(oK 0),(.tmp 17)],none,.t⟩,
  oO 19 (.call (.tmp 12) [(.tmp 14),(.tmp 18)])])
 (.seq (.reg [oM 20 7,
  oO 21 (.ixa 3 1 (.tmp 5) (oK 1)),
  oL 22 21,
  oO 23 (.loadn 5 (.tmp 2)),
  oO 24 (.ixa 3 1 (.tmp 5) (oK 1)),
  oL 25 24,
  ⟨some 26,.call (.func 289) [(.tmp 23),(oK 1),(.tmp 25)],none,.t⟩,
  oO 27 (.call (.tmp 20) [(.tmp 22),(.tmp 26)])])
 (.seq (.reg [oM 28 7,
  oF 29 4 2,
  oL 30 29,
  oN 31 30,
  oO 32 (.loadn 5 (.tmp 2)),
  oO 33 (.ixa 3 1 (.tmp 5) (oK 2)),
  oL 34 33,
  ⟨some 35,.call (.func 289) [(.tmp 32),(oK 2),(.tmp 34)],none,.t⟩,
  ⟨some 36,.call (.func 208) [(.tmp 35)],none,.t⟩,
  oO 37 (.call (.tmp 28) [(.tmp 31),(.tmp 36)])])
 (.seq (.reg [oL 38 6,
  oM 4 38])
 .ret)))))))⟩
theorem s170:compFn Try.prog Try.f170=some c170:=by kernel_rfl
def c171:XFn:=
 ⟨[.tmp 4],
 (.seq (.reg [oO 2 (.box 70 (.tmp 0)),
  oO 4 (.mv (.const (.slice none 0 0)))])
 (.seq (.reg [oM 11 1,
  oO 12 (.call (.func 285) [(.tmp 11)]),
  oM 5 12])
 (.seq (.seq (.reg [oF 13 2 2,
  oL 14 13,
  oN 15 14,
  oO 16 (.mv (oK 0))])
 (.blk 0 (.loop (.seq (.reg [oO 17 (.bin .lss (.tmp 16) (.tmp 15))])
 (.seq (.cond (.tmp 17) .skip (.exit 0))
 (.seq (.blk 1 (.seq (.reg [oX 18 3 14 16,
  oO 19 (.loadn 3 (.tmp 18)),
  oO 7 (.alloc 181 [.int .i64 0,.int .i64 0,.int .i64 0]),
  oS (.store 3 (.tmp 7) (.tmp 19))])
 (.reg [oM 20 5,
  oM 21 5,
  oF 22 0 7,
  oL 23 22,
  oX 24 1 21 23,
  oL 25 24,
  oF 26 2 7,
  oL 27 26,
  oM 28 5,
  oF 29 1 7,
  oL 30 29,
  oX 31 1 28 30,
  oL 32 31,
  oO 33 (.bin .mul (.tmp 27) (.tmp 32)),
  oO 34 (.bin .add (.tmp 25) (.tmp 33)),
  oF 35 0 2,
  oL 36 35,
  oO 37 (.bin .rem (.tmp 34) (.tmp 36)),
  oO 38 (.bslice 2 1 1 [.int .i64 0] [(0,1,(.tmp 37))]),
  oO 39 (.app 2 1 8 (.tmp 20) (.tmp 38)),
  oM 5 39])))
 (.reg [oO 40 (.bin .add (.tmp 16) (oK 1)),
  oM 16 40])))))))
 (.seq (.reg [oO 41 (.bslice 2 1 0 [.int .i64 0] []),
  oM 8 41])
 (.seq (.seq (.reg [oF 42 3 2,
  oL 43 42,
  oN 44 43,
  oO 45 (.mv (oK 0))])
 (.blk 2 (.loop (.seq (.reg [oO 46 (.bin .lss (.tmp 45) (.tmp 44))])
 (.seq (.cond (.tmp 46) .skip (.exit 2))
 (.seq (.blk 3 (.seq (.reg [oX 47 2 43 45,
  oO 48 (.loadn 2 (.tmp 47)),
  oO 10 (.alloc 183 [.int .i64 0,.int .i64 0]),
  oS (.store 2 (.tmp 10) (.tmp 48))])
 (.reg [oM 49 8,
  oF 50 1 10,
  oL 51 50,
  oM 52 5,
  oF 53 0 10,
  oL 54 53,
  oX 55 1 52 54,
  oL 56 55,
  oO 57 (.bin .mul (.tmp 51) (.tmp 56)),
  oF 58 0 2,
  oL 59 58,
  oO 60 (.bin .rem (.tmp 57) (.tmp 59)),
  oO 61 (.bslice 2 1 1 [.int .i64 0] [(0,1,(.tmp 60))]),
  oO 62 (.app 2 1 8 (.tmp 49) (.tmp 61)),
  oM 8 62])))
 (.reg [oO 63 (.bin .add (.tmp 45) (oK 1)),
  oM 45 63])))))))
 (.seq (.reg [oM 64 8,
  oM 4 64])
 .ret))))))⟩
theorem s171:compFn Try.prog Try.f171=some c171:=by kernel_rfl
def c178:XFn:=
 ⟨[.celln 10 5],
 (.seq (.reg [oO 10 (.alloc 36 [.int .i64 0,.int .i64 0,.int .i64 0,.int .i64 0,.slice none 0 0])])
 (.seq (.reg [oM 15 0,
  oM 16 1,
  oM 17 2,
  oM 18 3,
  oO 19 (.build [.int .i64 0,.int .i64 0,.int .i64 0,.int .i64 0,.slice none 0 0] [(0,1,(.tmp 15)),(1,1,(.tmp 16)),(2,1,(.tmp 17)),(3,1,(.tmp 18))]),
  oO 11 (.alloc 36 [.int .i64 0,.int .i64 0,.int .i64 0,.int .i64 0,.slice none 0 0]),
  oS (.store 5 (.tmp 11) (.tmp 19))])
 (.seq (.seq (.reg [oM 20 1,
  oO 21 (.mv (oK 0))])
 (.blk 0 (.loop (.seq (.reg [oO 22 (.bin .lss (.tmp 21) (.tmp 20))])
 (.seq (.cond (.tmp 22) .skip (.exit 0))
 (.seq (.blk 1 (.seq (.reg [oM 23 21,
  oM 12 23])
 (.seq (.reg [oM 24 2,
  oO 25 (.mv (oK 0))])
 (.blk 2 (.loop (.seq (.reg [oO 26 (.bin .lss (.tmp 25) (.tmp 24))])
 (.seq (.cond (.tmp 26) .skip (.exit 2))
 (.seq (.blk 3 (.seq (.reg [oM 27 25,
  oM 13 27])
 (.seq (.reg [oM 28 3,
  oO 29 (.mv (oK 0))])
 (.blk 4 (.loop (.seq (.reg [oO 30 (.bin .lss (.tmp 29) (.tmp 28))])
 (.seq (.cond (.tmp 30) .skip (.exit 4))
 (.seq (.blk 5 (.seq (.reg [oM 31 29,
  oM 14 31])
 (.reg [oF 32 4 11,
  oL 33 32,
  oM 34 4,
  oM 35 12,
  oM 36 13,
  oM 37 14,
  ⟨some 38,.call (.tmp 34) [(.tmp 35),(.tmp 36),(.tmp 37)],none,.t⟩,
  oM 39 0,
  oO 40 (.bin .rem (.tmp 38) (.tmp 39)),
  oO 41 (.bslice 2 1 1 [.int .i64 0] [(0,1,(.tmp 40))]),
  oO 42 (.app 2 1 8 (.tmp 33) (.tmp 41)),
  oF 43 4 11,
  oS (.store 1 (.tmp 43) (.tmp 42))])))
 (.reg [oO 44 (.bin .add (.tmp 29) (oK 1)),
  oM 29 44])))))))))
 (.reg [oO 45 (.bin .add (.tmp 25) (oK 1)),
  oM 25 45])))))))))
 (.reg [oO 46 (.bin .add (.tmp 21) (oK 1)),
  oM 21 46])))))))
 (.seq (.reg [oO 47 (.loadn 5 (.tmp 11)),
  oS (.store 5 (.tmp 10) (.tmp 47))])
 .ret))))⟩
theorem s178:compFn Try.prog Try.f178=some c178:=by kernel_rfl
def c181:XFn:=
 ⟨[.tmp 6],
 (.seq (.reg [oO 6 (.mv (.const (.bool false)))])
 (.seq (.reg [oM 7 0,
  oM 8 1,
  oO 9 (.bin .geq (.tmp 7) (.tmp 8)),
  oM 10 9,
  oG 11 (.mv (.tmp 0)) 10 true,
  oG 12 (.mv (.tmp 2)) 10 true,
  oG 13 (.bin .leq (.tmp 11) (.tmp 12)) 10 true,
  oO 14 (.pick (.tmp 10) (.tmp 13) (.const (.bool false))),
  oM 6 14])
 .ret))⟩
theorem s181:compFn Try.prog Try.f181=some c181:=by kernel_rfl
def tab1:List (Nat×XFn):=[(11,c11),(15,c15),(16,c16),(17,c17),(18,c18),(19,c19),(20,c20),(21,c21),(22,c22),(23,c23),(68,c68),(133,c133),(134,c134),(149,c149),(150,c150),(151,c151),(152,c152),(153,c153),(154,c154),(155,c155),(156,c156),(157,c157),(158,c158),(159,c159),(160,c160),(161,c161),(162,c162),(163,c163),(164,c164),(165,c165),(166,c166),(167,c167),(168,c168),(169,c169),(170,c170),(171,c171),(178,c178),(181,c181)]
theorem ts1:TSound Try.prog (fun g=>tab1.lookup g):=by
 refine tsound_of_all (P:=Try.prog) (tab:=tab1) ?_
 intro p hp
 simp only[tab1,List.mem_cons,List.not_mem_nil,or_false] at hp
 rcases hp with rfl|rfl|rfl|rfl|rfl|rfl|rfl|rfl|rfl|rfl|rfl|rfl|rfl|rfl|rfl|rfl|rfl|rfl|rfl|rfl|rfl|rfl|rfl|rfl|rfl|rfl|rfl|rfl|rfl|rfl|rfl|rfl|rfl|rfl|rfl|rfl|rfl|rfl
 ·exact⟨_,Try.func11,s11⟩
 ·exact⟨_,Try.func15,s15⟩
 ·exact⟨_,Try.func16,s16⟩
 ·exact⟨_,Try.func17,s17⟩
 ·exact⟨_,Try.func18,s18⟩
 ·exact⟨_,Try.func19,s19⟩
 ·exact⟨_,Try.func20,s20⟩
 ·exact⟨_,Try.func21,s21⟩
 ·exact⟨_,Try.func22,s22⟩
 ·exact⟨_,Try.func23,s23⟩
 ·exact⟨_,Try.func68,s68⟩
 ·exact⟨_,Try.func133,s133⟩
 ·exact⟨_,Try.func134,s134⟩
 ·exact⟨_,Try.func149,s149⟩
 ·exact⟨_,Try.func150,s150⟩
 ·exact⟨_,Try.func151,s151⟩
 ·exact⟨_,Try.func152,s152⟩
 ·exact⟨_,Try.func153,s153⟩
 ·exact⟨_,Try.func154,s154⟩
 ·exact⟨_,Try.func155,s155⟩
 ·exact⟨_,Try.func156,s156⟩
 ·exact⟨_,Try.func157,s157⟩
 ·exact⟨_,Try.func158,s158⟩
 ·exact⟨_,Try.func159,s159⟩
 ·exact⟨_,Try.func160,s160⟩
 ·exact⟨_,Try.func161,s161⟩
 ·exact⟨_,Try.func162,s162⟩
 ·exact⟨_,Try.func163,s163⟩
 ·exact⟨_,Try.func164,s164⟩
 ·exact⟨_,Try.func165,s165⟩
 ·exact⟨_,Try.func166,s166⟩
 ·exact⟨_,Try.func167,s167⟩
 ·exact⟨_,Try.func168,s168⟩
 ·exact⟨_,Try.func169,s169⟩
 ·exact⟨_,Try.func170,s170⟩
 ·exact⟨_,Try.func171,s171⟩
 ·exact⟨_,Try.func178,s178⟩
 ·exact⟨_,Try.func181,s181⟩
end Go.Proofs.Ytapafdpnmakekaa.X
