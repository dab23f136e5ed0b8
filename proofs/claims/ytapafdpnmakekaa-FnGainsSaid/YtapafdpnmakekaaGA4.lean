/- Texts of one claim, put together by merge.py: XCode1. -/
import Derived.Test.YtapafdpnmakekaaGA3
import Derived.Test.YtapafdpnmakekaaProg
set_option linter.unusedVariables false
set_option maxRecDepth 4000
namespace Go.Proofs.Ytapafdpnmakekaa.X
open Go Go.RowKit
def c10:XFn:=
 ⟨[.tmp 2],
 (.seq (.reg [oO 2 (.mv (.const (.bool false)))])
 (.seq (.seq (.reg [oM 40 0,
  oO 41 (.call (.func 13) [(.tmp 40)])])
 (.cond (.tmp 41) (.seq (.reg [oO 2 (.mv (.const (.bool true)))])
 .ret) .skip))
 (.seq (.reg [oM 43 0,
  oO 44 (.call (.func 118) [(.tmp 43)]),
  oM 42 44,
  oE 45 42 0,
  oE 46 42 1,
  oE 47 42 2,
  oO 3 (.alloc 26 [.int .i64 0,.int .i64 0,.int .i64 0,.int .i64 0,.slice none 0 0]),
  oS (.store 5 (.tmp 3) (.tmp 45)),
  oM 4 46,
  oM 5 47])
 (.seq (.reg [oO 49 (.loadn 5 (.tmp 3)),
  oM 50 4,
  oM 51 5,
  oO 52 (.call (.func 119) [(.tmp 49),(.tmp 50),(.tmp 51)]),
  oM 48 52,
  oE 53 48 0,
  oE 54 48 1,
  oM 6 53,
  oM 7 54])
 (.seq (.seq (.reg [oO 56 (.loadn 5 (.tmp 3)),
  oM 57 4,
  oM 58 5,
  oO 59 (.call (.func 120) [(.tmp 56),(.tmp 57),(.tmp 58)]),
  oM 55 59,
  oE 60 55 0,
  oE 61 55 1,
  oM 8 60,
  oM 9 61])
 (.seq (.reg [oM 62 7,
  oM 63 9,
  oO 64 (.bin .neq (.tmp 62) (.tmp 63)),
  oM 65 64,
  oG 66 (.mv (.tmp 6)) 65 false,
  oG 67 (.mv (.tmp 8)) 65 false,
  oG 68 (.bin .neq (.tmp 66) (.tmp 67)) 65 false,
  oO 69 (.pick (.tmp 65) (.const (.bool true)) (.tmp 68))])
 (.cond (.tmp 69) (.seq (.reg [oO 2 (.mv (.const (.bool false)))])
 .ret) .skip)))
 (.seq (.reg [oM 71 0,
  oO 72 (.call (.func 121) [(.tmp 71)]),
  oM 70 72,
  oE 73 70 0,
  oE 74 70 1,
  oO 10 (.alloc 26 [.int .i64 0,.int .i64 0,.int .i64 0,.int .i64 0,.slice none 0 0]),
  oS (.store 5 (.tmp 10) (.tmp 73)),
  oM 11 74])
 (.seq (.reg [oO 76 (.loadn 5 (.tmp 10)),
  oM 77 11,
  oO 78 (.call (.func 122) [(.tmp 76),(.tmp 77)]),
  oM 75 78,
  oE 79 75 0,
  oE 80 75 1,
  oM 12 79,
  oM 13 80])
 (.seq (.seq (.reg [oO 82 (.loadn 5 (.tmp 10)),
  oM 83 11,
  oO 84 (.call (.func 123) [(.tmp 82),(.tmp 83)]),
  oM 81 84,
  oE 85 81 0,
  oE 86 81 1,
  oM 14 85,
  oM 15 86])
 (.seq (.reg [oM 87 13,
  oM 88 15,
  oO 89 (.bin .neq (.tmp 87) (.tmp 88)),
  oM 90 89,
  oG 91 (.mv (.tmp 12)) 90 false,
  oG 92 (.mv (.tmp 14)) 90 false,
  oG 93 (.bin .neq (.tmp 91) (.tmp 92)) 90 false,
  oO 94 (.pick (.tmp 90) (.const (.bool true)) (.tmp 93))])
 (.cond (.tmp 94) (.seq (.reg [oO 2 (.mv (.const (.bool false)))])
 .ret) .skip)))
 (.seq (.reg [oM 96 0,
  oO 97 (.call (.func 124) [(.tmp 96)]),
  oM 95 97,
  oE 98 95 0,
  oE 99 95 1,
  oO 16 (.alloc 26 [.int .i64 0,.int .i64 0,.int .i64 0,.int .i64 0,.slice none 0 0]),
  oS (.store 5 (.tmp 16) (.tmp 98)),
  oM 17 99])
 (.seq (.reg [oO 101 (.loadn 5 (.tmp 16)),
  oM 102 17,
  oO 103 (.call (.func 125) [(.tmp 101),(.tmp 102)]),
  oM 100 103,
  oE 104 100 0,
  oE 105 100 1,
  oM 18 104,
  oM 19 105])
 (.seq (.seq (.reg [oO 107 (.loadn 5 (.tmp 16)),
  oM 108 17,
  oO 109 (.call (.func 126) [(.tmp 107),(.tmp 108)]),
  oM 106 109,
  oE 110 106 0,
  oE 111 106 1,
  oM 20 110,
  oM 21 111])
 (.seq (.reg [oM 112 19,
  oM 113 21,
  oO 114 (.bin .neq (.tmp 112) (.tmp 113)),
  oM 115 114,
  oG 116 (.mv (.tmp 18)) 115 false,
  oG 117 (.mv (.tmp 20)) 115 false,
  oG 118 (.bin .neq (.tmp 116) (.tmp 117)) 115 false,
  oO 119 (.pick (.tmp 115) (.const (.bool true)) (.tmp 118))])
 (.cond (.tmp 119) (.seq (.reg [oO 2 (.mv (.const (.bool false)))])
 .ret) .skip)))
 (.seq (.reg [oM 121 0,
  oO 122 (.call (.func 127) [(.tmp 121)]),
  oM 120 122,
  oE 123 120 0,
  oE 124 120 1,
  oE 125 120 2,
  oO 22 (.alloc 26 [.int .i64 0,.int .i64 0,.int .i64 0,.int .i64 0,.slice none 0 0]),
  oS (.store 5 (.tmp 22) (.tmp 123)),
  oM 23 124,
  oM 24 125])
 (.seq (.reg [oO 127 (.loadn 5 (.tmp 22)),
  oM 128 23,
  oM 129 24,
  oO 130 (.call (.func 128) [(.tmp 127),(.tmp 128),(.tmp 129)]),
  oM 126 130,
  oE 131 126 0,
  oE 132 126 1,
  oM 25 131,
  oM 26 132])
 (.seq (.seq (.reg [oO 134 (.loadn 5 (.tmp 22)),
  oM 135 23,
  oM 136 24,
  oO 137 (.call (.func 129) [(.tmp 134),(.tmp 135),(.tmp 136)]),
  oM 133 137,
  oE 138 133 0,
  oE 139 133 1,
  oM 27 138,
  oM 28 139])
 (.seq (.reg [oM 140 26,
  oM 141 28,
  oO 142 (.bin .neq (.tmp 140) (.tmp 141)),
  oM 143 142,
  oG 144 (.mv (.tmp 25)) 143 false,
  oG 145 (.mv (.tmp 27)) 143 false,
  oG 146 (.eqb true (.tmp 144) (.tmp 145)) 143 false,
  oO 147 (.pick (.tmp 143) (.const (.bool true)) (.tmp 146))])
 (.cond (.tmp 147) (.seq (.reg [oO 2 (.mv (.const (.bool false)))])
 .ret) .skip)))
 (.seq (.reg [oM 149 0,
  oO 150 (.call (.func 130) [(.tmp 149)]),
  oM 148 150,
  oE 151 148 0,
  oE 152 148 1,
  oO 29 (.alloc 26 [.int .i64 0,.int .i64 0,.int .i64 0,.int .i64 0,.slice none 0 0]),
  oO 30 (.alloc 26 [.int .i64 0,.int .i64 0,.int .i64 0,.int .i64 0,.slice none 0 0]),
  oS (.store 5 (.tmp 29) (.tmp 151)),
  oS (.store 5 (.tmp 30) (.tmp 152))])
 (.seq (.reg [oO 154 (.loadn 5 (.tmp 29)),
  oO 155 (.loadn 5 (.tmp 30)),
  oO 156 (.call (.func 131) [(.tmp 154),(.tmp 155)]),
  oM 153 156,
  oE 157 153 0,
  oE 158 153 1,
  oM 31 157,
  oM 32 158])
 (.seq (.seq (.reg [oO 160 (.loadn 5 (.tmp 29)),
  oO 161 (.loadn 5 (.tmp 30)),
  oO 162 (.call (.func 132) [(.tmp 160),(.tmp 161)]),
  oM 159 162,
  oE 163 159 0,
  oE 164 159 1,
  oM 33 163,
  oM 34 164])
 (.seq (.reg [oM 165 32,
  oM 166 34,
  oO 167 (.bin .neq (.tmp 165) (.tmp 166)),
  oM 168 167,
  oG 169 (.mv (.tmp 31)) 168 false,
  oG 170 (.mv (.tmp 33)) 168 false,
  oG 171 (.bin .neq (.tmp 169) (.tmp 170)) 168 false,
  oO 172 (.pick (.tmp 168) (.const (.bool true)) (.tmp 171))])
 (.cond (.tmp 172) (.seq (.reg [oO 2 (.mv (.const (.bool false)))])
 .ret) .skip)))
 (.seq (.seq (.reg [oM 173 32,
  oO 174 (.bin .eql (.tmp 173) (oK 0))])
 (.cond (.tmp 174) (.seq (.reg [oO 176 (.loadn 5 (.tmp 30)),
  oO 177 (.loadn 5 (.tmp 29)),
  oO 178 (.call (.func 131) [(.tmp 176),(.tmp 177)]),
  oM 175 178,
  oE 179 175 0,
  oE 180 175 1,
  oM 35 179,
  oM 36 180])
 (.seq (.reg [oM 181 36,
  oO 182 (.bin .neq (.tmp 181) (oK 0)),
  oM 183 182,
  oG 184 (.mv (.tmp 35)) 183 false,
  oG 185 (.mv (.tmp 31)) 183 false,
  oG 186 (.un .neg (.tmp 185)) 183 false,
  oG 187 (.bin .neq (.tmp 184) (.tmp 186)) 183 false,
  oO 188 (.pick (.tmp 183) (.const (.bool true)) (.tmp 187))])
 (.cond (.tmp 188) (.seq (.reg [oO 2 (.mv (.const (.bool false)))])
 .ret) .skip))) .skip))
 (.seq (.seq (.reg [oM 189 26,
  oO 190 (.bin .eql (.tmp 189) (oK 0)),
  oM 191 190,
  oG 192 (.mv (.tmp 25)) 191 true,
  oO 193 (.pick (.tmp 191) (.tmp 192) (.const (.bool false))),
  oM 194 193,
  oG 195 (.mv (.tmp 23)) 194 true,
  oG 196 (.bin .lss (.tmp 195) (oK 24)) 194 true,
  oO 197 (.pick (.tmp 194) (.tmp 196) (.const (.bool false)))])
 (.cond (.tmp 197) (.seq (.reg [oO 199 (.loadn 5 (.tmp 22)),
  oM 200 23,
  oO 201 (.bin .add (.tmp 200) (oK 1)),
  oM 202 24,
  oO 203 (.call (.func 128) [(.tmp 199),(.tmp 201),(.tmp 202)]),
  oM 198 203,
  oE 204 198 0,
  oE 205 198 1,
  oM 37 204,
  oM 38 205])
 (.seq (.reg [oM 206 38,
  oO 207 (.bin .neq (.tmp 206) (oK 0)),
  oM 208 207,
  oG 209 (.mv (.tmp 37)) 208 false,
  oG 210 (.un .not (.tmp 209)) 208 false,
  oO 211 (.pick (.tmp 208) (.const (.bool true)) (.tmp 210))])
 (.cond (.tmp 211) (.seq (.reg [oO 2 (.mv (.const (.bool false)))])
 .ret) .skip))) .skip))
 (.seq (.seq (.reg [oM 212 19,
  oO 213 (.bin .eql (.tmp 212) (oK 0))])
 (.cond (.tmp 213) (.seq (.reg [oM 214 18,
  oM 39 214])
 (.seq (.blk 0 (.loop (.seq (.seq (.reg [oM 215 39,
  oF 216 1 16,
  oL 217 216,
  oO 218 (.bin .rem (.tmp 215) (.tmp 217)),
  oO 219 (.bin .eql (.tmp 218) (oK 0)),
  oM 220 219,
  oG 221 (.mv (.tmp 39)) 220 true,
  oG 222 (.bin .gtr (.tmp 221) (oK 1)) 220 true,
  oO 223 (.pick (.tmp 220) (.tmp 222) (.const (.bool false)))])
 (.cond (.tmp 223) .skip (.exit 0)))
 (.blk 1 (.reg [oM 224 39,
  oF 225 1 16,
  oL 226 225,
  oO 227 (.bin .quo (.tmp 224) (.tmp 226)),
  oM 39 227])))))
 (.seq (.reg [oM 228 18,
  oM 229 17,
  oO 230 (.bin .lss (.tmp 228) (.tmp 229)),
  oM 231 230,
  oG 232 (.mv (.tmp 39)) 231 false,
  oG 233 (.bin .neq (.tmp 232) (oK 1)) 231 false,
  oO 234 (.pick (.tmp 231) (.const (.bool true)) (.tmp 233)),
  oM 235 234,
  oG 236 (.mv (.tmp 18)) 235 false,
  oG 237 (.mv (.tmp 17)) 235 false,
  oG 238 (.fadr 1 (.tmp 16)) 235 false,
  oG 239 (.load1 (.tmp 238)) 235 false,
  oG 240 (.bin .mul (.tmp 237) (.tmp 239)) 235 false,
  oG 241 (.bin .gtr (.tmp 236) (.tmp 240)) 235 false,
  oO 242 (.pick (.tmp 235) (.const (.bool true)) (.tmp 241))])
 (.cond (.tmp 242) (.seq (.reg [oO 2 (.mv (.const (.bool false)))])
 .ret) .skip)))) .skip))
 (.seq (.seq (.reg [oM 243 13,
  oO 244 (.bin .eql (.tmp 243) (oK 0)),
  oM 245 244,
  oG 246 (.mv (.tmp 12)) 245 true,
  oG 247 (.bin .lss (.tmp 246) (oK 1)) 245 true,
  oG 248 (.mv (.tmp 247)) 245 true,
  oG 249 (.mv (.tmp 12)) 248 false,
  oG 250 (.bin .gtr (.tmp 249) (oK 8)) 248 false,
  oG 251 (.pick (.tmp 248) (.const (.bool true)) (.tmp 250)) 245 true,
  oO 252 (.pick (.tmp 245) (.tmp 251) (.const (.bool false)))])
 (.cond (.tmp 252) (.seq (.reg [oO 2 (.mv (.const (.bool false)))])
 .ret) .skip))
 (.seq (.reg [oM 253 7,
  oO 254 (.bin .neq (.tmp 253) (oK 0)),
  oM 255 254,
  oG 256 (.mv (.tmp 6)) 255 true,
  oG 257 (.bin .eql (.tmp 256) (oK 0)) 255 true,
  oO 258 (.pick (.tmp 255) (.tmp 257) (.const (.bool false))),
  oM 259 258,
  oG 260 (.mv (.tmp 7)) 259 false,
  oG 261 (.bin .eql (.tmp 260) (oK 0)) 259 false,
  oG 262 (.mv (.tmp 261)) 259 false,
  oG 263 (.mv (.tmp 6)) 262 true,
  oG 264 (.bin .geq (.tmp 263) (oK 0)) 262 true,
  oG 265 (.pick (.tmp 262) (.tmp 264) (.const (.bool false))) 259 false,
  oG 266 (.mv (.tmp 265)) 259 false,
  oG 267 (.mv (.tmp 6)) 266 true,
  oG 268 (.mv (.tmp 4)) 266 true,
  oG 269 (.bin .leq (.tmp 267) (.tmp 268)) 266 true,
  oG 270 (.pick (.tmp 266) (.tmp 269) (.const (.bool false))) 259 false,
  oO 271 (.pick (.tmp 259) (.const (.bool true)) (.tmp 270)),
  oM 2 271])
 .ret))))))))))))))))))))))⟩
theorem s10:compFn Try.prog Try.f10=some c10:=by kernel_rfl
def c13:XFn:=
 ⟨[.tmp 2],
 (.seq (.reg [oO 2 (.mv (.const (.bool false)))])
 (.seq (.reg [oM 3 0,
  oN 4 3,
  oO 5 (.bin .gtr (.tmp 4) (oK 4096)),
  oM 2 5])
 .ret))⟩
theorem s13:compFn Try.prog Try.f13=some c13:=by kernel_rfl
def c95:XFn:=
 ⟨[.celln 2 5,.tmp 3,.tmp 4],
 (.seq (.reg [oO 2 (.alloc 26 [.int .i64 0,.int .i64 0,.int .i64 0,.int .i64 0,.slice none 0 0]),
  oO 3 (.mv (oK 0)),
  oO 4 (.mv (oK 0))])
 (.seq (.reg [oM 6 0,
  oO 7 (.call (.func 145) [(.tmp 6)]),
  oM 5 7])
 (.seq (.reg [oM 8 5,
  oO 9 (.call (.func 227) [(.tmp 8)]),
  oM 10 5,
  oM 11 5,
  oO 12 (.call (.func 175) [(.tmp 11),(oK 8)]),
  oO 13 (.bslice 2 1 5 [.int .i64 0] [(0,1,(oK 0)),(1,1,(oK 1)),(2,1,(oK 2)),(3,1,(oK 3)),(4,1,(.tmp 12))]),
  oO 14 (.call (.func 147) [(.tmp 10),(.tmp 13)]),
  oM 15 5,
  oM 16 5,
  oO 17 (.call (.func 148) [(.tmp 16),(oK 30)]),
  oO 18 (.bin .add (oK 1) (.tmp 17)),
  oM 19 5,
  oO 20 (.call (.func 175) [(.tmp 19),(oK 1000)]),
  oO 21 (.bslice 2 1 3 [.int .i64 0] [(0,1,(oK 1)),(1,1,(.tmp 18)),(2,1,(.tmp 20))]),
  oO 22 (.call (.func 147) [(.tmp 15),(.tmp 21)]),
  oS (.store 5 (.tmp 2) (.tmp 9)),
  oM 3 14,
  oM 4 22])
 .ret)))⟩
theorem s95:compFn Try.prog Try.f95=some c95:=by kernel_rfl
def c118:XFn:=
 ⟨[.celln 2 5,.tmp 3,.tmp 4],
 (.seq (.reg [oO 2 (.alloc 26 [.int .i64 0,.int .i64 0,.int .i64 0,.int .i64 0,.slice none 0 0]),
  oO 3 (.mv (oK 0)),
  oO 4 (.mv (oK 0))])
 (.seq (.reg [oM 5 0,
  oO 6 (.call (.func 95) [(.tmp 5)]),
  oE 7 6 0,
  oE 8 6 1,
  oE 9 6 2,
  oS (.store 5 (.tmp 2) (.tmp 7)),
  oM 3 8,
  oM 4 9])
 .ret))⟩
theorem s118:compFn Try.prog Try.f118=some c118:=by kernel_rfl
def c119:XFn:=
 ⟨[.tmp 6,.tmp 7],
 (.seq (.reg [oO 3 (.box 26 (.tmp 0)),
  oO 6 (.mv (oK 0)),
  oO 7 (.mv (oK 0))])
 (.seq (.seq (.reg [oO 14 (.loadn 5 (.tmp 3)),
  oM 15 1,
  ⟨some 16,.call (.func 231) [(.tmp 15)],none,.t⟩,
  oM 17 16,
  oG 18 (.mv (.tmp 2)) 17 true,
  ⟨some 19,.call (.func 235) [(.tmp 18)],(some (17,true)),.t⟩,
  oO 20 (.pick (.tmp 17) (.tmp 19) (.const (.bool false))),
  oO 21 (.call (.func 230) [(.tmp 14),(.tmp 20)]),
  oM 8 21])
 (.seq (.reg [oM 22 8,
  oO 23 (.bin .neq (.tmp 22) (oK 0))])
 (.cond (.tmp 23) (.seq (.reg [oM 24 8,
  oO 6 (.mv (oK 0)),
  oM 7 24])
 .ret) .skip)))
 (.seq (.reg [oO 9 (.mv (oK 0)),
  oO 10 (.mv (.const (.int .i64 (-1))))])
 (.seq (.seq (.reg [oM 25 1,
  oO 26 (.bin .add (.tmp 25) (oK 1)),
  oO 27 (.mv (oK 0))])
 (.blk 0 (.loop (.seq (.reg [oO 28 (.bin .lss (.tmp 27) (.tmp 26))])
 (.seq (.cond (.tmp 28) .skip (.exit 0))
 (.seq (.blk 1 (.seq (.reg [oM 29 27,
  oM 11 29])
 (.seq (.reg [oO 31 (.loadn 5 (.tmp 3)),
  oM 32 11,
  oF 33 1 3,
  oL 34 33,
  oM 35 1,
  oM 36 11,
  oO 37 (.bin .sub (.tmp 35) (.tmp 36)),
  ⟨some 38,.call (.func 254) [(.tmp 34),(.tmp 37)],none,.t⟩,
  oM 39 2,
  oO 40 (.bin .mul (.tmp 38) (.tmp 39)),
  oO 41 (.call (.func 236) [(.tmp 31),(.tmp 32),(.tmp 40)]),
  oM 30 41,
  oE 42 30 0,
  oE 43 30 1,
  oM 12 42,
  oM 13 43])
 (.seq (.seq (.reg [oM 44 13,
  oO 45 (.un .not (.tmp 44))])
 (.cond (.tmp 45) (.seq (.reg [oO 6 (.mv (oK 0)),
  oO 7 (.mv (oK 3))])
 .ret) .skip))
 (.seq (.reg [oM 46 10,
  oO 47 (.bin .lss (.tmp 46) (oK 0)),
  oM 48 47,
  oG 49 (.mv (.tmp 12)) 48 false,
  oG 50 (.mv (.tmp 10)) 48 false,
  oG 51 (.bin .lss (.tmp 49) (.tmp 50)) 48 false,
  oO 52 (.pick (.tmp 48) (.const (.bool true)) (.tmp 51))])
 (.cond (.tmp 52) (.reg [oM 53 11,
  oM 54 12,
  oM 9 53,
  oM 10 54]) .skip))))))
 (.reg [oO 55 (.bin .add (.tmp 27) (oK 1)),
  oM 27 55])))))))
 (.seq (.reg [oM 56 9,
  oM 6 56,
  oO 7 (.mv (oK 0))])
 .ret)))))⟩
theorem s119:compFn Try.prog Try.f119=some c119:=by kernel_rfl
def c120:XFn:=
 ⟨[.tmp 6,.tmp 7],
 (.seq (.reg [oO 3 (.box 26 (.tmp 0)),
  oO 6 (.mv (oK 0)),
  oO 7 (.mv (oK 0))])
 (.seq (.seq (.reg [oO 16 (.loadn 5 (.tmp 3)),
  oM 17 1,
  oM 18 2,
  oO 19 (.call (.func 237) [(.tmp 16),(.tmp 17),(.tmp 18)]),
  oM 8 19])
 (.seq (.reg [oM 20 8,
  oO 21 (.bin .neq (.tmp 20) (oK 0))])
 (.cond (.tmp 21) (.seq (.reg [oM 22 8,
  oO 6 (.mv (oK 0)),
  oM 7 22])
 .ret) .skip)))
 (.seq (.reg [oM 23 2,
  oO 9 (.mv (oK 0)),
  oO 10 (.mv (oK 0)),
  oM 11 23])
 (.seq (.seq (.reg [oO 12 (.mv (oK 0))])
 (.blk 0 (.loop (.seq (.seq (.reg [oM 24 12,
  oM 25 1,
  oO 26 (.bin .lss (.tmp 24) (.tmp 25))])
 (.cond (.tmp 26) .skip (.exit 0)))
 (.seq (.blk 1 (.reg [oM 29 11,
  oF 30 1 3,
  oL 31 30,
  oO 32 (.bin .mul (.tmp 29) (.tmp 31)),
  oM 11 32]))
 (.reg [oM 27 12,
  oO 28 (.bin .add (.tmp 27) (oK 1)),
  oM 12 28]))))))
 (.seq (.seq (.reg [oO 13 (.mv (oK 0))])
 (.blk 2 (.loop (.seq (.seq (.reg [oM 33 13,
  oM 34 1,
  oO 35 (.bin .leq (.tmp 33) (.tmp 34))])
 (.cond (.tmp 35) .skip (.exit 2)))
 (.seq (.blk 3 (.seq (.seq (.reg [oM 38 11,
  oO 39 (.bin .gtr (.tmp 38) (oK 100000))])
 (.cond (.tmp 39) (.seq (.reg [oO 6 (.mv (oK 0)),
  oO 7 (.mv (oK 3))])
 .ret) .skip))
 (.seq (.reg [oO 41 (.loadn 5 (.tmp 3)),
  oM 42 13,
  oM 43 11,
  oO 44 (.call (.func 238) [(.tmp 41),(.tmp 42),(.tmp 43)]),
  oM 40 44,
  oE 45 40 0,
  oE 46 40 1,
  oM 14 45,
  oM 15 46])
 (.seq (.seq (.reg [oM 47 15,
  oO 48 (.un .not (.tmp 47))])
 (.cond (.tmp 48) (.seq (.reg [oO 6 (.mv (oK 0)),
  oO 7 (.mv (oK 3))])
 .ret) .skip))
 (.seq (.seq (.reg [oM 49 13,
  oO 50 (.bin .eql (.tmp 49) (oK 0)),
  oM 51 50,
  oG 52 (.mv (.tmp 14)) 51 false,
  oG 53 (.mv (.tmp 10)) 51 false,
  oG 54 (.bin .lss (.tmp 52) (.tmp 53)) 51 false,
  oO 55 (.pick (.tmp 51) (.const (.bool true)) (.tmp 54))])
 (.cond (.tmp 55) (.seq (.reg [oM 56 13,
  oM 9 56])
 (.reg [oM 57 14,
  oM 10 57])) .skip))
 (.reg [oM 58 11,
  oF 59 1 3,
  oL 60 59,
  oO 61 (.bin .quo (.tmp 58) (.tmp 60)),
  oM 11 61]))))))
 (.reg [oM 36 13,
  oO 37 (.bin .add (.tmp 36) (oK 1)),
  oM 13 37]))))))
 (.seq (.reg [oM 62 9,
  oM 6 62,
  oO 7 (.mv (oK 0))])
 .ret))))))⟩
theorem s120:compFn Try.prog Try.f120=some c120:=by kernel_rfl
def c121:XFn:=
 ⟨[.celln 2 5,.tmp 3],
 (.seq (.reg [oO 2 (.alloc 26 [.int .i64 0,.int .i64 0,.int .i64 0,.int .i64 0,.slice none 0 0]),
  oO 3 (.mv (oK 0))])
 (.seq (.reg [oM 8 0,
  oO 9 (.call (.func 95) [(.tmp 8)]),
  oM 7 9,
  oE 10 7 0,
  oE 11 7 1,
  oE 12 7 2,
  oO 4 (.alloc 26 [.int .i64 0,.int .i64 0,.int .i64 0,.int .i64 0,.slice none 0 0]),
  oS (.store 5 (.tmp 4) (.tmp 10)),
  oM 5 11,
  oM 6 12])
 (.seq (.reg [oO 13 (.loadn 5 (.tmp 4)),
  oM 14 6,
  oS (.store 5 (.tmp 2) (.tmp 13)),
  oM 3 14])
 .ret)))⟩
theorem s121:compFn Try.prog Try.f121=some c121:=by kernel_rfl
def c122:XFn:=
 ⟨[.tmp 4,.tmp 5],
 (.seq (.reg [oO 2 (.box 26 (.tmp 0)),
  oO 4 (.mv (oK 0)),
  oO 5 (.mv (oK 0))])
 (.seq (.seq (.reg [oO 11 (.loadn 5 (.tmp 2)),
  oM 12 1,
  ⟨some 13,.call (.func 235) [(.tmp 12)],none,.t⟩,
  oO 14 (.call (.func 230) [(.tmp 11),(.tmp 13)]),
  oM 6 14])
 (.seq (.reg [oM 15 6,
  oO 16 (.bin .neq (.tmp 15) (oK 0))])
 (.cond (.tmp 16) (.seq (.reg [oM 17 6,
  oO 4 (.mv (oK 0)),
  oM 5 17])
 .ret) .skip)))
 (.seq (.seq (.reg [oO 7 (.mv (oK 1))])
 (.blk 0 (.loop (.seq (.seq (.reg [oM 18 7,
  oO 19 (.bin .leq (.tmp 18) (oK 8))])
 (.cond (.tmp 19) .skip (.exit 0)))
 (.seq (.blk 1 (.seq (.reg [oO 23 (.loadn 5 (.tmp 2)),
  oM 24 7,
  oM 25 1,
  oO 26 (.call (.func 236) [(.tmp 23),(.tmp 24),(.tmp 25)]),
  oM 22 26,
  oE 27 22 0,
  oE 28 22 1,
  oM 8 27,
  oM 9 28])
 (.seq (.seq (.reg [oM 29 9,
  oO 30 (.un .not (.tmp 29))])
 (.cond (.tmp 30) (.seq (.reg [oO 4 (.mv (oK 0)),
  oO 5 (.mv (oK 3))])
 .ret) .skip))
 (.seq (.reg [oF 31 1 2,
  oL 32 31,
  oM 33 7,
  oO 34 (.call (.func 254) [(.tmp 32),(.tmp 33)]),
  oM 35 1,
  oO 36 (.bin .mul (.tmp 34) (.tmp 35)),
  oO 37 (.mm false (.tmp 36) [(oK 100000)]),
  oM 10 37])
 (.seq (.reg [oM 38 8,
  oM 39 10,
  oO 40 (.bin .mul (oK 2) (.tmp 39)),
  oM 41 10,
  oO 42 (.bin .mul (.tmp 40) (.tmp 41)),
  oM 43 10,
  oO 44 (.bin .mul (.tmp 42) (.tmp 43)),
  oM 45 10,
  oM 46 10,
  oO 47 (.bin .mul (.tmp 45) (.tmp 46)),
  oO 48 (.bin .sub (.tmp 44) (.tmp 47)),
  oO 49 (.bin .lss (.tmp 38) (.tmp 48))])
 (.cond (.tmp 49) (.seq (.reg [oM 50 7,
  oM 4 50,
  oO 5 (.mv (oK 0))])
 .ret) .skip))))))
 (.reg [oM 20 7,
  oO 21 (.bin .add (.tmp 20) (oK 1)),
  oM 7 21]))))))
 (.seq (.reg [oO 4 (.mv (oK 0)),
  oO 5 (.mv (oK 4))])
 .ret))))⟩
theorem s122:compFn Try.prog Try.f122=some c122:=by kernel_rfl
def c123:XFn:=
 ⟨[.tmp 4,.tmp 5],
 (.seq (.reg [oO 2 (.box 26 (.tmp 0)),
  oO 4 (.mv (oK 0)),
  oO 5 (.mv (oK 0))])
 (.seq (.seq (.reg [oO 11 (.loadn 5 (.tmp 2)),
  oM 12 1,
  oO 13 (.call (.func 237) [(.tmp 11),(oK 0),(.tmp 12)]),
  oM 6 13])
 (.seq (.reg [oM 14 6,
  oO 15 (.bin .neq (.tmp 14) (oK 0))])
 (.cond (.tmp 15) (.seq (.reg [oM 16 6,
  oO 4 (.mv (oK 0)),
  oM 5 16])
 .ret) .skip)))
 (.seq (.reg [oM 17 1,
  oM 7 17])
 (.seq (.seq (.reg [oO 8 (.mv (oK 1))])
 (.blk 0 (.loop (.seq (.seq (.reg [oM 18 8,
  oO 19 (.bin .leq (.tmp 18) (oK 8))])
 (.cond (.tmp 19) .skip (.exit 0)))
 (.seq (.blk 1 (.seq (.reg [oM 22 7,
  oF 23 1 2,
  oL 24 23,
  oO 25 (.bin .mul (.tmp 22) (.tmp 24)),
  oM 7 25])
 (.seq (.reg [oO 27 (.loadn 5 (.tmp 2)),
  oM 28 8,
  oM 29 1,
  oO 30 (.call (.func 238) [(.tmp 27),(.tmp 28),(.tmp 29)]),
  oM 26 30,
  oE 31 26 0,
  oE 32 26 1,
  oM 9 31,
  oM 10 32])
 (.seq (.seq (.reg [oM 33 10,
  oO 34 (.un .not (.tmp 33))])
 (.cond (.tmp 34) (.seq (.reg [oO 4 (.mv (oK 0)),
  oO 5 (.mv (oK 3))])
 .ret) .skip))
 (.seq (.reg [oM 35 7,
  oO 36 (.bin .gtr (.tmp 35) (oK 80000)),
  oM 37 36,
  oG 38 (.mv (.tmp 9)) 37 false,
  oG 39 (.mv (.tmp 7)) 37 false,
  oG 40 (.bin .mul (oK 2) (.tmp 39)) 37 false,
  oG 41 (.mv (.tmp 7)) 37 false,
  oG 42 (.bin .mul (.tmp 40) (.tmp 41)) 37 false,
  oG 43 (.mv (.tmp 7)) 37 false,
  oG 44 (.bin .mul (.tmp 42) (.tmp 43)) 37 false,
  oG 45 (.mv (.tmp 7)) 37 false,
  oG 46 (.mv (.tmp 7)) 37 false,
  oG 47 (.bin .mul (.tmp 45) (.tmp 46)) 37 false,
  oG 48 (.bin .sub (.tmp 44) (.tmp 47)) 37 false,
  oG 49 (.bin .lss (.tmp 38) (.tmp 48)) 37 false,
  oO 50 (.pick (.tmp 37) (.const (.bool true)) (.tmp 49))])
 (.cond (.tmp 50) (.seq (.reg [oM 51 8,
  oM 4 51,
  oO 5 (.mv (oK 0))])
 .ret) .skip))))))
 (.reg [oM 20 8,
  oO 21 (.bin .add (.tmp 20) (oK 1)),
  oM 8 21]))))))
 (.seq (.reg [oO 4 (.mv (oK 0)),
  oO 5 (.mv (oK 4))])
 .ret)))))⟩
theorem s123:compFn Try.prog Try.f123=some c123:=by kernel_rfl
def c124:XFn:=
 ⟨[.celln 2 5,.tmp 3],
 (.seq (.reg [oO 2 (.alloc 26 [.int .i64 0,.int .i64 0,.int .i64 0,.int .i64 0,.slice none 0 0]),
  oO 3 (.mv (oK 0))])
 (.seq (.reg [oM 5 0,
  oO 6 (.call (.func 145) [(.tmp 5)]),
  oM 4 6])
 (.seq (.reg [oM 7 4,
  oO 8 (.call (.func 227) [(.tmp 7)]),
  oM 9 4,
  oM 10 4,
  oO 11 (.call (.func 148) [(.tmp 10),(oK 30)]),
  oO 12 (.bin .add (oK 1) (.tmp 11)),
  oM 13 4,
  oO 14 (.call (.func 175) [(.tmp 13),(oK 1000000)]),
  oO 15 (.bslice 2 1 4 [.int .i64 0] [(0,1,(.tmp 12)),(1,1,(.tmp 14)),(2,1,(oK 256)),(3,1,(oK 257))]),
  oO 16 (.call (.func 147) [(.tmp 9),(.tmp 15)]),
  oS (.store 5 (.tmp 2) (.tmp 8)),
  oM 3 16])
 .ret)))⟩
theorem s124:compFn Try.prog Try.f124=some c124:=by kernel_rfl
def c125:XFn:=
 ⟨[.tmp 4,.tmp 5],
 (.seq (.reg [oO 2 (.box 26 (.tmp 0)),
  oO 4 (.mv (oK 0)),
  oO 5 (.mv (oK 0))])
 (.seq (.seq (.reg [oO 9 (.loadn 5 (.tmp 2)),
  oM 10 1,
  oO 11 (.bin .geq (.tmp 10) (oK 1)),
  oM 12 11,
  oG 13 (.mv (.tmp 1)) 12 true,
  oG 14 (.bin .leq (.tmp 13) (oK 1000000)) 12 true,
  oO 15 (.pick (.tmp 12) (.tmp 14) (.const (.bool false))),
  oO 16 (.call (.func 230) [(.tmp 9),(.tmp 15)]),
  oM 6 16])
 (.seq (.reg [oM 17 6,
  oO 18 (.bin .neq (.tmp 17) (oK 0))])
 (.cond (.tmp 18) (.seq (.reg [oM 19 6,
  oO 4 (.mv (oK 0)),
  oM 5 19])
 .ret) .skip)))
 (.seq (.seq (.reg [oO 20 (.mv (oK 0))])
 (.blk 0 (.loop (.seq (.reg [oO 21 (.bin .lss (.tmp 20) (oK 9))])
 (.seq (.cond (.tmp 21) .skip (.exit 0))
 (.seq (.blk 1 (.seq (.reg [oM 22 20,
  oM 7 22])
 (.seq (.reg [oF 23 1 2,
  oL 24 23,
  oM 25 7,
  oO 26 (.call (.func 254) [(.tmp 24),(.tmp 25)]),
  oM 8 26])
 (.seq (.reg [oM 27 8,
  oM 28 1,
  oO 29 (.bin .geq (.tmp 27) (.tmp 28))])
 (.cond (.tmp 29) (.seq (.reg [oM 30 8,
  oM 4 30,
  oO 5 (.mv (oK 0))])
 .ret) .skip)))))
 (.reg [oO 31 (.bin .add (.tmp 20) (oK 1)),
  oM 20 31])))))))
 (.seq (.reg [oO 4 (.mv (oK 0)),
  oO 5 (.mv (oK 4))])
 .ret))))⟩
theorem s125:compFn Try.prog Try.f125=some c125:=by kernel_rfl
def c126:XFn:=
 ⟨[.tmp 4,.tmp 5],
 (.seq (.reg [oO 2 (.box 26 (.tmp 0)),
  oO 4 (.mv (oK 0)),
  oO 5 (.mv (oK 0))])
 (.seq (.reg [oO 9 (.loadn 5 (.tmp 2)),
  oO 10 (.call (.func 233) [(.tmp 9)]),
  oM 6 10])
 (.seq (.seq (.reg [oM 11 6,
  oO 12 (.bin .eql (.tmp 11) (oK 0)),
  oM 13 12,
  oG 14 (.mv (.tmp 1)) 13 true,
  oG 15 (.call (.func 181) [(.tmp 14),(oK 1),(oK 1000000)]) 13 true,
  oG 16 (.un .not (.tmp 15)) 13 true,
  oO 17 (.pick (.tmp 13) (.tmp 16) (.const (.bool false)))])
 (.cond (.tmp 17) (.reg [oO 6 (.mv (oK 2))]) .skip))
 (.seq (.seq (.reg [oM 18 6,
  oO 19 (.bin .neq (.tmp 18) (oK 0))])
 (.cond (.tmp 19) (.seq (.reg [oM 20 6,
  oO 4 (.mv (oK 0)),
  oM 5 20])
 .ret) .skip))
 (.seq (.reg [oO 7 (.mv (oK 1))])
 (.seq (.seq (.reg [oO 8 (.mv (oK 0))])
 (.blk 0 (.loop (.seq (.seq (.reg [oM 21 8,
  oO 22 (.bin .leq (.tmp 21) (oK 8))])
 (.cond (.tmp 22) .skip (.exit 0)))
 (.seq (.blk 1 (.seq (.seq (.reg [oM 25 7,
  oM 26 1,
  oO 27 (.bin .geq (.tmp 25) (.tmp 26))])
 (.cond (.tmp 27) (.seq (.reg [oM 28 7,
  oM 4 28,
  oO 5 (.mv (oK 0))])
 .ret) .skip))
 (.reg [oM 29 7,
  oF 30 1 2,
  oL 31 30,
  oO 32 (.bin .mul (.tmp 29) (.tmp 31)),
  oM 7 32])))
 (.reg [oM 23 8,
  oO 24 (.bin .add (.tmp 23) (oK 1)),
  oM 8 24]))))))
 (.seq (.reg [oO 4 (.mv (oK 0)),
  oO 5 (.mv (oK 4))])
 .ret)))))))⟩
theorem s126:compFn Try.prog Try.f126=some c126:=by kernel_rfl
def c127:XFn:=
 ⟨[.celln 2 5,.tmp 3,.tmp 4],
 (.seq (.reg [oO 2 (.alloc 26 [.int .i64 0,.int .i64 0,.int .i64 0,.int .i64 0,.slice none 0 0]),
  oO 3 (.mv (oK 0)),
  oO 4 (.mv (oK 0))])
 (.seq (.reg [oM 6 0,
  oO 7 (.call (.func 145) [(.tmp 6)]),
  oM 5 7])
 (.seq (.reg [oM 8 5,
  oO 9 (.call (.func 227) [(.tmp 8)]),
  oM 10 5,
  oM 11 5,
  oO 12 (.call (.func 175) [(.tmp 11),(oK 24)]),
  oO 13 (.bslice 2 1 5 [.int .i64 0] [(0,1,(oK 14)),(1,1,(oK 17)),(2,1,(oK 20)),(3,1,(oK 23)),(4,1,(.tmp 12))]),
  oO 14 (.call (.func 147) [(.tmp 10),(.tmp 13)]),
  oM 15 5,
  oM 16 5,
  oO 17 (.call (.func 148) [(.tmp 16),(oK 10)]),
  oO 18 (.bslice 2 1 5 [.int .i64 0] [(0,1,(oK 5)),(1,1,(oK 6)),(2,1,(oK 7)),(3,1,(oK 8)),(4,1,(.tmp 17))]),
  oO 19 (.call (.func 147) [(.tmp 15),(.tmp 18)]),
  oS (.store 5 (.tmp 2) (.tmp 9)),
  oM 3 14,
  oM 4 19])
 .ret)))⟩
theorem s127:compFn Try.prog Try.f127=some c127:=by kernel_rfl
def c128:XFn:=
 ⟨[.tmp 6,.tmp 7],
 (.seq (.reg [oO 3 (.box 26 (.tmp 0)),
  oO 6 (.mv (.const (.bool false))),
  oO 7 (.mv (oK 0))])
 (.seq (.seq (.reg [oO 9 (.loadn 5 (.tmp 3)),
  oM 10 1,
  oO 11 (.bin .geq (.tmp 10) (oK 0)),
  oM 12 11,
  oG 13 (.mv (.tmp 1)) 12 true,
  oG 14 (.bin .leq (.tmp 13) (oK 24)) 12 true,
  oO 15 (.pick (.tmp 12) (.tmp 14) (.const (.bool false))),
  oM 16 15,
  oG 17 (.mv (.tmp 2)) 16 true,
  oG 18 (.bin .geq (.tmp 17) (oK 1)) 16 true,
  oO 19 (.pick (.tmp 16) (.tmp 18) (.const (.bool false))),
  oM 20 19,
  oG 21 (.mv (.tmp 2)) 20 true,
  oG 22 (.bin .leq (.tmp 21) (oK 8)) 20 true,
  oO 23 (.pick (.tmp 20) (.tmp 22) (.const (.bool false))),
  oM 24 23,
  oG 25 (.fadr 4 (.tmp 3)) 24 true,
  oG 26 (.load1 (.tmp 25)) 24 true,
  oG 27 (.len (.tmp 26)) 24 true,
  oG 28 (.bin .gtr (.tmp 27) (oK 0)) 24 true,
  oO 29 (.pick (.tmp 24) (.tmp 28) (.const (.bool false))),
  oO 30 (.call (.func 230) [(.tmp 9),(.tmp 29)]),
  oM 8 30])
 (.seq (.reg [oM 31 8,
  oO 32 (.bin .neq (.tmp 31) (oK 0))])
 (.cond (.tmp 32) (.seq (.reg [oM 33 8,
  oO 6 (.mv (.const (.bool false))),
  oM 7 33])
 .ret) .skip)))
 (.seq (.reg [oF 34 4 3,
  oL 35 34,
  oN 36 35,
  oM 37 2,
  ⟨some 38,.call (.func 254) [(.tmp 36),(.tmp 37)],none,.t⟩,
  oF 39 1 3,
  oL 40 39,
  oM 41 1,
  oO 42 (.call (.func 254) [(.tmp 40),(.tmp 41)]),
  oO 43 (.bin .leq (.tmp 38) (.tmp 42)),
  oM 6 43,
  oO 7 (.mv (oK 0))])
 .ret)))⟩
theorem s128:compFn Try.prog Try.f128=some c128:=by kernel_rfl
def c129:XFn:=
 ⟨[.tmp 6,.tmp 7],
 (.seq (.reg [oO 3 (.box 26 (.tmp 0)),
  oO 6 (.mv (.const (.bool false))),
  oO 7 (.mv (oK 0))])
 (.seq (.reg [oO 9 (.loadn 5 (.tmp 3)),
  oO 10 (.call (.func 233) [(.tmp 9)]),
  oM 8 10])
 (.seq (.seq (.reg [oM 11 8,
  oO 12 (.bin .eql (.tmp 11) (oK 0)),
  oM 13 12,
  oG 14 (.fadr 4 (.tmp 3)) 13 true,
  oG 15 (.load1 (.tmp 14)) 13 true,
  oG 16 (.len (.tmp 15)) 13 true,
  oG 17 (.bin .eql (.tmp 16) (oK 0)) 13 true,
  oG 18 (.mv (.tmp 17)) 13 true,
  oG 19 (.mv (.tmp 1)) 18 false,
  oG 20 (.call (.func 181) [(.tmp 19),(oK 0),(oK 24)]) 18 false,
  oG 21 (.un .not (.tmp 20)) 18 false,
  oG 22 (.pick (.tmp 18) (.const (.bool true)) (.tmp 21)) 13 true,
  oG 23 (.mv (.tmp 22)) 13 true,
  oG 24 (.mv (.tmp 2)) 23 false,
  oG 25 (.call (.func 181) [(.tmp 24),(oK 1),(oK 8)]) 23 false,
  oG 26 (.un .not (.tmp 25)) 23 false,
  oG 27 (.pick (.tmp 23) (.const (.bool true)) (.tmp 26)) 13 true,
  oO 28 (.pick (.tmp 13) (.tmp 27) (.const (.bool false)))])
 (.cond (.tmp 28) (.reg [oO 8 (.mv (oK 2))]) .skip))
 (.seq (.seq (.reg [oM 29 8,
  oO 30 (.bin .neq (.tmp 29) (oK 0))])
 (.cond (.tmp 30) (.seq (.reg [oM 31 8,
  oO 6 (.mv (.const (.bool false))),
  oM 7 31])
 .ret) .skip))
 (.seq (.reg [oF 32 4 3,
  oL 33 32,
  oN 34 33,
  oM 35 2,
  ⟨some 36,.call (.func 255) [(.tmp 34),(.tmp 35)],none,.t⟩,
  oF 37 1 3,
  oL 38 37,
  oM 39 1,
  oO 40 (.call (.func 255) [(.tmp 38),(.tmp 39)]),
  oO 41 (.bin .leq (.tmp 36) (.tmp 40)),
  oM 6 41,
  oO 7 (.mv (oK 0))])
 .ret)))))⟩
theorem s129:compFn Try.prog Try.f129=some c129:=by kernel_rfl
def c130:XFn:=
 ⟨[.celln 2 5,.celln 3 5],
 (.seq (.reg [oO 2 (.alloc 26 [.int .i64 0,.int .i64 0,.int .i64 0,.int .i64 0,.slice none 0 0]),
  oO 3 (.alloc 26 [.int .i64 0,.int .i64 0,.int .i64 0,.int .i64 0,.slice none 0 0])])
 (.seq (.reg [oM 5 0,
  oO 6 (.call (.func 145) [(.tmp 5)]),
  oM 4 6])
 (.seq (.reg [oM 7 4,
  oO 8 (.call (.func 227) [(.tmp 7)]),
  oM 9 4,
  oO 10 (.call (.func 227) [(.tmp 9)]),
  oS (.store 5 (.tmp 2) (.tmp 8)),
  oS (.store 5 (.tmp 3) (.tmp 10))])
 .ret)))⟩
theorem s130:compFn Try.prog Try.f130=some c130:=by kernel_rfl
def c131:XFn:=
 ⟨[.tmp 4,.tmp 5],
 (.seq (.reg [oO 2 (.box 26 (.tmp 0)),
  oO 3 (.box 26 (.tmp 1)),
  oO 4 (.mv (oK 0)),
  oO 5 (.mv (oK 0))])
 (.seq (.blk 0 (.seq (.reg [oO 7 (.loadn 5 (.tmp 2)),
  oO 8 (.loadn 5 (.tmp 3)),
  oO 9 (.bslice 26 5 2 [.int .i64 0,.int .i64 0,.int .i64 0,.int .i64 0,.slice none 0 0] [(0,5,(.tmp 7)),(5,5,(.tmp 8))]),
  oO 10 (.call (.func 256) [(.tmp 9)]),
  oO 11 (.un .not (.tmp 10)),
  oM 6 11])
 (.cond (.tmp 6) (.seq (.reg [oO 4 (.mv (oK 0)),
  oO 5 (.mv (oK 1))])
 .ret) (.seq (.reg [oO 13 (.loadn 5 (.tmp 2)),
  oO 14 (.call (.func 257) [(.tmp 13)]),
  oO 15 (.un .not (.tmp 14)),
  oM 16 15,
  oG 17 (.loadn 5 (.tmp 3)) 16 false,
  oG 18 (.call (.func 257) [(.tmp 17)]) 16 false,
  oG 19 (.un .not (.tmp 18)) 16 false,
  oO 20 (.pick (.tmp 16) (.const (.bool true)) (.tmp 19)),
  oM 21 20,
  oG 22 (.fadr 1 (.tmp 2)) 21 false,
  oG 23 (.load1 (.tmp 22)) 21 false,
  oG 24 (.fadr 1 (.tmp 3)) 21 false,
  oG 25 (.load1 (.tmp 24)) 21 false,
  oG 26 (.bin .neq (.tmp 23) (.tmp 25)) 21 false,
  oO 27 (.pick (.tmp 21) (.const (.bool true)) (.tmp 26)),
  oM 28 27,
  oG 29 (.fadr 4 (.tmp 2)) 28 false,
  oG 30 (.load1 (.tmp 29)) 28 false,
  oG 31 (.len (.tmp 30)) 28 false,
  oG 32 (.bin .eql (.tmp 31) (oK 0)) 28 false,
  oO 33 (.pick (.tmp 28) (.const (.bool true)) (.tmp 32)),
  oM 34 33,
  oG 35 (.fadr 4 (.tmp 3)) 34 false,
  oG 36 (.load1 (.tmp 35)) 34 false,
  oG 37 (.len (.tmp 36)) 34 false,
  oG 38 (.bin .eql (.tmp 37) (oK 0)) 34 false,
  oO 39 (.pick (.tmp 34) (.const (.bool true)) (.tmp 38)),
  oM 12 39])
 (.cond (.tmp 12) (.seq (.reg [oO 4 (.mv (oK 0)),
  oO 5 (.mv (oK 2))])
 .ret) .skip)))))
 (.seq (.reg [oF 40 4 2,
  oL 41 40,
  oN 42 41,
  oF 43 4 3,
  oL 44 43,
  oN 45 44,
  oO 46 (.call (.func 258) [(.tmp 42),(.tmp 45)]),
  oM 4 46,
  oO 5 (.mv (oK 0))])
 .ret)))⟩
theorem s131:compFn Try.prog Try.f131=some c131:=by kernel_rfl
def c132:XFn:=
 ⟨[.tmp 4,.tmp 5],
 (.seq (.reg [oO 2 (.box 26 (.tmp 0)),
  oO 3 (.box 26 (.tmp 1)),
  oO 4 (.mv (oK 0)),
  oO 5 (.mv (oK 0))])
 (.seq (.reg [oO 8 (.loadn 5 (.tmp 2)),
  ⟨some 9,.call (.func 233) [(.tmp 8)],none,.t⟩,
  oO 10 (.loadn 5 (.tmp 3)),
  oO 11 (.call (.func 233) [(.tmp 10)]),
  oM 6 9,
  oM 7 11])
 (.seq (.blk 0 (.seq (.reg [oM 13 6,
  oO 14 (.bin .eql (.tmp 13) (oK 1)),
  oM 15 14,
  oG 16 (.mv (.tmp 7)) 15 false,
  oG 17 (.bin .eql (.tmp 16) (oK 1)) 15 false,
  oO 18 (.pick (.tmp 15) (.const (.bool true)) (.tmp 17)),
  oM 12 18])
 (.cond (.tmp 12) (.seq (.reg [oO 4 (.mv (oK 0)),
  oO 5 (.mv (oK 1))])
 .ret) (.seq (.reg [oM 20 6,
  oO 21 (.bin .neq (.tmp 20) (oK 0)),
  oM 22 21,
  oG 23 (.mv (.tmp 7)) 22 false,
  oG 24 (.bin .neq (.tmp 23) (oK 0)) 22 false,
  oO 25 (.pick (.tmp 22) (.const (.bool true)) (.tmp 24)),
  oM 26 25,
  oG 27 (.fadr 1 (.tmp 2)) 26 false,
  oG 28 (.load1 (.tmp 27)) 26 false,
  oG 29 (.fadr 1 (.tmp 3)) 26 false,
  oG 30 (.load1 (.tmp 29)) 26 false,
  oG 31 (.bin .neq (.tmp 28) (.tmp 30)) 26 false,
  oO 32 (.pick (.tmp 26) (.const (.bool true)) (.tmp 31)),
  oM 33 32,
  oG 34 (.fadr 4 (.tmp 2)) 33 false,
  oG 35 (.load1 (.tmp 34)) 33 false,
  oG 36 (.len (.tmp 35)) 33 false,
  oG 37 (.bin .eql (.tmp 36) (oK 0)) 33 false,
  oO 38 (.pick (.tmp 33) (.const (.bool true)) (.tmp 37)),
  oM 39 38,
  oG 40 (.fadr 4 (.tmp 3)) 39 false,
  oG 41 (.load1 (.tmp 40)) 39 false,
  oG 42 (.len (.tmp 41)) 39 false,
  oG 43 (.bin .eql (.tmp 42) (oK 0)) 39 false,
  oO 44 (.pick (.tmp 39) (.const (.bool true)) (.tmp 43)),
  oM 19 44])
 (.cond (.tmp 19) (.seq (.reg [oO 4 (.mv (oK 0)),
  oO 5 (.mv (oK 2))])
 .ret) (.seq (.reg [oF 46 4 2,
  oL 47 46,
  oN 48 47,
  oF 49 4 3,
  oL 50 49,
  oN 51 50,
  oO 52 (.bin .lss (.tmp 48) (.tmp 51)),
  oM 45 52])
 (.cond (.tmp 45) (.seq (.reg [oO 4 (.mv (.const (.int .i64 (-1)))),
  oO 5 (.mv (oK 0))])
 .ret) (.seq (.reg [oF 54 4 2,
  oL 55 54,
  oN 56 55,
  oF 57 4 3,
  oL 58 57,
  oN 59 58,
  oO 60 (.bin .gtr (.tmp 56) (.tmp 59)),
  oM 53 60])
 (.cond (.tmp 53) (.seq (.reg [oO 4 (.mv (oK 1)),
  oO 5 (.mv (oK 0))])
 .ret) .skip)))))))))
 (.seq (.reg [oO 4 (.mv (oK 0)),
  oO 5 (.mv (oK 0))])
 .ret))))⟩
theorem s132:compFn Try.prog Try.f132=some c132:=by kernel_rfl
def c145:XFn:=
 ⟨[.tmp 2],
 (.seq (.reg [oO 2 (.mv (.const (.pointer none)))])
 (.seq (.reg [oM 5 0,
  oM 6 0,
  oN 7 6,
  oO 8 (.conv .u64 (.tmp 7)),
  oO 9 (.bin .add (.const (.int .u64 12619)) (.tmp 8)),
  oO 10 (.build [.slice none 0 0,.int .i64 0,.int .u64 0] [(0,1,(.tmp 5)),(2,1,(.tmp 9))]),
  oO 11 (.box 220 (.tmp 10)),
  oM 3 11])
 (.seq (.seq (.reg [oO 4 (.mv (oK 0))])
 (.blk 0 (.loop (.seq (.seq (.reg [oM 12 4,
  oM 13 0,
  oN 14 13,
  oO 15 (.bin .lss (.tmp 12) (.tmp 14)),
  oM 16 15,
  oG 17 (.mv (.tmp 4)) 16 true,
  oG 18 (.bin .lss (.tmp 17) (oK 4096)) 16 true,
  oO 19 (.pick (.tmp 16) (.tmp 18) (.const (.bool false)))])
 (.cond (.tmp 19) .skip (.exit 0)))
 (.seq (.blk 1 (.reg [oM 22 3,
  oM 23 3,
  oO 24 (.nchk (.tmp 23)),
  oF 25 2 24,
  oL 26 25,
  oO 27 (.bin .mul (.tmp 26) (.const (.int .u64 1099511628211))),
  oM 28 0,
  oM 29 4,
  oX 30 1 28 29,
  oL 31 30,
  oO 32 (.conv .u64 (.tmp 31)),
  oO 33 (.bin .add (.tmp 27) (.tmp 32)),
  oO 34 (.bin .add (.tmp 33) (.const (.int .u64 79))),
  oO 35 (.nchk (.tmp 22)),
  oF 36 2 35,
  oS (.store 1 (.tmp 36) (.tmp 34))]))
 (.reg [oM 20 4,
  oO 21 (.bin .add (.tmp 20) (oK 1)),
  oM 4 21]))))))
 (.seq (.reg [oM 37 3,
  oM 2 37])
 .ret))))⟩
theorem s145:compFn Try.prog Try.f145=some c145:=by kernel_rfl
def c147:XFn:=
 ⟨[.tmp 4],
 (.seq (.reg [oO 4 (.mv (oK 0))])
 (.seq (.reg [oM 5 1,
  oM 6 0,
  oM 7 1,
  oN 8 7,
  oO 9 (.call (.func 148) [(.tmp 6),(.tmp 8)]),
  oX 10 1 5 9,
  oL 11 10,
  oM 4 11])
 .ret))⟩
theorem s147:compFn Try.prog Try.f147=some c147:=by kernel_rfl
def c148:XFn:=
 ⟨[.tmp 4],
 (.seq (.reg [oO 4 (.mv (oK 0))])
 (.seq (.seq (.reg [oM 6 1,
  oO 7 (.bin .lss (.tmp 6) (oK 1))])
 (.cond (.tmp 7) (.seq (.reg [oO 4 (.mv (oK 0))])
 .ret) .skip))
 (.seq (.reg [oM 8 0,
  oM 9 0,
  oO 10 (.nchk (.tmp 9)),
  oF 11 2 10,
  oL 12 11,
  oO 13 (.bin .mul (.tmp 12) (.const (.int .u64 6364136223846793005))),
  oO 14 (.bin .add (.tmp 13) (.const (.int .u64 1442695040888963407))),
  oO 15 (.nchk (.tmp 8)),
  oF 16 2 15,
  oS (.store 1 (.tmp 16) (.tmp 14))])
 (.seq (.reg [oM 17 0,
  oO 18 (.nchk (.tmp 17)),
  oF 19 2 18,
  oL 20 19,
  oO 21 (.bin .shr (.tmp 20) (.const (.int .u64 33))),
  oO 22 (.bin .and (.tmp 21) (.const (.int .u64 16777215))),
  oO 23 (.conv .i64 (.tmp 22)),
  oM 5 23])
 (.seq (.seq (.reg [oM 24 0,
  oO 25 (.nchk (.tmp 24)),
  oF 26 1 25,
  oL 27 26,
  oM 28 0,
  oO 29 (.nchk (.tmp 28)),
  oF 30 0 29,
  oL 31 30,
  oN 32 31,
  oO 33 (.bin .lss (.tmp 27) (.tmp 32))])
 (.cond (.tmp 33) (.seq (.reg [oM 34 5,
  oM 35 0,
  oO 36 (.nchk (.tmp 35)),
  oF 37 0 36,
  oL 38 37,
  oM 39 0,
  oO 40 (.nchk (.tmp 39)),
  oF 41 1 40,
  oL 42 41,
  oX 43 1 38 42,
  oL 44 43,
  oO 45 (.conv .i64 (.tmp 44)),
  oO 46 (.bin .add (.tmp 34) (.tmp 45)),
  oM 5 46])
 (.reg [oM 47 0,
  oM 48 0,
  oO 49 (.nchk (.tmp 48)),
  oF 50 1 49,
  oL 51 50,
  oO 52 (.bin .add (.tmp 51) (oK 1)),
  oO 53 (.nchk (.tmp 47)),
  oF 54 1 53,
  oS (.store 1 (.tmp 54) (.tmp 52))])) .skip))
 (.seq (.reg [oM 55 5,
  oM 56 1,
  oO 57 (.bin .rem (.tmp 55) (.tmp 56)),
  oM 4 57])
 .ret))))))⟩
theorem s148:compFn Try.prog Try.f148=some c148:=by kernel_rfl
def c149:XFn:=
 ⟨[.tmp 2],
 (.seq (.reg [oO 1 (.box 26 (.tmp 0)),
  oO 2 (.mv (.const (.bool false)))])
 (.seq (.seq (.reg [oF 5 0 1,
  oL 6 5,
  oO 7 (.call (.func 166) [(.tmp 6)]),
  oO 8 (.un .not (.tmp 7)),
  oM 9 8,
  oG 10 (.fadr 1 (.tmp 1)) 9 false,
  oG 11 (.load1 (.tmp 10)) 9 false,
  oG 12 (.fadr 2 (.tmp 1)) 9 false,
  oG 13 (.load1 (.tmp 12)) 9 false,
  oG 14 (.fadr 3 (.tmp 1)) 9 false,
  oG 15 (.load1 (.tmp 14)) 9 false,
  oG 16 (.bslice 2 1 3 [.int .i64 0] [(0,1,(.tmp 11)),(1,1,(.tmp 13)),(2,1,(.tmp 15))]) 9 false,
  oG 17 (.call (.func 167) [(.tmp 16)]) 9 false,
  oG 18 (.un .not (.tmp 17)) 9 false,
  oO 19 (.pick (.tmp 9) (.const (.bool true)) (.tmp 18)),
  oM 20 19,
  oG 21 (.fadr 4 (.tmp 1)) 20 false,
  oG 22 (.load1 (.tmp 21)) 20 false,
  oG 23 (.len (.tmp 22)) 20 false,
  oG 24 (.bin .gtr (.tmp 23) (oK 30)) 20 false,
  oO 25 (.pick (.tmp 20) (.const (.bool true)) (.tmp 24))])
 (.cond (.tmp 25) (.seq (.reg [oO 2 (.mv (.const (.bool false)))])
 .ret) .skip))
 (.seq (.seq (.reg [oF 26 4 1,
  oL 27 26,
  oN 28 27,
  oO 29 (.mv (oK 0))])
 (.blk 0 (.loop (.seq (.reg [oO 30 (.bin .lss (.tmp 29) (.tmp 28))])
 (.seq (.cond (.tmp 30) .skip (.exit 0))
 (.seq (.blk 1 (.seq (.reg [oX 31 27 27 29,
  oO 32 (.loadn 27 (.tmp 31)),
  oO 4 (.alloc 138 [.int .u8 0,.int .u8 0,.int .u8 0,.int .u8 0,.int .u8 0,.int .u8 0,.int .u8 0,.int .u8 0,.int .u8 0,.int .u8 0,.int .u8 0,.int .u8 0,.int .u8 0,.int .u8 0,.int .u8 0,.int .u8 0,.int .u8 0,.int .u8 0,.int .u8 0,.int .u8 0,.int .u8 0,.int .u8 0,.int .u8 0,.int .u8 0,.int .u8 0,.int .u8 0,.int .u8 0]),
  oS (.store 27 (.tmp 4) (.tmp 32))])
 (.seq (.reg [oF 33 0 1,
  oL 34 33,
  oO 35 (.loadn 5 (.tmp 1)),
  ⟨some 36,.call (.func 271) [(.tmp 35)],none,.t⟩,
  oO 37 (.loadn 27 (.tmp 4)),
  oO 38 (.call (.func 270) [(.tmp 34),(.tmp 36),(.tmp 37)]),
  oO 39 (.un .not (.tmp 38))])
 (.cond (.tmp 39) (.seq (.reg [oO 2 (.mv (.const (.bool false)))])
 .ret) .skip))))
 (.reg [oO 40 (.bin .add (.tmp 29) (oK 1)),
  oM 29 40])))))))
 (.seq (.reg [oO 2 (.mv (.const (.bool true)))])
 .ret))))⟩
theorem s149:compFn Try.prog Try.f149=some c149:=by kernel_rfl
def c154:XFn:=
 ⟨[.tmp 2],
 (.seq (.reg [oO 1 (.box 26 (.tmp 0)),
  oO 2 (.mv (.const (.bool false)))])
 (.seq (.seq (.reg [oF 4 0 1,
  oL 5 4,
  oF 6 1 1,
  oL 7 6,
  oF 8 2 1,
  oL 9 8,
  oF 10 3 1,
  oL 11 10,
  oO 12 (.call (.func 275) [(.tmp 5),(.tmp 7),(.tmp 9),(.tmp 11)]),
  oO 13 (.un .not (.tmp 12)),
  oM 14 13,
  oG 15 (.fadr 4 (.tmp 1)) 14 false,
  oG 16 (.load1 (.tmp 15)) 14 false,
  oG 17 (.len (.tmp 16)) 14 false,
  oG 18 (.bin .gtr (.tmp 17) (oK 30)) 14 false,
  oO 19 (.pick (.tmp 14) (.const (.bool true)) (.tmp 18))])
 (.cond (.tmp 19) (.seq (.reg [oO 2 (.mv (.const (.bool false)))])
 .ret) .skip))
 (.seq (.seq (.reg [oO 3 (.mv (oK 0))])
 (.blk 0 (.loop (.seq (.seq (.reg [oM 20 3,
  oF 21 4 1,
  oL 22 21,
  oN 23 22,
  oO 24 (.bin .lss (.tmp 20) (.tmp 23))])
 (.cond (.tmp 24) .skip (.exit 0)))
 (.seq (.blk 1 (.seq (.reg [oO 27 (.loadn 5 (.tmp 1)),
  oF 28 4 1,
  oL 29 28,
  oM 30 3,
  oX 31 27 29 30,
  oO 32 (.loadn 27 (.tmp 31)),
  oO 33 (.call (.func 276) [(.tmp 27),(.tmp 32)]),
  oO 34 (.un .not (.tmp 33))])
 (.cond (.tmp 34) (.seq (.reg [oO 2 (.mv (.const (.bool false)))])
 .ret) .skip)))
 (.reg [oM 25 3,
  oO 26 (.bin .add (.tmp 25) (oK 1)),
  oM 3 26]))))))
 (.seq (.reg [oO 2 (.mv (.const (.bool true)))])
 .ret))))⟩
theorem s154:compFn Try.prog Try.f154=some c154:=by kernel_rfl
def c166:XFn:=
 ⟨[.tmp 2],
 (.seq (.reg [oO 2 (.mv (.const (.bool false)))])
 (.seq (.reg [oM 3 0,
  oO 4 (.bin .eql (.tmp 3) (oK 2)),
  oM 5 4,
  oG 6 (.mv (.tmp 0)) 5 false,
  oG 7 (.bin .eql (.tmp 6) (oK 3)) 5 false,
  oO 8 (.pick (.tmp 5) (.const (.bool true)) (.tmp 7)),
  oM 9 8,
  oG 10 (.mv (.tmp 0)) 9 false,
  oG 11 (.bin .eql (.tmp 10) (oK 5)) 9 false,
  oO 12 (.pick (.tmp 9) (.const (.bool true)) (.tmp 11)),
  oM 2 12])
 .ret))⟩
theorem s166:compFn Try.prog Try.f166=some c166:=by kernel_rfl
def c167:XFn:=
 ⟨[.tmp 2],
 (.seq (.reg [oO 2 (.mv (.const (.bool false)))])
 (.seq (.seq (.reg [oM 5 0,
  oN 6 5,
  oO 7 (.mv (oK 0))])
 (.blk 0 (.loop (.seq (.reg [oO 8 (.bin .lss (.tmp 7) (.tmp 6))])
 (.seq (.cond (.tmp 8) .skip (.exit 0))
 (.seq (.blk 1 (.seq (.reg [oX 9 1 5 7,
  oL 10 9,
  oM 4 10])
 (.seq (.reg [oM 11 4,
  oO 12 (.bin .lss (.tmp 11) (oK 1)),
  oM 13 12,
  oG 14 (.mv (.tmp 4)) 13 false,
  oG 15 (.bin .gtr (.tmp 14) (oK 3)) 13 false,
  oO 16 (.pick (.tmp 13) (.const (.bool true)) (.tmp 15))])
 (.cond (.tmp 16) (.seq (.reg [oO 2 (.mv (.const (.bool false)))])
 .ret) .skip))))
 (.reg [oO 17 (.bin .add (.tmp 7) (oK 1)),
  oM 7 17])))))))
 (.seq (.reg [oO 2 (.mv (.const (.bool true)))])
 .ret)))⟩
theorem s167:compFn Try.prog Try.f167=some c167:=by kernel_rfl
def c175:XFn:=
 ⟨[.tmp 4],
 (.seq (.reg [oO 4 (.mv (oK 0))])
 (.seq (.seq (.reg [oM 5 0,
  oO 6 (.call (.func 148) [(.tmp 5),(oK 14)]),
  oO 7 (.bin .eql (.tmp 6) (oK 0))])
 (.cond (.tmp 7) (.seq (.reg [oM 8 0,
  oM 9 1,
  oO 10 (.bin .add (.tmp 9) (oK 1)),
  oO 11 (.bslice 2 1 4 [.int .i64 0] [(0,1,(.const (.int .i64 (-1)))),(1,1,(.tmp 10)),(2,1,(oK 1099511627776)),(3,1,(.const (.int .i64 (-4611686018427387904))))]),
  oO 12 (.call (.func 147) [(.tmp 8),(.tmp 11)]),
  oM 4 12])
 .ret) .skip))
 (.seq (.reg [oM 13 0,
  oM 14 1,
  oO 15 (.bin .add (.tmp 14) (oK 1)),
  oO 16 (.call (.func 148) [(.tmp 13),(.tmp 15)]),
  oM 4 16])
 .ret)))⟩
theorem s175:compFn Try.prog Try.f175=some c175:=by kernel_rfl
def c181:XFn:=
 ⟨[.tmp 6],
 (.seq (.reg [oO 6 (.mv (.const (.bool false)))])
 (.seq (.reg [oM 7 0,
  oM 8 1,
  oO 9 (.bin .geq (.tmp 7) (.tmp 8)),
  oM 10 9,
  oG 11 (.mv (.tmp 0)) 10 true,
  oG 12 (.mv (.tmp 2)) 10 true,
  oG 13 (.bin .leq (.tmp 11) (.tmp 12)) 10 true,
  oO 14 (.pick (.tmp 10) (.tmp 13) (.const (.bool false))),
  oM 6 14])
 .ret))⟩
theorem s181:compFn Try.prog Try.f181=some c181:=by kernel_rfl
def c196:XFn:=
 ⟨[.celln 2 27],
 (.seq (.reg [oO 1 (.box 138 (.tmp 0)),
  oO 2 (.alloc 172 [.int .u8 0,.int .u8 0,.int .u8 0,.int .u8 0,.int .u8 0,.int .u8 0,.int .u8 0,.int .u8 0,.int .u8 0,.int .u8 0,.int .u8 0,.int .u8 0,.int .u8 0,.int .u8 0,.int .u8 0,.int .u8 0,.int .u8 0,.int .u8 0,.int .u8 0,.int .u8 0,.int .u8 0,.int .u8 0,.int .u8 0,.int .u8 0,.int .u8 0,.int .u8 0,.int .u8 0])])
 (.seq (.reg [oF 3 0 1,
  oO 4 (.loadn 9 (.tmp 3)),
  oF 5 9 1,
  oO 6 (.loadn 9 (.tmp 5)),
  oF 7 18 1,
  oO 8 (.loadn 9 (.tmp 7)),
  oO 9 (.build [.int .u8 0,.int .u8 0,.int .u8 0,.int .u8 0,.int .u8 0,.int .u8 0,.int .u8 0,.int .u8 0,.int .u8 0,.int .u8 0,.int .u8 0,.int .u8 0,.int .u8 0,.int .u8 0,.int .u8 0,.int .u8 0,.int .u8 0,.int .u8 0,.int .u8 0,.int .u8 0,.int .u8 0,.int .u8 0,.int .u8 0,.int .u8 0,.int .u8 0,.int .u8 0,.int .u8 0] [(0,9,(.tmp 4)),(9,9,(.tmp 6)),(18,9,(.tmp 8))]),
  oS (.store 27 (.tmp 2) (.tmp 9))])
 .ret))⟩
theorem s196:compFn Try.prog Try.f196=some c196:=by kernel_rfl
def c212:XFn:=
 ⟨[.celln 2 5],
 (.seq (.reg [oO 2 (.alloc 26 [.int .i64 0,.int .i64 0,.int .i64 0,.int .i64 0,.slice none 0 0])])
 (.seq (.reg [oM 3 0,
  oM 4 0,
  oO 5 (.call (.func 266) [(.tmp 4)]),
  oO 6 (.call (.func 269) [(.tmp 3),(.tmp 5)]),
  oS (.store 5 (.tmp 2) (.tmp 6))])
 .ret))⟩
theorem s212:compFn Try.prog Try.f212=some c212:=by kernel_rfl
def c224:XFn:=
 ⟨[.tmp 2],
 (.seq (.reg [oO 2 (.mv (.const (.bool false)))])
 (.seq (.reg [oM 3 0,
  oO 4 (.bin .eql (.tmp 3) (oK 2)),
  oM 5 4,
  oG 6 (.mv (.tmp 0)) 5 false,
  oG 7 (.bin .eql (.tmp 6) (oK 3)) 5 false,
  oO 8 (.pick (.tmp 5) (.const (.bool true)) (.tmp 7)),
  oM 9 8,
  oG 10 (.mv (.tmp 0)) 9 false,
  oG 11 (.bin .eql (.tmp 10) (oK 5)) 9 false,
  oO 12 (.pick (.tmp 9) (.const (.bool true)) (.tmp 11)),
  oM 2 12])
 .ret))⟩
theorem s224:compFn Try.prog Try.f224=some c224:=by kernel_rfl
def c227:XFn:=
 ⟨[.celln 2 5],
 (.seq (.reg [oO 2 (.alloc 26 [.int .i64 0,.int .i64 0,.int .i64 0,.int .i64 0,.slice none 0 0])])
 (.seq (.reg [oM 6 0,
  oO 7 (.bslice 2 1 3 [.int .i64 0] [(0,1,(oK 2)),(1,1,(oK 3)),(2,1,(oK 5))]),
  oO 8 (.call (.func 147) [(.tmp 6),(.tmp 7)]),
  oM 3 8])
 (.seq (.seq (.reg [oM 9 0,
  oO 10 (.call (.func 148) [(.tmp 9),(oK 7)])])
 (.blk 0 (.seq (.seq (.reg [oO 12 (.bin .eql (.tmp 10) (oK 0)),
  oM 11 12])
 (.cond (.tmp 11) .skip (.reg [oO 13 (.bin .eql (.tmp 10) (oK 1)),
  oM 11 13])))
 (.cond (.tmp 11) (.seq (.reg [oM 14 3,
  oO 15 (.call (.func 301) [(.tmp 14)]),
  oS (.store 5 (.tmp 2) (.tmp 15))])
 .ret) (.seq (.reg [oO 17 (.bin .eql (.tmp 10) (oK 2)),
  oM 16 17])
 (.cond (.tmp 16) (.seq (.reg [oM 18 3,
  oO 19 (.call (.func 302) [(.tmp 18)]),
  oS (.store 5 (.tmp 2) (.tmp 19))])
 .ret) (.seq (.reg [oO 21 (.bin .eql (.tmp 10) (oK 3)),
  oM 20 21])
 (.cond (.tmp 20) (.seq (.reg [oM 22 3,
  oO 23 (.call (.func 303) [(.tmp 22),(oK 2),(oK 2),(oK 2)]),
  oS (.store 5 (.tmp 2) (.tmp 23))])
 .ret) (.seq (.reg [oO 25 (.bin .eql (.tmp 10) (oK 4)),
  oM 24 25])
 (.cond (.tmp 24) (.seq (.reg [oM 26 3,
  oO 27 (.build [.int .i64 0,.int .i64 0,.int .i64 0] [(0,1,(oK 3)),(1,1,(oK 3)),(2,1,(oK 3))]),
  oO 28 (.call (.func 304) [(.tmp 26),(.tmp 27)]),
  oS (.store 5 (.tmp 2) (.tmp 28))])
 .ret) (.seq (.reg [oO 30 (.bin .eql (.tmp 10) (oK 5)),
  oM 29 30])
 (.cond (.tmp 29) (.seq (.reg [oM 31 3,
  oO 32 (.build [.int .i64 0,.int .i64 0,.int .i64 0,.int .i64 0,.slice none 0 0] [(0,1,(.tmp 31)),(1,1,(oK 2)),(2,1,(oK 2)),(3,1,(oK 2))]),
  oO 4 (.alloc 26 [.int .i64 0,.int .i64 0,.int .i64 0,.int .i64 0,.slice none 0 0]),
  oS (.store 5 (.tmp 4) (.tmp 32))])
 (.seq (.seq (.reg [oM 33 0,
  oO 34 (.call (.func 148) [(.tmp 33),(oK 9)]),
  oM 5 34])
 (.blk 1 (.loop (.seq (.seq (.reg [oM 35 5,
  oO 36 (.bin .gtr (.tmp 35) (oK 0))])
 (.cond (.tmp 36) .skip (.exit 1)))
 (.seq (.blk 2 (.reg [oF 39 4 4,
  oL 40 39,
  oM 41 0,
  oO 42 (.loadn 5 (.tmp 4)),
  ⟨some 43,.call (.func 305) [(.tmp 41),(.tmp 42)],none,(.s true [(.tmp 39)])⟩,
  oO 44 (.bslice 138 27 1 [.int .u8 0,.int .u8 0,.int .u8 0,.int .u8 0,.int .u8 0,.int .u8 0,.int .u8 0,.int .u8 0,.int .u8 0,.int .u8 0,.int .u8 0,.int .u8 0,.int .u8 0,.int .u8 0,.int .u8 0,.int .u8 0,.int .u8 0,.int .u8 0,.int .u8 0,.int .u8 0,.int .u8 0,.int .u8 0,.int .u8 0,.int .u8 0,.int .u8 0,.int .u8 0,.int .u8 0] [(0,27,(.tmp 43))]),
  oO 45 (.app 138 27 27 (.tmp 40) (.tmp 44)),
  oF 46 4 4,
  oS (.store 1 (.tmp 46) (.tmp 45))]))
 (.reg [oM 37 5,
  oO 38 (.bin .sub (.tmp 37) (oK 1)),
  oM 5 38]))))))
 (.seq (.reg [oO 47 (.loadn 5 (.tmp 4)),
  oS (.store 5 (.tmp 2) (.tmp 47))])
 .ret))) .skip))))))))))))
 (.seq (.reg [oM 48 0,
  oO 49 (.call (.func 212) [(.tmp 48)]),
  oS (.store 5 (.tmp 2) (.tmp 49))])
 .ret))))⟩
theorem s227:compFn Try.prog Try.f227=some c227:=by kernel_rfl
def c228:XFn:=
 ⟨[.celln 2 4],
 (.seq (.reg [oO 1 (.box 26 (.tmp 0)),
  oO 2 (.alloc 193 [.int .i64 0,.int .i64 0,.int .i64 0,.int .i64 0])])
 (.seq (.reg [oF 11 4 1,
  oL 12 11,
  oN 13 12,
  oO 14 (.build [.int .i64 0,.int .i64 0,.int .i64 0,.int .i64 0] [(0,1,(.tmp 13))]),
  oO 15 (.build [.int .i64 0,.int .i64 0,.int .i64 0,.int .i64 0,.int .i64 0,.int .i64 0,.int .i64 0,.int .i64 0,.int .i64 0] []),
  oO 3 (.alloc 193 [.int .i64 0,.int .i64 0,.int .i64 0,.int .i64 0]),
  oO 4 (.alloc 263 [.int .i64 0,.int .i64 0,.int .i64 0,.int .i64 0,.int .i64 0,.int .i64 0,.int .i64 0,.int .i64 0,.int .i64 0]),
  oS (.store 4 (.tmp 3) (.tmp 14)),
  oS (.store 9 (.tmp 4) (.tmp 15))])
 (.seq (.seq (.reg [oF 16 4 1,
  oL 17 16,
  oN 18 17,
  oO 19 (.mv (oK 0))])
 (.blk 0 (.loop (.seq (.reg [oO 20 (.bin .lss (.tmp 19) (.tmp 18))])
 (.seq (.cond (.tmp 20) .skip (.exit 0))
 (.seq (.blk 1 (.seq (.reg [oX 21 27 17 19,
  oO 22 (.loadn 27 (.tmp 21)),
  oO 6 (.alloc 138 [.int .u8 0,.int .u8 0,.int .u8 0,.int .u8 0,.int .u8 0,.int .u8 0,.int .u8 0,.int .u8 0,.int .u8 0,.int .u8 0,.int .u8 0,.int .u8 0,.int .u8 0,.int .u8 0,.int .u8 0,.int .u8 0,.int .u8 0,.int .u8 0,.int .u8 0,.int .u8 0,.int .u8 0,.int .u8 0,.int .u8 0,.int .u8 0,.int .u8 0,.int .u8 0,.int .u8 0]),
  oS (.store 27 (.tmp 6) (.tmp 22))])
 (.seq (.reg [oO 23 (.ixa 4 1 (.tmp 3) (oK 1)),
  oL 24 23,
  oF 25 0 6,
  oO 26 (.loadn 9 (.tmp 25)),
  ⟨some 27,.call (.func 306) [(.tmp 26)],none,.t⟩,
  oO 28 (.bin .sub (.tmp 27) (oK 1)),
  oO 29 (.bin .add (.tmp 24) (.tmp 28)),
  oO 30 (.ixa 4 1 (.tmp 3) (oK 1)),
  oS (.store 1 (.tmp 30) (.tmp 29))])
 (.seq (.reg [oO 31 (.ixa 4 1 (.tmp 3) (oK 2)),
  oL 32 31,
  oF 33 9 6,
  oO 34 (.loadn 9 (.tmp 33)),
  ⟨some 35,.call (.func 306) [(.tmp 34)],none,.t⟩,
  oO 36 (.bin .sub (.tmp 35) (oK 1)),
  oO 37 (.bin .add (.tmp 32) (.tmp 36)),
  oO 38 (.ixa 4 1 (.tmp 3) (oK 2)),
  oS (.store 1 (.tmp 38) (.tmp 37))])
 (.seq (.reg [oF 39 18 6,
  oO 40 (.loadn 9 (.tmp 39)),
  oO 41 (.mv (oK 0))])
 (.blk 2 (.loop (.seq (.reg [oO 42 (.bin .lss (.tmp 41) (oK 9))])
 (.seq (.cond (.tmp 42) .skip (.exit 2))
 (.seq (.blk 3 (.seq (.reg [oM 43 41,
  oO 44 (.idx1 9 (.tmp 40) (.tmp 41)),
  oM 7 43,
  oM 8 44])
 (.seq (.reg [oM 45 8,
  oO 46 (.bin .neq (.tmp 45) (.const (.int .u8 0)))])
 (.cond (.tmp 46) (.reg [oM 47 7,
  oO 48 (.ixa 9 1 (.tmp 4) (.tmp 47)),
  oL 49 48,
  oO 50 (.bin .add (.tmp 49) (oK 1)),
  oO 51 (.ixa 9 1 (.tmp 4) (.tmp 47)),
  oS (.store 1 (.tmp 51) (.tmp 50))]) .skip))))
 (.reg [oO 52 (.bin .add (.tmp 41) (oK 1)),
  oM 41 52])))))))))))
 (.reg [oO 53 (.bin .add (.tmp 19) (oK 1)),
  oM 19 53])))))))
 (.seq (.seq (.reg [oO 54 (.loadn 9 (.tmp 4)),
  oO 55 (.mv (oK 0))])
 (.blk 4 (.loop (.seq (.reg [oO 56 (.bin .lss (.tmp 55) (oK 9))])
 (.seq (.cond (.tmp 56) .skip (.exit 4))
 (.seq (.blk 5 (.seq (.reg [oO 57 (.idx1 9 (.tmp 54) (.tmp 55)),
  oM 10 57])
 (.reg [oO 58 (.ixa 4 1 (.tmp 3) (oK 3)),
  oL 59 58,
  oM 60 10,
  oO 61 (.bin .sub (.tmp 60) (oK 1)),
  oO 62 (.mm true (.tmp 61) [(oK 0)]),
  oO 63 (.bin .add (.tmp 59) (.tmp 62)),
  oO 64 (.ixa 4 1 (.tmp 3) (oK 3)),
  oS (.store 1 (.tmp 64) (.tmp 63))])))
 (.reg [oO 65 (.bin .add (.tmp 55) (oK 1)),
  oM 55 65])))))))
 (.seq (.reg [oO 66 (.loadn 4 (.tmp 3)),
  oS (.store 4 (.tmp 2) (.tmp 66))])
 .ret)))))⟩
theorem s228:compFn Try.prog Try.f228=some c228:=by kernel_rfl
def c229:XFn:=
 ⟨[.tmp 2],
 (.seq (.reg [oO 1 (.box 26 (.tmp 0)),
  oO 2 (.mv (.const (.slice none 0 0)))])
 (.seq (.reg [oO 3 (.mv (oK 0)),
  oO 4 (.mv (oK 0)),
  oO 5 (.mv (oK 0))])
 (.seq (.seq (.reg [oO 6 (.mv (oK 0))])
 (.blk 0 (.loop (.seq (.seq (.reg [oM 10 6,
  oF 11 4 1,
  oL 12 11,
  oN 13 12,
  oO 14 (.bin .lss (.tmp 10) (.tmp 13))])
 (.cond (.tmp 14) .skip (.exit 0)))
 (.seq (.blk 1 (.seq (.reg [oM 17 3,
  oF 18 4 1,
  oL 19 18,
  oM 20 6,
  oX 21 27 19 20,
  oF 22 0 21,
  oO 23 (.loadn 9 (.tmp 22)),
  oO 24 (.call (.func 307) [(.tmp 23)]),
  oO 25 (.bin .add (.tmp 17) (.tmp 24)),
  oO 26 (.bin .sub (.tmp 25) (oK 1)),
  oM 3 26])
 (.reg [oM 27 4,
  oF 28 4 1,
  oL 29 28,
  oM 30 6,
  oX 31 27 29 30,
  oF 32 9 31,
  oO 33 (.loadn 9 (.tmp 32)),
  oO 34 (.call (.func 307) [(.tmp 33)]),
  oO 35 (.bin .add (.tmp 27) (.tmp 34)),
  oO 36 (.bin .sub (.tmp 35) (oK 1)),
  oM 4 36])))
 (.reg [oM 15 6,
  oO 16 (.bin .add (.tmp 15) (oK 1)),
  oM 6 16]))))))
 (.seq (.seq (.reg [oO 7 (.mv (oK 0))])
 (.blk 2 (.loop (.seq (.seq (.reg [oM 37 7,
  oO 38 (.bin .lss (.tmp 37) (oK 9))])
 (.cond (.tmp 38) .skip (.exit 2)))
 (.seq (.blk 3 (.seq (.reg [oO 8 (.mv (oK 0))])
 (.seq (.seq (.reg [oO 9 (.mv (oK 0))])
 (.blk 4 (.loop (.seq (.seq (.reg [oM 41 9,
  oF 42 4 1,
  oL 43 42,
  oN 44 43,
  oO 45 (.bin .lss (.tmp 41) (.tmp 44))])
 (.cond (.tmp 45) .skip (.exit 4)))
 (.seq (.blk 5 (.seq (.reg [oF 48 4 1,
  oL 49 48,
  oM 50 9,
  oM 51 7,
  oX 52 27 49 50,
  oF 53 18 52,
  oO 54 (.ixa 9 1 (.tmp 53) (.tmp 51)),
  oL 55 54,
  oO 56 (.bin .neq (.tmp 55) (.const (.int .u8 0)))])
 (.cond (.tmp 56) (.reg [oM 57 8,
  oO 58 (.bin .add (.tmp 57) (oK 1)),
  oM 8 58]) .skip)))
 (.reg [oM 46 9,
  oO 47 (.bin .add (.tmp 46) (oK 1)),
  oM 9 47]))))))
 (.reg [oM 59 5,
  oM 60 8,
  oO 61 (.bin .sub (.tmp 60) (oK 1)),
  oO 62 (.mm true (.tmp 61) [(oK 0)]),
  oO 63 (.bin .add (.tmp 59) (.tmp 62)),
  oM 5 63]))))
 (.reg [oM 39 7,
  oO 40 (.bin .add (.tmp 39) (oK 1)),
  oM 7 40]))))))
 (.seq (.reg [oF 64 4 1,
  oL 65 64,
  oN 66 65,
  oM 67 3,
  oM 68 4,
  oM 69 5,
  oO 70 (.bslice 2 1 4 [.int .i64 0] [(0,1,(.tmp 66)),(1,1,(.tmp 67)),(2,1,(.tmp 68)),(3,1,(.tmp 69))]),
  oM 2 70])
 .ret)))))⟩
theorem s229:compFn Try.prog Try.f229=some c229:=by kernel_rfl
def c230:XFn:=
 ⟨[.tmp 4],
 (.seq (.reg [oO 2 (.box 26 (.tmp 0)),
  oO 4 (.mv (oK 0))])
 (.seq (.blk 0 (.seq (.reg [oO 6 (.loadn 5 (.tmp 2)),
  oO 7 (.call (.func 149) [(.tmp 6)]),
  oO 8 (.un .not (.tmp 7)),
  oM 5 8])
 (.cond (.tmp 5) (.seq (.reg [oO 4 (.mv (oK 1))])
 .ret) (.seq (.reg [oO 10 (.loadn 5 (.tmp 2)),
  oO 11 (.call (.func 257) [(.tmp 10)]),
  oO 12 (.un .not (.tmp 11)),
  oM 13 12,
  oG 14 (.mv (.tmp 1)) 13 false,
  oG 15 (.un .not (.tmp 14)) 13 false,
  oO 16 (.pick (.tmp 13) (.const (.bool true)) (.tmp 15)),
  oM 9 16])
 (.cond (.tmp 9) (.seq (.reg [oO 4 (.mv (oK 2))])
 .ret) .skip)))))
 (.seq (.reg [oO 4 (.mv (oK 0))])
 .ret)))⟩
theorem s230:compFn Try.prog Try.f230=some c230:=by kernel_rfl
def c231:XFn:=
 ⟨[.tmp 2],
 (.seq (.reg [oO 2 (.mv (.const (.bool false)))])
 (.seq (.reg [oM 3 0,
  oO 4 (.bin .geq (.tmp 3) (oK 0)),
  oM 5 4,
  oG 6 (.mv (.tmp 0)) 5 true,
  oG 7 (.bin .leq (.tmp 6) (oK 8)) 5 true,
  oO 8 (.pick (.tmp 5) (.tmp 7) (.const (.bool false))),
  oM 2 8])
 .ret))⟩
theorem s231:compFn Try.prog Try.f231=some c231:=by kernel_rfl
def c232:XFn:=
 ⟨[.tmp 6,.tmp 7,.tmp 8],
 (.seq (.reg [oO 3 (.box 26 (.tmp 0)),
  oO 6 (.mv (oK 0)),
  oO 7 (.mv (oK 0)),
  oO 8 (.mv (.const (.bool false)))])
 (.seq (.reg [oO 14 (.loadn 5 (.tmp 3)),
  oO 15 (.call (.func 228) [(.tmp 14)]),
  oO 9 (.alloc 193 [.int .i64 0,.int .i64 0,.int .i64 0,.int .i64 0]),
  oS (.store 4 (.tmp 9) (.tmp 15))])
 (.seq (.reg [oM 16 2,
  oM 17 2,
  oO 18 (.build [.int .i64 0,.int .i64 0] [(0,1,(.tmp 16)),(1,1,(.tmp 17))]),
  oO 19 (.bslice 266 2 1 [.int .i64 0,.int .i64 0] [(0,2,(.tmp 18))]),
  oO 20 (.call (.func 308) [(.tmp 19)]),
  oM 10 20])
 (.seq (.reg [oM 21 10,
  oM 22 2,
  oO 23 (.build [.int .i64 0,.int .i64 0] [(0,1,(.tmp 21)),(1,1,(.tmp 22))]),
  oO 24 (.bslice 266 2 1 [.int .i64 0,.int .i64 0] [(0,2,(.tmp 23))]),
  oO 25 (.call (.func 308) [(.tmp 24)]),
  oM 26 10,
  oM 27 2,
  oO 28 (.bin .sub (.tmp 27) (oK 1)),
  oO 29 (.build [.int .i64 0,.int .i64 0] [(0,1,(.tmp 26)),(1,1,(.tmp 28))]),
  oO 30 (.bslice 266 2 1 [.int .i64 0,.int .i64 0] [(0,2,(.tmp 29))]),
  oO 31 (.call (.func 308) [(.tmp 30)]),
  oM 11 25,
  oM 12 31])
 (.seq (.reg [oM 32 2,
  oM 13 32])
 (.seq (.seq (.reg [oM 33 1,
  oO 34 (.mv (oK 0))])
 (.blk 0 (.loop (.seq (.reg [oO 35 (.bin .lss (.tmp 34) (.tmp 33))])
 (.seq (.cond (.tmp 35) .skip (.exit 0))
 (.seq (.blk 1 (.seq (.reg [oM 36 12,
  oO 37 (.ixa 4 1 (.tmp 9) (oK 0)),
  oL 38 37,
  oO 39 (.build [.int .i64 0,.int .i64 0] [(0,1,(.tmp 36)),(1,1,(.tmp 38))]),
  oO 40 (.ixa 4 1 (.tmp 9) (oK 1)),
  oL 41 40,
  oO 42 (.ixa 4 1 (.tmp 9) (oK 2)),
  oL 43 42,
  oO 44 (.bin .add (.tmp 41) (.tmp 43)),
  oO 45 (.ixa 4 1 (.tmp 9) (oK 3)),
  oL 46 45,
  oO 47 (.bin .add (.tmp 44) (.tmp 46)),
  oM 48 13,
  oM 49 13,
  oO 50 (.build [.int .i64 0,.int .i64 0] [(0,1,(.tmp 48)),(1,1,(.tmp 49))]),
  oO 51 (.bslice 266 2 1 [.int .i64 0,.int .i64 0] [(0,2,(.tmp 50))]),
  ⟨some 52,.call (.func 308) [(.tmp 51)],none,.t⟩,
  oO 53 (.build [.int .i64 0,.int .i64 0] [(0,1,(.tmp 47)),(1,1,(.tmp 52))]),
  oO 54 (.bslice 266 2 2 [.int .i64 0,.int .i64 0] [(0,2,(.tmp 39)),(2,2,(.tmp 53))]),
  oO 55 (.call (.func 308) [(.tmp 54)]),
  oM 12 55])
 (.seq (.reg [oM 56 11,
  oO 57 (.ixa 4 1 (.tmp 9) (oK 0)),
  oL 58 57,
  oO 59 (.build [.int .i64 0,.int .i64 0] [(0,1,(.tmp 56)),(1,1,(.tmp 58))]),
  oO 60 (.bslice 266 2 1 [.int .i64 0,.int .i64 0] [(0,2,(.tmp 59))]),
  oO 61 (.call (.func 308) [(.tmp 60)]),
  oM 11 61])
 (.seq (.reg [oM 62 13,
  oF 63 1 3,
  oL 64 63,
  oO 65 (.bin .mul (.tmp 62) (.tmp 64)),
  oM 13 65])
 (.seq (.reg [oM 66 11,
  oO 67 (.bin .gtr (.tmp 66) (oK 1000000000000000)),
  oM 68 67,
  oG 69 (.mv (.tmp 12)) 68 false,
  oG 70 (.bin .gtr (.tmp 69) (oK 1000000000000000)) 68 false,
  oO 71 (.pick (.tmp 68) (.const (.bool true)) (.tmp 70))])
 (.cond (.tmp 71) (.seq (.reg [oO 6 (.mv (oK 0)),
  oO 7 (.mv (oK 0)),
  oO 8 (.mv (.const (.bool false)))])
 .ret) .skip))))))
 (.reg [oO 72 (.bin .add (.tmp 34) (oK 1)),
  oM 34 72])))))))
 (.seq (.reg [oM 73 11,
  oM 74 12,
  oM 75 11,
  oO 76 (.bin .leq (.tmp 75) (oK 1000000000000000)),
  oM 77 76,
  oG 78 (.mv (.tmp 12)) 77 true,
  oG 79 (.bin .leq (.tmp 78) (oK 1000000000000000)) 77 true,
  oO 80 (.pick (.tmp 77) (.tmp 79) (.const (.bool false))),
  oM 6 73,
  oM 7 74,
  oM 8 80])
 .ret)))))))⟩
theorem s232:compFn Try.prog Try.f232=some c232:=by kernel_rfl
def c233:XFn:=
 ⟨[.tmp 2],
 (.seq (.reg [oO 1 (.box 26 (.tmp 0)),
  oO 2 (.mv (oK 0))])
 (.seq (.blk 0 (.seq (.reg [oO 4 (.loadn 5 (.tmp 1)),
  oO 5 (.call (.func 154) [(.tmp 4)]),
  oO 6 (.un .not (.tmp 5)),
  oM 3 6])
 (.cond (.tmp 3) (.seq (.reg [oO 2 (.mv (oK 1))])
 .ret) (.seq (.reg [oF 8 1 1,
  oL 9 8,
  oO 10 (.bin .lss (.tmp 9) (oK 2)),
  oM 11 10,
  oG 12 (.fadr 2 (.tmp 1)) 11 false,
  oG 13 (.load1 (.tmp 12)) 11 false,
  oG 14 (.fadr 1 (.tmp 1)) 11 false,
  oG 15 (.load1 (.tmp 14)) 11 false,
  oG 16 (.bin .neq (.tmp 13) (.tmp 15)) 11 false,
  oO 17 (.pick (.tmp 11) (.const (.bool true)) (.tmp 16)),
  oM 18 17,
  oG 19 (.fadr 3 (.tmp 1)) 18 false,
  oG 20 (.load1 (.tmp 19)) 18 false,
  oG 21 (.fadr 1 (.tmp 1)) 18 false,
  oG 22 (.load1 (.tmp 21)) 18 false,
  oG 23 (.bin .neq (.tmp 20) (.tmp 22)) 18 false,
  oO 24 (.pick (.tmp 18) (.const (.bool true)) (.tmp 23)),
  oM 7 24])
 (.cond (.tmp 7) (.seq (.reg [oO 2 (.mv (oK 2))])
 .ret) .skip)))))
 (.seq (.reg [oO 2 (.mv (oK 0))])
 .ret)))⟩
theorem s233:compFn Try.prog Try.f233=some c233:=by kernel_rfl
def c234:XFn:=
 ⟨[.tmp 6,.tmp 7,.tmp 8],
 (.seq (.reg [oO 3 (.box 26 (.tmp 0)),
  oO 6 (.mv (oK 0)),
  oO 7 (.mv (oK 0)),
  oO 8 (.mv (.const (.bool false)))])
 (.seq (.reg [oO 15 (.loadn 5 (.tmp 3)),
  oO 16 (.call (.func 229) [(.tmp 15)]),
  oM 9 16])
 (.seq (.reg [oM 17 9,
  oO 18 (.ixs 1 (.tmp 17) (oK 1)),
  oL 19 18,
  oM 20 9,
  oO 21 (.ixs 1 (.tmp 20) (oK 2)),
  oL 22 21,
  oO 23 (.bin .add (.tmp 19) (.tmp 22)),
  oM 24 9,
  oO 25 (.ixs 1 (.tmp 24) (oK 3)),
  oL 26 25,
  oO 27 (.bin .add (.tmp 23) (.tmp 26)),
  oM 10 27])
 (.seq (.reg [oM 28 2,
  oM 29 2,
  oO 30 (.bin .mul (.tmp 28) (.tmp 29)),
  oM 31 2,
  oO 32 (.bin .mul (.tmp 30) (.tmp 31)),
  oM 33 2,
  oM 34 2,
  oO 35 (.bin .mul (.tmp 33) (.tmp 34)),
  oM 36 2,
  oO 37 (.bin .mul (.tmp 35) (.tmp 36)),
  oM 38 2,
  oM 39 2,
  oO 40 (.bin .mul (.tmp 38) (.tmp 39)),
  oO 41 (.bin .sub (.tmp 37) (.tmp 40)),
  oM 42 2,
  oM 11 32,
  oM 12 41,
  oM 13 42])
 (.seq (.seq (.reg [oO 14 (.mv (oK 0))])
 (.blk 0 (.loop (.seq (.seq (.reg [oM 43 14,
  oM 44 1,
  oO 45 (.bin .lss (.tmp 43) (.tmp 44))])
 (.cond (.tmp 45) .skip (.exit 0)))
 (.seq (.blk 1 (.seq (.reg [oM 48 11,
  oM 49 9,
  oO 50 (.ixs 1 (.tmp 49) (oK 0)),
  oL 51 50,
  oO 52 (.bin .mul (.tmp 48) (.tmp 51)),
  oM 11 52])
 (.seq (.reg [oM 53 12,
  oM 54 9,
  oO 55 (.ixs 1 (.tmp 54) (oK 0)),
  oL 56 55,
  oO 57 (.bin .mul (.tmp 53) (.tmp 56)),
  oM 12 57])
 (.seq (.seq (.reg [oM 58 11,
  oO 59 (.bin .gtr (.tmp 58) (oK 1000000000000000)),
  oM 60 59,
  oG 61 (.mv (.tmp 12)) 60 false,
  oG 62 (.bin .gtr (.tmp 61) (oK 1000000000000000)) 60 false,
  oO 63 (.pick (.tmp 60) (.const (.bool true)) (.tmp 62)),
  oM 64 63,
  oG 65 (.mv (.tmp 13)) 64 false,
  oG 66 (.mv (.tmp 13)) 64 false,
  oG 67 (.bin .mul (.tmp 65) (.tmp 66)) 64 false,
  oG 68 (.bin .gtr (.tmp 67) (oK 1000000000000000)) 64 false,
  oO 69 (.pick (.tmp 64) (.const (.bool true)) (.tmp 68))])
 (.cond (.tmp 69) (.seq (.reg [oO 6 (.mv (oK 0)),
  oO 7 (.mv (oK 0)),
  oO 8 (.mv (.const (.bool false)))])
 .ret) .skip))
 (.seq (.reg [oM 70 12,
  oM 71 10,
  oM 72 13,
  oO 73 (.bin .mul (.tmp 71) (.tmp 72)),
  oM 74 13,
  oO 75 (.bin .mul (.tmp 73) (.tmp 74)),
  oO 76 (.bin .add (.tmp 70) (.tmp 75)),
  oM 12 76])
 (.seq (.reg [oM 77 13,
  oF 78 1 3,
  oL 79 78,
  oO 80 (.bin .mul (.tmp 77) (.tmp 79)),
  oM 13 80])
 (.seq (.reg [oM 81 12,
  oO 82 (.bin .gtr (.tmp 81) (oK 1000000000000000))])
 (.cond (.tmp 82) (.seq (.reg [oO 6 (.mv (oK 0)),
  oO 7 (.mv (oK 0)),
  oO 8 (.mv (.const (.bool false)))])
 .ret) .skip))))))))
 (.reg [oM 46 14,
  oO 47 (.bin .add (.tmp 46) (oK 1)),
  oM 14 47]))))))
 (.seq (.reg [oM 83 11,
  oM 84 12,
  oM 6 83,
  oM 7 84,
  oO 8 (.mv (.const (.bool true)))])
 .ret))))))⟩
theorem s234:compFn Try.prog Try.f234=some c234:=by kernel_rfl
def c235:XFn:=
 ⟨[.tmp 2],
 (.seq (.reg [oO 2 (.mv (.const (.bool false)))])
 (.seq (.reg [oM 3 0,
  oO 4 (.bin .geq (.tmp 3) (oK 1)),
  oM 5 4,
  oG 6 (.mv (.tmp 0)) 5 true,
  oG 7 (.bin .leq (.tmp 6) (oK 1000)) 5 true,
  oO 8 (.pick (.tmp 5) (.tmp 7) (.const (.bool false))),
  oM 2 8])
 .ret))⟩
theorem s235:compFn Try.prog Try.f235=some c235:=by kernel_rfl
def c236:XFn:=
 ⟨[.tmp 6,.tmp 7],
 (.seq (.reg [oO 3 (.box 26 (.tmp 0)),
  oO 6 (.mv (oK 0)),
  oO 7 (.mv (.const (.bool false)))])
 (.seq (.reg [oO 12 (.loadn 5 (.tmp 3)),
  oM 13 1,
  oM 14 2,
  oO 15 (.call (.func 232) [(.tmp 12),(.tmp 13),(.tmp 14)]),
  oM 11 15,
  oE 16 11 0,
  oE 17 11 1,
  oE 18 11 2,
  oM 8 16,
  oM 9 17,
  oM 10 18])
 (.seq (.reg [oM 19 8,
  oM 20 9,
  oO 21 (.bin .add (.tmp 19) (.tmp 20)),
  oM 22 10,
  oM 23 22,
  oG 24 (.mv (.tmp 8)) 23 true,
  oG 25 (.mv (.tmp 9)) 23 true,
  oG 26 (.bin .add (.tmp 24) (.tmp 25)) 23 true,
  oG 27 (.bin .leq (.tmp 26) (oK 1000000000000000)) 23 true,
  oO 28 (.pick (.tmp 23) (.tmp 27) (.const (.bool false))),
  oM 6 21,
  oM 7 28])
 .ret)))⟩
theorem s236:compFn Try.prog Try.f236=some c236:=by kernel_rfl
def tab1:List (Nat×XFn):=[(10,c10),(13,c13),(95,c95),(118,c118),(119,c119),(120,c120),(121,c121),(122,c122),(123,c123),(124,c124),(125,c125),(126,c126),(127,c127),(128,c128),(129,c129),(130,c130),(131,c131),(132,c132),(145,c145),(147,c147),(148,c148),(149,c149),(154,c154),(166,c166),(167,c167),(175,c175),(181,c181),(196,c196),(212,c212),(224,c224),(227,c227),(228,c228),(229,c229),(230,c230),(231,c231),(232,c232),(233,c233),(234,c234),(235,c235),(236,c236)]
theorem ts1:TSound Try.prog (fun g=>tab1.lookup g):=by
 refine tsound_of_all (P:=Try.prog) (tab:=tab1) ?_
 intro p hp
 simp only[tab1,List.mem_cons,List.not_mem_nil,or_false] at hp
 rcases hp with rfl|rfl|rfl|rfl|rfl|rfl|rfl|rfl|rfl|rfl|rfl|rfl|rfl|rfl|rfl|rfl|rfl|rfl|rfl|rfl|rfl|rfl|rfl|rfl|rfl|rfl|rfl|rfl|rfl|rfl|rfl|rfl|rfl|rfl|rfl|rfl|rfl|rfl|rfl|rfl
 ·exact⟨_,Try.func10,s10⟩
 ·exact⟨_,Try.func13,s13⟩
 ·exact⟨_,Try.func95,s95⟩
 ·exact⟨_,Try.func118,s118⟩
 ·exact⟨_,Try.func119,s119⟩
 ·exact⟨_,Try.func120,s120⟩
 ·exact⟨_,Try.func121,s121⟩
 ·exact⟨_,Try.func122,s122⟩
 ·exact⟨_,Try.func123,s123⟩
 ·exact⟨_,Try.func124,s124⟩
 ·exact⟨_,Try.func125,s125⟩
 ·exact⟨_,Try.func126,s126⟩
 ·exact⟨_,Try.func127,s127⟩
 ·exact⟨_,Try.func128,s128⟩
 ·exact⟨_,Try.func129,s129⟩
 ·exact⟨_,Try.func130,s130⟩
 ·exact⟨_,Try.func131,s131⟩
 ·exact⟨_,Try.func132,s132⟩
 ·exact⟨_,Try.func145,s145⟩
 ·exact⟨_,Try.func147,s147⟩
 ·exact⟨_,Try.func148,s148⟩
 ·exact⟨_,Try.func149,s149⟩
 ·exact⟨_,Try.func154,s154⟩
 ·exact⟨_,Try.func166,s166⟩
 ·exact⟨_,Try.func167,s167⟩
 ·exact⟨_,Try.func175,s175⟩
 ·exact⟨_,Try.func181,s181⟩
 ·exact⟨_,Try.func196,s196⟩
 ·exact⟨_,Try.func212,s212⟩
 ·exact⟨_,Try.func224,s224⟩
 ·exact⟨_,Try.func227,s227⟩
 ·exact⟨_,Try.func228,s228⟩
 ·exact⟨_,Try.func229,s229⟩
 ·exact⟨_,Try.func230,s230⟩
 ·exact⟨_,Try.func231,s231⟩
 ·exact⟨_,Try.func232,s232⟩
 ·exact⟨_,Try.func233,s233⟩
 ·exact⟨_,Try.func234,s234⟩
 ·exact⟨_,Try.func235,s235⟩
 ·exact⟨_,Try.func236,s236⟩
end Go.Proofs.Ytapafdpnmakekaa.X
