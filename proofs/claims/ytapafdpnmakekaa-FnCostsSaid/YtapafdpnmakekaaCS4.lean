/- Texts of one claim, put together by merge.py: XCode1. -/
import Derived.Test.YtapafdpnmakekaaCS3
import Derived.Test.YtapafdpnmakekaaProg
set_option linter.unusedVariables false
set_option maxRecDepth 4000
namespace Go.Proofs.Ytapafdpnmakekaa.X
open Go Go.RowKit
def c8:XFn:=
 ⟨[.tmp 2],
 (.seq (.reg [oO 2 (.mv (.const (.bool false)))])
 (.seq (.seq (.reg [oM 34 0,
  oO 35 (.call (.func 13) [(.tmp 34)])])
 (.cond (.tmp 35) (.seq (.reg [oO 2 (.mv (.const (.bool true)))])
 .ret) .skip))
 (.seq (.reg [oM 36 0,
  oO 37 (.call (.func 86) [(.tmp 36)]),
  oO 3 (.alloc 26 [.int .i64 0,.int .i64 0,.int .i64 0,.int .i64 0,.slice none 0 0]),
  oS (.store 5 (.tmp 3) (.tmp 37))])
 (.seq (.reg [oO 39 (.loadn 5 (.tmp 3)),
  oO 40 (.call (.func 87) [(.tmp 39)]),
  oM 38 40,
  oE 41 38 0,
  oE 42 38 1,
  oM 4 41,
  oM 5 42])
 (.seq (.seq (.reg [oO 44 (.loadn 5 (.tmp 3)),
  oO 45 (.call (.func 88) [(.tmp 44)]),
  oM 43 45,
  oE 46 43 0,
  oE 47 43 1,
  oM 6 46,
  oM 7 47])
 (.seq (.reg [oM 48 5,
  oM 49 7,
  oO 50 (.bin .neq (.tmp 48) (.tmp 49)),
  oM 51 50,
  oG 52 (.mv (.tmp 4)) 51 false,
  oG 53 (.mv (.tmp 6)) 51 false,
  oG 54 (.call (.func 20) [(.tmp 52),(.tmp 53)]) 51 false,
  oG 55 (.un .not (.tmp 54)) 51 false,
  oO 56 (.pick (.tmp 51) (.const (.bool true)) (.tmp 55))])
 (.cond (.tmp 56) (.seq (.reg [oO 2 (.mv (.const (.bool false)))])
 .ret) .skip)))
 (.seq (.reg [oM 58 0,
  oO 59 (.call (.func 89) [(.tmp 58)]),
  oM 57 59,
  oE 60 57 0,
  oE 61 57 1,
  oO 8 (.alloc 26 [.int .i64 0,.int .i64 0,.int .i64 0,.int .i64 0,.slice none 0 0]),
  oS (.store 5 (.tmp 8) (.tmp 60)),
  oM 9 61])
 (.seq (.reg [oO 63 (.loadn 5 (.tmp 8)),
  oM 64 9,
  oO 65 (.call (.func 90) [(.tmp 63),(.tmp 64)]),
  oM 62 65,
  oE 66 62 0,
  oE 67 62 1,
  oM 10 66,
  oM 11 67])
 (.seq (.seq (.reg [oO 69 (.loadn 5 (.tmp 8)),
  oM 70 9,
  oO 71 (.call (.func 91) [(.tmp 69),(.tmp 70)]),
  oM 68 71,
  oE 72 68 0,
  oE 73 68 1,
  oM 12 72,
  oM 13 73])
 (.seq (.reg [oM 74 11,
  oM 75 13,
  oO 76 (.bin .neq (.tmp 74) (.tmp 75)),
  oM 77 76,
  oG 78 (.mv (.tmp 10)) 77 false,
  oG 79 (.mv (.tmp 12)) 77 false,
  oG 80 (.call (.func 20) [(.tmp 78),(.tmp 79)]) 77 false,
  oG 81 (.un .not (.tmp 80)) 77 false,
  oO 82 (.pick (.tmp 77) (.const (.bool true)) (.tmp 81))])
 (.cond (.tmp 82) (.seq (.reg [oO 2 (.mv (.const (.bool false)))])
 .ret) .skip)))
 (.seq (.reg [oM 83 0,
  oO 84 (.call (.func 92) [(.tmp 83)]),
  oM 14 84])
 (.seq (.reg [oM 86 14,
  oO 87 (.call (.func 93) [(.tmp 86)]),
  oM 85 87,
  oE 88 85 0,
  oE 89 85 1,
  oM 15 88,
  oM 16 89])
 (.seq (.seq (.reg [oM 91 14,
  oO 92 (.call (.func 94) [(.tmp 91)]),
  oM 90 92,
  oE 93 90 0,
  oE 94 90 1,
  oM 17 93,
  oM 18 94])
 (.seq (.reg [oM 95 16,
  oM 96 18,
  oO 97 (.bin .neq (.tmp 95) (.tmp 96)),
  oM 98 97,
  oG 99 (.mv (.tmp 15)) 98 false,
  oG 100 (.mv (.tmp 17)) 98 false,
  oG 101 (.bin .neq (.tmp 99) (.tmp 100)) 98 false,
  oO 102 (.pick (.tmp 98) (.const (.bool true)) (.tmp 101))])
 (.cond (.tmp 102) (.seq (.reg [oO 2 (.mv (.const (.bool false)))])
 .ret) .skip)))
 (.seq (.reg [oM 104 0,
  oO 105 (.call (.func 95) [(.tmp 104)]),
  oM 103 105,
  oE 106 103 0,
  oE 107 103 1,
  oE 108 103 2,
  oO 19 (.alloc 26 [.int .i64 0,.int .i64 0,.int .i64 0,.int .i64 0,.slice none 0 0]),
  oS (.store 5 (.tmp 19) (.tmp 106)),
  oM 20 107,
  oM 21 108])
 (.seq (.reg [oO 110 (.loadn 5 (.tmp 19)),
  oM 111 20,
  oM 112 21,
  oO 113 (.call (.func 96) [(.tmp 110),(.tmp 111),(.tmp 112)]),
  oM 109 113,
  oE 114 109 0,
  oE 115 109 1,
  oM 22 114,
  oM 23 115])
 (.seq (.seq (.reg [oO 117 (.loadn 5 (.tmp 19)),
  oM 118 20,
  oM 119 21,
  oO 120 (.call (.func 97) [(.tmp 117),(.tmp 118),(.tmp 119)]),
  oM 116 120,
  oE 121 116 0,
  oE 122 116 1,
  oM 24 121,
  oM 25 122])
 (.seq (.reg [oM 123 23,
  oM 124 25,
  oO 125 (.bin .neq (.tmp 123) (.tmp 124)),
  oM 126 125,
  oG 127 (.mv (.tmp 22)) 126 false,
  oG 128 (.mv (.tmp 24)) 126 false,
  oG 129 (.bin .neq (.tmp 127) (.tmp 128)) 126 false,
  oO 130 (.pick (.tmp 126) (.const (.bool true)) (.tmp 129))])
 (.cond (.tmp 130) (.seq (.reg [oO 2 (.mv (.const (.bool false)))])
 .ret) .skip)))
 (.seq (.seq (.reg [oM 131 11,
  oO 132 (.bin .eql (.tmp 131) (oK 0))])
 (.cond (.tmp 132) (.seq (.reg [oO 134 (.loadn 5 (.tmp 8)),
  oM 135 9,
  oO 136 (.call (.func 96) [(.tmp 134),(.tmp 135),(oK 1)]),
  oM 133 136,
  oE 137 133 0,
  oE 138 133 1,
  oM 26 137,
  oM 27 138])
 (.seq (.reg [oM 139 27,
  oO 140 (.bin .eql (.tmp 139) (oK 0)),
  oM 141 140,
  oG 142 (.mv (.tmp 26)) 141 true,
  oG 143 (.mv (.tmp 10)) 141 true,
  oG 144 (.ixs 1 (.tmp 143) (oK 0)) 141 true,
  oG 145 (.load1 (.tmp 144)) 141 true,
  oG 146 (.mv (.tmp 10)) 141 true,
  oG 147 (.ixs 1 (.tmp 146) (oK 1)) 141 true,
  oG 148 (.load1 (.tmp 147)) 141 true,
  oG 149 (.bin .add (.tmp 145) (.tmp 148)) 141 true,
  oG 150 (.bin .neq (.tmp 142) (.tmp 149)) 141 true,
  oO 151 (.pick (.tmp 141) (.tmp 150) (.const (.bool false)))])
 (.cond (.tmp 151) (.seq (.reg [oO 2 (.mv (.const (.bool false)))])
 .ret) .skip))) .skip))
 (.seq (.seq (.reg [oM 152 23,
  oO 153 (.bin .eql (.tmp 152) (oK 0)),
  oM 154 153,
  oG 155 (.mv (.tmp 20)) 154 true,
  oG 156 (.bin .eql (.tmp 155) (oK 0)) 154 true,
  oO 157 (.pick (.tmp 154) (.tmp 156) (.const (.bool false)))])
 (.cond (.tmp 157) (.seq (.reg [oM 159 21,
  oO 160 (.call (.func 93) [(.tmp 159)]),
  oM 158 160,
  oE 161 158 0,
  oE 162 158 1,
  oM 28 161,
  oM 29 162])
 (.seq (.reg [oM 163 29,
  oO 164 (.bin .neq (.tmp 163) (oK 0)),
  oM 165 164,
  oG 166 (.mv (.tmp 28)) 165 false,
  oG 167 (.mv (.tmp 22)) 165 false,
  oG 168 (.bin .neq (.tmp 166) (.tmp 167)) 165 false,
  oO 169 (.pick (.tmp 165) (.const (.bool true)) (.tmp 168))])
 (.cond (.tmp 169) (.seq (.reg [oO 2 (.mv (.const (.bool false)))])
 .ret) .skip))) .skip))
 (.seq (.seq (.reg [oM 170 5,
  oO 171 (.bin .neq (.tmp 170) (oK 0))])
 (.cond (.tmp 171) (.seq (.reg [oM 172 4,
  oN 173 172,
  oO 174 (.bin .eql (.tmp 173) (oK 0)),
  oM 2 174])
 .ret) .skip))
 (.seq (.reg [oO 176 (.loadn 5 (.tmp 3)),
  oO 177 (.call (.func 98) [(.tmp 176)]),
  oM 175 177,
  oE 178 175 0,
  oE 179 175 1,
  oO 30 (.alloc 26 [.int .i64 0,.int .i64 0,.int .i64 0,.int .i64 0,.slice none 0 0]),
  oS (.store 5 (.tmp 30) (.tmp 178)),
  oM 31 179])
 (.seq (.reg [oO 181 (.loadn 5 (.tmp 30)),
  oO 182 (.call (.func 87) [(.tmp 181)]),
  oM 180 182,
  oE 183 180 0,
  oE 184 180 1,
  oM 32 183,
  oM 33 184])
 (.seq (.reg [oM 185 31,
  oO 186 (.bin .eql (.tmp 185) (oK 0)),
  oM 187 186,
  oG 188 (.mv (.tmp 33)) 187 true,
  oG 189 (.bin .eql (.tmp 188) (oK 0)) 187 true,
  oO 190 (.pick (.tmp 187) (.tmp 189) (.const (.bool false))),
  oM 191 190,
  oG 192 (.mv (.tmp 4)) 191 true,
  oG 193 (.ixs 1 (.tmp 192) (oK 0)) 191 true,
  oG 194 (.load1 (.tmp 193)) 191 true,
  oG 195 (.mv (.tmp 32)) 191 true,
  oG 196 (.ixs 1 (.tmp 195) (oK 0)) 191 true,
  oG 197 (.load1 (.tmp 196)) 191 true,
  oG 198 (.bin .eql (.tmp 194) (.tmp 197)) 191 true,
  oO 199 (.pick (.tmp 191) (.tmp 198) (.const (.bool false))),
  oM 200 199,
  oG 201 (.mv (.tmp 4)) 200 true,
  oG 202 (.ixs 1 (.tmp 201) (oK 1)) 200 true,
  oG 203 (.load1 (.tmp 202)) 200 true,
  oG 204 (.mv (.tmp 32)) 200 true,
  oG 205 (.ixs 1 (.tmp 204) (oK 2)) 200 true,
  oG 206 (.load1 (.tmp 205)) 200 true,
  oG 207 (.bin .eql (.tmp 203) (.tmp 206)) 200 true,
  oO 208 (.pick (.tmp 200) (.tmp 207) (.const (.bool false))),
  oM 209 208,
  oG 210 (.mv (.tmp 4)) 209 true,
  oG 211 (.ixs 1 (.tmp 210) (oK 2)) 209 true,
  oG 212 (.load1 (.tmp 211)) 209 true,
  oG 213 (.mv (.tmp 32)) 209 true,
  oG 214 (.ixs 1 (.tmp 213) (oK 1)) 209 true,
  oG 215 (.load1 (.tmp 214)) 209 true,
  oG 216 (.bin .eql (.tmp 212) (.tmp 215)) 209 true,
  oO 217 (.pick (.tmp 209) (.tmp 216) (.const (.bool false))),
  oM 218 217,
  oG 219 (.mv (.tmp 4)) 218 true,
  oG 220 (.ixs 1 (.tmp 219) (oK 3)) 218 true,
  oG 221 (.load1 (.tmp 220)) 218 true,
  oG 222 (.mv (.tmp 32)) 218 true,
  oG 223 (.ixs 1 (.tmp 222) (oK 3)) 218 true,
  oG 224 (.load1 (.tmp 223)) 218 true,
  oG 225 (.bin .eql (.tmp 221) (.tmp 224)) 218 true,
  oO 226 (.pick (.tmp 218) (.tmp 225) (.const (.bool false))),
  oM 2 226])
 .ret))))))))))))))))))))⟩
theorem s8:compFn Try.prog Try.f8=some c8:=by kernel_rfl
def c13:XFn:=
 ⟨[.tmp 2],
 (.seq (.reg [oO 2 (.mv (.const (.bool false)))])
 (.seq (.reg [oM 3 0,
  oN 4 3,
  oO 5 (.bin .gtr (.tmp 4) (oK 4096)),
  oM 2 5])
 .ret))⟩
theorem s13:compFn Try.prog Try.f13=some c13:=by kernel_rfl
def c20:XFn:=
 ⟨[.tmp 4],
 (.seq (.reg [oO 4 (.mv (.const (.bool false)))])
 (.seq (.seq (.reg [oM 6 0,
  oN 7 6,
  oM 8 1,
  oN 9 8,
  oO 10 (.bin .neq (.tmp 7) (.tmp 9))])
 (.cond (.tmp 10) (.seq (.reg [oO 4 (.mv (.const (.bool false)))])
 .ret) .skip))
 (.seq (.seq (.reg [oO 5 (.mv (oK 0))])
 (.blk 0 (.loop (.seq (.seq (.reg [oM 11 5,
  oM 12 0,
  oN 13 12,
  oO 14 (.bin .lss (.tmp 11) (.tmp 13))])
 (.cond (.tmp 14) .skip (.exit 0)))
 (.seq (.blk 1 (.seq (.reg [oM 17 0,
  oM 18 5,
  oX 19 1 17 18,
  oL 20 19,
  oM 21 1,
  oM 22 5,
  oX 23 1 21 22,
  oL 24 23,
  oO 25 (.bin .neq (.tmp 20) (.tmp 24))])
 (.cond (.tmp 25) (.seq (.reg [oO 4 (.mv (.const (.bool false)))])
 .ret) .skip)))
 (.reg [oM 15 5,
  oO 16 (.bin .add (.tmp 15) (oK 1)),
  oM 5 16]))))))
 (.seq (.reg [oO 4 (.mv (.const (.bool true)))])
 .ret))))⟩
theorem s20:compFn Try.prog Try.f20=some c20:=by kernel_rfl
def c86:XFn:=
 ⟨[.celln 2 5],
 (.seq (.reg [oO 2 (.alloc 26 [.int .i64 0,.int .i64 0,.int .i64 0,.int .i64 0,.slice none 0 0])])
 (.seq (.reg [oM 4 0,
  oO 5 (.call (.func 145) [(.tmp 4)]),
  oM 3 5])
 (.seq (.seq (.reg [oM 6 3,
  oO 7 (.call (.func 148) [(.tmp 6),(oK 2)]),
  oO 8 (.bin .eql (.tmp 7) (oK 0))])
 (.cond (.tmp 8) (.seq (.reg [oM 9 3,
  oO 10 (.call (.func 227) [(.tmp 9)]),
  oS (.store 5 (.tmp 2) (.tmp 10))])
 .ret) .skip))
 (.seq (.reg [oM 11 3,
  oO 12 (.call (.func 212) [(.tmp 11)]),
  oS (.store 5 (.tmp 2) (.tmp 12))])
 .ret))))⟩
theorem s86:compFn Try.prog Try.f86=some c86:=by kernel_rfl
def c87:XFn:=
 ⟨[.tmp 2,.tmp 3],
 (.seq (.reg [oO 1 (.box 26 (.tmp 0)),
  oO 2 (.mv (.const (.slice none 0 0))),
  oO 3 (.mv (oK 0))])
 (.seq (.seq (.reg [oO 5 (.loadn 5 (.tmp 1)),
  oO 6 (.call (.func 149) [(.tmp 5)]),
  oO 7 (.un .not (.tmp 6))])
 (.cond (.tmp 7) (.seq (.reg [oO 2 (.mv (.const (.slice none 0 0))),
  oO 3 (.mv (oK 1))])
 .ret) .skip))
 (.seq (.reg [oO 8 (.loadn 5 (.tmp 1)),
  oO 9 (.call (.func 228) [(.tmp 8)]),
  oO 4 (.alloc 193 [.int .i64 0,.int .i64 0,.int .i64 0,.int .i64 0]),
  oS (.store 4 (.tmp 4) (.tmp 9))])
 (.seq (.reg [oO 10 (.slca 4 1 (.tmp 4) none none),
  oM 2 10,
  oO 3 (.mv (oK 0))])
 .ret))))⟩
theorem s87:compFn Try.prog Try.f87=some c87:=by kernel_rfl
def c88:XFn:=
 ⟨[.tmp 2,.tmp 3],
 (.seq (.reg [oO 1 (.box 26 (.tmp 0)),
  oO 2 (.mv (.const (.slice none 0 0))),
  oO 3 (.mv (oK 0))])
 (.seq (.seq (.reg [oO 4 (.loadn 5 (.tmp 1)),
  oO 5 (.call (.func 154) [(.tmp 4)]),
  oO 6 (.un .not (.tmp 5))])
 (.cond (.tmp 6) (.seq (.reg [oO 2 (.mv (.const (.slice none 0 0))),
  oO 3 (.mv (oK 1))])
 .ret) .skip))
 (.seq (.reg [oO 7 (.loadn 5 (.tmp 1)),
  oO 8 (.call (.func 229) [(.tmp 7)]),
  oM 2 8,
  oO 3 (.mv (oK 0))])
 .ret)))⟩
theorem s88:compFn Try.prog Try.f88=some c88:=by kernel_rfl
def c89:XFn:=
 ⟨[.celln 2 5,.tmp 3],
 (.seq (.reg [oO 2 (.alloc 26 [.int .i64 0,.int .i64 0,.int .i64 0,.int .i64 0,.slice none 0 0]),
  oO 3 (.mv (oK 0))])
 (.seq (.reg [oM 5 0,
  oO 6 (.call (.func 145) [(.tmp 5)]),
  oM 4 6])
 (.seq (.reg [oM 7 4,
  oO 8 (.call (.func 227) [(.tmp 7)]),
  oM 9 4,
  oM 10 4,
  oO 11 (.call (.func 175) [(.tmp 10),(oK 8)]),
  oO 12 (.bslice 2 1 5 [.int .i64 0] [(0,1,(oK 0)),(1,1,(oK 1)),(2,1,(oK 2)),(3,1,(oK 3)),(4,1,(.tmp 11))]),
  oO 13 (.call (.func 147) [(.tmp 9),(.tmp 12)]),
  oS (.store 5 (.tmp 2) (.tmp 8)),
  oM 3 13])
 .ret)))⟩
theorem s89:compFn Try.prog Try.f89=some c89:=by kernel_rfl
def c90:XFn:=
 ⟨[.tmp 4,.tmp 5],
 (.seq (.reg [oO 2 (.box 26 (.tmp 0)),
  oO 4 (.mv (.const (.slice none 0 0))),
  oO 5 (.mv (oK 0))])
 (.seq (.seq (.reg [oO 10 (.loadn 5 (.tmp 2)),
  oM 11 1,
  ⟨some 12,.call (.func 231) [(.tmp 11)],none,.t⟩,
  oO 13 (.call (.func 230) [(.tmp 10),(.tmp 12)]),
  oM 6 13])
 (.seq (.reg [oM 14 6,
  oO 15 (.bin .neq (.tmp 14) (oK 0))])
 (.cond (.tmp 15) (.seq (.reg [oM 16 6,
  oO 4 (.mv (.const (.slice none 0 0))),
  oM 5 16])
 .ret) .skip)))
 (.seq (.reg [oO 18 (.loadn 5 (.tmp 2)),
  oM 19 1,
  oO 20 (.call (.func 232) [(.tmp 18),(.tmp 19),(oK 1)]),
  oM 17 20,
  oE 21 17 0,
  oE 22 17 1,
  oE 23 17 2,
  oM 7 21,
  oM 8 22,
  oM 9 23])
 (.seq (.seq (.reg [oM 24 9,
  oO 25 (.un .not (.tmp 24))])
 (.cond (.tmp 25) (.seq (.reg [oO 4 (.mv (.const (.slice none 0 0))),
  oO 5 (.mv (oK 3))])
 .ret) .skip))
 (.seq (.reg [oM 26 7,
  oM 27 8,
  oO 28 (.bslice 2 1 2 [.int .i64 0] [(0,1,(.tmp 26)),(1,1,(.tmp 27))]),
  oM 4 28,
  oO 5 (.mv (oK 0))])
 .ret)))))⟩
theorem s90:compFn Try.prog Try.f90=some c90:=by kernel_rfl
def c91:XFn:=
 ⟨[.tmp 4,.tmp 5],
 (.seq (.reg [oO 2 (.box 26 (.tmp 0)),
  oO 4 (.mv (.const (.slice none 0 0))),
  oO 5 (.mv (oK 0))])
 (.seq (.reg [oO 10 (.loadn 5 (.tmp 2)),
  oO 11 (.call (.func 233) [(.tmp 10)]),
  oM 6 11])
 (.seq (.seq (.reg [oM 12 6,
  oO 13 (.bin .eql (.tmp 12) (oK 0)),
  oM 14 13,
  oG 15 (.mv (.tmp 1)) 14 true,
  oG 16 (.call (.func 181) [(.tmp 15),(oK 0),(oK 8)]) 14 true,
  oG 17 (.un .not (.tmp 16)) 14 true,
  oO 18 (.pick (.tmp 14) (.tmp 17) (.const (.bool false)))])
 (.cond (.tmp 18) (.reg [oO 6 (.mv (oK 2))]) .skip))
 (.seq (.seq (.reg [oM 19 6,
  oO 20 (.bin .neq (.tmp 19) (oK 0))])
 (.cond (.tmp 20) (.seq (.reg [oM 21 6,
  oO 4 (.mv (.const (.slice none 0 0))),
  oM 5 21])
 .ret) .skip))
 (.seq (.reg [oO 23 (.loadn 5 (.tmp 2)),
  oM 24 1,
  oO 25 (.call (.func 234) [(.tmp 23),(.tmp 24),(oK 1)]),
  oM 22 25,
  oE 26 22 0,
  oE 27 22 1,
  oE 28 22 2,
  oM 7 26,
  oM 8 27,
  oM 9 28])
 (.seq (.seq (.reg [oM 29 9,
  oO 30 (.un .not (.tmp 29))])
 (.cond (.tmp 30) (.seq (.reg [oO 4 (.mv (.const (.slice none 0 0))),
  oO 5 (.mv (oK 3))])
 .ret) .skip))
 (.seq (.reg [oM 31 7,
  oM 32 8,
  oO 33 (.bslice 2 1 2 [.int .i64 0] [(0,1,(.tmp 31)),(1,1,(.tmp 32))]),
  oM 4 33,
  oO 5 (.mv (oK 0))])
 .ret)))))))⟩
theorem s91:compFn Try.prog Try.f91=some c91:=by kernel_rfl
def c92:XFn:=
 ⟨[.tmp 2],
 (.seq (.reg [oO 2 (.mv (oK 0))])
 (.seq (.reg [oM 4 0,
  oO 5 (.call (.func 145) [(.tmp 4)]),
  oM 3 5])
 (.seq (.reg [oM 6 3,
  oM 7 3,
  oO 8 (.call (.func 148) [(.tmp 7),(oK 20)]),
  oM 9 3,
  oO 10 (.call (.func 175) [(.tmp 9),(oK 50000)]),
  oO 11 (.bslice 2 1 2 [.int .i64 0] [(0,1,(.tmp 8)),(1,1,(.tmp 10))]),
  oO 12 (.call (.func 147) [(.tmp 6),(.tmp 11)]),
  oM 2 12])
 .ret)))⟩
theorem s92:compFn Try.prog Try.f92=some c92:=by kernel_rfl
def c93:XFn:=
 ⟨[.tmp 2,.tmp 3],
 (.seq (.reg [oO 2 (.mv (oK 0)),
  oO 3 (.mv (oK 0))])
 (.seq (.seq (.reg [oM 4 0,
  oO 5 (.bin .lss (.tmp 4) (oK 1)),
  oM 6 5,
  oG 7 (.mv (.tmp 0)) 6 false,
  oG 8 (.bin .gtr (.tmp 7) (oK 50000)) 6 false,
  oO 9 (.pick (.tmp 6) (.const (.bool true)) (.tmp 8))])
 (.cond (.tmp 9) (.seq (.reg [oO 2 (.mv (oK 0)),
  oO 3 (.mv (oK 2))])
 .ret) .skip))
 (.seq (.reg [oM 10 0,
  oO 11 (.bin .mul (oK 2) (.tmp 10)),
  oM 12 0,
  oO 13 (.bin .mul (.tmp 11) (.tmp 12)),
  oM 14 0,
  oO 15 (.bin .mul (.tmp 13) (.tmp 14)),
  oM 16 0,
  oM 17 0,
  oO 18 (.bin .mul (.tmp 16) (.tmp 17)),
  oO 19 (.bin .sub (.tmp 15) (.tmp 18)),
  oM 2 19,
  oO 3 (.mv (oK 0))])
 .ret)))⟩
theorem s93:compFn Try.prog Try.f93=some c93:=by kernel_rfl
def c94:XFn:=
 ⟨[.tmp 2,.tmp 3],
 (.seq (.reg [oO 2 (.mv (oK 0)),
  oO 3 (.mv (oK 0))])
 (.seq (.seq (.reg [oM 4 0,
  oO 5 (.call (.func 181) [(.tmp 4),(oK 1),(oK 50000)]),
  oO 6 (.un .not (.tmp 5))])
 (.cond (.tmp 6) (.seq (.reg [oO 2 (.mv (oK 0)),
  oO 3 (.mv (oK 2))])
 .ret) .skip))
 (.seq (.reg [oM 7 0,
  oO 8 (.bin .mul (oK 2) (.tmp 7)),
  oM 9 0,
  oO 10 (.bin .mul (.tmp 8) (.tmp 9)),
  oM 11 0,
  oO 12 (.bin .mul (.tmp 10) (.tmp 11)),
  oM 13 0,
  oM 14 0,
  oO 15 (.bin .mul (.tmp 13) (.tmp 14)),
  oO 16 (.bin .sub (.tmp 12) (.tmp 15)),
  oM 2 16,
  oO 3 (.mv (oK 0))])
 .ret)))⟩
theorem s94:compFn Try.prog Try.f94=some c94:=by kernel_rfl
def c95:XFn:=
 ⟨[.celln 2 5,.tmp 3,.tmp 4],
 (.seq (.reg [oO 2 (.alloc 26 [.int .i64 0,.int .i64 0,.int .i64 0,.int .i64 0,.slice none 0 0]),
  oO 3 (.mv (oK 0)),
  oO 4 (.mv (oK 0))])
 (.seq (.reg [oM 6 0,
  oO 7 (.call (.func 145) [(.tmp 6)]),
  oM 5 7])
 (.seq (.reg [oM 8 5,
  oO 9 (.call (.func 227) [(.tmp 8)]),
  oM 10 5,
  oM 11 5,
  oO 12 (.call (.func 175) [(.tmp 11),(oK 8)]),
  oO 13 (.bslice 2 1 5 [.int .i64 0] [(0,1,(oK 0)),(1,1,(oK 1)),(2,1,(oK 2)),(3,1,(oK 3)),(4,1,(.tmp 12))]),
  oO 14 (.call (.func 147) [(.tmp 10),(.tmp 13)]),
  oM 15 5,
  oM 16 5,
  oO 17 (.call (.func 148) [(.tmp 16),(oK 30)]),
  oO 18 (.bin .add (oK 1) (.tmp 17)),
  oM 19 5,
  oO 20 (.call (.func 175) [(.tmp 19),(oK 1000)]),
  oO 21 (.bslice 2 1 3 [.int .i64 0] [(0,1,(oK 1)),(1,1,(.tmp 18)),(2,1,(.tmp 20))]),
  oO 22 (.call (.func 147) [(.tmp 15),(.tmp 21)]),
  oS (.store 5 (.tmp 2) (.tmp 9)),
  oM 3 14,
  oM 4 22])
 .ret)))⟩
theorem s95:compFn Try.prog Try.f95=some c95:=by kernel_rfl
def c96:XFn:=
 ⟨[.tmp 6,.tmp 7],
 (.seq (.reg [oO 3 (.box 26 (.tmp 0)),
  oO 6 (.mv (oK 0)),
  oO 7 (.mv (oK 0))])
 (.seq (.seq (.reg [oO 11 (.loadn 5 (.tmp 3)),
  oM 12 1,
  ⟨some 13,.call (.func 231) [(.tmp 12)],none,.t⟩,
  oM 14 13,
  oG 15 (.mv (.tmp 2)) 14 true,
  ⟨some 16,.call (.func 235) [(.tmp 15)],(some (14,true)),.t⟩,
  oO 17 (.pick (.tmp 14) (.tmp 16) (.const (.bool false))),
  oO 18 (.call (.func 230) [(.tmp 11),(.tmp 17)]),
  oM 8 18])
 (.seq (.reg [oM 19 8,
  oO 20 (.bin .neq (.tmp 19) (oK 0))])
 (.cond (.tmp 20) (.seq (.reg [oM 21 8,
  oO 6 (.mv (oK 0)),
  oM 7 21])
 .ret) .skip)))
 (.seq (.reg [oO 23 (.loadn 5 (.tmp 3)),
  oM 24 1,
  oM 25 2,
  oO 26 (.call (.func 236) [(.tmp 23),(.tmp 24),(.tmp 25)]),
  oM 22 26,
  oE 27 22 0,
  oE 28 22 1,
  oM 9 27,
  oM 10 28])
 (.seq (.seq (.reg [oM 29 10,
  oO 30 (.un .not (.tmp 29))])
 (.cond (.tmp 30) (.seq (.reg [oO 6 (.mv (oK 0)),
  oO 7 (.mv (oK 3))])
 .ret) .skip))
 (.seq (.reg [oM 31 9,
  oM 6 31,
  oO 7 (.mv (oK 0))])
 .ret)))))⟩
theorem s96:compFn Try.prog Try.f96=some c96:=by kernel_rfl
def c97:XFn:=
 ⟨[.tmp 6,.tmp 7],
 (.seq (.reg [oO 3 (.box 26 (.tmp 0)),
  oO 6 (.mv (oK 0)),
  oO 7 (.mv (oK 0))])
 (.seq (.seq (.reg [oO 11 (.loadn 5 (.tmp 3)),
  oM 12 1,
  oM 13 2,
  oO 14 (.call (.func 237) [(.tmp 11),(.tmp 12),(.tmp 13)]),
  oM 8 14])
 (.seq (.reg [oM 15 8,
  oO 16 (.bin .neq (.tmp 15) (oK 0))])
 (.cond (.tmp 16) (.seq (.reg [oM 17 8,
  oO 6 (.mv (oK 0)),
  oM 7 17])
 .ret) .skip)))
 (.seq (.reg [oO 19 (.loadn 5 (.tmp 3)),
  oM 20 1,
  oM 21 2,
  oO 22 (.call (.func 238) [(.tmp 19),(.tmp 20),(.tmp 21)]),
  oM 18 22,
  oE 23 18 0,
  oE 24 18 1,
  oM 9 23,
  oM 10 24])
 (.seq (.seq (.reg [oM 25 10,
  oO 26 (.un .not (.tmp 25))])
 (.cond (.tmp 26) (.seq (.reg [oO 6 (.mv (oK 0)),
  oO 7 (.mv (oK 3))])
 .ret) .skip))
 (.seq (.reg [oM 27 9,
  oM 6 27,
  oO 7 (.mv (oK 0))])
 .ret)))))⟩
theorem s97:compFn Try.prog Try.f97=some c97:=by kernel_rfl
def c98:XFn:=
 ⟨[.celln 2 5,.tmp 3],
 (.seq (.reg [oO 1 (.box 26 (.tmp 0)),
  oO 2 (.alloc 26 [.int .i64 0,.int .i64 0,.int .i64 0,.int .i64 0,.slice none 0 0]),
  oO 3 (.mv (oK 0))])
 (.seq (.seq (.reg [oO 7 (.loadn 5 (.tmp 1)),
  oO 8 (.call (.func 149) [(.tmp 7)]),
  oO 9 (.un .not (.tmp 8))])
 (.cond (.tmp 9) (.seq (.reg [oO 10 (.build [.int .i64 0,.int .i64 0,.int .i64 0,.int .i64 0,.slice none 0 0] []),
  oS (.store 5 (.tmp 2) (.tmp 10)),
  oO 3 (.mv (oK 1))])
 .ret) .skip))
 (.seq (.reg [oF 11 0 1,
  oL 12 11,
  oF 13 3 1,
  oL 14 13,
  oF 15 2 1,
  oL 16 15,
  oF 17 1 1,
  oL 18 17,
  oO 19 (.build [.int .i64 0,.int .i64 0,.int .i64 0,.int .i64 0,.slice none 0 0] [(0,1,(.tmp 12)),(1,1,(.tmp 14)),(2,1,(.tmp 16)),(3,1,(.tmp 18))]),
  oO 4 (.alloc 26 [.int .i64 0,.int .i64 0,.int .i64 0,.int .i64 0,.slice none 0 0]),
  oS (.store 5 (.tmp 4) (.tmp 19))])
 (.seq (.seq (.reg [oF 20 4 1,
  oL 21 20,
  oN 22 21,
  oO 23 (.mv (oK 0))])
 (.blk 0 (.loop (.seq (.reg [oO 24 (.bin .lss (.tmp 23) (.tmp 22))])
 (.seq (.cond (.tmp 24) .skip (.exit 0))
 (.seq (.blk 1 (.seq (.reg [oX 25 27 21 23,
  oO 26 (.loadn 27 (.tmp 25)),
  oO 6 (.alloc 138 [.int .u8 0,.int .u8 0,.int .u8 0,.int .u8 0,.int .u8 0,.int .u8 0,.int .u8 0,.int .u8 0,.int .u8 0,.int .u8 0,.int .u8 0,.int .u8 0,.int .u8 0,.int .u8 0,.int .u8 0,.int .u8 0,.int .u8 0,.int .u8 0,.int .u8 0,.int .u8 0,.int .u8 0,.int .u8 0,.int .u8 0,.int .u8 0,.int .u8 0,.int .u8 0,.int .u8 0]),
  oS (.store 27 (.tmp 6) (.tmp 26))])
 (.reg [oF 27 4 4,
  oL 28 27,
  oF 29 9 6,
  oO 30 (.loadn 9 (.tmp 29)),
  oF 31 2 1,
  oL 32 31,
  oF 33 3 1,
  oL 34 33,
  ⟨some 35,.call (.func 239) [(.tmp 30),(.tmp 32),(.tmp 34)],none,.t⟩,
  oF 36 0 6,
  oO 37 (.loadn 9 (.tmp 36)),
  oF 38 1 1,
  oL 39 38,
  oF 40 2 1,
  oL 41 40,
  ⟨some 42,.call (.func 239) [(.tmp 37),(.tmp 39),(.tmp 41)],none,.t⟩,
  oF 43 18 6,
  oO 44 (.loadn 9 (.tmp 43)),
  oF 45 1 1,
  oL 46 45,
  oF 47 3 1,
  oL 48 47,
  ⟨some 49,.call (.func 239) [(.tmp 44),(.tmp 46),(.tmp 48)],none,.t⟩,
  oO 50 (.build [.int .u8 0,.int .u8 0,.int .u8 0,.int .u8 0,.int .u8 0,.int .u8 0,.int .u8 0,.int .u8 0,.int .u8 0,.int .u8 0,.int .u8 0,.int .u8 0,.int .u8 0,.int .u8 0,.int .u8 0,.int .u8 0,.int .u8 0,.int .u8 0,.int .u8 0,.int .u8 0,.int .u8 0,.int .u8 0,.int .u8 0,.int .u8 0,.int .u8 0,.int .u8 0,.int .u8 0] [(0,9,(.tmp 35)),(9,9,(.tmp 42)),(18,9,(.tmp 49))]),
  oO 51 (.bslice 138 27 1 [.int .u8 0,.int .u8 0,.int .u8 0,.int .u8 0,.int .u8 0,.int .u8 0,.int .u8 0,.int .u8 0,.int .u8 0,.int .u8 0,.int .u8 0,.int .u8 0,.int .u8 0,.int .u8 0,.int .u8 0,.int .u8 0,.int .u8 0,.int .u8 0,.int .u8 0,.int .u8 0,.int .u8 0,.int .u8 0,.int .u8 0,.int .u8 0,.int .u8 0,.int .u8 0,.int .u8 0] [(0,27,(.tmp 50))]),
  oO 52 (.app 138 27 27 (.tmp 28) (.tmp 51)),
  oF 53 4 4,
  oS (.store 1 (.tmp 53) (.tmp 52))])))
 (.reg [oO 54 (.bin .add (.tmp 23) (oK 1)),
  oM 23 54])))))))
 (.seq (.reg [oO 55 (.loadn 5 (.tmp 4)),
  oS (.store 5 (.tmp 2) (.tmp 55)),
  oO 3 (.mv (oK 0))])
 .ret)))))⟩
theorem s98:compFn Try.prog Try.f98=some c98:=by kernel_rfl
def c145:XFn:=
 ⟨[.tmp 2],
 (.seq (.reg [oO 2 (.mv (.const (.pointer none)))])
 (.seq (.reg [oM 5 0,
  oM 6 0,
  oN 7 6,
  oO 8 (.conv .u64 (.tmp 7)),
  oO 9 (.bin .add (.const (.int .u64 12619)) (.tmp 8)),
  oO 10 (.build [.slice none 0 0,.int .i64 0,.int .u64 0] [(0,1,(.tmp 5)),(2,1,(.tmp 9))]),
  oO 11 (.box 220 (.tmp 10)),
  oM 3 11])
 (.seq (.seq (.reg [oO 4 (.mv (oK 0))])
 (.blk 0 (.loop (.seq (.seq (.reg [oM 12 4,
  oM 13 0,
  oN 14 13,
  oO 15 (.bin .lss (.tmp 12) (.tmp 14)),
  oM 16 15,
  oG 17 (.mv (.tmp 4)) 16 true,
  oG 18 (.bin .lss (.tmp 17) (oK 4096)) 16 true,
  oO 19 (.pick (.tmp 16) (.tmp 18) (.const (.bool false)))])
 (.cond (.tmp 19) .skip (.exit 0)))
 (.seq (.blk 1 (.reg [oM 22 3,
  oM 23 3,
  oO 24 (.nchk (.tmp 23)),
  oF 25 2 24,
  oL 26 25,
  oO 27 (.bin .mul (.tmp 26) (.const (.int .u64 1099511628211))),
  oM 28 0,
  oM 29 4,
  oX 30 1 28 29,
  oL 31 30,
  oO 32 (.conv .u64 (.tmp 31)),
  oO 33 (.bin .add (.tmp 27) (.tmp 32)),
  oO 34 (.bin .add (.tmp 33) (.const (.int .u64 79))),
  oO 35 (.nchk (.tmp 22)),
  oF 36 2 35,
  oS (.store 1 (.tmp 36) (.tmp 34))]))
 (.reg [oM 20 4,
  oO 21 (.bin .add (.tmp 20) (oK 1)),
  oM 4 21]))))))
 (.seq (.reg [oM 37 3,
  oM 2 37])
 .ret))))⟩
theorem s145:compFn Try.prog Try.f145=some c145:=by kernel_rfl
def c147:XFn:=
 ⟨[.tmp 4],
 (.seq (.reg [oO 4 (.mv (oK 0))])
 (.seq (.reg [oM 5 1,
  oM 6 0,
  oM 7 1,
  oN 8 7,
  oO 9 (.call (.func 148) [(.tmp 6),(.tmp 8)]),
  oX 10 1 5 9,
  oL 11 10,
  oM 4 11])
 .ret))⟩
theorem s147:compFn Try.prog Try.f147=some c147:=by kernel_rfl
def c148:XFn:=
 ⟨[.tmp 4],
 (.seq (.reg [oO 4 (.mv (oK 0))])
 (.seq (.seq (.reg [oM 6 1,
  oO 7 (.bin .lss (.tmp 6) (oK 1))])
 (.cond (.tmp 7) (.seq (.reg [oO 4 (.mv (oK 0))])
 .ret) .skip))
 (.seq (.reg [oM 8 0,
  oM 9 0,
  oO 10 (.nchk (.tmp 9)),
  oF 11 2 10,
  oL 12 11,
  oO 13 (.bin .mul (.tmp 12) (.const (.int .u64 6364136223846793005))),
  oO 14 (.bin .add (.tmp 13) (.const (.int .u64 1442695040888963407))),
  oO 15 (.nchk (.tmp 8)),
  oF 16 2 15,
  oS (.store 1 (.tmp 16) (.tmp 14))])
 (.seq (.reg [oM 17 0,
  oO 18 (.nchk (.tmp 17)),
  oF 19 2 18,
  oL 20 19,
  oO 21 (.bin .shr (.tmp 20) (.const (.int .u64 33))),
  oO 22 (.bin .and (.tmp 21) (.const (.int .u64 16777215))),
  oO 23 (.conv .i64 (.tmp 22)),
  oM 5 23])
 (.seq (.seq (.reg [oM 24 0,
  oO 25 (.nchk (.tmp 24)),
  oF 26 1 25,
  oL 27 26,
  oM 28 0,
  oO 29 (.nchk (.tmp 28)),
  oF 30 0 29,
  oL 31 30,
  oN 32 31,
  oO 33 (.bin .lss (.tmp 27) (.tmp 32))])
 (.cond (.tmp 33) (.seq (.reg [oM 34 5,
  oM 35 0,
  oO 36 (.nchk (.tmp 35)),
  oF 37 0 36,
  oL 38 37,
  oM 39 0,
  oO 40 (.nchk (.tmp 39)),
  oF 41 1 40,
  oL 42 41,
  oX 43 1 38 42,
  oL 44 43,
  oO 45 (.conv .i64 (.tmp 44)),
  oO 46 (.bin .add (.tmp 34) (.tmp 45)),
  oM 5 46])
 (.reg [oM 47 0,
  oM 48 0,
  oO 49 (.nchk (.tmp 48)),
  oF 50 1 49,
  oL 51 50,
  oO 52 (.bin .add (.tmp 51) (oK 1)),
  oO 53 (.nchk (.tmp 47)),
  oF 54 1 53,
  oS (.store 1 (.tmp 54) (.tmp 52))])) .skip))
 (.seq (.reg [oM 55 5,
  oM 56 1,
  oO 57 (.bin .rem (.tmp 55) (.tmp 56)),
  oM 4 57])
 .ret))))))⟩
theorem s148:compFn Try.prog Try.f148=some c148:=by kernel_rfl
def c149:XFn:=
 ⟨[.tmp 2],
 (.seq (.reg [oO 1 (.box 26 (.tmp 0)),
  oO 2 (.mv (.const (.bool false)))])
 (.seq (.seq (.reg [oF 5 0 1,
  oL 6 5,
  oO 7 (.call (.func 166) [(.tmp 6)]),
  oO 8 (.un .not (.tmp 7)),
  oM 9 8,
  oG 10 (.fadr 1 (.tmp 1)) 9 false,
  oG 11 (.load1 (.tmp 10)) 9 false,
  oG 12 (.fadr 2 (.tmp 1)) 9 false,
  oG 13 (.load1 (.tmp 12)) 9 false,
  oG 14 (.fadr 3 (.tmp 1)) 9 false,
  oG 15 (.load1 (.tmp 14)) 9 false,
  oG 16 (.bslice 2 1 3 [.int .i64 0] [(0,1,(.tmp 11)),(1,1,(.tmp 13)),(2,1,(.tmp 15))]) 9 false,
  oG 17 (.call (.func 167) [(.tmp 16)]) 9 false,
  oG 18 (.un .not (.tmp 17)) 9 false,
  oO 19 (.pick (.tmp 9) (.const (.bool true)) (.tmp 18)),
  oM 20 19,
  oG 21 (.fadr 4 (.tmp 1)) 20 false,
  oG 22 (.load1 (.tmp 21)) 20 false,
  oG 23 (.len (.tmp 22)) 20 false,
  oG 24 (.bin .gtr (.tmp 23) (oK 30)) 20 false,
  oO 25 (.pick (.tmp 20) (.const (.bool true)) (.tmp 24))])
 (.cond (.tmp 25) (.seq (.reg [oO 2 (.mv (.const (.bool false)))])
 .ret) .skip))
 (.seq (.seq (.reg [oF 26 4 1,
  oL 27 26,
  oN 28 27,
  oO 29 (.mv (oK 0))])
 (.blk 0 (.loop (.seq (.reg [oO 30 (.bin .lss (.tmp 29) (.tmp 28))])
 (.seq (.cond (.tmp 30) .skip (.exit 0))
 (.seq (.blk 1 (.seq (.reg [oX 31 27 27 29,
  oO 32 (.loadn 27 (.tmp 31)),
  oO 4 (.alloc 138 [.int .u8 0,.int .u8 0,.int .u8 0,.int .u8 0,.int .u8 0,.int .u8 0,.int .u8 0,.int .u8 0,.int .u8 0,.int .u8 0,.int .u8 0,.int .u8 0,.int .u8 0,.int .u8 0,.int .u8 0,.int .u8 0,.int .u8 0,.int .u8 0,.int .u8 0,.int .u8 0,.int .u8 0,.int .u8 0,.int .u8 0,.int .u8 0,.int .u8 0,.int .u8 0,.int .u8 0]),
  oS (.store 27 (.tmp 4) (.tmp 32))])
 (.seq (.reg [oF 33 0 1,
  oL 34 33,
  oO 35 (.loadn 5 (.tmp 1)),
  ⟨some 36,.call (.func 271) [(.tmp 35)],none,.t⟩,
  oO 37 (.loadn 27 (.tmp 4)),
  oO 38 (.call (.func 270) [(.tmp 34),(.tmp 36),(.tmp 37)]),
  oO 39 (.un .not (.tmp 38))])
 (.cond (.tmp 39) (.seq (.reg [oO 2 (.mv (.const (.bool false)))])
 .ret) .skip))))
 (.reg [oO 40 (.bin .add (.tmp 29) (oK 1)),
  oM 29 40])))))))
 (.seq (.reg [oO 2 (.mv (.const (.bool true)))])
 .ret))))⟩
theorem s149:compFn Try.prog Try.f149=some c149:=by kernel_rfl
def c154:XFn:=
 ⟨[.tmp 2],
 (.seq (.reg [oO 1 (.box 26 (.tmp 0)),
  oO 2 (.mv (.const (.bool false)))])
 (.seq (.seq (.reg [oF 4 0 1,
  oL 5 4,
  oF 6 1 1,
  oL 7 6,
  oF 8 2 1,
  oL 9 8,
  oF 10 3 1,
  oL 11 10,
  oO 12 (.call (.func 275) [(.tmp 5),(.tmp 7),(.tmp 9),(.tmp 11)]),
  oO 13 (.un .not (.tmp 12)),
  oM 14 13,
  oG 15 (.fadr 4 (.tmp 1)) 14 false,
  oG 16 (.load1 (.tmp 15)) 14 false,
  oG 17 (.len (.tmp 16)) 14 false,
  oG 18 (.bin .gtr (.tmp 17) (oK 30)) 14 false,
  oO 19 (.pick (.tmp 14) (.const (.bool true)) (.tmp 18))])
 (.cond (.tmp 19) (.seq (.reg [oO 2 (.mv (.const (.bool false)))])
 .ret) .skip))
 (.seq (.seq (.reg [oO 3 (.mv (oK 0))])
 (.blk 0 (.loop (.seq (.seq (.reg [oM 20 3,
  oF 21 4 1,
  oL 22 21,
  oN 23 22,
  oO 24 (.bin .lss (.tmp 20) (.tmp 23))])
 (.cond (.tmp 24) .skip (.exit 0)))
 (.seq (.blk 1 (.seq (.reg [oO 27 (.loadn 5 (.tmp 1)),
  oF 28 4 1,
  oL 29 28,
  oM 30 3,
  oX 31 27 29 30,
  oO 32 (.loadn 27 (.tmp 31)),
  oO 33 (.call (.func 276) [(.tmp 27),(.tmp 32)]),
  oO 34 (.un .not (.tmp 33))])
 (.cond (.tmp 34) (.seq (.reg [oO 2 (.mv (.const (.bool false)))])
 .ret) .skip)))
 (.reg [oM 25 3,
  oO 26 (.bin .add (.tmp 25) (oK 1)),
  oM 3 26]))))))
 (.seq (.reg [oO 2 (.mv (.const (.bool true)))])
 .ret))))⟩
theorem s154:compFn Try.prog Try.f154=some c154:=by kernel_rfl
def c163:XFn:=
 ⟨[.tmp 4],
 (.seq (.reg [oO 4 (.mv (.const (.slice none 0 0)))])
 (.seq (.reg [oO 7 (.bslice 27 1 0 [.slice none 0 0] []),
  oM 5 7])
 (.seq (.seq (.reg [oO 6 (.mv (oK 0))])
 (.blk 0 (.loop (.seq (.seq (.reg [oM 8 6,
  oM 9 0,
  oN 10 9,
  oO 11 (.bin .lss (.tmp 8) (.tmp 10))])
 (.cond (.tmp 11) .skip (.exit 0)))
 (.seq (.blk 1 (.reg [oM 15 5,
  oM 16 0,
  oM 17 6,
  oM 18 6,
  oM 19 1,
  oO 20 (.bin .add (.tmp 18) (.tmp 19)),
  oO 21 (.slc 1 (.tmp 16) (some (.tmp 17)) (some (.tmp 20))),
  oO 22 (.call (.func 285) [(.tmp 21)]),
  oO 23 (.bslice 27 1 1 [.slice none 0 0] [(0,1,(.tmp 22))]),
  oO 24 (.app 27 1 24 (.tmp 15) (.tmp 23)),
  oM 5 24]))
 (.reg [oM 12 6,
  oM 13 1,
  oO 14 (.bin .add (.tmp 12) (.tmp 13)),
  oM 6 14]))))))
 (.seq (.reg [oM 25 5,
  oM 4 25])
 .ret))))⟩
theorem s163:compFn Try.prog Try.f163=some c163:=by kernel_rfl
def c165:XFn:=
 ⟨[.tmp 2],
 (.seq (.reg [oO 2 (.mv (.const (.slice none 0 0)))])
 (.seq (.reg [oO 3 (.mv (oK 0))])
 (.seq (.seq (.reg [oM 9 0,
  oN 10 9,
  oO 11 (.mv (oK 0))])
 (.blk 0 (.loop (.seq (.reg [oO 12 (.bin .lss (.tmp 11) (.tmp 10))])
 (.seq (.cond (.tmp 12) .skip (.exit 0))
 (.seq (.blk 1 (.seq (.reg [oX 13 1 9 11,
  oL 14 13,
  oM 5 14])
 (.seq (.reg [oM 15 3,
  oM 16 5,
  oN 17 16,
  oO 18 (.bin .add (.tmp 15) (.tmp 17)),
  oM 3 18])
 (.seq (.reg [oM 19 3,
  oO 20 (.bin .lss (.tmp 19) (oK 0))])
 (.cond (.tmp 20) (.reg [oO 21 (.fail),
  oS (.fail)]) .skip)))))
 (.reg [oO 22 (.bin .add (.tmp 11) (oK 1)),
  oM 11 22])))))))
 (.seq (.reg [oM 23 3,
  oO 24 (.call (.func 287) [(.const (.slice none 0 0)),(.tmp 23)]),
  oM 6 24])
 (.seq (.seq (.reg [oM 25 0,
  oN 26 25,
  oO 27 (.mv (oK 0))])
 (.blk 2 (.loop (.seq (.reg [oO 28 (.bin .lss (.tmp 27) (.tmp 26))])
 (.seq (.cond (.tmp 28) .skip (.exit 2))
 (.seq (.blk 3 (.seq (.reg [oX 29 1 25 27,
  oL 30 29,
  oM 8 30])
 (.reg [oM 31 6,
  oM 32 8,
  oO 33 (.app 2 1 8 (.tmp 31) (.tmp 32)),
  oM 6 33])))
 (.reg [oO 34 (.bin .add (.tmp 27) (oK 1)),
  oM 27 34])))))))
 (.seq (.reg [oM 35 6,
  oM 2 35])
 .ret))))))⟩
theorem s165:compFn Try.prog Try.f165=some c165:=by kernel_rfl
def c166:XFn:=
 ⟨[.tmp 2],
 (.seq (.reg [oO 2 (.mv (.const (.bool false)))])
 (.seq (.reg [oM 3 0,
  oO 4 (.bin .eql (.tmp 3) (oK 2)),
  oM 5 4,
  oG 6 (.mv (.tmp 0)) 5 false,
  oG 7 (.bin .eql (.tmp 6) (oK 3)) 5 false,
  oO 8 (.pick (.tmp 5) (.const (.bool true)) (.tmp 7)),
  oM 9 8,
  oG 10 (.mv (.tmp 0)) 9 false,
  oG 11 (.bin .eql (.tmp 10) (oK 5)) 9 false,
  oO 12 (.pick (.tmp 9) (.const (.bool true)) (.tmp 11)),
  oM 2 12])
 .ret))⟩
theorem s166:compFn Try.prog Try.f166=some c166:=by kernel_rfl
def c167:XFn:=
 ⟨[.tmp 2],
 (.seq (.reg [oO 2 (.mv (.const (.bool false)))])
 (.seq (.seq (.reg [oM 5 0,
  oN 6 5,
  oO 7 (.mv (oK 0))])
 (.blk 0 (.loop (.seq (.reg [oO 8 (.bin .lss (.tmp 7) (.tmp 6))])
 (.seq (.cond (.tmp 8) .skip (.exit 0))
 (.seq (.blk 1 (.seq (.reg [oX 9 1 5 7,
  oL 10 9,
  oM 4 10])
 (.seq (.reg [oM 11 4,
  oO 12 (.bin .lss (.tmp 11) (oK 1)),
  oM 13 12,
  oG 14 (.mv (.tmp 4)) 13 false,
  oG 15 (.bin .gtr (.tmp 14) (oK 3)) 13 false,
  oO 16 (.pick (.tmp 13) (.const (.bool true)) (.tmp 15))])
 (.cond (.tmp 16) (.seq (.reg [oO 2 (.mv (.const (.bool false)))])
 .ret) .skip))))
 (.reg [oO 17 (.bin .add (.tmp 7) (oK 1)),
  oM 7 17])))))))
 (.seq (.reg [oO 2 (.mv (.const (.bool true)))])
 .ret)))⟩
theorem s167:compFn Try.prog Try.f167=some c167:=by kernel_rfl
def c175:XFn:=
 ⟨[.tmp 4],
 (.seq (.reg [oO 4 (.mv (oK 0))])
 (.seq (.seq (.reg [oM 5 0,
  oO 6 (.call (.func 148) [(.tmp 5),(oK 14)]),
  oO 7 (.bin .eql (.tmp 6) (oK 0))])
 (.cond (.tmp 7) (.seq (.reg [oM 8 0,
  oM 9 1,
  oO 10 (.bin .add (.tmp 9) (oK 1)),
  oO 11 (.bslice 2 1 4 [.int .i64 0] [(0,1,(.const (.int .i64 (-1)))),(1,1,(.tmp 10)),(2,1,(oK 1099511627776)),(3,1,(.const (.int .i64 (-4611686018427387904))))]),
  oO 12 (.call (.func 147) [(.tmp 8),(.tmp 11)]),
  oM 4 12])
 .ret) .skip))
 (.seq (.reg [oM 13 0,
  oM 14 1,
  oO 15 (.bin .add (.tmp 14) (oK 1)),
  oO 16 (.call (.func 148) [(.tmp 13),(.tmp 15)]),
  oM 4 16])
 .ret)))⟩
theorem s175:compFn Try.prog Try.f175=some c175:=by kernel_rfl
def c181:XFn:=
 ⟨[.tmp 6],
 (.seq (.reg [oO 6 (.mv (.const (.bool false)))])
 (.seq (.reg [oM 7 0,
  oM 8 1,
  oO 9 (.bin .geq (.tmp 7) (.tmp 8)),
  oM 10 9,
  oG 11 (.mv (.tmp 0)) 10 true,
  oG 12 (.mv (.tmp 2)) 10 true,
  oG 13 (.bin .leq (.tmp 11) (.tmp 12)) 10 true,
  oO 14 (.pick (.tmp 10) (.tmp 13) (.const (.bool false))),
  oM 6 14])
 .ret))⟩
theorem s181:compFn Try.prog Try.f181=some c181:=by kernel_rfl
def c196:XFn:=
 ⟨[.celln 2 27],
 (.seq (.reg [oO 1 (.box 138 (.tmp 0)),
  oO 2 (.alloc 172 [.int .u8 0,.int .u8 0,.int .u8 0,.int .u8 0,.int .u8 0,.int .u8 0,.int .u8 0,.int .u8 0,.int .u8 0,.int .u8 0,.int .u8 0,.int .u8 0,.int .u8 0,.int .u8 0,.int .u8 0,.int .u8 0,.int .u8 0,.int .u8 0,.int .u8 0,.int .u8 0,.int .u8 0,.int .u8 0,.int .u8 0,.int .u8 0,.int .u8 0,.int .u8 0,.int .u8 0])])
 (.seq (.reg [oF 3 0 1,
  oO 4 (.loadn 9 (.tmp 3)),
  oF 5 9 1,
  oO 6 (.loadn 9 (.tmp 5)),
  oF 7 18 1,
  oO 8 (.loadn 9 (.tmp 7)),
  oO 9 (.build [.int .u8 0,.int .u8 0,.int .u8 0,.int .u8 0,.int .u8 0,.int .u8 0,.int .u8 0,.int .u8 0,.int .u8 0,.int .u8 0,.int .u8 0,.int .u8 0,.int .u8 0,.int .u8 0,.int .u8 0,.int .u8 0,.int .u8 0,.int .u8 0,.int .u8 0,.int .u8 0,.int .u8 0,.int .u8 0,.int .u8 0,.int .u8 0,.int .u8 0,.int .u8 0,.int .u8 0] [(0,9,(.tmp 4)),(9,9,(.tmp 6)),(18,9,(.tmp 8))]),
  oS (.store 27 (.tmp 2) (.tmp 9))])
 .ret))⟩
theorem s196:compFn Try.prog Try.f196=some c196:=by kernel_rfl
def c208:XFn:=
 ⟨[.tmp 2],
 (.seq (.reg [oO 2 (.mv (.const (.slice none 0 0)))])
 (.seq (.reg [oO 8 (.bslice 27 1 0 [.slice none 0 0] []),
  oM 3 8])
 (.seq (.seq (.reg [oM 9 0,
  oO 10 (.ixs 1 (.tmp 9) (oK 0)),
  oL 11 10,
  oN 12 11,
  oO 13 (.mv (oK 0))])
 (.blk 0 (.loop (.seq (.reg [oO 14 (.bin .lss (.tmp 13) (.tmp 12))])
 (.seq (.cond (.tmp 14) .skip (.exit 0))
 (.seq (.blk 1 (.seq (.reg [oM 15 13,
  oM 4 15])
 (.seq (.reg [oO 16 (.bslice 2 1 0 [.int .i64 0] []),
  oM 5 16])
 (.seq (.seq (.reg [oM 17 0,
  oN 18 17,
  oO 19 (.mv (oK 0))])
 (.blk 2 (.loop (.seq (.reg [oO 20 (.bin .lss (.tmp 19) (.tmp 18))])
 (.seq (.cond (.tmp 20) .skip (.exit 2))
 (.seq (.blk 3 (.seq (.reg [oX 21 1 17 19,
  oL 22 21,
  oM 7 22])
 (.reg [oM 23 5,
  oM 24 7,
  oM 25 4,
  oX 26 1 24 25,
  oL 27 26,
  oO 28 (.bslice 2 1 1 [.int .i64 0] [(0,1,(.tmp 27))]),
  oO 29 (.app 2 1 8 (.tmp 23) (.tmp 28)),
  oM 5 29])))
 (.reg [oO 30 (.bin .add (.tmp 19) (oK 1)),
  oM 19 30])))))))
 (.reg [oM 31 3,
  oM 32 5,
  oO 33 (.bslice 27 1 1 [.slice none 0 0] [(0,1,(.tmp 32))]),
  oO 34 (.app 27 1 24 (.tmp 31) (.tmp 33)),
  oM 3 34])))))
 (.reg [oO 35 (.bin .add (.tmp 13) (oK 1)),
  oM 13 35])))))))
 (.seq (.reg [oM 36 3,
  oM 2 36])
 .ret))))⟩
theorem s208:compFn Try.prog Try.f208=some c208:=by kernel_rfl
def c212:XFn:=
 ⟨[.celln 2 5],
 (.seq (.reg [oO 2 (.alloc 26 [.int .i64 0,.int .i64 0,.int .i64 0,.int .i64 0,.slice none 0 0])])
 (.seq (.reg [oM 3 0,
  oM 4 0,
  oO 5 (.call (.func 266) [(.tmp 4)]),
  oO 6 (.call (.func 269) [(.tmp 3),(.tmp 5)]),
  oS (.store 5 (.tmp 2) (.tmp 6))])
 .ret))⟩
theorem s212:compFn Try.prog Try.f212=some c212:=by kernel_rfl
def c224:XFn:=
 ⟨[.tmp 2],
 (.seq (.reg [oO 2 (.mv (.const (.bool false)))])
 (.seq (.reg [oM 3 0,
  oO 4 (.bin .eql (.tmp 3) (oK 2)),
  oM 5 4,
  oG 6 (.mv (.tmp 0)) 5 false,
  oG 7 (.bin .eql (.tmp 6) (oK 3)) 5 false,
  oO 8 (.pick (.tmp 5) (.const (.bool true)) (.tmp 7)),
  oM 9 8,
  oG 10 (.mv (.tmp 0)) 9 false,
  oG 11 (.bin .eql (.tmp 10) (oK 5)) 9 false,
  oO 12 (.pick (.tmp 9) (.const (.bool true)) (.tmp 11)),
  oM 2 12])
 .ret))⟩
theorem s224:compFn Try.prog Try.f224=some c224:=by kernel_rfl
def c227:XFn:=
 ⟨[.celln 2 5],
 (.seq (.reg [oO 2 (.alloc 26 [.int .i64 0,.int .i64 0,.int .i64 0,.int .i64 0,.slice none 0 0])])
 (.seq (.reg [oM 6 0,
  oO 7 (.bslice 2 1 3 [.int .i64 0] [(0,1,(oK 2)),(1,1,(oK 3)),(2,1,(oK 5))]),
  oO 8 (.call (.func 147) [(.tmp 6),(.tmp 7)]),
  oM 3 8])
 (.seq (.seq (.reg [oM 9 0,
  oO 10 (.call (.func 148) [(.tmp 9),(oK 7)])])
 (.blk 0 (.seq (.seq (.reg [oO 12 (.bin .eql (.tmp 10) (oK 0)),
  oM 11 12])
 (.cond (.tmp 11) .skip (.reg [oO 13 (.bin .eql (.tmp 10) (oK 1)),
  oM 11 13])))
 (.cond (.tmp 11) (.seq (.reg [oM 14 3,
  oO 15 (.call (.func 301) [(.tmp 14)]),
  oS (.store 5 (.tmp 2) (.tmp 15))])
 .ret) (.seq (.reg [oO 17 (.bin .eql (.tmp 10) (oK 2)),
  oM 16 17])
 (.cond (.tmp 16) (.seq (.reg [oM 18 3,
  oO 19 (.call (.func 302) [(.tmp 18)]),
  oS (.store 5 (.tmp 2) (.tmp 19))])
 .ret) (.seq (.reg [oO 21 (.bin .eql (.tmp 10) (oK 3)),
  oM 20 21])
 (.cond (.tmp 20) (.seq (.reg [oM 22 3,
  oO 23 (.call (.func 303) [(.tmp 22),(oK 2),(oK 2),(oK 2)]),
  oS (.store 5 (.tmp 2) (.tmp 23))])
 .ret) (.seq (.reg [oO 25 (.bin .eql (.tmp 10) (oK 4)),
  oM 24 25])
 (.cond (.tmp 24) (.seq (.reg [oM 26 3,
  oO 27 (.build [.int .i64 0,.int .i64 0,.int .i64 0] [(0,1,(oK 3)),(1,1,(oK 3)),(2,1,(oK 3))]),
  oO 28 (.call (.func 304) [(.tmp 26),(.tmp 27)]),
  oS (.store 5 (.tmp 2) (.tmp 28))])
 .ret) (.seq (.reg [oO 30 (.bin .eql (.tmp 10) (oK 5)),
  oM 29 30])
 (.cond (.tmp 29) (.seq (.reg [oM 31 3,
  oO 32 (.build [.int .i64 0,.int .i64 0,.int .i64 0,.int .i64 0,.slice none 0 0] [(0,1,(.tmp 31)),(1,1,(oK 2)),(2,1,(oK 2)),(3,1,(oK 2))]),
  oO 4 (.alloc 26 [.int .i64 0,.int .i64 0,.int .i64 0,.int .i64 0,.slice none 0 0]),
  oS (.store 5 (.tmp 4) (.tmp 32))])
 (.seq (.seq (.reg [oM 33 0,
  oO 34 (.call (.func 148) [(.tmp 33),(oK 9)]),
  oM 5 34])
 (.blk 1 (.loop (.seq (.seq (.reg [oM 35 5,
  oO 36 (.bin .gtr (.tmp 35) (oK 0))])
 (.cond (.tmp 36) .skip (.exit 1)))
 (.seq (.blk 2 (.reg [oF 39 4 4,
  oL 40 39,
  oM 41 0,
  oO 42 (.loadn 5 (.tmp 4)),
  ⟨some 43,.call (.func 305) [(.tmp 41),(.tmp 42)],none,(.s true [(.tmp 39)])⟩,
  oO 44 (.bslice 138 27 1 [.int .u8 0,.int .u8 0,.int .u8 0,.int .u8 0,.int .u8 0,.int .u8 0,.int .u8 0,.int .u8 0,.int .u8 0,.int .u8 0,.int .u8 0,.int .u8 0,.int .u8 0,.int .u8 0,.int .u8 0,.int .u8 0,.int .u8 0,.int .u8 0,.int .u8 0,.int .u8 0,.int .u8 0,.int .u8 0,.int .u8 0,.int .u8 0,.int .u8 0,.int .u8 0,.int .u8 0] [(0,27,(.tmp 43))]),
  oO 45 (.app 138 27 27 (.tmp 40) (.tmp 44)),
  oF 46 4 4,
  oS (.store 1 (.tmp 46) (.tmp 45))]))
 (.reg [oM 37 5,
  oO 38 (.bin .sub (.tmp 37) (oK 1)),
  oM 5 38]))))))
 (.seq (.reg [oO 47 (.loadn 5 (.tmp 4)),
  oS (.store 5 (.tmp 2) (.tmp 47))])
 .ret))) .skip))))))))))))
 (.seq (.reg [oM 48 0,
  oO 49 (.call (.func 212) [(.tmp 48)]),
  oS (.store 5 (.tmp 2) (.tmp 49))])
 .ret))))⟩
theorem s227:compFn Try.prog Try.f227=some c227:=by kernel_rfl
def c228:XFn:=
 ⟨[.celln 2 4],
 (.seq (.reg [oO 1 (.box 26 (.tmp 0)),
  oO 2 (.alloc 193 [.int .i64 0,.int .i64 0,.int .i64 0,.int .i64 0])])
 (.seq (.reg [oF 11 4 1,
  oL 12 11,
  oN 13 12,
  oO 14 (.build [.int .i64 0,.int .i64 0,.int .i64 0,.int .i64 0] [(0,1,(.tmp 13))]),
  oO 15 (.build [.int .i64 0,.int .i64 0,.int .i64 0,.int .i64 0,.int .i64 0,.int .i64 0,.int .i64 0,.int .i64 0,.int .i64 0] []),
  oO 3 (.alloc 193 [.int .i64 0,.int .i64 0,.int .i64 0,.int .i64 0]),
  oO 4 (.alloc 263 [.int .i64 0,.int .i64 0,.int .i64 0,.int .i64 0,.int .i64 0,.int .i64 0,.int .i64 0,.int .i64 0,.int .i64 0]),
  oS (.store 4 (.tmp 3) (.tmp 14)),
  oS (.store 9 (.tmp 4) (.tmp 15))])
 (.seq (.seq (.reg [oF 16 4 1,
  oL 17 16,
  oN 18 17,
  oO 19 (.mv (oK 0))])
 (.blk 0 (.loop (.seq (.reg [oO 20 (.bin .lss (.tmp 19) (.tmp 18))])
 (.seq (.cond (.tmp 20) .skip (.exit 0))
 (.seq (.blk 1 (.seq (.reg [oX 21 27 17 19,
  oO 22 (.loadn 27 (.tmp 21)),
  oO 6 (.alloc 138 [.int .u8 0,.int .u8 0,.int .u8 0,.int .u8 0,.int .u8 0,.int .u8 0,.int .u8 0,.int .u8 0,.int .u8 0,.int .u8 0,.int .u8 0,.int .u8 0,.int .u8 0,.int .u8 0,.int .u8 0,.int .u8 0,.int .u8 0,.int .u8 0,.int .u8 0,.int .u8 0,.int .u8 0,.int .u8 0,.int .u8 0,.int .u8 0,.int .u8 0,.int .u8 0,.int .u8 0]),
  oS (.store 27 (.tmp 6) (.tmp 22))])
 (.seq (.reg [oO 23 (.ixa 4 1 (.tmp 3) (oK 1)),
  oL 24 23,
  oF 25 0 6,
  oO 26 (.loadn 9 (.tmp 25)),
  ⟨some 27,.call (.func 306) [(.tmp 26)],none,.t⟩,
  oO 28 (.bin .sub (.tmp 27) (oK 1)),
  oO 29 (.bin .add (.tmp 24) (.tmp 28)),
  oO 30 (.ixa 4 1 (.tmp 3) (oK 1)),
  oS (.store 1 (.tmp 30) (.tmp 29))])
 (.seq (.reg [oO 31 (.ixa 4 1 (.tmp 3) (oK 2)),
  oL 32 31,
  oF 33 9 6,
  oO 34 (.loadn 9 (.tmp 33)),
  ⟨some 35,.call (.func 306) [(.tmp 34)],none,.t⟩,
  oO 36 (.bin .sub (.tmp 35) (oK 1)),
  oO 37 (.bin .add (.tmp 32) (.tmp 36)),
  oO 38 (.ixa 4 1 (.tmp 3) (oK 2)),
  oS (.store 1 (.tmp 38) (.tmp 37))])
 (.seq (.reg [oF 39 18 6,
  oO 40 (.loadn 9 (.tmp 39)),
  oO 41 (.mv (oK 0))])
 (.blk 2 (.loop (.seq (.reg [oO 42 (.bin .lss (.tmp 41) (oK 9))])
 (.seq (.cond (.tmp 42) .skip (.exit 2))
 (.seq (.blk 3 (.seq (.reg [oM 43 41,
  oO 44 (.idx1 9 (.tmp 40) (.tmp 41)),
  oM 7 43,
  oM 8 44])
 (.seq (.reg [oM 45 8,
  oO 46 (.bin .neq (.tmp 45) (.const (.int .u8 0)))])
 (.cond (.tmp 46) (.reg [oM 47 7,
  oO 48 (.ixa 9 1 (.tmp 4) (.tmp 47)),
  oL 49 48,
  oO 50 (.bin .add (.tmp 49) (oK 1)),
  oO 51 (.ixa 9 1 (.tmp 4) (.tmp 47)),
  oS (.store 1 (.tmp 51) (.tmp 50))]) .skip))))
 (.reg [oO 52 (.bin .add (.tmp 41) (oK 1)),
  oM 41 52])))))))))))
 (.reg [oO 53 (.bin .add (.tmp 19) (oK 1)),
  oM 19 53])))))))
 (.seq (.seq (.reg [oO 54 (.loadn 9 (.tmp 4)),
  oO 55 (.mv (oK 0))])
 (.blk 4 (.loop (.seq (.reg [oO 56 (.bin .lss (.tmp 55) (oK 9))])
 (.seq (.cond (.tmp 56) .skip (.exit 4))
 (.seq (.blk 5 (.seq (.reg [oO 57 (.idx1 9 (.tmp 54) (.tmp 55)),
  oM 10 57])
 (.reg [oO 58 (.ixa 4 1 (.tmp 3) (oK 3)),
  oL 59 58,
  oM 60 10,
  oO 61 (.bin .sub (.tmp 60) (oK 1)),
  oO 62 (.mm true (.tmp 61) [(oK 0)]),
  oO 63 (.bin .add (.tmp 59) (.tmp 62)),
  oO 64 (.ixa 4 1 (.tmp 3) (oK 3)),
  oS (.store 1 (.tmp 64) (.tmp 63))])))
 (.reg [oO 65 (.bin .add (.tmp 55) (oK 1)),
  oM 55 65])))))))
 (.seq (.reg [oO 66 (.loadn 4 (.tmp 3)),
  oS (.store 4 (.tmp 2) (.tmp 66))])
 .ret)))))⟩
theorem s228:compFn Try.prog Try.f228=some c228:=by kernel_rfl
def c229:XFn:=
 ⟨[.tmp 2],
 (.seq (.reg [oO 1 (.box 26 (.tmp 0)),
  oO 2 (.mv (.const (.slice none 0 0)))])
 (.seq (.reg [oO 3 (.mv (oK 0)),
  oO 4 (.mv (oK 0)),
  oO 5 (.mv (oK 0))])
 (.seq (.seq (.reg [oO 6 (.mv (oK 0))])
 (.blk 0 (.loop (.seq (.seq (.reg [oM 10 6,
  oF 11 4 1,
  oL 12 11,
  oN 13 12,
  oO 14 (.bin .lss (.tmp 10) (.tmp 13))])
 (.cond (.tmp 14) .skip (.exit 0)))
 (.seq (.blk 1 (.seq (.reg [oM 17 3,
  oF 18 4 1,
  oL 19 18,
  oM 20 6,
  oX 21 27 19 20,
  oF 22 0 21,
  oO 23 (.loadn 9 (.tmp 22)),
  oO 24 (.call (.func 307) [(.tmp 23)]),
  oO 25 (.bin .add (.tmp 17) (.tmp 24)),
  oO 26 (.bin .sub (.tmp 25) (oK 1)),
  oM 3 26])
 (.reg [oM 27 4,
  oF 28 4 1,
  oL 29 28,
  oM 30 6,
  oX 31 27 29 30,
  oF 32 9 31,
  oO 33 (.loadn 9 (.tmp 32)),
  oO 34 (.call (.func 307) [(.tmp 33)]),
  oO 35 (.bin .add (.tmp 27) (.tmp 34)),
  oO 36 (.bin .sub (.tmp 35) (oK 1)),
  oM 4 36])))
 (.reg [oM 15 6,
  oO 16 (.bin .add (.tmp 15) (oK 1)),
  oM 6 16]))))))
 (.seq (.seq (.reg [oO 7 (.mv (oK 0))])
 (.blk 2 (.loop (.seq (.seq (.reg [oM 37 7,
  oO 38 (.bin .lss (.tmp 37) (oK 9))])
 (.cond (.tmp 38) .skip (.exit 2)))
 (.seq (.blk 3 (.seq (.reg [oO 8 (.mv (oK 0))])
 (.seq (.seq (.reg [oO 9 (.mv (oK 0))])
 (.blk 4 (.loop (.seq (.seq (.reg [oM 41 9,
  oF 42 4 1,
  oL 43 42,
  oN 44 43,
  oO 45 (.bin .lss (.tmp 41) (.tmp 44))])
 (.cond (.tmp 45) .skip (.exit 4)))
 (.seq (.blk 5 (.seq (.reg [oF 48 4 1,
  oL 49 48,
  oM 50 9,
  oM 51 7,
  oX 52 27 49 50,
  oF 53 18 52,
  oO 54 (.ixa 9 1 (.tmp 53) (.tmp 51)),
  oL 55 54,
  oO 56 (.bin .neq (.tmp 55) (.const (.int .u8 0)))])
 (.cond (.tmp 56) (.reg [oM 57 8,
  oO 58 (.bin .add (.tmp 57) (oK 1)),
  oM 8 58]) .skip)))
 (.reg [oM 46 9,
  oO 47 (.bin .add (.tmp 46) (oK 1)),
  oM 9 47]))))))
 (.reg [oM 59 5,
  oM 60 8,
  oO 61 (.bin .sub (.tmp 60) (oK 1)),
  oO 62 (.mm true (.tmp 61) [(oK 0)]),
  oO 63 (.bin .add (.tmp 59) (.tmp 62)),
  oM 5 63]))))
 (.reg [oM 39 7,
  oO 40 (.bin .add (.tmp 39) (oK 1)),
  oM 7 40]))))))
 (.seq (.reg [oF 64 4 1,
  oL 65 64,
  oN 66 65,
  oM 67 3,
  oM 68 4,
  oM 69 5,
  oO 70 (.bslice 2 1 4 [.int .i64 0] [(0,1,(.tmp 66)),(1,1,(.tmp 67)),(2,1,(.tmp 68)),(3,1,(.tmp 69))]),
  oM 2 70])
 .ret)))))⟩
theorem s229:compFn Try.prog Try.f229=some c229:=by kernel_rfl
def c230:XFn:=
 ⟨[.tmp 4],
 (.seq (.reg [oO 2 (.box 26 (.tmp 0)),
  oO 4 (.mv (oK 0))])
 (.seq (.blk 0 (.seq (.reg [oO 6 (.loadn 5 (.tmp 2)),
  oO 7 (.call (.func 149) [(.tmp 6)]),
  oO 8 (.un .not (.tmp 7)),
  oM 5 8])
 (.cond (.tmp 5) (.seq (.reg [oO 4 (.mv (oK 1))])
 .ret) (.seq (.reg [oO 10 (.loadn 5 (.tmp 2)),
  oO 11 (.call (.func 257) [(.tmp 10)]),
  oO 12 (.un .not (.tmp 11)),
  oM 13 12,
  oG 14 (.mv (.tmp 1)) 13 false,
  oG 15 (.un .not (.tmp 14)) 13 false,
  oO 16 (.pick (.tmp 13) (.const (.bool true)) (.tmp 15)),
  oM 9 16])
 (.cond (.tmp 9) (.seq (.reg [oO 4 (.mv (oK 2))])
 .ret) .skip)))))
 (.seq (.reg [oO 4 (.mv (oK 0))])
 .ret)))⟩
theorem s230:compFn Try.prog Try.f230=some c230:=by kernel_rfl
def c231:XFn:=
 ⟨[.tmp 2],
 (.seq (.reg [oO 2 (.mv (.const (.bool false)))])
 (.seq (.reg [oM 3 0,
  oO 4 (.bin .geq (.tmp 3) (oK 0)),
  oM 5 4,
  oG 6 (.mv (.tmp 0)) 5 true,
  oG 7 (.bin .leq (.tmp 6) (oK 8)) 5 true,
  oO 8 (.pick (.tmp 5) (.tmp 7) (.const (.bool false))),
  oM 2 8])
 .ret))⟩
theorem s231:compFn Try.prog Try.f231=some c231:=by kernel_rfl
def c232:XFn:=
 ⟨[.tmp 6,.tmp 7,.tmp 8],
 (.seq (.reg [oO 3 (.box 26 (.tmp 0)),
  oO 6 (.mv (oK 0)),
  oO 7 (.mv (oK 0)),
  oO 8 (.mv (.const (.bool false)))])
 (.seq (.reg [oO 14 (.loadn 5 (.tmp 3)),
  oO 15 (.call (.func 228) [(.tmp 14)]),
  oO 9 (.alloc 193 [.int .i64 0,.int .i64 0,.int .i64 0,.int .i64 0]),
  oS (.store 4 (.tmp 9) (.tmp 15))])
 (.seq (.reg [oM 16 2,
  oM 17 2,
  oO 18 (.build [.int .i64 0,.int .i64 0] [(0,1,(.tmp 16)),(1,1,(.tmp 17))]),
  oO 19 (.bslice 266 2 1 [.int .i64 0,.int .i64 0] [(0,2,(.tmp 18))]),
  oO 20 (.call (.func 308) [(.tmp 19)]),
  oM 10 20])
 (.seq (.reg [oM 21 10,
  oM 22 2,
  oO 23 (.build [.int .i64 0,.int .i64 0] [(0,1,(.tmp 21)),(1,1,(.tmp 22))]),
  oO 24 (.bslice 266 2 1 [.int .i64 0,.int .i64 0] [(0,2,(.tmp 23))]),
  oO 25 (.call (.func 308) [(.tmp 24)]),
  oM 26 10,
  oM 27 2,
  oO 28 (.bin .sub (.tmp 27) (oK 1)),
  oO 29 (.build [.int .i64 0,.int .i64 0] [(0,1,(.tmp 26)),(1,1,(.tmp 28))]),
  oO 30 (.bslice 266 2 1 [.int .i64 0,.int .i64 0] [(0,2,(.tmp 29))]),
  oO 31 (.call (.func 308) [(.tmp 30)]),
  oM 11 25,
  oM 12 31])
 (.seq (.reg [oM 32 2,
  oM 13 32])
 (.seq (.seq (.reg [oM 33 1,
  oO 34 (.mv (oK 0))])
 (.blk 0 (.loop (.seq (.reg [oO 35 (.bin .lss (.tmp 34) (.tmp 33))])
 (.seq (.cond (.tmp 35) .skip (.exit 0))
 (.seq (.blk 1 (.seq (.reg [oM 36 12,
  oO 37 (.ixa 4 1 (.tmp 9) (oK 0)),
  oL 38 37,
  oO 39 (.build [.int .i64 0,.int .i64 0] [(0,1,(.tmp 36)),(1,1,(.tmp 38))]),
  oO 40 (.ixa 4 1 (.tmp 9) (oK 1)),
  oL 41 40,
  oO 42 (.ixa 4 1 (.tmp 9) (oK 2)),
  oL 43 42,
  oO 44 (.bin .add (.tmp 41) (.tmp 43)),
  oO 45 (.ixa 4 1 (.tmp 9) (oK 3)),
  oL 46 45,
  oO 47 (.bin .add (.tmp 44) (.tmp 46)),
  oM 48 13,
  oM 49 13,
  oO 50 (.build [.int .i64 0,.int .i64 0] [(0,1,(.tmp 48)),(1,1,(.tmp 49))]),
  oO 51 (.bslice 266 2 1 [.int .i64 0,.int .i64 0] [(0,2,(.tmp 50))]),
  ⟨some 52,.call (.func 308) [(.tmp 51)],none,.t⟩,
  oO 53 (.build [.int .i64 0,.int .i64 0] [(0,1,(.tmp 47)),(1,1,(.tmp 52))]),
  oO 54 (.bslice 266 2 2 [.int .i64 0,.int .i64 0] [(0,2,(.tmp 39)),(2,2,(.tmp 53))]),
  oO 55 (.call (.func 308) [(.tmp 54)]),
  oM 12 55])
 (.seq (.reg [oM 56 11,
  oO 57 (.ixa 4 1 (.tmp 9) (oK 0)),
  oL 58 57,
  oO 59 (.build [.int .i64 0,.int .i64 0] [(0,1,(.tmp 56)),(1,1,(.tmp 58))]),
  oO 60 (.bslice 266 2 1 [.int .i64 0,.int .i64 0] [(0,2,(.tmp 59))]),
  oO 61 (.call (.func 308) [(.tmp 60)]),
  oM 11 61])
 (.seq (.reg [oM 62 13,
  oF 63 1 3,
  oL 64 63,
  oO 65 (.bin .mul (.tmp 62) (.tmp 64)),
  oM 13 65])
 (.seq (.reg [oM 66 11,
  oO 67 (.bin .gtr (.tmp 66) (oK 1000000000000000)),
  oM 68 67,
  oG 69 (.mv (.tmp 12)) 68 false,
  oG 70 (.bin .gtr (.tmp 69) (oK 1000000000000000)) 68 false,
  oO 71 (.pick (.tmp 68) (.const (.bool true)) (.tmp 70))])
 (.cond (.tmp 71) (.seq (.reg [oO 6 (.mv (oK 0)),
  oO 7 (.mv (oK 0)),
  oO 8 (.mv (.const (.bool false)))])
 .ret) .skip))))))
 (.reg [oO 72 (.bin .add (.tmp 34) (oK 1)),
  oM 34 72])))))))
 (.seq (.reg [oM 73 11,
  oM 74 12,
  oM 75 11,
  oO 76 (.bin .leq (.tmp 75) (oK 1000000000000000)),
  oM 77 76,
  oG 78 (.mv (.tmp 12)) 77 true,
  oG 79 (.bin .leq (.tmp 78) (oK 1000000000000000)) 77 true,
  oO 80 (.pick (.tmp 77) (.tmp 79) (.const (.bool false))),
  oM 6 73,
  oM 7 74,
  oM 8 80])
 .ret)))))))⟩
theorem s232:compFn Try.prog Try.f232=some c232:=by kernel_rfl
def c233:XFn:=
 ⟨[.tmp 2],
 (.seq (.reg [oO 1 (.box 26 (.tmp 0)),
  oO 2 (.mv (oK 0))])
 (.seq (.blk 0 (.seq (.reg [oO 4 (.loadn 5 (.tmp 1)),
  oO 5 (.call (.func 154) [(.tmp 4)]),
  oO 6 (.un .not (.tmp 5)),
  oM 3 6])
 (.cond (.tmp 3) (.seq (.reg [oO 2 (.mv (oK 1))])
 .ret) (.seq (.reg [oF 8 1 1,
  oL 9 8,
  oO 10 (.bin .lss (.tmp 9) (oK 2)),
  oM 11 10,
  oG 12 (.fadr 2 (.tmp 1)) 11 false,
  oG 13 (.load1 (.tmp 12)) 11 false,
  oG 14 (.fadr 1 (.tmp 1)) 11 false,
  oG 15 (.load1 (.tmp 14)) 11 false,
  oG 16 (.bin .neq (.tmp 13) (.tmp 15)) 11 false,
  oO 17 (.pick (.tmp 11) (.const (.bool true)) (.tmp 16)),
  oM 18 17,
  oG 19 (.fadr 3 (.tmp 1)) 18 false,
  oG 20 (.load1 (.tmp 19)) 18 false,
  oG 21 (.fadr 1 (.tmp 1)) 18 false,
  oG 22 (.load1 (.tmp 21)) 18 false,
  oG 23 (.bin .neq (.tmp 20) (.tmp 22)) 18 false,
  oO 24 (.pick (.tmp 18) (.const (.bool true)) (.tmp 23)),
  oM 7 24])
 (.cond (.tmp 7) (.seq (.reg [oO 2 (.mv (oK 2))])
 .ret) .skip)))))
 (.seq (.reg [oO 2 (.mv (oK 0))])
 .ret)))⟩
theorem s233:compFn Try.prog Try.f233=some c233:=by kernel_rfl
def c234:XFn:=
 ⟨[.tmp 6,.tmp 7,.tmp 8],
 (.seq (.reg [oO 3 (.box 26 (.tmp 0)),
  oO 6 (.mv (oK 0)),
  oO 7 (.mv (oK 0)),
  oO 8 (.mv (.const (.bool false)))])
 (.seq (.reg [oO 15 (.loadn 5 (.tmp 3)),
  oO 16 (.call (.func 229) [(.tmp 15)]),
  oM 9 16])
 (.seq (.reg [oM 17 9,
  oO 18 (.ixs 1 (.tmp 17) (oK 1)),
  oL 19 18,
  oM 20 9,
  oO 21 (.ixs 1 (.tmp 20) (oK 2)),
  oL 22 21,
  oO 23 (.bin .add (.tmp 19) (.tmp 22)),
  oM 24 9,
  oO 25 (.ixs 1 (.tmp 24) (oK 3)),
  oL 26 25,
  oO 27 (.bin .add (.tmp 23) (.tmp 26)),
  oM 10 27])
 (.seq (.reg [oM 28 2,
  oM 29 2,
  oO 30 (.bin .mul (.tmp 28) (.tmp 29)),
  oM 31 2,
  oO 32 (.bin .mul (.tmp 30) (.tmp 31)),
  oM 33 2,
  oM 34 2,
  oO 35 (.bin .mul (.tmp 33) (.tmp 34)),
  oM 36 2,
  oO 37 (.bin .mul (.tmp 35) (.tmp 36)),
  oM 38 2,
  oM 39 2,
  oO 40 (.bin .mul (.tmp 38) (.tmp 39)),
  oO 41 (.bin .sub (.tmp 37) (.tmp 40)),
  oM 42 2,
  oM 11 32,
  oM 12 41,
  oM 13 42])
 (.seq (.seq (.reg [oO 14 (.mv (oK 0))])
 (.blk 0 (.loop (.seq (.seq (.reg [oM 43 14,
  oM 44 1,
  oO 45 (.bin .lss (.tmp 43) (.tmp 44))])
 (.cond (.tmp 45) .skip (.exit 0)))
 (.seq (.blk 1 (.seq (.reg [oM 48 11,
  oM 49 9,
  oO 50 (.ixs 1 (.tmp 49) (oK 0)),
  oL 51 50,
  oO 52 (.bin .mul (.tmp 48) (.tmp 51)),
  oM 11 52])
 (.seq (.reg [oM 53 12,
  oM 54 9,
  oO 55 (.ixs 1 (.tmp 54) (oK 0)),
  oL 56 55,
  oO 57 (.bin .mul (.tmp 53) (.tmp 56)),
  oM 12 57])
 (.seq (.seq (.reg [oM 58 11,
  oO 59 (.bin .gtr (.tmp 58) (oK 1000000000000000)),
  oM 60 59,
  oG 61 (.mv (.tmp 12)) 60 false,
  oG 62 (.bin .gtr (.tmp 61) (oK 1000000000000000)) 60 false,
  oO 63 (.pick (.tmp 60) (.const (.bool true)) (.tmp 62)),
  oM 64 63,
  oG 65 (.mv (.tmp 13)) 64 false,
  oG 66 (.mv (.tmp 13)) 64 false,
  oG 67 (.bin .mul (.tmp 65) (.tmp 66)) 64 false,
  oG 68 (.bin .gtr (.tmp 67) (oK 1000000000000000)) 64 false,
  oO 69 (.pick (.tmp 64) (.const (.bool true)) (.tmp 68))])
 (.cond (.tmp 69) (.seq (.reg [oO 6 (.mv (oK 0)),
  oO 7 (.mv (oK 0)),
  oO 8 (.mv (.const (.bool false)))])
 .ret) .skip))
 (.seq (.reg [oM 70 12,
  oM 71 10,
  oM 72 13,
  oO 73 (.bin .mul (.tmp 71) (.tmp 72)),
  oM 74 13,
  oO 75 (.bin .mul (.tmp 73) (.tmp 74)),
  oO 76 (.bin .add (.tmp 70) (.tmp 75)),
  oM 12 76])
 (.seq (.reg [oM 77 13,
  oF 78 1 3,
  oL 79 78,
  oO 80 (.bin .mul (.tmp 77) (.tmp 79)),
  oM 13 80])
 (.seq (.reg [oM 81 12,
  oO 82 (.bin .gtr (.tmp 81) (oK 1000000000000000))])
 (.cond (.tmp 82) (.seq (.reg [oO 6 (.mv (oK 0)),
  oO 7 (.mv (oK 0)),
  oO 8 (.mv (.const (.bool false)))])
 .ret) .skip))))))))
 (.reg [oM 46 14,
  oO 47 (.bin .add (.tmp 46) (oK 1)),
  oM 14 47]))))))
 (.seq (.reg [oM 83 11,
  oM 84 12,
  oM 6 83,
  oM 7 84,
  oO 8 (.mv (.const (.bool true)))])
 .ret))))))⟩
theorem s234:compFn Try.prog Try.f234=some c234:=by kernel_rfl
def c235:XFn:=
 ⟨[.tmp 2],
 (.seq (.reg [oO 2 (.mv (.const (.bool false)))])
 (.seq (.reg [oM 3 0,
  oO 4 (.bin .geq (.tmp 3) (oK 1)),
  oM 5 4,
  oG 6 (.mv (.tmp 0)) 5 true,
  oG 7 (.bin .leq (.tmp 6) (oK 1000)) 5 true,
  oO 8 (.pick (.tmp 5) (.tmp 7) (.const (.bool false))),
  oM 2 8])
 .ret))⟩
theorem s235:compFn Try.prog Try.f235=some c235:=by kernel_rfl
def tab1:List (Nat×XFn):=[(8,c8),(13,c13),(20,c20),(86,c86),(87,c87),(88,c88),(89,c89),(90,c90),(91,c91),(92,c92),(93,c93),(94,c94),(95,c95),(96,c96),(97,c97),(98,c98),(145,c145),(147,c147),(148,c148),(149,c149),(154,c154),(163,c163),(165,c165),(166,c166),(167,c167),(175,c175),(181,c181),(196,c196),(208,c208),(212,c212),(224,c224),(227,c227),(228,c228),(229,c229),(230,c230),(231,c231),(232,c232),(233,c233),(234,c234),(235,c235)]
theorem ts1:TSound Try.prog (fun g=>tab1.lookup g):=by
 refine tsound_of_all (P:=Try.prog) (tab:=tab1) ?_
 intro p hp
 simp only[tab1,List.mem_cons,List.not_mem_nil,or_false] at hp
 rcases hp with rfl|rfl|rfl|rfl|rfl|rfl|rfl|rfl|rfl|rfl|rfl|rfl|rfl|rfl|rfl|rfl|rfl|rfl|rfl|rfl|rfl|rfl|rfl|rfl|rfl|rfl|rfl|rfl|rfl|rfl|rfl|rfl|rfl|rfl|rfl|rfl|rfl|rfl|rfl|rfl
 ·exact⟨_,Try.func8,s8⟩
 ·exact⟨_,Try.func13,s13⟩
 ·exact⟨_,Try.func20,s20⟩
 ·exact⟨_,Try.func86,s86⟩
 ·exact⟨_,Try.func87,s87⟩
 ·exact⟨_,Try.func88,s88⟩
 ·exact⟨_,Try.func89,s89⟩
 ·exact⟨_,Try.func90,s90⟩
 ·exact⟨_,Try.func91,s91⟩
 ·exact⟨_,Try.func92,s92⟩
 ·exact⟨_,Try.func93,s93⟩
 ·exact⟨_,Try.func94,s94⟩
 ·exact⟨_,Try.func95,s95⟩
 ·exact⟨_,Try.func96,s96⟩
 ·exact⟨_,Try.func97,s97⟩
 ·exact⟨_,Try.func98,s98⟩
 ·exact⟨_,Try.func145,s145⟩
 ·exact⟨_,Try.func147,s147⟩
 ·exact⟨_,Try.func148,s148⟩
 ·exact⟨_,Try.func149,s149⟩
 ·exact⟨_,Try.func154,s154⟩
 ·exact⟨_,Try.func163,s163⟩
 ·exact⟨_,Try.func165,s165⟩
 ·exact⟨_,Try.func166,s166⟩
 ·exact⟨_,Try.func167,s167⟩
 ·exact⟨_,Try.func175,s175⟩
 ·exact⟨_,Try.func181,s181⟩
 ·exact⟨_,Try.func196,s196⟩
 ·exact⟨_,Try.func208,s208⟩
 ·exact⟨_,Try.func212,s212⟩
 ·exact⟨_,Try.func224,s224⟩
 ·exact⟨_,Try.func227,s227⟩
 ·exact⟨_,Try.func228,s228⟩
 ·exact⟨_,Try.func229,s229⟩
 ·exact⟨_,Try.func230,s230⟩
 ·exact⟨_,Try.func231,s231⟩
 ·exact⟨_,Try.func232,s232⟩
 ·exact⟨_,Try.func233,s233⟩
 ·exact⟨_,Try.func234,s234⟩
 ·exact⟨_,Try.func235,s235⟩
end Go.Proofs.Ytapafdpnmakekaa.X
