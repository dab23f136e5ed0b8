/- Texts of one claim, put together by merge.py: XCode1. -/
import Derived.Test.YtapafdpnmakekaaFL3
import Derived.Test.YtapafdpnmakekaaProg
set_option linter.unusedVariables false
set_option maxRecDepth 4000
namespace Go.Proofs.Ytapafdpnmakekaa.X
open Go Go.RowKit
def c5:XFn:=
 ⟨[.tmp 2],
 (.seq (.reg [oO 2 (.mv (.const (.bool false)))])
 (.seq (.seq (.reg [oM 33 0,
  oO 34 (.call (.func 13) [(.tmp 33)])])
 (.cond (.tmp 34) (.seq (.reg [oO 2 (.mv (.const (.bool true)))])
 .ret) .skip))
 (.seq (.reg [oM 36 0,
  oO 37 (.call (.func 40) [(.tmp 36)]),
  oM 35 37,
  oE 38 35 0,
  oE 39 35 1,
  oE 40 35 2,
  oE 41 35 3,
  oE 42 35 4,
  oO 3 (.alloc 26 [.int .i64 0,.int .i64 0,.int .i64 0,.int .i64 0,.slice none 0 0]),
  oS (.store 5 (.tmp 3) (.tmp 38)),
  oM 4 39,
  oM 5 40,
  oM 6 41,
  oM 7 42])
 (.seq (.reg [oO 44 (.loadn 5 (.tmp 3)),
  oM 45 4,
  oM 46 5,
  oM 47 6,
  oM 48 7,
  oO 49 (.call (.func 41) [(.tmp 44),(.tmp 45),(.tmp 46),(.tmp 47),(.tmp 48)]),
  oM 43 49,
  oE 50 43 0,
  oE 51 43 1,
  oO 8 (.alloc 26 [.int .i64 0,.int .i64 0,.int .i64 0,.int .i64 0,.slice none 0 0]),
  oS (.store 5 (.tmp 8) (.tmp 50)),
  oM 9 51])
 (.seq (.reg [oO 53 (.loadn 5 (.tmp 3)),
  oM 54 4,
  oM 55 5,
  oM 56 6,
  oM 57 7,
  oO 58 (.call (.func 42) [(.tmp 53),(.tmp 54),(.tmp 55),(.tmp 56),(.tmp 57)]),
  oM 52 58,
  oE 59 52 0,
  oE 60 52 1,
  oO 10 (.alloc 26 [.int .i64 0,.int .i64 0,.int .i64 0,.int .i64 0,.slice none 0 0]),
  oS (.store 5 (.tmp 10) (.tmp 59)),
  oM 11 60])
 (.seq (.seq (.reg [oM 61 9,
  oM 62 11,
  oO 63 (.bin .neq (.tmp 61) (.tmp 62)),
  oM 64 63,
  oG 65 (.loadn 5 (.tmp 8)) 64 false,
  oG 66 (.loadn 5 (.tmp 10)) 64 false,
  oG 67 (.call (.func 43) [(.tmp 65),(.tmp 66)]) 64 false,
  oG 68 (.un .not (.tmp 67)) 64 false,
  oO 69 (.pick (.tmp 64) (.const (.bool true)) (.tmp 68))])
 (.cond (.tmp 69) (.seq (.reg [oO 2 (.mv (.const (.bool false)))])
 .ret) .skip))
 (.seq (.seq (.reg [oM 70 9,
  oO 71 (.bin .eql (.tmp 70) (oK 0))])
 (.cond (.tmp 71) (.seq (.reg [oO 73 (.loadn 5 (.tmp 3)),
  oO 74 (.loadn 5 (.tmp 8)),
  oO 75 (.call (.func 44) [(.tmp 73),(.tmp 74)]),
  oM 72 75,
  oE 76 72 0,
  oE 77 72 1,
  oM 12 76,
  oM 13 77])
 (.seq (.seq (.reg [oM 78 13,
  oO 79 (.bin .neq (.tmp 78) (oK 0)),
  oM 80 79,
  oG 81 (.mv (.tmp 12)) 80 false,
  oG 82 (.un .not (.tmp 81)) 80 false,
  oO 83 (.pick (.tmp 80) (.const (.bool true)) (.tmp 82))])
 (.cond (.tmp 83) (.seq (.reg [oO 2 (.mv (.const (.bool false)))])
 .ret) .skip))
 (.seq (.reg [oF 84 4 8,
  oL 85 84,
  oN 86 85,
  oF 87 4 3,
  oL 88 87,
  oN 89 88,
  oO 90 (.bin .eql (.tmp 86) (.tmp 89))])
 (.cond (.tmp 90) (.seq (.reg [oO 92 (.loadn 5 (.tmp 8)),
  oM 93 4,
  oM 94 5,
  oM 95 6,
  oF 96 0 3,
  oL 97 96,
  oM 98 7,
  oO 99 (.bin .sub (.tmp 97) (.tmp 98)),
  oO 100 (.call (.func 41) [(.tmp 92),(.tmp 93),(.tmp 94),(.tmp 95),(.tmp 99)]),
  oM 91 100,
  oE 101 91 0,
  oE 102 91 1,
  oO 14 (.alloc 26 [.int .i64 0,.int .i64 0,.int .i64 0,.int .i64 0,.slice none 0 0]),
  oS (.store 5 (.tmp 14) (.tmp 101)),
  oM 15 102])
 (.seq (.reg [oM 103 15,
  oO 104 (.bin .neq (.tmp 103) (oK 0)),
  oM 105 104,
  oG 106 (.loadn 5 (.tmp 14)) 105 false,
  oG 107 (.loadn 5 (.tmp 3)) 105 false,
  oG 108 (.call (.func 43) [(.tmp 106),(.tmp 107)]) 105 false,
  oG 109 (.un .not (.tmp 108)) 105 false,
  oO 110 (.pick (.tmp 105) (.const (.bool true)) (.tmp 109))])
 (.cond (.tmp 110) (.seq (.reg [oO 2 (.mv (.const (.bool false)))])
 .ret) .skip))) .skip)))) .skip))
 (.seq (.reg [oM 112 0,
  oO 113 (.call (.func 14) [(.tmp 112)]),
  oM 111 113,
  oE 114 111 0,
  oE 115 111 1,
  oO 16 (.alloc 26 [.int .i64 0,.int .i64 0,.int .i64 0,.int .i64 0,.slice none 0 0]),
  oS (.store 5 (.tmp 16) (.tmp 114)),
  oM 17 115])
 (.seq (.reg [oO 117 (.loadn 5 (.tmp 16)),
  oM 118 17,
  oO 119 (.call (.func 15) [(.tmp 117),(.tmp 118)]),
  oM 116 119,
  oE 120 116 0,
  oE 121 116 1,
  oO 18 (.alloc 26 [.int .i64 0,.int .i64 0,.int .i64 0,.int .i64 0,.slice none 0 0]),
  oS (.store 5 (.tmp 18) (.tmp 120)),
  oM 19 121])
 (.seq (.reg [oO 123 (.loadn 5 (.tmp 16)),
  oM 124 17,
  oO 125 (.call (.func 16) [(.tmp 123),(.tmp 124)]),
  oM 122 125,
  oE 126 122 0,
  oE 127 122 1,
  oO 20 (.alloc 26 [.int .i64 0,.int .i64 0,.int .i64 0,.int .i64 0,.slice none 0 0]),
  oS (.store 5 (.tmp 20) (.tmp 126)),
  oM 21 127])
 (.seq (.seq (.reg [oM 128 19,
  oM 129 21,
  oO 130 (.bin .neq (.tmp 128) (.tmp 129)),
  oM 131 130,
  oG 132 (.loadn 5 (.tmp 18)) 131 false,
  oG 133 (.loadn 5 (.tmp 20)) 131 false,
  oG 134 (.call (.func 43) [(.tmp 132),(.tmp 133)]) 131 false,
  oG 135 (.un .not (.tmp 134)) 131 false,
  oO 136 (.pick (.tmp 131) (.const (.bool true)) (.tmp 135))])
 (.cond (.tmp 136) (.seq (.reg [oO 2 (.mv (.const (.bool false)))])
 .ret) .skip))
 (.seq (.seq (.reg [oM 137 19,
  oO 138 (.bin .eql (.tmp 137) (oK 0))])
 (.cond (.tmp 138) (.seq (.reg [oO 140 (.loadn 5 (.tmp 16)),
  oO 141 (.loadn 5 (.tmp 18)),
  oO 142 (.call (.func 44) [(.tmp 140),(.tmp 141)]),
  oM 139 142,
  oE 143 139 0,
  oE 144 139 1,
  oM 22 143,
  oM 23 144])
 (.seq (.seq (.reg [oM 145 23,
  oO 146 (.bin .neq (.tmp 145) (oK 0)),
  oM 147 146,
  oG 148 (.mv (.tmp 22)) 147 false,
  oG 149 (.un .not (.tmp 148)) 147 false,
  oO 150 (.pick (.tmp 147) (.const (.bool true)) (.tmp 149))])
 (.cond (.tmp 150) (.seq (.reg [oO 2 (.mv (.const (.bool false)))])
 .ret) .skip))
 (.seq (.reg [oM 151 17,
  oN 152 151,
  oO 153 (.bin .gtr (.tmp 152) (oK 0))])
 (.cond (.tmp 153) (.seq (.reg [oO 155 (.loadn 5 (.tmp 16)),
  oM 156 17,
  oO 157 (.slc 1 (.tmp 156) none (some (oK 1))),
  oO 158 (.call (.func 15) [(.tmp 155),(.tmp 157)]),
  oM 154 158,
  oE 159 154 0,
  oE 160 154 1,
  oM 25 160,
  oO 24 (.boxn 26 5 (.tmp 159))])
 (.seq (.reg [oO 162 (.loadn 5 (.tmp 24)),
  oM 163 17,
  oO 164 (.slc 1 (.tmp 163) (some (oK 1)) none),
  oO 165 (.call (.func 15) [(.tmp 162),(.tmp 164)]),
  oM 161 165,
  oE 166 161 0,
  oE 167 161 1,
  oM 27 167,
  oO 26 (.boxn 26 5 (.tmp 166))])
 (.seq (.reg [oM 168 25,
  oO 169 (.bin .neq (.tmp 168) (oK 0)),
  oM 170 169,
  oG 171 (.mv (.tmp 27)) 170 false,
  oG 172 (.bin .neq (.tmp 171) (oK 0)) 170 false,
  oO 173 (.pick (.tmp 170) (.const (.bool true)) (.tmp 172)),
  oM 174 173,
  oG 175 (.loadn 5 (.tmp 26)) 174 false,
  oG 176 (.loadn 5 (.tmp 18)) 174 false,
  oG 177 (.call (.func 43) [(.tmp 175),(.tmp 176)]) 174 false,
  oG 178 (.un .not (.tmp 177)) 174 false,
  oO 179 (.pick (.tmp 174) (.const (.bool true)) (.tmp 178))])
 (.cond (.tmp 179) (.seq (.reg [oO 2 (.mv (.const (.bool false)))])
 .ret) .skip)))) .skip)))) .skip))
 (.seq (.reg [oM 180 0,
  oO 181 (.call (.func 45) [(.tmp 180)]),
  oO 28 (.alloc 26 [.int .i64 0,.int .i64 0,.int .i64 0,.int .i64 0,.slice none 0 0]),
  oS (.store 5 (.tmp 28) (.tmp 181))])
 (.seq (.reg [oO 183 (.loadn 5 (.tmp 28)),
  oO 184 (.call (.func 46) [(.tmp 183)]),
  oM 182 184,
  oE 185 182 0,
  oE 186 182 1,
  oM 29 185,
  oM 30 186])
 (.seq (.reg [oO 188 (.loadn 5 (.tmp 28)),
  oO 189 (.call (.func 47) [(.tmp 188)]),
  oM 187 189,
  oE 190 187 0,
  oE 191 187 1,
  oM 31 190,
  oM 32 191])
 (.seq (.reg [oM 192 30,
  oM 193 32,
  oO 194 (.bin .eql (.tmp 192) (.tmp 193)),
  oM 195 194,
  oG 196 (.mv (.tmp 29)) 195 true,
  oG 197 (.mv (.tmp 31)) 195 true,
  oG 198 (.call (.func 48) [(.tmp 196),(.tmp 197)]) 195 true,
  oO 199 (.pick (.tmp 195) (.tmp 198) (.const (.bool false))),
  oM 2 199])
 .ret))))))))))))))))⟩
theorem s5:compFn Try.prog Try.f5=some c5:=by kernel_rfl
def c13:XFn:=
 ⟨[.tmp 2],
 (.seq (.reg [oO 2 (.mv (.const (.bool false)))])
 (.seq (.reg [oM 3 0,
  oN 4 3,
  oO 5 (.bin .gtr (.tmp 4) (oK 4096)),
  oM 2 5])
 .ret))⟩
theorem s13:compFn Try.prog Try.f13=some c13:=by kernel_rfl
def c14:XFn:=
 ⟨[.celln 2 5,.tmp 3],
 (.seq (.reg [oO 2 (.alloc 26 [.int .i64 0,.int .i64 0,.int .i64 0,.int .i64 0,.slice none 0 0]),
  oO 3 (.mv (.const (.slice none 0 0)))])
 (.seq (.reg [oM 8 0,
  oO 9 (.call (.func 145) [(.tmp 8)]),
  oM 4 9])
 (.seq (.reg [oM 10 4,
  oO 11 (.call (.func 146) [(.tmp 10)]),
  oO 12 (.bslice 2 1 0 [.int .i64 0] []),
  oO 5 (.alloc 26 [.int .i64 0,.int .i64 0,.int .i64 0,.int .i64 0,.slice none 0 0]),
  oS (.store 5 (.tmp 5) (.tmp 11)),
  oM 6 12])
 (.seq (.seq (.reg [oM 13 4,
  oM 14 4,
  oO 15 (.call (.func 148) [(.tmp 14),(oK 40)]),
  oO 16 (.bslice 2 1 5 [.int .i64 0] [(0,1,(oK 0)),(1,1,(oK 1)),(2,1,(oK 2)),(3,1,(oK 5)),(4,1,(.tmp 15))]),
  oO 17 (.call (.func 147) [(.tmp 13),(.tmp 16)]),
  oM 7 17])
 (.blk 0 (.loop (.seq (.seq (.reg [oM 18 7,
  oO 19 (.bin .gtr (.tmp 18) (oK 0))])
 (.cond (.tmp 19) .skip (.exit 0)))
 (.seq (.blk 1 (.reg [oM 22 6,
  oM 23 4,
  oO 24 (.call (.func 148) [(.tmp 23),(oK 1000)]),
  oO 25 (.bslice 2 1 1 [.int .i64 0] [(0,1,(.tmp 24))]),
  oO 26 (.app 2 1 8 (.tmp 22) (.tmp 25)),
  oM 6 26]))
 (.reg [oM 20 7,
  oO 21 (.bin .sub (.tmp 20) (oK 1)),
  oM 7 21]))))))
 (.seq (.seq (.reg [oM 27 4,
  oO 28 (.call (.func 148) [(.tmp 27),(oK 30)]),
  oO 29 (.bin .eql (.tmp 28) (oK 0))])
 (.cond (.tmp 29) (.reg [oM 30 6,
  oO 31 (.bslice 2 1 1 [.int .i64 0] [(0,1,(.const (.int .i64 (-1))))]),
  oO 32 (.app 2 1 8 (.tmp 30) (.tmp 31)),
  oM 6 32]) .skip))
 (.seq (.reg [oO 33 (.loadn 5 (.tmp 5)),
  oM 34 6,
  oS (.store 5 (.tmp 2) (.tmp 33)),
  oM 3 34])
 .ret))))))⟩
theorem s14:compFn Try.prog Try.f14=some c14:=by kernel_rfl
def c15:XFn:=
 ⟨[.celln 4 5,.tmp 5],
 (.seq (.reg [oO 2 (.box 26 (.tmp 0)),
  oO 4 (.alloc 26 [.int .i64 0,.int .i64 0,.int .i64 0,.int .i64 0,.slice none 0 0]),
  oO 5 (.mv (oK 0))])
 (.seq (.seq (.reg [oO 12 (.loadn 5 (.tmp 2)),
  oO 13 (.call (.func 149) [(.tmp 12)]),
  oO 14 (.un .not (.tmp 13))])
 (.cond (.tmp 14) (.seq (.reg [oO 15 (.build [.int .i64 0,.int .i64 0,.int .i64 0,.int .i64 0,.slice none 0 0] []),
  oS (.store 5 (.tmp 4) (.tmp 15)),
  oO 5 (.mv (oK 1))])
 .ret) .skip))
 (.seq (.seq (.reg [oM 16 1,
  oN 17 16,
  oO 18 (.bin .gtr (.tmp 17) (oK 200))])
 (.cond (.tmp 18) (.seq (.reg [oO 19 (.build [.int .i64 0,.int .i64 0,.int .i64 0,.int .i64 0,.slice none 0 0] []),
  oS (.store 5 (.tmp 4) (.tmp 19)),
  oO 5 (.mv (oK 2))])
 .ret) .skip))
 (.seq (.seq (.reg [oM 20 1,
  oN 21 20,
  oO 22 (.mv (oK 0))])
 (.blk 0 (.loop (.seq (.reg [oO 23 (.bin .lss (.tmp 22) (.tmp 21))])
 (.seq (.cond (.tmp 23) .skip (.exit 0))
 (.seq (.blk 1 (.seq (.reg [oX 24 1 20 22,
  oL 25 24,
  oM 7 25])
 (.seq (.reg [oM 26 7,
  oO 27 (.bin .lss (.tmp 26) (oK 0))])
 (.cond (.tmp 27) (.seq (.reg [oO 28 (.build [.int .i64 0,.int .i64 0,.int .i64 0,.int .i64 0,.slice none 0 0] []),
  oS (.store 5 (.tmp 4) (.tmp 28)),
  oO 5 (.mv (oK 2))])
 .ret) .skip))))
 (.reg [oO 29 (.bin .add (.tmp 22) (oK 1)),
  oM 22 29])))))))
 (.seq (.reg [oO 30 (.loadn 5 (.tmp 2)),
  oF 31 4 2,
  oL 32 31,
  ⟨some 33,.call (.func 151) [(.tmp 32)],none,(.u [(.tmp 2)])⟩,
  oO 34 (.call (.func 150) [(.tmp 30),(.tmp 33)]),
  oS (.store 5 (.tmp 2) (.tmp 34))])
 (.seq (.seq (.reg [oM 35 1,
  oN 36 35,
  oO 37 (.mv (oK 0))])
 (.blk 2 (.loop (.seq (.reg [oO 38 (.bin .lss (.tmp 37) (.tmp 36))])
 (.seq (.cond (.tmp 38) .skip (.exit 2))
 (.seq (.blk 3 (.seq (.reg [oX 39 1 35 37,
  oL 40 39,
  oM 9 40])
 (.seq (.reg [oO 41 (.loadn 5 (.tmp 2)),
  oO 42 (.call (.func 152) [(.tmp 41)]),
  oM 10 42])
 (.seq (.reg [oM 43 10,
  oN 44 43,
  oO 45 (.bin .gtr (.tmp 44) (oK 0))])
 (.cond (.tmp 45) (.seq (.reg [oM 46 10,
  oM 47 9,
  oM 48 10,
  oN 49 48,
  oO 50 (.bin .rem (.tmp 47) (.tmp 49)),
  oX 51 1 46 50,
  oL 52 51,
  oM 11 52])
 (.reg [oO 53 (.loadn 5 (.tmp 2)),
  oM 54 11,
  oO 55 (.ixs 1 (.tmp 54) (oK 0)),
  oL 56 55,
  oM 57 11,
  oO 58 (.ixs 1 (.tmp 57) (oK 1)),
  oL 59 58,
  oM 60 11,
  oO 61 (.ixs 1 (.tmp 60) (oK 2)),
  oL 62 61,
  oO 63 (.call (.func 153) [(.tmp 53),(.tmp 56),(.tmp 59),(.tmp 62),(oK 1)]),
  oS (.store 5 (.tmp 2) (.tmp 63))])) .skip)))))
 (.reg [oO 64 (.bin .add (.tmp 37) (oK 1)),
  oM 37 64])))))))
 (.seq (.reg [oO 65 (.loadn 5 (.tmp 2)),
  oS (.store 5 (.tmp 4) (.tmp 65)),
  oO 5 (.mv (oK 0))])
 .ret)))))))⟩
theorem s15:compFn Try.prog Try.f15=some c15:=by kernel_rfl
def c16:XFn:=
 ⟨[.celln 4 5,.tmp 5],
 (.seq (.reg [oO 2 (.box 26 (.tmp 0)),
  oO 4 (.alloc 26 [.int .i64 0,.int .i64 0,.int .i64 0,.int .i64 0,.slice none 0 0]),
  oO 5 (.mv (oK 0))])
 (.seq (.seq (.reg [oO 11 (.loadn 5 (.tmp 2)),
  oO 12 (.call (.func 154) [(.tmp 11)]),
  oO 13 (.un .not (.tmp 12))])
 (.cond (.tmp 13) (.seq (.reg [oO 14 (.build [.int .i64 0,.int .i64 0,.int .i64 0,.int .i64 0,.slice none 0 0] []),
  oS (.store 5 (.tmp 4) (.tmp 14)),
  oO 5 (.mv (oK 1))])
 .ret) .skip))
 (.seq (.seq (.reg [oM 15 1,
  oN 16 15,
  oO 17 (.bin .gtr (.tmp 16) (oK 200))])
 (.cond (.tmp 17) (.seq (.reg [oO 18 (.build [.int .i64 0,.int .i64 0,.int .i64 0,.int .i64 0,.slice none 0 0] []),
  oS (.store 5 (.tmp 4) (.tmp 18)),
  oO 5 (.mv (oK 2))])
 .ret) .skip))
 (.seq (.seq (.reg [oO 6 (.mv (oK 0))])
 (.blk 0 (.loop (.seq (.seq (.reg [oM 19 6,
  oM 20 1,
  oN 21 20,
  oO 22 (.bin .lss (.tmp 19) (.tmp 21))])
 (.cond (.tmp 22) .skip (.exit 0)))
 (.seq (.blk 1 (.seq (.reg [oM 25 1,
  oM 26 6,
  oX 27 1 25 26,
  oL 28 27,
  oO 29 (.bin .lss (.tmp 28) (oK 0))])
 (.cond (.tmp 29) (.seq (.reg [oO 30 (.build [.int .i64 0,.int .i64 0,.int .i64 0,.int .i64 0,.slice none 0 0] []),
  oS (.store 5 (.tmp 4) (.tmp 30)),
  oO 5 (.mv (oK 2))])
 .ret) .skip)))
 (.reg [oM 23 6,
  oO 24 (.bin .add (.tmp 23) (oK 1)),
  oM 6 24]))))))
 (.seq (.reg [oO 31 (.loadn 5 (.tmp 2)),
  oF 32 4 2,
  oL 33 32,
  oO 34 (.call (.func 155) [(.tmp 31),(.tmp 33)]),
  oO 7 (.alloc 26 [.int .i64 0,.int .i64 0,.int .i64 0,.int .i64 0,.slice none 0 0]),
  oS (.store 5 (.tmp 7) (.tmp 34))])
 (.seq (.seq (.reg [oO 8 (.mv (oK 0))])
 (.blk 2 (.loop (.seq (.seq (.reg [oM 35 8,
  oM 36 1,
  oN 37 36,
  oO 38 (.bin .lss (.tmp 35) (.tmp 37))])
 (.cond (.tmp 38) .skip (.exit 2)))
 (.seq (.blk 3 (.seq (.reg [oO 41 (.loadn 5 (.tmp 7)),
  oO 42 (.call (.func 156) [(.tmp 41)]),
  oM 9 42])
 (.seq (.seq (.reg [oM 43 9,
  oN 44 43,
  oO 45 (.bin .eql (.tmp 44) (oK 0))])
 (.cond (.tmp 45) (.exit 2) .skip))
 (.seq (.reg [oM 46 9,
  oM 47 1,
  oM 48 8,
  oX 49 1 47 48,
  oL 50 49,
  oM 51 9,
  oN 52 51,
  oO 53 (.bin .rem (.tmp 50) (.tmp 52)),
  oX 54 1 46 53,
  oL 55 54,
  oM 10 55])
 (.reg [oO 56 (.loadn 5 (.tmp 7)),
  oM 57 10,
  oO 58 (.ixs 1 (.tmp 57) (oK 0)),
  oL 59 58,
  oM 60 10,
  oO 61 (.ixs 1 (.tmp 60) (oK 1)),
  oL 62 61,
  oM 63 10,
  oO 64 (.ixs 1 (.tmp 63) (oK 2)),
  oL 65 64,
  oO 66 (.call (.func 157) [(.tmp 56),(.tmp 59),(.tmp 62),(.tmp 65),(oK 1)]),
  oS (.store 5 (.tmp 7) (.tmp 66))])))))
 (.reg [oM 39 8,
  oO 40 (.bin .add (.tmp 39) (oK 1)),
  oM 8 40]))))))
 (.seq (.reg [oO 67 (.loadn 5 (.tmp 7)),
  oS (.store 5 (.tmp 4) (.tmp 67)),
  oO 5 (.mv (oK 0))])
 .ret)))))))⟩
theorem s16:compFn Try.prog Try.f16=some c16:=by kernel_rfl
def c20:XFn:=
 ⟨[.tmp 4],
 (.seq (.reg [oO 4 (.mv (.const (.bool false)))])
 (.seq (.seq (.reg [oM 6 0,
  oN 7 6,
  oM 8 1,
  oN 9 8,
  oO 10 (.bin .neq (.tmp 7) (.tmp 9))])
 (.cond (.tmp 10) (.seq (.reg [oO 4 (.mv (.const (.bool false)))])
 .ret) .skip))
 (.seq (.seq (.reg [oO 5 (.mv (oK 0))])
 (.blk 0 (.loop (.seq (.seq (.reg [oM 11 5,
  oM 12 0,
  oN 13 12,
  oO 14 (.bin .lss (.tmp 11) (.tmp 13))])
 (.cond (.tmp 14) .skip (.exit 0)))
 (.seq (.blk 1 (.seq (.reg [oM 17 0,
  oM 18 5,
  oX 19 1 17 18,
  oL 20 19,
  oM 21 1,
  oM 22 5,
  oX 23 1 21 22,
  oL 24 23,
  oO 25 (.bin .neq (.tmp 20) (.tmp 24))])
 (.cond (.tmp 25) (.seq (.reg [oO 4 (.mv (.const (.bool false)))])
 .ret) .skip)))
 (.reg [oM 15 5,
  oO 16 (.bin .add (.tmp 15) (oK 1)),
  oM 5 16]))))))
 (.seq (.reg [oO 4 (.mv (.const (.bool true)))])
 .ret))))⟩
theorem s20:compFn Try.prog Try.f20=some c20:=by kernel_rfl
def c40:XFn:=
 ⟨[.celln 2 5,.tmp 3,.tmp 4,.tmp 5,.tmp 6],
 (.seq (.reg [oO 2 (.alloc 26 [.int .i64 0,.int .i64 0,.int .i64 0,.int .i64 0,.slice none 0 0]),
  oO 3 (.mv (oK 0)),
  oO 4 (.mv (oK 0)),
  oO 5 (.mv (oK 0)),
  oO 6 (.mv (oK 0))])
 (.seq (.reg [oM 12 0,
  oO 13 (.call (.func 145) [(.tmp 12)]),
  oM 7 13])
 (.seq (.reg [oM 14 7,
  oO 15 (.call (.func 146) [(.tmp 14)]),
  oO 8 (.alloc 26 [.int .i64 0,.int .i64 0,.int .i64 0,.int .i64 0,.slice none 0 0]),
  oS (.store 5 (.tmp 8) (.tmp 15))])
 (.seq (.seq (.reg [oO 16 (.loadn 5 (.tmp 8)),
  oO 17 (.call (.func 154) [(.tmp 16)]),
  oM 18 17,
  oG 19 (.mv (.tmp 7)) 18 true,
  oG 20 (.call (.func 148) [(.tmp 19),(oK 6)]) 18 true,
  oG 21 (.bin .gtr (.tmp 20) (oK 0)) 18 true,
  oO 22 (.pick (.tmp 18) (.tmp 21) (.const (.bool false)))])
 (.cond (.tmp 22) (.seq (.reg [oO 23 (.loadn 5 (.tmp 8)),
  oO 24 (.call (.func 156) [(.tmp 23)]),
  oM 9 24])
 (.seq (.reg [oM 25 9,
  oN 26 25,
  oO 27 (.bin .gtr (.tmp 26) (oK 0))])
 (.cond (.tmp 27) (.seq (.reg [oM 28 9,
  oM 29 7,
  oM 30 9,
  oN 31 30,
  oO 32 (.call (.func 148) [(.tmp 29),(.tmp 31)]),
  oX 33 1 28 32,
  oL 34 33,
  oM 10 34])
 (.seq (.reg [oO 35 (.loadn 5 (.tmp 8)),
  oM 36 10,
  oO 37 (.ixs 1 (.tmp 36) (oK 0)),
  oL 38 37,
  oM 39 10,
  oO 40 (.ixs 1 (.tmp 39) (oK 1)),
  oL 41 40,
  oM 42 10,
  oO 43 (.ixs 1 (.tmp 42) (oK 2)),
  oL 44 43,
  oM 45 7,
  oF 46 0 8,
  oL 47 46,
  oO 48 (.bin .sub (.tmp 47) (oK 2)),
  ⟨some 49,.call (.func 175) [(.tmp 45),(.tmp 48)],none,(.s true [(.tmp 8),(.tmp 37),(.tmp 40),(.tmp 43)])⟩,
  oO 50 (.bin .add (oK 1) (.tmp 49)),
  ⟨none,.store 5 (.tmp 2) (.tmp 35),none,(.s false [(.tmp 37),(.tmp 40),(.tmp 43)])⟩,
  oM 3 38,
  oM 4 41,
  oM 5 44,
  oM 6 50])
 .ret)) .skip))) .skip))
 (.seq (.reg [oF 51 4 8,
  oL 52 51,
  oN 53 52,
  oO 54 (.bin .sub (.tmp 53) (oK 1)),
  oO 55 (.mm true (.tmp 54) [(oK 0)]),
  oM 11 55])
 (.seq (.reg [oO 56 (.loadn 5 (.tmp 8)),
  oM 57 7,
  oM 58 11,
  ⟨some 59,.call (.func 175) [(.tmp 57),(.tmp 58)],none,(.s true [(.tmp 8)])⟩,
  oM 60 7,
  oM 61 11,
  ⟨some 62,.call (.func 175) [(.tmp 60),(.tmp 61)],none,(.s true [(.tmp 8)])⟩,
  oM 63 7,
  ⟨some 64,.call (.func 175) [(.tmp 63),(oK 2)],none,(.s true [(.tmp 8)])⟩,
  oS (.store 5 (.tmp 2) (.tmp 56)),
  oM 3 59,
  oM 4 62,
  oM 5 64,
  oO 6 (.mv (oK 1))])
 .ret))))))⟩
theorem s40:compFn Try.prog Try.f40=some c40:=by kernel_rfl
def c41:XFn:=
 ⟨[.celln 10 5,.tmp 11],
 (.seq (.reg [oO 5 (.box 26 (.tmp 0)),
  oO 10 (.alloc 26 [.int .i64 0,.int .i64 0,.int .i64 0,.int .i64 0,.slice none 0 0]),
  oO 11 (.mv (oK 0))])
 (.seq (.blk 0 (.seq (.reg [oO 13 (.loadn 5 (.tmp 5)),
  oO 14 (.call (.func 149) [(.tmp 13)]),
  oO 15 (.un .not (.tmp 14)),
  oM 12 15])
 (.cond (.tmp 12) (.seq (.reg [oO 16 (.build [.int .i64 0,.int .i64 0,.int .i64 0,.int .i64 0,.slice none 0 0] []),
  oS (.store 5 (.tmp 10) (.tmp 16)),
  oO 11 (.mv (oK 1))])
 .ret) (.seq (.reg [oO 18 (.loadn 5 (.tmp 5)),
  oM 19 1,
  oM 20 2,
  oO 21 (.bslice 2 1 2 [.int .i64 0] [(0,1,(.tmp 19)),(1,1,(.tmp 20))]),
  oO 22 (.call (.func 195) [(.tmp 18),(.tmp 21)]),
  oO 23 (.un .not (.tmp 22)),
  oM 24 23,
  oG 25 (.mv (.tmp 3)) 24 false,
  oG 26 (.bin .lss (.tmp 25) (oK 0)) 24 false,
  oO 27 (.pick (.tmp 24) (.const (.bool true)) (.tmp 26)),
  oM 28 27,
  oG 29 (.mv (.tmp 3)) 28 false,
  oG 30 (.bin .gtr (.tmp 29) (oK 2)) 28 false,
  oO 31 (.pick (.tmp 28) (.const (.bool true)) (.tmp 30)),
  oM 32 31,
  oG 33 (.mv (.tmp 4)) 32 false,
  oG 34 (.bin .lss (.tmp 33) (oK 1)) 32 false,
  oO 35 (.pick (.tmp 32) (.const (.bool true)) (.tmp 34)),
  oM 36 35,
  oG 37 (.mv (.tmp 4)) 36 false,
  oG 38 (.fadr 0 (.tmp 5)) 36 false,
  oG 39 (.load1 (.tmp 38)) 36 false,
  oG 40 (.bin .geq (.tmp 37) (.tmp 39)) 36 false,
  oO 41 (.pick (.tmp 36) (.const (.bool true)) (.tmp 40)),
  oM 17 41])
 (.cond (.tmp 17) (.seq (.reg [oO 42 (.build [.int .i64 0,.int .i64 0,.int .i64 0,.int .i64 0,.slice none 0 0] []),
  oS (.store 5 (.tmp 10) (.tmp 42)),
  oO 11 (.mv (oK 2))])
 .ret) (.seq (.reg [oM 44 1,
  oM 45 2,
  oO 46 (.bin .eql (.tmp 44) (.tmp 45)),
  oM 47 46,
  oG 48 (.fadr 4 (.tmp 5)) 47 false,
  oG 49 (.load1 (.tmp 48)) 47 false,
  oG 50 (.mv (.tmp 1)) 47 false,
  oG 51 (.ixs 27 (.tmp 49) (.tmp 50)) 47 false,
  oG 52 (.loadn 27 (.tmp 51)) 47 false,
  ⟨some 53,.call (.func 196) [(.tmp 52)],(some (47,false)),.t⟩,
  oG 54 (.mv (.tmp 3)) 47 false,
  oG 55 (.idxn 3 9 (.tmp 53) (.tmp 54)) 47 false,
  oG 56 (.fadr 4 (.tmp 5)) 47 false,
  oG 57 (.load1 (.tmp 56)) 47 false,
  oG 58 (.mv (.tmp 2)) 47 false,
  oG 59 (.ixs 27 (.tmp 57) (.tmp 58)) 47 false,
  oG 60 (.loadn 27 (.tmp 59)) 47 false,
  oG 61 (.call (.func 196) [(.tmp 60)]) 47 false,
  oG 62 (.mv (.tmp 3)) 47 false,
  oG 63 (.idxn 3 9 (.tmp 61) (.tmp 62)) 47 false,
  oG 64 (.eqa true 9 (.tmp 55) (.tmp 63)) 47 false,
  oO 65 (.pick (.tmp 47) (.const (.bool true)) (.tmp 64)),
  oM 43 65])
 (.cond (.tmp 43) (.seq (.reg [oO 66 (.build [.int .i64 0,.int .i64 0,.int .i64 0,.int .i64 0,.slice none 0 0] []),
  oS (.store 5 (.tmp 10) (.tmp 66)),
  oO 11 (.mv (oK 5))])
 .ret) .skip)))))))
 (.seq (.reg [oO 67 (.loadn 5 (.tmp 5)),
  oM 68 1,
  oM 69 2,
  oM 70 3,
  oM 71 4,
  oO 72 (.call (.func 153) [(.tmp 67),(.tmp 68),(.tmp 69),(.tmp 70),(.tmp 71)]),
  oS (.store 5 (.tmp 10) (.tmp 72)),
  oO 11 (.mv (oK 0))])
 .ret)))⟩
theorem s41:compFn Try.prog Try.f41=some c41:=by kernel_rfl
def c42:XFn:=
 ⟨[.celln 10 5,.tmp 11],
 (.seq (.reg [oO 5 (.box 26 (.tmp 0)),
  oO 10 (.alloc 26 [.int .i64 0,.int .i64 0,.int .i64 0,.int .i64 0,.slice none 0 0]),
  oO 11 (.mv (oK 0))])
 (.seq (.blk 0 (.seq (.reg [oO 13 (.loadn 5 (.tmp 5)),
  oO 14 (.call (.func 154) [(.tmp 13)]),
  oO 15 (.un .not (.tmp 14)),
  oM 12 15])
 (.cond (.tmp 12) (.seq (.reg [oO 16 (.build [.int .i64 0,.int .i64 0,.int .i64 0,.int .i64 0,.slice none 0 0] []),
  oS (.store 5 (.tmp 10) (.tmp 16)),
  oO 11 (.mv (oK 1))])
 .ret) (.seq (.reg [oO 18 (.loadn 5 (.tmp 5)),
  oM 19 1,
  oM 20 2,
  oO 21 (.bslice 2 1 2 [.int .i64 0] [(0,1,(.tmp 19)),(1,1,(.tmp 20))]),
  oO 22 (.call (.func 197) [(.tmp 18),(.tmp 21)]),
  oO 23 (.un .not (.tmp 22)),
  oM 24 23,
  oG 25 (.mv (.tmp 3)) 24 false,
  oG 26 (.call (.func 181) [(.tmp 25),(oK 0),(oK 2)]) 24 false,
  oG 27 (.un .not (.tmp 26)) 24 false,
  oO 28 (.pick (.tmp 24) (.const (.bool true)) (.tmp 27)),
  oM 29 28,
  oG 30 (.mv (.tmp 4)) 29 false,
  oG 31 (.fadr 0 (.tmp 5)) 29 false,
  oG 32 (.load1 (.tmp 31)) 29 false,
  oG 33 (.bin .sub (.tmp 32) (oK 1)) 29 false,
  oG 34 (.call (.func 181) [(.tmp 30),(oK 1),(.tmp 33)]) 29 false,
  oG 35 (.un .not (.tmp 34)) 29 false,
  oO 36 (.pick (.tmp 29) (.const (.bool true)) (.tmp 35)),
  oM 17 36])
 (.cond (.tmp 17) (.seq (.reg [oO 37 (.build [.int .i64 0,.int .i64 0,.int .i64 0,.int .i64 0,.slice none 0 0] []),
  oS (.store 5 (.tmp 10) (.tmp 37)),
  oO 11 (.mv (oK 2))])
 .ret) (.seq (.reg [oM 39 1,
  oM 40 2,
  oO 41 (.bin .eql (.tmp 39) (.tmp 40)),
  oM 42 41,
  oG 43 (.fadr 4 (.tmp 5)) 42 false,
  oG 44 (.load1 (.tmp 43)) 42 false,
  oG 45 (.mv (.tmp 1)) 42 false,
  oG 46 (.ixs 27 (.tmp 44) (.tmp 45)) 42 false,
  oG 47 (.loadn 27 (.tmp 46)) 42 false,
  oG 48 (.mv (.tmp 3)) 42 false,
  ⟨some 49,.call (.func 198) [(.tmp 47),(.tmp 48)],(some (42,false)),.t⟩,
  oG 50 (.fadr 4 (.tmp 5)) 42 false,
  oG 51 (.load1 (.tmp 50)) 42 false,
  oG 52 (.mv (.tmp 2)) 42 false,
  oG 53 (.ixs 27 (.tmp 51) (.tmp 52)) 42 false,
  oG 54 (.loadn 27 (.tmp 53)) 42 false,
  oG 55 (.mv (.tmp 3)) 42 false,
  oG 56 (.call (.func 198) [(.tmp 54),(.tmp 55)]) 42 false,
  oG 57 (.eqa true 9 (.tmp 49) (.tmp 56)) 42 false,
  oO 58 (.pick (.tmp 42) (.const (.bool true)) (.tmp 57)),
  oM 38 58])
 (.cond (.tmp 38) (.seq (.reg [oO 59 (.build [.int .i64 0,.int .i64 0,.int .i64 0,.int .i64 0,.slice none 0 0] []),
  oS (.store 5 (.tmp 10) (.tmp 59)),
  oO 11 (.mv (oK 5))])
 .ret) .skip)))))))
 (.seq (.reg [oO 60 (.loadn 5 (.tmp 5)),
  oM 61 1,
  oM 62 2,
  oM 63 3,
  oM 64 4,
  oO 65 (.call (.func 157) [(.tmp 60),(.tmp 61),(.tmp 62),(.tmp 63),(.tmp 64)]),
  oS (.store 5 (.tmp 10) (.tmp 65)),
  oO 11 (.mv (oK 0))])
 .ret)))⟩
theorem s42:compFn Try.prog Try.f42=some c42:=by kernel_rfl
def c43:XFn:=
 ⟨[.tmp 4],
 (.seq (.reg [oO 2 (.box 26 (.tmp 0)),
  oO 3 (.box 26 (.tmp 1)),
  oO 4 (.mv (.const (.bool false)))])
 (.seq (.seq (.reg [oF 6 0 2,
  oL 7 6,
  oF 8 0 3,
  oL 9 8,
  oO 10 (.bin .neq (.tmp 7) (.tmp 9)),
  oM 11 10,
  oG 12 (.fadr 1 (.tmp 2)) 11 false,
  oG 13 (.load1 (.tmp 12)) 11 false,
  oG 14 (.fadr 1 (.tmp 3)) 11 false,
  oG 15 (.load1 (.tmp 14)) 11 false,
  oG 16 (.bin .neq (.tmp 13) (.tmp 15)) 11 false,
  oO 17 (.pick (.tmp 11) (.const (.bool true)) (.tmp 16)),
  oM 18 17,
  oG 19 (.fadr 2 (.tmp 2)) 18 false,
  oG 20 (.load1 (.tmp 19)) 18 false,
  oG 21 (.fadr 2 (.tmp 3)) 18 false,
  oG 22 (.load1 (.tmp 21)) 18 false,
  oG 23 (.bin .neq (.tmp 20) (.tmp 22)) 18 false,
  oO 24 (.pick (.tmp 18) (.const (.bool true)) (.tmp 23)),
  oM 25 24,
  oG 26 (.fadr 3 (.tmp 2)) 25 false,
  oG 27 (.load1 (.tmp 26)) 25 false,
  oG 28 (.fadr 3 (.tmp 3)) 25 false,
  oG 29 (.load1 (.tmp 28)) 25 false,
  oG 30 (.bin .neq (.tmp 27) (.tmp 29)) 25 false,
  oO 31 (.pick (.tmp 25) (.const (.bool true)) (.tmp 30)),
  oM 32 31,
  oG 33 (.fadr 4 (.tmp 2)) 32 false,
  oG 34 (.load1 (.tmp 33)) 32 false,
  oG 35 (.len (.tmp 34)) 32 false,
  oG 36 (.fadr 4 (.tmp 3)) 32 false,
  oG 37 (.load1 (.tmp 36)) 32 false,
  oG 38 (.len (.tmp 37)) 32 false,
  oG 39 (.bin .neq (.tmp 35) (.tmp 38)) 32 false,
  oO 40 (.pick (.tmp 32) (.const (.bool true)) (.tmp 39))])
 (.cond (.tmp 40) (.seq (.reg [oO 4 (.mv (.const (.bool false)))])
 .ret) .skip))
 (.seq (.seq (.reg [oO 5 (.mv (oK 0))])
 (.blk 0 (.loop (.seq (.seq (.reg [oM 41 5,
  oF 42 4 2,
  oL 43 42,
  oN 44 43,
  oO 45 (.bin .lss (.tmp 41) (.tmp 44))])
 (.cond (.tmp 45) .skip (.exit 0)))
 (.seq (.blk 1 (.seq (.reg [oF 48 4 2,
  oL 49 48,
  oM 50 5,
  oX 51 27 49 50,
  oO 52 (.loadn 27 (.tmp 51)),
  oF 53 4 3,
  oL 54 53,
  oM 55 5,
  oX 56 27 54 55,
  oO 57 (.loadn 27 (.tmp 56)),
  oO 58 (.eqa true 27 (.tmp 52) (.tmp 57))])
 (.cond (.tmp 58) (.seq (.reg [oO 4 (.mv (.const (.bool false)))])
 .ret) .skip)))
 (.reg [oM 46 5,
  oO 47 (.bin .add (.tmp 46) (oK 1)),
  oM 5 47]))))))
 (.seq (.reg [oO 4 (.mv (.const (.bool true)))])
 .ret))))⟩
theorem s43:compFn Try.prog Try.f43=some c43:=by kernel_rfl
def c44:XFn:=
 ⟨[.tmp 4,.tmp 5],
 (.seq (.reg [oO 2 (.box 26 (.tmp 0)),
  oO 3 (.box 26 (.tmp 1)),
  oO 4 (.mv (.const (.bool false))),
  oO 5 (.mv (oK 0))])
 (.seq (.seq (.reg [oO 7 (.loadn 5 (.tmp 2)),
  oO 8 (.loadn 5 (.tmp 3)),
  oO 9 (.call (.func 199) [(.tmp 7),(.tmp 8)]),
  oM 6 9])
 (.seq (.reg [oM 10 6,
  oO 11 (.bin .neq (.tmp 10) (oK 0))])
 (.cond (.tmp 11) (.seq (.reg [oM 12 6,
  oO 4 (.mv (.const (.bool false))),
  oM 5 12])
 .ret) .skip)))
 (.seq (.reg [oO 13 (.loadn 5 (.tmp 2)),
  ⟨some 14,.call (.func 161) [(.tmp 13)],none,.t⟩,
  oO 15 (.fld1 4 (.tmp 14)),
  oO 16 (.loadn 5 (.tmp 3)),
  oO 17 (.call (.func 161) [(.tmp 16)]),
  oO 18 (.fld1 4 (.tmp 17)),
  oO 19 (.call (.func 200) [(.tmp 15),(.tmp 18)]),
  oM 4 19,
  oO 5 (.mv (oK 0))])
 .ret)))⟩
theorem s44:compFn Try.prog Try.f44=some c44:=by kernel_rfl
def c45:XFn:=
 ⟨[.celln 2 5],
 (.seq (.reg [oO 2 (.alloc 26 [.int .i64 0,.int .i64 0,.int .i64 0,.int .i64 0,.slice none 0 0])])
 (.seq (.reg [oM 3 0,
  oO 4 (.call (.func 145) [(.tmp 3)]),
  oO 5 (.call (.func 146) [(.tmp 4)]),
  oS (.store 5 (.tmp 2) (.tmp 5))])
 .ret))⟩
theorem s45:compFn Try.prog Try.f45=some c45:=by kernel_rfl
def c46:XFn:=
 ⟨[.tmp 2,.tmp 3],
 (.seq (.reg [oO 1 (.box 26 (.tmp 0)),
  oO 2 (.mv (.const (.slice none 0 0))),
  oO 3 (.mv (oK 0))])
 (.seq (.seq (.reg [oO 4 (.loadn 5 (.tmp 1)),
  oO 5 (.call (.func 149) [(.tmp 4)]),
  oO 6 (.un .not (.tmp 5))])
 (.cond (.tmp 6) (.seq (.reg [oO 2 (.mv (.const (.slice none 0 0))),
  oO 3 (.mv (oK 1))])
 .ret) .skip))
 (.seq (.reg [oO 7 (.loadn 5 (.tmp 1)),
  oO 8 (.call (.func 152) [(.tmp 7)]),
  oM 2 8,
  oO 3 (.mv (oK 0))])
 .ret)))⟩
theorem s46:compFn Try.prog Try.f46=some c46:=by kernel_rfl
def c47:XFn:=
 ⟨[.tmp 2,.tmp 3],
 (.seq (.reg [oO 1 (.box 26 (.tmp 0)),
  oO 2 (.mv (.const (.slice none 0 0))),
  oO 3 (.mv (oK 0))])
 (.seq (.seq (.reg [oO 4 (.loadn 5 (.tmp 1)),
  oO 5 (.call (.func 154) [(.tmp 4)]),
  oO 6 (.un .not (.tmp 5))])
 (.cond (.tmp 6) (.seq (.reg [oO 2 (.mv (.const (.slice none 0 0))),
  oO 3 (.mv (oK 1))])
 .ret) .skip))
 (.seq (.reg [oO 7 (.loadn 5 (.tmp 1)),
  oO 8 (.call (.func 156) [(.tmp 7)]),
  oM 2 8,
  oO 3 (.mv (oK 0))])
 .ret)))⟩
theorem s47:compFn Try.prog Try.f47=some c47:=by kernel_rfl
def c48:XFn:=
 ⟨[.tmp 4],
 (.seq (.reg [oO 4 (.mv (.const (.bool false)))])
 (.seq (.seq (.reg [oM 6 0,
  oN 7 6,
  oM 8 1,
  oN 9 8,
  oO 10 (.bin .neq (.tmp 7) (.tmp 9))])
 (.cond (.tmp 10) (.seq (.reg [oO 4 (.mv (.const (.bool false)))])
 .ret) .skip))
 (.seq (.seq (.reg [oO 5 (.mv (oK 0))])
 (.blk 0 (.loop (.seq (.seq (.reg [oM 11 5,
  oM 12 0,
  oN 13 12,
  oO 14 (.bin .lss (.tmp 11) (.tmp 13))])
 (.cond (.tmp 14) .skip (.exit 0)))
 (.seq (.blk 1 (.seq (.reg [oM 17 0,
  oM 18 5,
  oX 19 1 17 18,
  oL 20 19,
  oM 21 1,
  oM 22 5,
  oX 23 1 21 22,
  oL 24 23,
  oO 25 (.call (.func 20) [(.tmp 20),(.tmp 24)]),
  oO 26 (.un .not (.tmp 25))])
 (.cond (.tmp 26) (.seq (.reg [oO 4 (.mv (.const (.bool false)))])
 .ret) .skip)))
 (.reg [oM 15 5,
  oO 16 (.bin .add (.tmp 15) (oK 1)),
  oM 5 16]))))))
 (.seq (.reg [oO 4 (.mv (.const (.bool true)))])
 .ret))))⟩
theorem s48:compFn Try.prog Try.f48=some c48:=by kernel_rfl
def c145:XFn:=
 ⟨[.tmp 2],
 (.seq (.reg [oO 2 (.mv (.const (.pointer none)))])
 (.seq (.reg [oM 5 0,
  oM 6 0,
  oN 7 6,
  oO 8 (.conv .u64 (.tmp 7)),
  oO 9 (.bin .add (.const (.int .u64 12619)) (.tmp 8)),
  oO 10 (.build [.slice none 0 0,.int .i64 0,.int .u64 0] [(0,1,(.tmp 5)),(2,1,(.tmp 9))]),
  oO 11 (.box 220 (.tmp 10)),
  oM 3 11])
 (.seq (.seq (.reg [oO 4 (.mv (oK 0))])
 (.blk 0 (.loop (.seq (.seq (.reg [oM 12 4,
  oM 13 0,
  oN 14 13,
  oO 15 (.bin .lss (.tmp 12) (.tmp 14)),
  oM 16 15,
  oG 17 (.mv (.tmp 4)) 16 true,
  oG 18 (.bin .lss (.tmp 17) (oK 4096)) 16 true,
  oO 19 (.pick (.tmp 16) (.tmp 18) (.const (.bool false)))])
 (.cond (.tmp 19) .skip (.exit 0)))
 (.seq (.blk 1 (.reg [oM 22 3,
  oM 23 3,
  oO 24 (.nchk (.tmp 23)),
  oF 25 2 24,
  oL 26 25,
  oO 27 (.bin .mul (.tmp 26) (.const (.int .u64 1099511628211))),
  oM 28 0,
  oM 29 4,
  oX 30 1 28 29,
  oL 31 30,
  oO 32 (.conv .u64 (.tmp 31)),
  oO 33 (.bin .add (.tmp 27) (.tmp 32)),
  oO 34 (.bin .add (.tmp 33) (.const (.int .u64 79))),
  oO 35 (.nchk (.tmp 22)),
  oF 36 2 35,
  oS (.store 1 (.tmp 36) (.tmp 34))]))
 (.reg [oM 20 4,
  oO 21 (.bin .add (.tmp 20) (oK 1)),
  oM 4 21]))))))
 (.seq (.reg [oM 37 3,
  oM 2 37])
 .ret))))⟩
theorem s145:compFn Try.prog Try.f145=some c145:=by kernel_rfl
def c146:XFn:=
 ⟨[.celln 2 5],
 (.seq (.reg [oO 2 (.alloc 26 [.int .i64 0,.int .i64 0,.int .i64 0,.int .i64 0,.slice none 0 0])])
 (.seq (.reg [oM 10 0,
  oO 11 (.call (.func 266) [(.tmp 10)]),
  oO 3 (.alloc 26 [.int .i64 0,.int .i64 0,.int .i64 0,.int .i64 0,.slice none 0 0]),
  oS (.store 5 (.tmp 3) (.tmp 11))])
 (.seq (.seq (.reg [oF 12 4 3,
  oL 13 12,
  oN 14 13,
  oM 4 14])
 (.seq (.reg [oM 15 4,
  oO 16 (.bin .gtr (.tmp 15) (oK 1)),
  oM 17 16,
  oG 18 (.mv (.tmp 0)) 17 true,
  oG 19 (.call (.func 148) [(.tmp 18),(oK 2)]) 17 true,
  oG 20 (.bin .eql (.tmp 19) (oK 0)) 17 true,
  oO 21 (.pick (.tmp 17) (.tmp 20) (.const (.bool false)))])
 (.cond (.tmp 21) (.seq (.reg [oO 22 (.bslice 138 27 0 [.int .u8 0,.int .u8 0,.int .u8 0,.int .u8 0,.int .u8 0,.int .u8 0,.int .u8 0,.int .u8 0,.int .u8 0,.int .u8 0,.int .u8 0,.int .u8 0,.int .u8 0,.int .u8 0,.int .u8 0,.int .u8 0,.int .u8 0,.int .u8 0,.int .u8 0,.int .u8 0,.int .u8 0,.int .u8 0,.int .u8 0,.int .u8 0,.int .u8 0,.int .u8 0,.int .u8 0] []),
  oF 23 4 3,
  oL 24 23,
  oO 25 (.app 138 27 27 (.tmp 22) (.tmp 24)),
  oM 5 25])
 (.seq (.reg [oM 26 0,
  oM 27 4,
  oO 28 (.call (.func 148) [(.tmp 26),(.tmp 27)]),
  oM 29 0,
  oM 30 4,
  oO 31 (.call (.func 148) [(.tmp 29),(.tmp 30)]),
  oM 6 28,
  oM 7 31])
 (.seq (.seq (.reg [oO 8 (.mv (oK 0))])
 (.blk 0 (.loop (.seq (.seq (.reg [oM 32 8,
  oO 33 (.bin .lss (.tmp 32) (oK 3))])
 (.cond (.tmp 33) .skip (.exit 0)))
 (.seq (.blk 1 (.seq (.reg [oM 36 0,
  oO 37 (.call (.func 148) [(.tmp 36),(oK 2)]),
  oO 38 (.bin .eql (.tmp 37) (oK 0))])
 (.cond (.tmp 38) (.seq (.reg [oM 39 5,
  oM 40 6,
  oX 41 27 39 40,
  oO 42 (.loadn 27 (.tmp 41)),
  oM 43 8,
  oO 44 (.call (.func 198) [(.tmp 42),(.tmp 43)]),
  oO 9 (.alloc 136 [.int .u8 0,.int .u8 0,.int .u8 0,.int .u8 0,.int .u8 0,.int .u8 0,.int .u8 0,.int .u8 0,.int .u8 0]),
  oS (.store 9 (.tmp 9) (.tmp 44))])
 (.seq (.seq (.reg [oM 45 0,
  oO 46 (.call (.func 148) [(.tmp 45),(oK 4)]),
  oO 47 (.bin .eql (.tmp 46) (oK 0))])
 (.cond (.tmp 47) (.reg [oF 48 0 3,
  oL 49 48,
  oO 50 (.loadn 9 (.tmp 9)),
  oM 51 0,
  oF 52 0 3,
  oL 53 52,
  oO 54 (.bin .sub (.tmp 53) (oK 1)),
  ⟨some 55,.call (.func 148) [(.tmp 51),(.tmp 54)],none,(.s true [(.tmp 48),(.tmp 9)])⟩,
  oO 56 (.bin .add (oK 1) (.tmp 55)),
  oO 57 (.call (.func 267) [(.tmp 49),(.tmp 50),(.tmp 56)]),
  oS (.store 9 (.tmp 9) (.tmp 57))]) .skip))
 (.reg [oM 58 5,
  oM 59 7,
  oM 60 5,
  oM 61 7,
  oX 62 27 60 61,
  oO 63 (.loadn 27 (.tmp 62)),
  oM 64 8,
  oO 65 (.loadn 9 (.tmp 9)),
  oO 66 (.call (.func 268) [(.tmp 63),(.tmp 64),(.tmp 65)]),
  oX 67 27 58 59,
  oS (.store 27 (.tmp 67) (.tmp 66))]))) .skip)))
 (.reg [oM 34 8,
  oO 35 (.bin .add (.tmp 34) (oK 1)),
  oM 8 35]))))))
 (.reg [oM 68 5,
  oF 69 4 3,
  oS (.store 1 (.tmp 69) (.tmp 68))])))) .skip)))
 (.seq (.reg [oM 70 0,
  oO 71 (.loadn 5 (.tmp 3)),
  oO 72 (.call (.func 269) [(.tmp 70),(.tmp 71)]),
  oS (.store 5 (.tmp 2) (.tmp 72))])
 .ret))))⟩
theorem s146:compFn Try.prog Try.f146=some c146:=by kernel_rfl
def c147:XFn:=
 ⟨[.tmp 4],
 (.seq (.reg [oO 4 (.mv (oK 0))])
 (.seq (.reg [oM 5 1,
  oM 6 0,
  oM 7 1,
  oN 8 7,
  oO 9 (.call (.func 148) [(.tmp 6),(.tmp 8)]),
  oX 10 1 5 9,
  oL 11 10,
  oM 4 11])
 .ret))⟩
theorem s147:compFn Try.prog Try.f147=some c147:=by kernel_rfl
def c148:XFn:=
 ⟨[.tmp 4],
 (.seq (.reg [oO 4 (.mv (oK 0))])
 (.seq (.seq (.reg [oM 6 1,
  oO 7 (.bin .lss (.tmp 6) (oK 1))])
 (.cond (.tmp 7) (.seq (.reg [oO 4 (.mv (oK 0))])
 .ret) .skip))
 (.seq (.reg [oM 8 0,
  oM 9 0,
  oO 10 (.nchk (.tmp 9)),
  oF 11 2 10,
  oL 12 11,
  oO 13 (.bin .mul (.tmp 12) (.const (.int .u64 6364136223846793005))),
  oO 14 (.bin .add (.tmp 13) (.const (.int .u64 1442695040888963407))),
  oO 15 (.nchk (.tmp 8)),
  oF 16 2 15,
  oS (.store 1 (.tmp 16) (.tmp 14))])
 (.seq (.reg [oM 17 0,
  oO 18 (.nchk (.tmp 17)),
  oF 19 2 18,
  oL 20 19,
  oO 21 (.bin .shr (.tmp 20) (.const (.int .u64 33))),
  oO 22 (.bin .and (.tmp 21) (.const (.int .u64 16777215))),
  oO 23 (.conv .i64 (.tmp 22)),
  oM 5 23])
 (.seq (.seq (.reg [oM 24 0,
  oO 25 (.nchk (.tmp 24)),
  oF 26 1 25,
  oL 27 26,
  oM 28 0,
  oO 29 (.nchk (.tmp 28)),
  oF 30 0 29,
  oL 31 30,
  oN 32 31,
  oO 33 (.bin .lss (.tmp 27) (.tmp 32))])
 (.cond (.tmp 33) (.seq (.reg [oM 34 5,
  oM 35 0,
  oO 36 (.nchk (.tmp 35)),
  oF 37 0 36,
  oL 38 37,
  oM 39 0,
  oO 40 (.nchk (.tmp 39)),
  oF 41 1 40,
  oL 42 41,
  oX 43 1 38 42,
  oL 44 43,
  oO 45 (.conv .i64 (.tmp 44)),
  oO 46 (.bin .add (.tmp 34) (.tmp 45)),
  oM 5 46])
 (.reg [oM 47 0,
  oM 48 0,
  oO 49 (.nchk (.tmp 48)),
  oF 50 1 49,
  oL 51 50,
  oO 52 (.bin .add (.tmp 51) (oK 1)),
  oO 53 (.nchk (.tmp 47)),
  oF 54 1 53,
  oS (.store 1 (.tmp 54) (.tmp 52))])) .skip))
 (.seq (.reg [oM 55 5,
  oM 56 1,
  oO 57 (.bin .rem (.tmp 55) (.tmp 56)),
  oM 4 57])
 .ret))))))⟩
theorem s148:compFn Try.prog Try.f148=some c148:=by kernel_rfl
def c149:XFn:=
 ⟨[.tmp 2],
 (.seq (.reg [oO 1 (.box 26 (.tmp 0)),
  oO 2 (.mv (.const (.bool false)))])
 (.seq (.seq (.reg [oF 5 0 1,
  oL 6 5,
  oO 7 (.call (.func 166) [(.tmp 6)]),
  oO 8 (.un .not (.tmp 7)),
  oM 9 8,
  oG 10 (.fadr 1 (.tmp 1)) 9 false,
  oG 11 (.load1 (.tmp 10)) 9 false,
  oG 12 (.fadr 2 (.tmp 1)) 9 false,
  oG 13 (.load1 (.tmp 12)) 9 false,
  oG 14 (.fadr 3 (.tmp 1)) 9 false,
  oG 15 (.load1 (.tmp 14)) 9 false,
  oG 16 (.bslice 2 1 3 [.int .i64 0] [(0,1,(.tmp 11)),(1,1,(.tmp 13)),(2,1,(.tmp 15))]) 9 false,
  oG 17 (.call (.func 167) [(.tmp 16)]) 9 false,
  oG 18 (.un .not (.tmp 17)) 9 false,
  oO 19 (.pick (.tmp 9) (.const (.bool true)) (.tmp 18)),
  oM 20 19,
  oG 21 (.fadr 4 (.tmp 1)) 20 false,
  oG 22 (.load1 (.tmp 21)) 20 false,
  oG 23 (.len (.tmp 22)) 20 false,
  oG 24 (.bin .gtr (.tmp 23) (oK 30)) 20 false,
  oO 25 (.pick (.tmp 20) (.const (.bool true)) (.tmp 24))])
 (.cond (.tmp 25) (.seq (.reg [oO 2 (.mv (.const (.bool false)))])
 .ret) .skip))
 (.seq (.seq (.reg [oF 26 4 1,
  oL 27 26,
  oN 28 27,
  oO 29 (.mv (oK 0))])
 (.blk 0 (.loop (.seq (.reg [oO 30 (.bin .lss (.tmp 29) (.tmp 28))])
 (.seq (.cond (.tmp 30) .skip (.exit 0))
 (.seq (.blk 1 (.seq (.reg [oX 31 27 27 29,
  oO 32 (.loadn 27 (.tmp 31)),
  oO 4 (.alloc 138 [.int .u8 0,.int .u8 0,.int .u8 0,.int .u8 0,.int .u8 0,.int .u8 0,.int .u8 0,.int .u8 0,.int .u8 0,.int .u8 0,.int .u8 0,.int .u8 0,.int .u8 0,.int .u8 0,.int .u8 0,.int .u8 0,.int .u8 0,.int .u8 0,.int .u8 0,.int .u8 0,.int .u8 0,.int .u8 0,.int .u8 0,.int .u8 0,.int .u8 0,.int .u8 0,.int .u8 0]),
  oS (.store 27 (.tmp 4) (.tmp 32))])
 (.seq (.reg [oF 33 0 1,
  oL 34 33,
  oO 35 (.loadn 5 (.tmp 1)),
  ⟨some 36,.call (.func 271) [(.tmp 35)],none,.t⟩,
  oO 37 (.loadn 27 (.tmp 4)),
  oO 38 (.call (.func 270) [(.tmp 34),(.tmp 36),(.tmp 37)]),
  oO 39 (.un .not (.tmp 38))])
 (.cond (.tmp 39) (.seq (.reg [oO 2 (.mv (.const (.bool false)))])
 .ret) .skip))))
 (.reg [oO 40 (.bin .add (.tmp 29) (oK 1)),
  oM 29 40])))))))
 (.seq (.reg [oO 2 (.mv (.const (.bool true)))])
 .ret))))⟩
theorem s149:compFn Try.prog Try.f149=some c149:=by kernel_rfl
def c150:XFn:=
 ⟨[.celln 4 5],
 (.seq (.reg [oO 2 (.box 26 (.tmp 0)),
  oO 4 (.alloc 26 [.int .i64 0,.int .i64 0,.int .i64 0,.int .i64 0,.slice none 0 0])])
 (.seq (.reg [oM 5 1,
  oF 6 4 2,
  oS (.store 1 (.tmp 6) (.tmp 5))])
 (.seq (.reg [oO 7 (.loadn 5 (.tmp 2)),
  oS (.store 5 (.tmp 4) (.tmp 7))])
 .ret)))⟩
theorem s150:compFn Try.prog Try.f150=some c150:=by kernel_rfl
def c151:XFn:=
 ⟨[.tmp 2],
 (.seq (.reg [oO 2 (.mv (.const (.slice none 0 0)))])
 (.seq (.seq (.reg [oM 3 0,
  oO 4 (.isnil false (.tmp 3))])
 (.cond (.tmp 4) (.seq (.reg [oO 2 (.mv (.const (.slice none 0 0)))])
 .ret) .skip))
 (.seq (.reg [oO 5 (.bslice 138 27 0 [.int .u8 0,.int .u8 0,.int .u8 0,.int .u8 0,.int .u8 0,.int .u8 0,.int .u8 0,.int .u8 0,.int .u8 0,.int .u8 0,.int .u8 0,.int .u8 0,.int .u8 0,.int .u8 0,.int .u8 0,.int .u8 0,.int .u8 0,.int .u8 0,.int .u8 0,.int .u8 0,.int .u8 0,.int .u8 0,.int .u8 0,.int .u8 0,.int .u8 0,.int .u8 0,.int .u8 0] []),
  oM 6 0,
  oO 7 (.app 138 27 27 (.tmp 5) (.tmp 6)),
  oM 2 7])
 .ret)))⟩
theorem s151:compFn Try.prog Try.f151=some c151:=by kernel_rfl
def c152:XFn:=
 ⟨[.tmp 2],
 (.seq (.reg [oO 1 (.box 26 (.tmp 0)),
  oO 2 (.mv (.const (.slice none 0 0)))])
 (.seq (.reg [oO 9 (.bslice 27 1 0 [.slice none 0 0] []),
  oM 3 9])
 (.seq (.seq (.reg [oF 10 4 1,
  oL 11 10,
  oN 12 11,
  oO 13 (.mv (oK 0))])
 (.blk 0 (.loop (.seq (.reg [oO 14 (.bin .lss (.tmp 13) (.tmp 12))])
 (.seq (.cond (.tmp 14) .skip (.exit 0))
 (.seq (.blk 1 (.seq (.reg [oM 15 13,
  oX 16 27 11 13,
  oO 17 (.loadn 27 (.tmp 16)),
  oO 5 (.alloc 138 [.int .u8 0,.int .u8 0,.int .u8 0,.int .u8 0,.int .u8 0,.int .u8 0,.int .u8 0,.int .u8 0,.int .u8 0,.int .u8 0,.int .u8 0,.int .u8 0,.int .u8 0,.int .u8 0,.int .u8 0,.int .u8 0,.int .u8 0,.int .u8 0,.int .u8 0,.int .u8 0,.int .u8 0,.int .u8 0,.int .u8 0,.int .u8 0,.int .u8 0,.int .u8 0,.int .u8 0]),
  oM 4 15,
  oS (.store 27 (.tmp 5) (.tmp 17))])
 (.seq (.reg [oF 18 4 1,
  oL 19 18,
  oN 20 19,
  oO 21 (.mv (oK 0))])
 (.blk 2 (.loop (.seq (.reg [oO 22 (.bin .lss (.tmp 21) (.tmp 20))])
 (.seq (.cond (.tmp 22) .skip (.exit 2))
 (.seq (.blk 3 (.seq (.reg [oM 23 21,
  oX 24 27 19 21,
  oO 25 (.loadn 27 (.tmp 24)),
  oO 7 (.alloc 138 [.int .u8 0,.int .u8 0,.int .u8 0,.int .u8 0,.int .u8 0,.int .u8 0,.int .u8 0,.int .u8 0,.int .u8 0,.int .u8 0,.int .u8 0,.int .u8 0,.int .u8 0,.int .u8 0,.int .u8 0,.int .u8 0,.int .u8 0,.int .u8 0,.int .u8 0,.int .u8 0,.int .u8 0,.int .u8 0,.int .u8 0,.int .u8 0,.int .u8 0,.int .u8 0,.int .u8 0]),
  oM 6 23,
  oS (.store 27 (.tmp 7) (.tmp 25))])
 (.seq (.reg [oO 26 (.mv (oK 0))])
 (.blk 4 (.loop (.seq (.reg [oO 27 (.bin .lss (.tmp 26) (oK 3))])
 (.seq (.cond (.tmp 27) .skip (.exit 4))
 (.seq (.blk 5 (.seq (.reg [oM 28 26,
  oM 8 28])
 (.seq (.reg [oM 29 4,
  oM 30 6,
  oO 31 (.bin .neq (.tmp 29) (.tmp 30)),
  oM 32 31,
  oG 33 (.loadn 27 (.tmp 5)) 32 true,
  ⟨some 34,.call (.func 196) [(.tmp 33)],(some (32,true)),.t⟩,
  oG 35 (.mv (.tmp 8)) 32 true,
  oG 36 (.idxn 3 9 (.tmp 34) (.tmp 35)) 32 true,
  oG 37 (.loadn 27 (.tmp 7)) 32 true,
  oG 38 (.call (.func 196) [(.tmp 37)]) 32 true,
  oG 39 (.mv (.tmp 8)) 32 true,
  oG 40 (.idxn 3 9 (.tmp 38) (.tmp 39)) 32 true,
  oG 41 (.eqa false 9 (.tmp 36) (.tmp 40)) 32 true,
  oO 42 (.pick (.tmp 32) (.tmp 41) (.const (.bool false)))])
 (.cond (.tmp 42) (.reg [oM 43 3,
  oM 44 4,
  oM 45 6,
  oM 46 8,
  oO 47 (.bslice 2 1 3 [.int .i64 0] [(0,1,(.tmp 44)),(1,1,(.tmp 45)),(2,1,(.tmp 46))]),
  oO 48 (.bslice 27 1 1 [.slice none 0 0] [(0,1,(.tmp 47))]),
  oO 49 (.app 27 1 24 (.tmp 43) (.tmp 48)),
  oM 3 49]) .skip))))
 (.reg [oO 50 (.bin .add (.tmp 26) (oK 1)),
  oM 26 50])))))))))
 (.reg [oO 51 (.bin .add (.tmp 21) (oK 1)),
  oM 21 51])))))))))
 (.reg [oO 52 (.bin .add (.tmp 13) (oK 1)),
  oM 13 52])))))))
 (.seq (.reg [oM 53 3,
  oM 2 53])
 .ret))))⟩
theorem s152:compFn Try.prog Try.f152=some c152:=by kernel_rfl
def c153:XFn:=
 ⟨[.celln 10 5],
 (.seq (.reg [oO 5 (.box 26 (.tmp 0)),
  oO 10 (.alloc 26 [.int .i64 0,.int .i64 0,.int .i64 0,.int .i64 0,.slice none 0 0])])
 (.seq (.reg [oF 16 4 5,
  oL 17 16,
  oO 18 (.call (.func 151) [(.tmp 17)]),
  oM 11 18])
 (.seq (.reg [oM 19 11,
  oM 20 1,
  oX 21 27 19 20,
  oO 22 (.loadn 27 (.tmp 21)),
  ⟨some 23,.call (.func 196) [(.tmp 22)],none,.t⟩,
  oM 24 11,
  oM 25 2,
  oX 26 27 24 25,
  oO 27 (.loadn 27 (.tmp 26)),
  oO 28 (.call (.func 196) [(.tmp 27)]),
  oO 12 (.boxn 172 27 (.tmp 23)),
  oO 13 (.boxn 172 27 (.tmp 28))])
 (.seq (.reg [oM 29 3,
  oO 30 (.bin .add (.tmp 29) (oK 1)),
  oO 31 (.bin .rem (.tmp 30) (oK 3)),
  oM 32 3,
  oO 33 (.bin .add (.tmp 32) (oK 2)),
  oO 34 (.bin .rem (.tmp 33) (oK 3)),
  oM 14 31,
  oM 15 34])
 (.seq (.reg [oM 35 14,
  oF 36 0 5,
  oL 37 36,
  oM 38 14,
  oO 39 (.ixa 3 9 (.tmp 12) (.tmp 38)),
  oO 40 (.loadn 9 (.tmp 39)),
  oM 41 14,
  oO 42 (.ixa 3 9 (.tmp 13) (.tmp 41)),
  oO 43 (.loadn 9 (.tmp 42)),
  oM 44 4,
  oO 45 (.call (.func 272) [(.tmp 37),(.tmp 40),(.tmp 43),(.tmp 44)]),
  oO 46 (.ixa 3 9 (.tmp 12) (.tmp 35)),
  oS (.store 9 (.tmp 46) (.tmp 45))])
 (.seq (.reg [oM 47 15,
  oF 48 0 5,
  oL 49 48,
  oM 50 15,
  oO 51 (.ixa 3 9 (.tmp 13) (.tmp 50)),
  oO 52 (.loadn 9 (.tmp 51)),
  oM 53 15,
  oO 54 (.ixa 3 9 (.tmp 12) (.tmp 53)),
  oO 55 (.loadn 9 (.tmp 54)),
  oF 56 0 5,
  oL 57 56,
  oM 58 4,
  oO 59 (.bin .sub (.tmp 57) (.tmp 58)),
  oO 60 (.call (.func 272) [(.tmp 49),(.tmp 52),(.tmp 55),(.tmp 59)]),
  oO 61 (.ixa 3 9 (.tmp 13) (.tmp 47)),
  oS (.store 9 (.tmp 61) (.tmp 60))])
 (.seq (.reg [oM 62 11,
  oM 63 1,
  oM 64 11,
  oM 65 2,
  oO 66 (.loadn 27 (.tmp 12)),
  ⟨some 67,.call (.func 273) [(.tmp 66)],none,.t⟩,
  oO 68 (.loadn 27 (.tmp 13)),
  oO 69 (.call (.func 273) [(.tmp 68)]),
  oX 70 27 62 63,
  oS (.store 27 (.tmp 70) (.tmp 67)),
  oX 71 27 64 65,
  oS (.store 27 (.tmp 71) (.tmp 69))])
 (.seq (.reg [oO 72 (.loadn 5 (.tmp 5)),
  oM 73 11,
  ⟨some 74,.call (.func 274) [(.tmp 73)],none,(.u [(.tmp 5)])⟩,
  oO 75 (.call (.func 150) [(.tmp 72),(.tmp 74)]),
  oS (.store 5 (.tmp 10) (.tmp 75))])
 .ret))))))))⟩
theorem s153:compFn Try.prog Try.f153=some c153:=by kernel_rfl
def c154:XFn:=
 ⟨[.tmp 2],
 (.seq (.reg [oO 1 (.box 26 (.tmp 0)),
  oO 2 (.mv (.const (.bool false)))])
 (.seq (.seq (.reg [oF 4 0 1,
  oL 5 4,
  oF 6 1 1,
  oL 7 6,
  oF 8 2 1,
  oL 9 8,
  oF 10 3 1,
  oL 11 10,
  oO 12 (.call (.func 275) [(.tmp 5),(.tmp 7),(.tmp 9),(.tmp 11)]),
  oO 13 (.un .not (.tmp 12)),
  oM 14 13,
  oG 15 (.fadr 4 (.tmp 1)) 14 false,
  oG 16 (.load1 (.tmp 15)) 14 false,
  oG 17 (.len (.tmp 16)) 14 false,
  oG 18 (.bin .gtr (.tmp 17) (oK 30)) 14 false,
  oO 19 (.pick (.tmp 14) (.const (.bool true)) (.tmp 18))])
 (.cond (.tmp 19) (.seq (.reg [oO 2 (.mv (.const (.bool false)))])
 .ret) .skip))
 (.seq (.seq (.reg [oO 3 (.mv (oK 0))])
 (.blk 0 (.loop (.seq (.seq (.reg [oM 20 3,
  oF 21 4 1,
  oL 22 21,
  oN 23 22,
  oO 24 (.bin .lss (.tmp 20) (.tmp 23))])
 (.cond (.tmp 24) .skip (.exit 0)))
 (.seq (.blk 1 (.seq (.reg [oO 27 (.loadn 5 (.tmp 1)),
  oF 28 4 1,
  oL 29 28,
  oM 30 3,
  oX 31 27 29 30,
  oO 32 (.loadn 27 (.tmp 31)),
  oO 33 (.call (.func 276) [(.tmp 27),(.tmp 32)]),
  oO 34 (.un .not (.tmp 33))])
 (.cond (.tmp 34) (.seq (.reg [oO 2 (.mv (.const (.bool false)))])
 .ret) .skip)))
 (.reg [oM 25 3,
  oO 26 (.bin .add (.tmp 25) (oK 1)),
  oM 3 26]))))))
 (.seq (.reg [oO 2 (.mv (.const (.bool true)))])
 .ret))))⟩
theorem s154:compFn Try.prog Try.f154=some c154:=by kernel_rfl
def c155:XFn:=
 ⟨[.celln 4 5],
 (.seq (.reg [oO 2 (.box 26 (.tmp 0)),
  oO 4 (.alloc 26 [.int .i64 0,.int .i64 0,.int .i64 0,.int .i64 0,.slice none 0 0])])
 (.seq (.reg [oO 8 (.loadn 5 (.tmp 2)),
  oO 9 (.call (.func 277) [(.tmp 8)]),
  oO 5 (.alloc 26 [.int .i64 0,.int .i64 0,.int .i64 0,.int .i64 0,.slice none 0 0]),
  oS (.store 5 (.tmp 5) (.tmp 9))])
 (.seq (.seq (.reg [oO 6 (.mv (oK 0))])
 (.blk 0 (.loop (.seq (.seq (.reg [oM 10 6,
  oM 11 1,
  oN 12 11,
  oO 13 (.bin .lss (.tmp 10) (.tmp 12))])
 (.cond (.tmp 13) .skip (.exit 0)))
 (.seq (.blk 1 (.seq (.reg [oM 16 1,
  oM 17 6,
  oX 18 27 16 17,
  oO 19 (.loadn 27 (.tmp 18)),
  oO 7 (.alloc 138 [.int .u8 0,.int .u8 0,.int .u8 0,.int .u8 0,.int .u8 0,.int .u8 0,.int .u8 0,.int .u8 0,.int .u8 0,.int .u8 0,.int .u8 0,.int .u8 0,.int .u8 0,.int .u8 0,.int .u8 0,.int .u8 0,.int .u8 0,.int .u8 0,.int .u8 0,.int .u8 0,.int .u8 0,.int .u8 0,.int .u8 0,.int .u8 0,.int .u8 0,.int .u8 0,.int .u8 0]),
  oS (.store 27 (.tmp 7) (.tmp 19))])
 (.seq (.reg [oF 20 0 7,
  oO 21 (.loadn 9 (.tmp 20)),
  oO 22 (.call (.func 278) [(.tmp 21)]),
  oO 23 (.un .not (.tmp 22)),
  oM 24 23,
  oG 25 (.fadr 9 (.tmp 7)) 24 true,
  oG 26 (.loadn 9 (.tmp 25)) 24 true,
  oG 27 (.call (.func 278) [(.tmp 26)]) 24 true,
  oG 28 (.un .not (.tmp 27)) 24 true,
  oO 29 (.pick (.tmp 24) (.tmp 28) (.const (.bool false))),
  oM 30 29,
  oG 31 (.fadr 18 (.tmp 7)) 30 true,
  oG 32 (.loadn 9 (.tmp 31)) 30 true,
  oG 33 (.call (.func 278) [(.tmp 32)]) 30 true,
  oG 34 (.un .not (.tmp 33)) 30 true,
  oO 35 (.pick (.tmp 30) (.tmp 34) (.const (.bool false)))])
 (.cond (.tmp 35) (.reg [oF 36 4 5,
  oL 37 36,
  oO 38 (.loadn 27 (.tmp 7)),
  oO 39 (.bslice 138 27 1 [.int .u8 0,.int .u8 0,.int .u8 0,.int .u8 0,.int .u8 0,.int .u8 0,.int .u8 0,.int .u8 0,.int .u8 0,.int .u8 0,.int .u8 0,.int .u8 0,.int .u8 0,.int .u8 0,.int .u8 0,.int .u8 0,.int .u8 0,.int .u8 0,.int .u8 0,.int .u8 0,.int .u8 0,.int .u8 0,.int .u8 0,.int .u8 0,.int .u8 0,.int .u8 0,.int .u8 0] [(0,27,(.tmp 38))]),
  oO 40 (.app 138 27 27 (.tmp 37) (.tmp 39)),
  oF 41 4 5,
  oS (.store 1 (.tmp 41) (.tmp 40))]) .skip))))
 (.reg [oM 14 6,
  oO 15 (.bin .add (.tmp 14) (oK 1)),
  oM 6 15]))))))
 (.seq (.reg [oO 42 (.loadn 5 (.tmp 5)),
  oS (.store 5 (.tmp 4) (.tmp 42))])
 .ret))))⟩
theorem s155:compFn Try.prog Try.f155=some c155:=by kernel_rfl
def c156:XFn:=
 ⟨[.tmp 2],
 (.seq (.reg [oO 1 (.box 26 (.tmp 0)),
  oO 2 (.mv (.const (.slice none 0 0)))])
 (.seq (.reg [oO 7 (.bslice 27 1 0 [.slice none 0 0] []),
  oM 3 7])
 (.seq (.seq (.reg [oO 4 (.mv (oK 0))])
 (.blk 0 (.loop (.seq (.seq (.reg [oM 8 4,
  oF 9 4 1,
  oL 10 9,
  oN 11 10,
  oO 12 (.bin .lss (.tmp 8) (.tmp 11))])
 (.cond (.tmp 12) .skip (.exit 0)))
 (.seq (.blk 1 (.seq (.reg [oO 5 (.mv (oK 0))])
 (.blk 2 (.loop (.seq (.seq (.reg [oM 15 5,
  oF 16 4 1,
  oL 17 16,
  oN 18 17,
  oO 19 (.bin .lss (.tmp 15) (.tmp 18))])
 (.cond (.tmp 19) .skip (.exit 2)))
 (.seq (.blk 3 (.seq (.reg [oO 6 (.mv (oK 0))])
 (.blk 4 (.loop (.seq (.seq (.reg [oM 22 6,
  oO 23 (.bin .lss (.tmp 22) (oK 3)),
  oM 24 23,
  oG 25 (.mv (.tmp 4)) 24 true,
  oG 26 (.mv (.tmp 5)) 24 true,
  oG 27 (.bin .neq (.tmp 25) (.tmp 26)) 24 true,
  oO 28 (.pick (.tmp 24) (.tmp 27) (.const (.bool false)))])
 (.cond (.tmp 28) .skip (.exit 4)))
 (.seq (.blk 5 (.seq (.reg [oF 31 4 1,
  oL 32 31,
  oM 33 4,
  oX 34 27 32 33,
  oO 35 (.loadn 27 (.tmp 34)),
  oM 36 6,
  ⟨some 37,.call (.func 198) [(.tmp 35),(.tmp 36)],none,.t⟩,
  oF 38 4 1,
  oL 39 38,
  oM 40 5,
  oX 41 27 39 40,
  oO 42 (.loadn 27 (.tmp 41)),
  oM 43 6,
  oO 44 (.call (.func 198) [(.tmp 42),(.tmp 43)]),
  oO 45 (.eqa false 9 (.tmp 37) (.tmp 44))])
 (.cond (.tmp 45) (.reg [oM 46 3,
  oM 47 4,
  oM 48 5,
  oM 49 6,
  oO 50 (.bslice 2 1 3 [.int .i64 0] [(0,1,(.tmp 47)),(1,1,(.tmp 48)),(2,1,(.tmp 49))]),
  oO 51 (.bslice 27 1 1 [.slice none 0 0] [(0,1,(.tmp 50))]),
  oO 52 (.app 27 1 24 (.tmp 46) (.tmp 51)),
  oM 3 52]) .skip)))
 (.reg [oM 29 6,
  oO 30 (.bin .add (.tmp 29) (oK 1)),
  oM 6 30])))))))
 (.reg [oM 20 5,
  oO 21 (.bin .add (.tmp 20) (oK 1)),
  oM 5 21])))))))
 (.reg [oM 13 4,
  oO 14 (.bin .add (.tmp 13) (oK 1)),
  oM 4 14]))))))
 (.seq (.reg [oM 53 3,
  oM 2 53])
 .ret))))⟩
theorem s156:compFn Try.prog Try.f156=some c156:=by kernel_rfl
def c157:XFn:=
 ⟨[.celln 10 5],
 (.seq (.reg [oO 5 (.box 26 (.tmp 0)),
  oO 10 (.alloc 26 [.int .i64 0,.int .i64 0,.int .i64 0,.int .i64 0,.slice none 0 0])])
 (.seq (.reg [oO 16 (.bslice 138 27 0 [.int .u8 0,.int .u8 0,.int .u8 0,.int .u8 0,.int .u8 0,.int .u8 0,.int .u8 0,.int .u8 0,.int .u8 0,.int .u8 0,.int .u8 0,.int .u8 0,.int .u8 0,.int .u8 0,.int .u8 0,.int .u8 0,.int .u8 0,.int .u8 0,.int .u8 0,.int .u8 0,.int .u8 0,.int .u8 0,.int .u8 0,.int .u8 0,.int .u8 0,.int .u8 0,.int .u8 0] []),
  oF 17 4 5,
  oL 18 17,
  oO 19 (.app 138 27 27 (.tmp 16) (.tmp 18)),
  oM 11 19])
 (.seq (.reg [oM 20 3,
  oO 21 (.bin .add (.tmp 20) (oK 1)),
  oO 22 (.bin .rem (.tmp 21) (oK 3)),
  oM 23 3,
  oO 24 (.bin .add (.tmp 23) (oK 2)),
  oO 25 (.bin .rem (.tmp 24) (oK 3)),
  oM 12 22,
  oM 13 25])
 (.seq (.reg [oM 26 11,
  oM 27 1,
  oX 28 27 26 27,
  oO 29 (.loadn 27 (.tmp 28)),
  oM 30 11,
  oM 31 2,
  oX 32 27 30 31,
  oO 33 (.loadn 27 (.tmp 32)),
  oO 14 (.boxn 138 27 (.tmp 29)),
  oO 15 (.boxn 138 27 (.tmp 33))])
 (.seq (.reg [oM 34 11,
  oM 35 1,
  oO 36 (.loadn 27 (.tmp 14)),
  oM 37 12,
  oF 38 0 5,
  oL 39 38,
  oO 40 (.loadn 27 (.tmp 14)),
  oM 41 12,
  ⟨some 42,.call (.func 198) [(.tmp 40),(.tmp 41)],none,.t⟩,
  oO 43 (.loadn 27 (.tmp 15)),
  oM 44 12,
  ⟨some 45,.call (.func 198) [(.tmp 43),(.tmp 44)],none,.t⟩,
  oM 46 4,
  ⟨some 47,.call (.func 279) [(.tmp 39),(.tmp 42),(.tmp 45),(.tmp 46)],none,.t⟩,
  oO 48 (.call (.func 268) [(.tmp 36),(.tmp 37),(.tmp 47)]),
  oX 49 27 34 35,
  oS (.store 27 (.tmp 49) (.tmp 48))])
 (.seq (.reg [oM 50 11,
  oM 51 2,
  oO 52 (.loadn 27 (.tmp 15)),
  oM 53 13,
  oF 54 0 5,
  oL 55 54,
  oO 56 (.loadn 27 (.tmp 15)),
  oM 57 13,
  ⟨some 58,.call (.func 198) [(.tmp 56),(.tmp 57)],none,.t⟩,
  oO 59 (.loadn 27 (.tmp 14)),
  oM 60 13,
  ⟨some 61,.call (.func 198) [(.tmp 59),(.tmp 60)],none,.t⟩,
  oM 62 4,
  oO 63 (.un .neg (.tmp 62)),
  ⟨some 64,.call (.func 279) [(.tmp 55),(.tmp 58),(.tmp 61),(.tmp 63)],none,.t⟩,
  oO 65 (.call (.func 268) [(.tmp 52),(.tmp 53),(.tmp 64)]),
  oX 66 27 50 51,
  oS (.store 27 (.tmp 66) (.tmp 65))])
 (.seq (.reg [oO 67 (.loadn 5 (.tmp 5)),
  oM 68 11,
  oO 69 (.call (.func 155) [(.tmp 67),(.tmp 68)]),
  oS (.store 5 (.tmp 10) (.tmp 69))])
 .ret)))))))⟩
theorem s157:compFn Try.prog Try.f157=some c157:=by kernel_rfl
def c161:XFn:=
 ⟨[.celln 2 5],
 (.seq (.reg [oO 1 (.box 26 (.tmp 0)),
  oO 2 (.alloc 36 [.int .i64 0,.int .i64 0,.int .i64 0,.int .i64 0,.slice none 0 0])])
 (.seq (.reg [oO 4 (.loadn 5 (.tmp 1)),
  oO 5 (.call (.func 271) [(.tmp 4)]),
  oO 3 (.alloc 158 [.int .i64 0,.int .i64 0,.int .i64 0]),
  oS (.store 3 (.tmp 3) (.tmp 5))])
 (.seq (.reg [oF 6 0 1,
  oL 7 6,
  oO 8 (.ixa 3 1 (.tmp 3) (oK 0)),
  oL 9 8,
  oO 10 (.ixa 3 1 (.tmp 3) (oK 1)),
  oL 11 10,
  oO 12 (.ixa 3 1 (.tmp 3) (oK 2)),
  oL 13 12,
  oO 14 (.mkf 284 [(.tmp 1)]),
  oO 15 (.call (.func 178) [(.tmp 7),(.tmp 9),(.tmp 11),(.tmp 13),(.tmp 14)]),
  oS (.store 5 (.tmp 2) (.tmp 15))])
 .ret)))⟩
theorem s161:compFn Try.prog Try.f161=some c161:=by kernel_rfl
def c166:XFn:=
 ⟨[.tmp 2],
 (.seq (.reg [oO 2 (.mv (.const (.bool false)))])
 (.seq (.reg [oM 3 0,
  oO 4 (.bin .eql (.tmp 3) (oK 2)),
  oM 5 4,
  oG 6 (.mv (.tmp 0)) 5 false,
  oG 7 (.bin .eql (.tmp 6) (oK 3)) 5 false,
  oO 8 (.pick (.tmp 5) (.const (.bool true)) (.tmp 7)),
  oM 9 8,
  oG 10 (.mv (.tmp 0)) 9 false,
  oG 11 (.bin .eql (.tmp 10) (oK 5)) 9 false,
  oO 12 (.pick (.tmp 9) (.const (.bool true)) (.tmp 11)),
  oM 2 12])
 .ret))⟩
theorem s166:compFn Try.prog Try.f166=some c166:=by kernel_rfl
def c167:XFn:=
 ⟨[.tmp 2],
 (.seq (.reg [oO 2 (.mv (.const (.bool false)))])
 (.seq (.seq (.reg [oM 5 0,
  oN 6 5,
  oO 7 (.mv (oK 0))])
 (.blk 0 (.loop (.seq (.reg [oO 8 (.bin .lss (.tmp 7) (.tmp 6))])
 (.seq (.cond (.tmp 8) .skip (.exit 0))
 (.seq (.blk 1 (.seq (.reg [oX 9 1 5 7,
  oL 10 9,
  oM 4 10])
 (.seq (.reg [oM 11 4,
  oO 12 (.bin .lss (.tmp 11) (oK 1)),
  oM 13 12,
  oG 14 (.mv (.tmp 4)) 13 false,
  oG 15 (.bin .gtr (.tmp 14) (oK 3)) 13 false,
  oO 16 (.pick (.tmp 13) (.const (.bool true)) (.tmp 15))])
 (.cond (.tmp 16) (.seq (.reg [oO 2 (.mv (.const (.bool false)))])
 .ret) .skip))))
 (.reg [oO 17 (.bin .add (.tmp 7) (oK 1)),
  oM 7 17])))))))
 (.seq (.reg [oO 2 (.mv (.const (.bool true)))])
 .ret)))⟩
theorem s167:compFn Try.prog Try.f167=some c167:=by kernel_rfl
def c175:XFn:=
 ⟨[.tmp 4],
 (.seq (.reg [oO 4 (.mv (oK 0))])
 (.seq (.seq (.reg [oM 5 0,
  oO 6 (.call (.func 148) [(.tmp 5),(oK 14)]),
  oO 7 (.bin .eql (.tmp 6) (oK 0))])
 (.cond (.tmp 7) (.seq (.reg [oM 8 0,
  oM 9 1,
  oO 10 (.bin .add (.tmp 9) (oK 1)),
  oO 11 (.bslice 2 1 4 [.int .i64 0] [(0,1,(.const (.int .i64 (-1)))),(1,1,(.tmp 10)),(2,1,(oK 1099511627776)),(3,1,(.const (.int .i64 (-4611686018427387904))))]),
  oO 12 (.call (.func 147) [(.tmp 8),(.tmp 11)]),
  oM 4 12])
 .ret) .skip))
 (.seq (.reg [oM 13 0,
  oM 14 1,
  oO 15 (.bin .add (.tmp 14) (oK 1)),
  oO 16 (.call (.func 148) [(.tmp 13),(.tmp 15)]),
  oM 4 16])
 .ret)))⟩
theorem s175:compFn Try.prog Try.f175=some c175:=by kernel_rfl
def c178:XFn:=
 ⟨[.celln 10 5],
 (.seq (.reg [oO 10 (.alloc 36 [.int .i64 0,.int .i64 0,.int .i64 0,.int .i64 0,.slice none 0 0])])
 (.seq (.reg [oM 15 0,
  oM 16 1,
  oM 17 2,
  oM 18 3,
  oO 19 (.build [.int .i64 0,.int .i64 0,.int .i64 0,.int .i64 0,.slice none 0 0] [(0,1,(.tmp 15)),(1,1,(.tmp 16)),(2,1,(.tmp 17)),(3,1,(.tmp 18))]),
  oO 11 (.alloc 36 [.int .i64 0,.int .i64 0,.int .i64 0,.int .i64 0,.slice none 0 0]),
  oS (.store 5 (.tmp 11) (.tmp 19))])
 (.seq (.seq (.reg [oM 20 1,
  oO 21 (.mv (oK 0))])
 (.blk 0 (.loop (.seq (.reg [oO 22 (.bin .lss (.tmp 21) (.tmp 20))])
 (.seq (.cond (.tmp 22) .skip (.exit 0))
 (.seq (.blk 1 (.seq (.reg [oM 23 21,
  oM 12 23])
 (.seq (.reg [oM 24 2,
  oO 25 (.mv (oK 0))])
 (.blk 2 (.loop (.seq (.reg [oO 26 (.bin .lss (.tmp 25) (.tmp 24))])
 (.seq (.cond (.tmp 26) .skip (.exit 2))
 (.seq (.blk 3 (.seq (.reg [oM 27 25,
  oM 13 27])
 (.seq (.reg [oM 28 3,
  oO 29 (.mv (oK 0))])
 (.blk 4 (.loop (.seq (.reg [oO 30 (.bin .lss (.tmp 29) (.tmp 28))])
 (.seq (.cond (.tmp 30) .skip (.exit 4))
 (.seq (.blk 5 (.seq (.reg [oM 31 29,
  oM 14 31])
 (.reg [oF 32 4 11,
  oL 33 32,
  oM 34 4,
  oM 35 12,
  oM 36 13,
  oM 37 14,
  ⟨some 38,.call (.tmp 34) [(.tmp 35),(.tmp 36),(.tmp 37)],none,.t⟩,
  oM 39 0,
  oO 40 (.bin .rem (.tmp 38) (.tmp 39)),
  oO 41 (.bslice 2 1 1 [.int .i64 0] [(0,1,(.tmp 40))]),
  oO 42 (.app 2 1 8 (.tmp 33) (.tmp 41)),
  oF 43 4 11,
  oS (.store 1 (.tmp 43) (.tmp 42))])))
 (.reg [oO 44 (.bin .add (.tmp 29) (oK 1)),
  oM 29 44])))))))))
 (.reg [oO 45 (.bin .add (.tmp 25) (oK 1)),
  oM 25 45])))))))))
 (.reg [oO 46 (.bin .add (.tmp 21) (oK 1)),
  oM 21 46])))))))
 (.seq (.reg [oO 47 (.loadn 5 (.tmp 11)),
  oS (.store 5 (.tmp 10) (.tmp 47))])
 .ret))))⟩
theorem s178:compFn Try.prog Try.f178=some c178:=by kernel_rfl
def c181:XFn:=
 ⟨[.tmp 6],
 (.seq (.reg [oO 6 (.mv (.const (.bool false)))])
 (.seq (.reg [oM 7 0,
  oM 8 1,
  oO 9 (.bin .geq (.tmp 7) (.tmp 8)),
  oM 10 9,
  oG 11 (.mv (.tmp 0)) 10 true,
  oG 12 (.mv (.tmp 2)) 10 true,
  oG 13 (.bin .leq (.tmp 11) (.tmp 12)) 10 true,
  oO 14 (.pick (.tmp 10) (.tmp 13) (.const (.bool false))),
  oM 6 14])
 .ret))⟩
theorem s181:compFn Try.prog Try.f181=some c181:=by kernel_rfl
def c195:XFn:=
 ⟨[.tmp 4],
 (.seq (.reg [oO 2 (.box 26 (.tmp 0)),
  oO 4 (.mv (.const (.bool false)))])
 (.seq (.seq (.reg [oM 7 1,
  oN 8 7,
  oO 9 (.mv (oK 0))])
 (.blk 0 (.loop (.seq (.reg [oO 10 (.bin .lss (.tmp 9) (.tmp 8))])
 (.seq (.cond (.tmp 10) .skip (.exit 0))
 (.seq (.blk 1 (.seq (.reg [oX 11 1 7 9,
  oL 12 11,
  oM 6 12])
 (.seq (.reg [oM 13 6,
  oO 14 (.bin .lss (.tmp 13) (oK 0)),
  oM 15 14,
  oG 16 (.mv (.tmp 6)) 15 false,
  oG 17 (.fadr 4 (.tmp 2)) 15 false,
  oG 18 (.load1 (.tmp 17)) 15 false,
  oG 19 (.len (.tmp 18)) 15 false,
  oG 20 (.bin .geq (.tmp 16) (.tmp 19)) 15 false,
  oO 21 (.pick (.tmp 15) (.const (.bool true)) (.tmp 20))])
 (.cond (.tmp 21) (.seq (.reg [oO 4 (.mv (.const (.bool false)))])
 .ret) .skip))))
 (.reg [oO 22 (.bin .add (.tmp 9) (oK 1)),
  oM 9 22])))))))
 (.seq (.reg [oO 4 (.mv (.const (.bool true)))])
 .ret)))⟩
theorem s195:compFn Try.prog Try.f195=some c195:=by kernel_rfl
def c196:XFn:=
 ⟨[.celln 2 27],
 (.seq (.reg [oO 1 (.box 138 (.tmp 0)),
  oO 2 (.alloc 172 [.int .u8 0,.int .u8 0,.int .u8 0,.int .u8 0,.int .u8 0,.int .u8 0,.int .u8 0,.int .u8 0,.int .u8 0,.int .u8 0,.int .u8 0,.int .u8 0,.int .u8 0,.int .u8 0,.int .u8 0,.int .u8 0,.int .u8 0,.int .u8 0,.int .u8 0,.int .u8 0,.int .u8 0,.int .u8 0,.int .u8 0,.int .u8 0,.int .u8 0,.int .u8 0,.int .u8 0])])
 (.seq (.reg [oF 3 0 1,
  oO 4 (.loadn 9 (.tmp 3)),
  oF 5 9 1,
  oO 6 (.loadn 9 (.tmp 5)),
  oF 7 18 1,
  oO 8 (.loadn 9 (.tmp 7)),
  oO 9 (.build [.int .u8 0,.int .u8 0,.int .u8 0,.int .u8 0,.int .u8 0,.int .u8 0,.int .u8 0,.int .u8 0,.int .u8 0,.int .u8 0,.int .u8 0,.int .u8 0,.int .u8 0,.int .u8 0,.int .u8 0,.int .u8 0,.int .u8 0,.int .u8 0,.int .u8 0,.int .u8 0,.int .u8 0,.int .u8 0,.int .u8 0,.int .u8 0,.int .u8 0,.int .u8 0,.int .u8 0] [(0,9,(.tmp 4)),(9,9,(.tmp 6)),(18,9,(.tmp 8))]),
  oS (.store 27 (.tmp 2) (.tmp 9))])
 .ret))⟩
theorem s196:compFn Try.prog Try.f196=some c196:=by kernel_rfl
def c197:XFn:=
 ⟨[.tmp 4],
 (.seq (.reg [oO 2 (.box 26 (.tmp 0)),
  oO 4 (.mv (.const (.bool false)))])
 (.seq (.seq (.reg [oO 5 (.mv (oK 0))])
 (.blk 0 (.loop (.seq (.seq (.reg [oM 6 5,
  oM 7 1,
  oN 8 7,
  oO 9 (.bin .lss (.tmp 6) (.tmp 8))])
 (.cond (.tmp 9) .skip (.exit 0)))
 (.seq (.blk 1 (.seq (.reg [oM 12 1,
  oM 13 5,
  oX 14 1 12 13,
  oL 15 14,
  oF 16 4 2,
  oL 17 16,
  oN 18 17,
  oO 19 (.bin .sub (.tmp 18) (oK 1)),
  oO 20 (.call (.func 181) [(.tmp 15),(oK 0),(.tmp 19)]),
  oO 21 (.un .not (.tmp 20))])
 (.cond (.tmp 21) (.seq (.reg [oO 4 (.mv (.const (.bool false)))])
 .ret) .skip)))
 (.reg [oM 10 5,
  oO 11 (.bin .add (.tmp 10) (oK 1)),
  oM 5 11]))))))
 (.seq (.reg [oO 4 (.mv (.const (.bool true)))])
 .ret)))⟩
theorem s197:compFn Try.prog Try.f197=some c197:=by kernel_rfl
def c198:XFn:=
 ⟨[.celln 4 9],
 (.seq (.reg [oO 2 (.box 138 (.tmp 0)),
  oO 4 (.alloc 136 [.int .u8 0,.int .u8 0,.int .u8 0,.int .u8 0,.int .u8 0,.int .u8 0,.int .u8 0,.int .u8 0,.int .u8 0])])
 (.seq (.seq (.reg [oM 5 1])
 (.blk 0 (.seq (.reg [oO 7 (.bin .eql (.tmp 5) (oK 0)),
  oM 6 7])
 (.cond (.tmp 6) (.seq (.reg [oF 8 0 2,
  oO 9 (.loadn 9 (.tmp 8)),
  oS (.store 9 (.tmp 4) (.tmp 9))])
 .ret) (.seq (.reg [oO 11 (.bin .eql (.tmp 5) (oK 1)),
  oM 10 11])
 (.cond (.tmp 10) (.seq (.reg [oF 12 9 2,
  oO 13 (.loadn 9 (.tmp 12)),
  oS (.store 9 (.tmp 4) (.tmp 13))])
 .ret) .skip))))))
 (.seq (.reg [oF 14 18 2,
  oO 15 (.loadn 9 (.tmp 14)),
  oS (.store 9 (.tmp 4) (.tmp 15))])
 .ret)))⟩
theorem s198:compFn Try.prog Try.f198=some c198:=by kernel_rfl
def c199:XFn:=
 ⟨[.tmp 4],
 (.seq (.reg [oO 2 (.box 26 (.tmp 0)),
  oO 3 (.box 26 (.tmp 1)),
  oO 4 (.mv (oK 0))])
 (.seq (.blk 0 (.seq (.reg [oO 6 (.loadn 5 (.tmp 2)),
  oO 7 (.loadn 5 (.tmp 3)),
  oO 8 (.bslice 26 5 2 [.int .i64 0,.int .i64 0,.int .i64 0,.int .i64 0,.slice none 0 0] [(0,5,(.tmp 6)),(5,5,(.tmp 7))]),
  oO 9 (.call (.func 256) [(.tmp 8)]),
  oO 10 (.un .not (.tmp 9)),
  oM 5 10])
 (.cond (.tmp 5) (.seq (.reg [oO 4 (.mv (oK 1))])
 .ret) (.seq (.reg [oF 12 0 2,
  oL 13 12,
  oF 14 0 3,
  oL 15 14,
  oO 16 (.bin .neq (.tmp 13) (.tmp 15)),
  oM 17 16,
  oG 18 (.fadr 1 (.tmp 2)) 17 false,
  oG 19 (.load1 (.tmp 18)) 17 false,
  oG 20 (.fadr 1 (.tmp 3)) 17 false,
  oG 21 (.load1 (.tmp 20)) 17 false,
  oG 22 (.bin .neq (.tmp 19) (.tmp 21)) 17 false,
  oO 23 (.pick (.tmp 17) (.const (.bool true)) (.tmp 22)),
  oM 24 23,
  oG 25 (.fadr 2 (.tmp 2)) 24 false,
  oG 26 (.load1 (.tmp 25)) 24 false,
  oG 27 (.fadr 2 (.tmp 3)) 24 false,
  oG 28 (.load1 (.tmp 27)) 24 false,
  oG 29 (.bin .neq (.tmp 26) (.tmp 28)) 24 false,
  oO 30 (.pick (.tmp 24) (.const (.bool true)) (.tmp 29)),
  oM 31 30,
  oG 32 (.fadr 3 (.tmp 2)) 31 false,
  oG 33 (.load1 (.tmp 32)) 31 false,
  oG 34 (.fadr 3 (.tmp 3)) 31 false,
  oG 35 (.load1 (.tmp 34)) 31 false,
  oG 36 (.bin .neq (.tmp 33) (.tmp 35)) 31 false,
  oO 37 (.pick (.tmp 31) (.const (.bool true)) (.tmp 36)),
  oM 11 37])
 (.cond (.tmp 11) (.seq (.reg [oO 4 (.mv (oK 2))])
 .ret) .skip)))))
 (.seq (.reg [oO 4 (.mv (oK 0))])
 .ret)))⟩
theorem s199:compFn Try.prog Try.f199=some c199:=by kernel_rfl
def c200:XFn:=
 ⟨[.tmp 4],
 (.seq (.reg [oO 4 (.mv (.const (.bool false)))])
 (.seq (.seq (.reg [oM 6 0,
  oN 7 6,
  oM 8 1,
  oN 9 8,
  oO 10 (.bin .neq (.tmp 7) (.tmp 9))])
 (.cond (.tmp 10) (.seq (.reg [oO 4 (.mv (.const (.bool false)))])
 .ret) .skip))
 (.seq (.seq (.reg [oM 11 0,
  oN 12 11,
  oO 13 (.mv (oK 0))])
 (.blk 0 (.loop (.seq (.reg [oO 14 (.bin .lss (.tmp 13) (.tmp 12))])
 (.seq (.cond (.tmp 14) .skip (.exit 0))
 (.seq (.blk 1 (.seq (.reg [oM 15 13,
  oM 5 15])
 (.seq (.reg [oM 16 0,
  oM 17 5,
  oX 18 1 16 17,
  oL 19 18,
  oM 20 1,
  oM 21 5,
  oX 22 1 20 21,
  oL 23 22,
  oO 24 (.bin .neq (.tmp 19) (.tmp 23))])
 (.cond (.tmp 24) (.seq (.reg [oO 4 (.mv (.const (.bool false)))])
 .ret) .skip))))
 (.reg [oO 25 (.bin .add (.tmp 13) (oK 1)),
  oM 13 25])))))))
 (.seq (.reg [oO 4 (.mv (.const (.bool true)))])
 .ret))))⟩
theorem s200:compFn Try.prog Try.f200=some c200:=by kernel_rfl
def tab1:List (Nat×XFn):=[(5,c5),(13,c13),(14,c14),(15,c15),(16,c16),(20,c20),(40,c40),(41,c41),(42,c42),(43,c43),(44,c44),(45,c45),(46,c46),(47,c47),(48,c48),(145,c145),(146,c146),(147,c147),(148,c148),(149,c149),(150,c150),(151,c151),(152,c152),(153,c153),(154,c154),(155,c155),(156,c156),(157,c157),(161,c161),(166,c166),(167,c167),(175,c175),(178,c178),(181,c181),(195,c195),(196,c196),(197,c197),(198,c198),(199,c199),(200,c200)]
theorem ts1:TSound Try.prog (fun g=>tab1.lookup g):=by
 refine tsound_of_all (P:=Try.prog) (tab:=tab1) ?_
 intro p hp
 simp only[tab1,List.mem_cons,List.not_mem_nil,or_false] at hp
 rcases hp with rfl|rfl|rfl|rfl|rfl|rfl|rfl|rfl|rfl|rfl|rfl|rfl|rfl|rfl|rfl|rfl|rfl|rfl|rfl|rfl|rfl|rfl|rfl|rfl|rfl|rfl|rfl|rfl|rfl|rfl|rfl|rfl|rfl|rfl|rfl|rfl|rfl|rfl|rfl|rfl
 ·exact⟨_,Try.func5,s5⟩
 ·exact⟨_,Try.func13,s13⟩
 ·exact⟨_,Try.func14,s14⟩
 ·exact⟨_,Try.func15,s15⟩
 ·exact⟨_,Try.func16,s16⟩
 ·exact⟨_,Try.func20,s20⟩
 ·exact⟨_,Try.func40,s40⟩
 ·exact⟨_,Try.func41,s41⟩
 ·exact⟨_,Try.func42,s42⟩
 ·exact⟨_,Try.func43,s43⟩
 ·exact⟨_,Try.func44,s44⟩
 ·exact⟨_,Try.func45,s45⟩
 ·exact⟨_,Try.func46,s46⟩
 ·exact⟨_,Try.func47,s47⟩
 ·exact⟨_,Try.func48,s48⟩
 ·exact⟨_,Try.func145,s145⟩
 ·exact⟨_,Try.func146,s146⟩
 ·exact⟨_,Try.func147,s147⟩
 ·exact⟨_,Try.func148,s148⟩
 ·exact⟨_,Try.func149,s149⟩
 ·exact⟨_,Try.func150,s150⟩
 ·exact⟨_,Try.func151,s151⟩
 ·exact⟨_,Try.func152,s152⟩
 ·exact⟨_,Try.func153,s153⟩
 ·exact⟨_,Try.func154,s154⟩
 ·exact⟨_,Try.func155,s155⟩
 ·exact⟨_,Try.func156,s156⟩
 ·exact⟨_,Try.func157,s157⟩
 ·exact⟨_,Try.func161,s161⟩
 ·exact⟨_,Try.func166,s166⟩
 ·exact⟨_,Try.func167,s167⟩
 ·exact⟨_,Try.func175,s175⟩
 ·exact⟨_,Try.func178,s178⟩
 ·exact⟨_,Try.func181,s181⟩
 ·exact⟨_,Try.func195,s195⟩
 ·exact⟨_,Try.func196,s196⟩
 ·exact⟨_,Try.func197,s197⟩
 ·exact⟨_,Try.func198,s198⟩
 ·exact⟨_,Try.func199,s199⟩
 ·exact⟨_,Try.func200,s200⟩
end Go.Proofs.Ytapafdpnmakekaa.X
