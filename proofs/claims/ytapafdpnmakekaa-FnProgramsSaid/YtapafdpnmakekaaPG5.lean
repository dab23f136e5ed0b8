/- Texts of one claim, put together by merge.py: XCode2. -/
import Derived.Test.YtapafdpnmakekaaPG3
import Derived.Test.YtapafdpnmakekaaProg
set_option linter.unusedVariables false
set_option maxRecDepth 4000
namespace Go.Proofs.Ytapafdpnmakekaa.X
open Go Go.RowKit
def c203:XFn:=
 ⟨[.celln 6 4],
 (.seq (.reg [oO 6 (.alloc 70 [.int .i64 0,.int .i64 0,.slice none 0 0,.slice none 0 0])])
 (.seq (.reg [oM 24 0,
  oM 25 1,
  oO 26 (.build [.int .i64 0,.int .i64 0,.slice none 0 0,.slice none 0 0] [(0,1,(.tmp 24)),(1,1,(.tmp 25))]),
  oM 27 1,
  oO 28 (.mks 246 5 20 [.int .u32 0,.int .u32 0,.int .u32 0,.int .u32 0,.int .u32 0] (.tmp 27)),
  oM 8 28,
  oO 7 (.boxn 70 4 (.tmp 26))])
 (.seq (.seq (.reg [oM 29 2,
  oN 30 29,
  oO 31 (.mv (oK 0))])
 (.blk 0 (.loop (.seq (.reg [oO 32 (.bin .lss (.tmp 31) (.tmp 30))])
 (.seq (.cond (.tmp 32) .skip (.exit 0))
 (.seq (.blk 1 (.seq (.reg [oM 33 31,
  oX 34 1 29 31,
  oL 35 34,
  oM 9 33,
  oM 10 35])
 (.seq (.reg [oM 36 10,
  oN 37 36,
  oO 38 (.mv (oK 0))])
 (.blk 2 (.loop (.seq (.reg [oO 39 (.bin .lss (.tmp 38) (.tmp 37))])
 (.seq (.cond (.tmp 39) .skip (.exit 2))
 (.seq (.blk 3 (.seq (.reg [oM 40 38,
  oX 41 1 36 38,
  oL 42 41,
  oM 11 40,
  oM 12 42])
 (.reg [oM 43 8,
  oM 44 11,
  oM 45 12,
  oX 46 5 43 44,
  oO 47 (.ixa 5 1 (.tmp 46) (.tmp 45)),
  oL 48 47,
  oM 49 9,
  oO 50 (.bin .shl (.const (.int .u32 1)) (.tmp 49)),
  oO 51 (.bin .or (.tmp 48) (.tmp 50)),
  oX 52 5 43 44,
  oO 53 (.ixa 5 1 (.tmp 52) (.tmp 45)),
  oS (.store 1 (.tmp 53) (.tmp 51))])))
 (.reg [oO 54 (.bin .add (.tmp 38) (oK 1)),
  oM 38 54])))))))))
 (.reg [oO 55 (.bin .add (.tmp 31) (oK 1)),
  oM 31 55])))))))
 (.seq (.blk 4 (.loop (.blk 5 (.seq (.reg [oM 57 0,
  oM 58 8,
  oO 59 (.call (.func 294) [(.tmp 57),(.tmp 58)]),
  oM 56 59,
  oE 60 56 0,
  oE 61 56 1,
  oO 13 (.alloc 248 [.int .i64 0,.int .i64 0,.int .i64 0]),
  oS (.store 3 (.tmp 13) (.tmp 60)),
  oM 14 61])
 (.seq (.seq (.reg [oM 62 14,
  oO 63 (.un .not (.tmp 62))])
 (.cond (.tmp 63) (.exit 4) .skip))
 (.seq (.reg [oM 64 0,
  oM 65 8,
  oF 66 0 13,
  oL 67 66,
  oX 68 5 65 67,
  oO 69 (.loadn 5 (.tmp 68)),
  oM 70 8,
  oF 71 1 13,
  oL 72 71,
  oX 73 5 70 72,
  oO 74 (.loadn 5 (.tmp 73)),
  oF 75 2 13,
  oL 76 75,
  oO 77 (.call (.func 295) [(.tmp 64),(.tmp 69),(.tmp 74),(.tmp 76)]),
  oO 78 (.build [.int .u32 0,.int .u32 0,.int .u32 0,.int .u32 0,.int .u32 0] []),
  oM 15 77,
  oO 16 (.boxn 246 5 (.tmp 78))])
 (.seq (.seq (.reg [oO 17 (.mv (oK 1))])
 (.blk 6 (.loop (.seq (.seq (.reg [oM 79 17,
  oM 80 0,
  oO 81 (.bin .lss (.tmp 79) (.tmp 80))])
 (.cond (.tmp 81) .skip (.exit 6)))
 (.seq (.blk 7 (.seq (.reg [oM 84 17,
  oM 85 8,
  oF 86 0 13,
  oL 87 86,
  oM 88 17,
  oX 89 5 85 87,
  oO 90 (.ixa 5 1 (.tmp 89) (.tmp 88)),
  oL 91 90,
  oM 92 15,
  oO 93 (.bin .and (.tmp 91) (.tmp 92)),
  oO 94 (.ixa 5 1 (.tmp 16) (.tmp 84)),
  oS (.store 1 (.tmp 94) (.tmp 93))])
 (.seq (.reg [oM 95 8,
  oF 96 0 13,
  oL 97 96,
  oM 98 17,
  oX 99 5 95 97,
  oO 100 (.ixa 5 1 (.tmp 99) (.tmp 98)),
  oL 101 100,
  oM 102 15,
  oO 103 (.bin .andNot (.tmp 101) (.tmp 102)),
  oX 104 5 95 97,
  oO 105 (.ixa 5 1 (.tmp 104) (.tmp 98)),
  oS (.store 1 (.tmp 105) (.tmp 103))])
 (.reg [oM 106 8,
  oF 107 1 13,
  oL 108 107,
  oM 109 17,
  oX 110 5 106 108,
  oO 111 (.ixa 5 1 (.tmp 110) (.tmp 109)),
  oL 112 111,
  oM 113 15,
  oO 114 (.bin .andNot (.tmp 112) (.tmp 113)),
  oX 115 5 106 108,
  oO 116 (.ixa 5 1 (.tmp 115) (.tmp 109)),
  oS (.store 1 (.tmp 116) (.tmp 114))]))))
 (.reg [oM 82 17,
  oO 83 (.bin .add (.tmp 82) (oK 1)),
  oM 17 83]))))))
 (.seq (.reg [oM 117 8,
  oO 118 (.loadn 5 (.tmp 16)),
  oO 119 (.bslice 246 5 1 [.int .u32 0,.int .u32 0,.int .u32 0,.int .u32 0,.int .u32 0] [(0,5,(.tmp 118))]),
  oO 120 (.app 246 5 20 (.tmp 117) (.tmp 119)),
  oM 8 120])
 (.reg [oF 121 2 7,
  oL 122 121,
  oF 123 0 13,
  oL 124 123,
  oF 125 1 13,
  oL 126 125,
  oF 127 2 13,
  oL 128 127,
  oO 129 (.build [.int .i64 0,.int .i64 0,.int .i64 0] [(0,1,(.tmp 124)),(1,1,(.tmp 126)),(2,1,(.tmp 128))]),
  oO 130 (.bslice 181 3 1 [.int .i64 0,.int .i64 0,.int .i64 0] [(0,3,(.tmp 129))]),
  oO 131 (.app 181 3 24 (.tmp 122) (.tmp 130)),
  oF 132 2 7,
  oS (.store 1 (.tmp 132) (.tmp 131))])))))))))
 (.seq (.reg [oO 133 (.bslice 27 1 0 [.slice none 0 0] []),
  oM 18 133])
 (.seq (.seq (.reg [oM 134 2,
  oN 135 134,
  oO 136 (.mv (oK 0))])
 (.blk 8 (.loop (.seq (.reg [oO 137 (.bin .lss (.tmp 136) (.tmp 135))])
 (.seq (.cond (.tmp 137) .skip (.exit 8))
 (.seq (.blk 9 (.seq (.reg [oM 138 136,
  oM 19 138])
 (.seq (.reg [oM 139 8,
  oN 140 139,
  oO 141 (.mks 2 1 8 [.int .i64 0] (.tmp 140)),
  oM 20 141])
 (.seq (.seq (.reg [oM 142 8,
  oN 143 142,
  oO 144 (.mv (oK 0))])
 (.blk 10 (.loop (.seq (.reg [oO 145 (.bin .lss (.tmp 144) (.tmp 143))])
 (.seq (.cond (.tmp 145) .skip (.exit 10))
 (.seq (.blk 11 (.seq (.reg [oM 146 144,
  oX 147 5 142 144,
  oO 148 (.loadn 5 (.tmp 147)),
  oO 22 (.alloc 246 [.int .u32 0,.int .u32 0,.int .u32 0,.int .u32 0,.int .u32 0]),
  oM 21 146,
  oS (.store 5 (.tmp 22) (.tmp 148))])
 (.seq (.reg [oO 23 (.mv (oK 1))])
 (.blk 12 (.loop (.seq (.seq (.reg [oM 149 23,
  oM 150 0,
  oO 151 (.bin .lss (.tmp 149) (.tmp 150))])
 (.cond (.tmp 151) .skip (.exit 12)))
 (.seq (.blk 13 (.seq (.reg [oM 154 23,
  oO 155 (.ixa 5 1 (.tmp 22) (.tmp 154)),
  oL 156 155,
  oM 157 19,
  oO 158 (.bin .shr (.tmp 156) (.tmp 157)),
  oO 159 (.bin .and (.tmp 158) (.const (.int .u32 1))),
  oO 160 (.bin .eql (.tmp 159) (.const (.int .u32 1)))])
 (.cond (.tmp 160) (.reg [oM 161 20,
  oM 162 21,
  oM 163 23,
  oX 164 1 161 162,
  oS (.store 1 (.tmp 164) (.tmp 163))]) .skip)))
 (.reg [oM 152 23,
  oO 153 (.bin .add (.tmp 152) (oK 1)),
  oM 23 153]))))))))
 (.reg [oO 165 (.bin .add (.tmp 144) (oK 1)),
  oM 144 165])))))))
 (.reg [oM 166 18,
  oM 167 20,
  oO 168 (.bslice 27 1 1 [.slice none 0 0] [(0,1,(.tmp 167))]),
  oO 169 (.app 27 1 24 (.tmp 166) (.tmp 168)),
  oM 18 169])))))
 (.reg [oO 170 (.bin .add (.tmp 136) (oK 1)),
  oM 136 170])))))))
 (.seq (.reg [oO 171 (.loadn 4 (.tmp 7)),
  oM 172 18,
  oO 173 (.call (.func 206) [(.tmp 171),(.tmp 172)]),
  oS (.store 4 (.tmp 6) (.tmp 173))])
 .ret)))))))⟩
theorem s203:compFn Try.prog Try.f203=some c203:=by kernel_rfl
def c204:XFn:=
 ⟨[.tmp 6],
 (.seq (.reg [oO 6 (.mv (oK 0))])
 (.seq (.seq (.reg [oM 8 0,
  oO 9 (.call (.func 224) [(.tmp 8)]),
  oO 10 (.un .not (.tmp 9)),
  oM 11 10,
  oG 12 (.mv (.tmp 1)) 11 false,
  oG 13 (.call (.func 181) [(.tmp 12),(oK 1),(oK 30)]) 11 false,
  oG 14 (.un .not (.tmp 13)) 11 false,
  oO 15 (.pick (.tmp 11) (.const (.bool true)) (.tmp 14)),
  oM 16 15,
  oG 17 (.mv (.tmp 2)) 16 false,
  oG 18 (.len (.tmp 17)) 16 false,
  oG 19 (.bin .lss (.tmp 18) (oK 1)) 16 false,
  oO 20 (.pick (.tmp 16) (.const (.bool true)) (.tmp 19)),
  oM 21 20,
  oG 22 (.mv (.tmp 2)) 21 false,
  oG 23 (.len (.tmp 22)) 21 false,
  oG 24 (.bin .gtr (.tmp 23) (oK 30)) 21 false,
  oO 25 (.pick (.tmp 21) (.const (.bool true)) (.tmp 24))])
 (.cond (.tmp 25) (.seq (.reg [oO 6 (.mv (oK 2))])
 .ret) .skip))
 (.seq (.seq (.reg [oO 7 (.mv (oK 0))])
 (.blk 0 (.loop (.seq (.seq (.reg [oM 26 7,
  oM 27 2,
  oN 28 27,
  oO 29 (.bin .lss (.tmp 26) (.tmp 28))])
 (.cond (.tmp 29) .skip (.exit 0)))
 (.seq (.blk 1 (.seq (.reg [oM 32 0,
  oM 33 2,
  oM 34 7,
  oX 35 1 33 34,
  oL 36 35,
  oM 37 1,
  oO 38 (.call (.func 251) [(.tmp 32),(.tmp 36),(.tmp 37)]),
  oO 39 (.un .not (.tmp 38))])
 (.cond (.tmp 39) (.seq (.reg [oO 6 (.mv (oK 2))])
 .ret) .skip)))
 (.reg [oM 30 7,
  oO 31 (.bin .add (.tmp 30) (oK 1)),
  oM 7 31]))))))
 (.seq (.reg [oO 6 (.mv (oK 0))])
 .ret))))⟩
theorem s204:compFn Try.prog Try.f204=some c204:=by kernel_rfl
def c205:XFn:=
 ⟨[.celln 6 4],
 (.seq (.reg [oO 6 (.alloc 70 [.int .i64 0,.int .i64 0,.slice none 0 0,.slice none 0 0])])
 (.seq (.reg [oM 17 0,
  oM 18 1,
  oO 19 (.bslice 181 3 0 [.int .i64 0,.int .i64 0,.int .i64 0] []),
  oO 20 (.bslice 183 2 0 [.int .i64 0,.int .i64 0] []),
  oO 21 (.build [.int .i64 0,.int .i64 0,.slice none 0 0,.slice none 0 0] [(0,1,(.tmp 17)),(1,1,(.tmp 18)),(2,1,(.tmp 19)),(3,1,(.tmp 20))]),
  oO 22 (.bslice 27 1 0 [.slice none 0 0] []),
  oO 7 (.alloc 70 [.int .i64 0,.int .i64 0,.slice none 0 0,.slice none 0 0]),
  oS (.store 4 (.tmp 7) (.tmp 21)),
  oM 8 22])
 (.seq (.seq (.reg [oO 9 (.mv (oK 0))])
 (.blk 0 (.loop (.seq (.seq (.reg [oM 23 9,
  oM 24 2,
  oN 25 24,
  oO 26 (.bin .lss (.tmp 23) (.tmp 25))])
 (.cond (.tmp 26) .skip (.exit 0)))
 (.seq (.blk 1 (.reg [oM 29 8,
  oM 30 2,
  oM 31 9,
  oX 32 1 30 31,
  oL 33 32,
  oO 34 (.call (.func 264) [(.tmp 33)]),
  oO 35 (.bslice 27 1 1 [.slice none 0 0] [(0,1,(.tmp 34))]),
  oO 36 (.app 27 1 24 (.tmp 29) (.tmp 35)),
  oM 8 36]))
 (.reg [oM 27 9,
  oO 28 (.bin .add (.tmp 27) (oK 1)),
  oM 9 28]))))))
 (.seq (.blk 2 (.loop (.blk 3 (.seq (.reg [oM 38 0,
  oM 39 8,
  oO 40 (.call (.func 296) [(.tmp 38),(.tmp 39)]),
  oM 37 40,
  oE 41 37 0,
  oE 42 37 1,
  oO 10 (.alloc 181 [.int .i64 0,.int .i64 0,.int .i64 0]),
  oS (.store 3 (.tmp 10) (.tmp 41)),
  oM 11 42])
 (.seq (.seq (.reg [oM 43 11,
  oO 44 (.bin .lss (.tmp 43) (oK 2))])
 (.cond (.tmp 44) (.exit 2) .skip))
 (.seq (.reg [oF 45 2 7,
  oL 46 45,
  oO 47 (.loadn 3 (.tmp 10)),
  oO 48 (.bslice 181 3 1 [.int .i64 0,.int .i64 0,.int .i64 0] [(0,3,(.tmp 47))]),
  oO 49 (.app 181 3 24 (.tmp 46) (.tmp 48)),
  oF 50 2 7,
  oS (.store 1 (.tmp 50) (.tmp 49))])
 (.seq (.reg [oO 12 (.mv (oK 0))])
 (.blk 4 (.loop (.seq (.seq (.reg [oM 51 12,
  oM 52 8,
  oN 53 52,
  oO 54 (.bin .lss (.tmp 51) (.tmp 53))])
 (.cond (.tmp 54) .skip (.exit 4)))
 (.seq (.blk 5 (.seq (.reg [oM 57 8,
  oM 58 12,
  oX 59 1 57 58,
  oL 60 59,
  oM 13 60,
  oO 14 (.mv (oK 0))])
 (.seq (.seq (.reg [oM 61 13,
  oF 62 0 10,
  oL 63 62,
  oX 64 1 61 63,
  oL 65 64,
  oM 15 65])
 (.seq (.reg [oM 66 15,
  oO 67 (.bin .neq (.tmp 66) (oK 0)),
  oM 68 67,
  oG 69 (.mv (.tmp 13)) 68 true,
  oG 70 (.fadr 1 (.tmp 10)) 68 true,
  oG 71 (.load1 (.tmp 70)) 68 true,
  oG 72 (.ixs 1 (.tmp 69) (.tmp 71)) 68 true,
  oG 73 (.load1 (.tmp 72)) 68 true,
  oG 74 (.mv (.tmp 15)) 68 true,
  oG 75 (.fadr 2 (.tmp 10)) 68 true,
  oG 76 (.load1 (.tmp 75)) 68 true,
  oG 77 (.bin .mul (.tmp 74) (.tmp 76)) 68 true,
  oG 78 (.mv (.tmp 0)) 68 true,
  oG 79 (.bin .rem (.tmp 77) (.tmp 78)) 68 true,
  oG 80 (.bin .eql (.tmp 73) (.tmp 79)) 68 true,
  oO 81 (.pick (.tmp 68) (.tmp 80) (.const (.bool false)))])
 (.cond (.tmp 81) (.seq (.reg [oM 82 15,
  oM 14 82])
 (.seq (.reg [oM 83 13,
  oF 84 0 10,
  oL 85 84,
  oX 86 1 83 85,
  oS (.store 1 (.tmp 86) (oK 0))])
 (.reg [oM 87 13,
  oF 88 1 10,
  oL 89 88,
  oX 90 1 87 89,
  oS (.store 1 (.tmp 90) (oK 0))]))) .skip)))
 (.reg [oM 91 8,
  oM 92 12,
  oM 93 13,
  oM 94 14,
  oO 95 (.bslice 2 1 1 [.int .i64 0] [(0,1,(.tmp 94))]),
  oO 96 (.app 2 1 8 (.tmp 93) (.tmp 95)),
  oX 97 1 91 92,
  oS (.store 1 (.tmp 97) (.tmp 96))]))))
 (.reg [oM 55 12,
  oO 56 (.bin .add (.tmp 55) (oK 1)),
  oM 12 56]))))))))))))
 (.seq (.seq (.reg [oO 16 (.mv (oK 0))])
 (.blk 6 (.loop (.seq (.seq (.reg [oM 98 16,
  oM 99 8,
  oN 100 99,
  oO 101 (.bin .lss (.tmp 98) (.tmp 100))])
 (.cond (.tmp 101) .skip (.exit 6)))
 (.seq (.blk 7 (.reg [oO 104 (.loadn 4 (.tmp 7)),
  oM 105 8,
  oM 106 16,
  oX 107 1 105 106,
  oL 108 107,
  oO 109 (.call (.func 297) [(.tmp 104),(.tmp 108)]),
  oS (.store 4 (.tmp 7) (.tmp 109))]))
 (.reg [oM 102 16,
  oO 103 (.bin .add (.tmp 102) (oK 1)),
  oM 16 103]))))))
 (.seq (.reg [oO 110 (.loadn 4 (.tmp 7)),
  oS (.store 4 (.tmp 6) (.tmp 110))])
 .ret))))))⟩
theorem s205:compFn Try.prog Try.f205=some c205:=by kernel_rfl
def c206:XFn:=
 ⟨[.celln 4 4],
 (.seq (.reg [oO 2 (.box 70 (.tmp 0)),
  oO 4 (.alloc 70 [.int .i64 0,.int .i64 0,.slice none 0 0,.slice none 0 0])])
 (.seq (.seq (.reg [oM 10 1,
  oN 11 10,
  oO 12 (.mv (oK 0))])
 (.blk 0 (.loop (.seq (.reg [oO 13 (.bin .lss (.tmp 12) (.tmp 11))])
 (.seq (.cond (.tmp 13) .skip (.exit 0))
 (.seq (.blk 1 (.seq (.reg [oX 14 1 10 12,
  oL 15 14,
  oM 6 15])
 (.seq (.reg [oO 16 (.build [.int .i64 0,.int .i64 0] []),
  oO 7 (.alloc 183 [.int .i64 0,.int .i64 0]),
  oS (.store 2 (.tmp 7) (.tmp 16))])
 (.seq (.seq (.reg [oM 17 6,
  oN 18 17,
  oO 19 (.mv (oK 0))])
 (.blk 2 (.loop (.seq (.reg [oO 20 (.bin .lss (.tmp 19) (.tmp 18))])
 (.seq (.cond (.tmp 20) .skip (.exit 2))
 (.seq (.blk 3 (.seq (.reg [oM 21 19,
  oX 22 1 17 19,
  oL 23 22,
  oM 8 21,
  oM 9 23])
 (.blk 4 (.seq (.reg [oM 52 9,
  oO 53 (.bin .eql (.tmp 52) (oK 0)),
  oM 51 53])
 (.cond (.tmp 51) .skip (.seq (.reg [oF 55 1 7,
  oL 56 55,
  oO 57 (.bin .eql (.tmp 56) (oK 0)),
  oM 54 57])
 (.cond (.tmp 54) (.reg [oM 58 8,
  oM 59 9,
  oO 60 (.build [.int .i64 0,.int .i64 0] [(0,1,(.tmp 58)),(1,1,(.tmp 59))]),
  oS (.store 2 (.tmp 7) (.tmp 60))]) (.seq (.reg [oF 24 2 2,
  oL 25 24,
  oF 26 0 7,
  oL 27 26,
  oM 28 8,
  oM 29 9,
  oF 30 0 2,
  oL 31 30,
  oF 32 1 7,
  oL 33 32,
  ⟨some 34,.call (.func 243) [(.tmp 31),(.tmp 33)],none,.t⟩,
  oO 35 (.bin .mul (.tmp 29) (.tmp 34)),
  oF 36 0 2,
  oL 37 36,
  oO 38 (.bin .rem (.tmp 35) (.tmp 37)),
  oO 39 (.build [.int .i64 0,.int .i64 0,.int .i64 0] [(0,1,(.tmp 27)),(1,1,(.tmp 28)),(2,1,(.tmp 38))]),
  oO 40 (.bslice 181 3 1 [.int .i64 0,.int .i64 0,.int .i64 0] [(0,3,(.tmp 39))]),
  oO 41 (.app 181 3 24 (.tmp 25) (.tmp 40)),
  oF 42 2 2,
  oS (.store 1 (.tmp 42) (.tmp 41))])
 (.reg [oF 43 1 2,
  oL 44 43,
  oF 45 2 2,
  oL 46 45,
  oN 47 46,
  oO 48 (.bin .add (.tmp 44) (.tmp 47)),
  oO 49 (.bin .sub (.tmp 48) (oK 1)),
  oF 50 0 7,
  oS (.store 1 (.tmp 50) (.tmp 49))])))))))))
 (.reg [oO 61 (.bin .add (.tmp 19) (oK 1)),
  oM 19 61])))))))
 (.reg [oF 62 3 2,
  oL 63 62,
  oO 64 (.loadn 2 (.tmp 7)),
  oO 65 (.bslice 183 2 1 [.int .i64 0,.int .i64 0] [(0,2,(.tmp 64))]),
  oO 66 (.app 183 2 16 (.tmp 63) (.tmp 65)),
  oF 67 3 2,
  oS (.store 1 (.tmp 67) (.tmp 66))])))))
 (.reg [oO 68 (.bin .add (.tmp 12) (oK 1)),
  oM 12 68])))))))
 (.seq (.reg [oO 69 (.loadn 4 (.tmp 2)),
  oS (.store 4 (.tmp 4) (.tmp 69))])
 .ret)))⟩
theorem s206:compFn Try.prog Try.f206=some c206:=by kernel_rfl
def c207:XFn:=
 ⟨[.celln 6 4],
 (.seq (.reg [oO 6 (.alloc 70 [.int .i64 0,.int .i64 0,.slice none 0 0,.slice none 0 0])])
 (.seq (.reg [oM 9 0,
  oM 10 1,
  oO 11 (.bslice 181 3 0 [.int .i64 0,.int .i64 0,.int .i64 0] []),
  oO 12 (.bslice 183 2 0 [.int .i64 0,.int .i64 0] []),
  oO 13 (.build [.int .i64 0,.int .i64 0,.slice none 0 0,.slice none 0 0] [(0,1,(.tmp 9)),(1,1,(.tmp 10)),(2,1,(.tmp 11)),(3,1,(.tmp 12))]),
  oO 7 (.alloc 70 [.int .i64 0,.int .i64 0,.slice none 0 0,.slice none 0 0]),
  oS (.store 4 (.tmp 7) (.tmp 13))])
 (.seq (.seq (.reg [oO 8 (.mv (oK 0))])
 (.blk 0 (.loop (.seq (.seq (.reg [oM 14 8,
  oM 15 2,
  oN 16 15,
  oO 17 (.bin .lss (.tmp 14) (.tmp 16))])
 (.cond (.tmp 17) .skip (.exit 0)))
 (.seq (.blk 1 (.reg [oO 20 (.loadn 4 (.tmp 7)),
  oM 21 2,
  oM 22 8,
  oX 23 1 21 22,
  oL 24 23,
  oO 25 (.call (.func 297) [(.tmp 20),(.tmp 24)]),
  oS (.store 4 (.tmp 7) (.tmp 25))]))
 (.reg [oM 18 8,
  oO 19 (.bin .add (.tmp 18) (oK 1)),
  oM 8 19]))))))
 (.seq (.reg [oO 26 (.loadn 4 (.tmp 7)),
  oS (.store 4 (.tmp 6) (.tmp 26))])
 .ret))))⟩
theorem s207:compFn Try.prog Try.f207=some c207:=by kernel_rfl
def c208:XFn:=
 ⟨[.tmp 2],
 (.seq (.reg [oO 2 (.mv (.const (.slice none 0 0)))])
 (.seq (.reg [oO 8 (.bslice 27 1 0 [.slice none 0 0] []),
  oM 3 8])
 (.seq (.seq (.reg [oM 9 0,
  oO 10 (.ixs 1 (.tmp 9) (oK 0)),
  oL 11 10,
  oN 12 11,
  oO 13 (.mv (oK 0))])
 (.blk 0 (.loop (.seq (.reg [oO 14 (.bin .lss (.tmp 13) (.tmp 12))])
 (.seq (.cond (.tmp 14) .skip (.exit 0))
 (.seq (.blk 1 (.seq (.reg [oM 15 13,
  oM 4 15])
 (.seq (.reg [oO 16 (.bslice 2 1 0 [.int .i64 0] []),
  oM 5 16])
 (.seq (.seq (.reg [oM 17 0,
  oN 18 17,
  oO 19 (.mv (oK 0))])
 (.blk 2 (.loop (.seq (.reg [oO 20 (.bin .lss (.tmp 19) (.tmp 18))])
 (.seq (.cond (.tmp 20) .skip (.exit 2))
 (.seq (.blk 3 (.seq (.reg [oX 21 1 17 19,
  oL 22 21,
  oM 7 22])
 (.reg [oM 23 5,
  oM 24 7,
  oM 25 4,
  oX 26 1 24 25,
  oL 27 26,
  oO 28 (.bslice 2 1 1 [.int .i64 0] [(0,1,(.tmp 27))]),
  oO 29 (.app 2 1 8 (.tmp 23) (.tmp 28)),
  oM 5 29])))
 (.reg [oO 30 (.bin .add (.tmp 19) (oK 1)),
  oM 19 30])))))))
 (.reg [oM 31 3,
  oM 32 5,
  oO 33 (.bslice 27 1 1 [.slice none 0 0] [(0,1,(.tmp 32))]),
  oO 34 (.app 27 1 24 (.tmp 31) (.tmp 33)),
  oM 3 34])))))
 (.reg [oO 35 (.bin .add (.tmp 13) (oK 1)),
  oM 13 35])))))))
 (.seq (.reg [oM 36 3,
  oM 2 36])
 .ret))))⟩
theorem s208:compFn Try.prog Try.f208=some c208:=by kernel_rfl
def c209:XFn:=
 ⟨[.celln 2 4],
 (.seq (.reg [oO 2 (.alloc 70 [.int .i64 0,.int .i64 0,.slice none 0 0,.slice none 0 0])])
 (.seq (.reg [oM 11 0,
  oO 12 (.call (.func 201) [(.tmp 11)]),
  oM 10 12,
  oE 13 10 0,
  oE 14 10 1,
  oE 15 10 2,
  oM 3 13,
  oM 4 14,
  oM 5 15])
 (.seq (.seq (.reg [oM 16 3,
  oM 17 4,
  oM 18 5,
  oO 19 (.call (.func 204) [(.tmp 16),(.tmp 17),(.tmp 18)]),
  oO 20 (.bin .neq (.tmp 19) (oK 0))])
 (.cond (.tmp 20) (.seq (.reg [oM 21 3,
  oM 22 4,
  oO 23 (.build [.int .i64 0,.int .i64 0,.slice none 0 0,.slice none 0 0] [(0,1,(.tmp 21)),(1,1,(.tmp 22))]),
  oS (.store 4 (.tmp 2) (.tmp 23))])
 .ret) .skip))
 (.seq (.reg [oM 24 3,
  oM 25 4,
  oM 26 5,
  oM 27 0,
  oO 28 (.call (.func 148) [(.tmp 27),(oK 2)]),
  oO 29 (.bin .eql (.tmp 28) (oK 0)),
  oO 30 (.call (.func 298) [(.tmp 24),(.tmp 25),(.tmp 26),(.tmp 29)]),
  oO 6 (.alloc 70 [.int .i64 0,.int .i64 0,.slice none 0 0,.slice none 0 0]),
  oS (.store 4 (.tmp 6) (.tmp 30))])
 (.seq (.seq (.reg [oM 31 0,
  oO 32 (.call (.func 148) [(.tmp 31),(oK 4)]),
  oM 7 32])
 (.blk 0 (.loop (.seq (.seq (.reg [oM 33 7,
  oO 34 (.bin .gtr (.tmp 33) (oK 0))])
 (.cond (.tmp 34) .skip (.exit 0)))
 (.seq (.blk 1 (.seq (.reg [oF 37 1 6,
  oL 38 37,
  oF 39 2 6,
  oL 40 39,
  oN 41 40,
  oO 42 (.bin .add (.tmp 38) (.tmp 41)),
  oM 8 42])
 (.seq (.reg [oM 43 0,
  oM 44 8,
  oO 45 (.call (.func 148) [(.tmp 43),(.tmp 44)]),
  oM 46 0,
  oM 47 8,
  oO 48 (.call (.func 148) [(.tmp 46),(.tmp 47)]),
  oM 49 0,
  oM 50 3,
  oO 51 (.bin .sub (.tmp 50) (oK 1)),
  oO 52 (.call (.func 148) [(.tmp 49),(.tmp 51)]),
  oO 53 (.bin .add (oK 1) (.tmp 52)),
  oO 54 (.build [.int .i64 0,.int .i64 0,.int .i64 0] [(0,1,(.tmp 45)),(1,1,(.tmp 48)),(2,1,(.tmp 53))]),
  oO 9 (.alloc 181 [.int .i64 0,.int .i64 0,.int .i64 0]),
  oS (.store 3 (.tmp 9) (.tmp 54))])
 (.seq (.reg [oF 55 0 9,
  oL 56 55,
  oF 57 1 9,
  oL 58 57,
  oO 59 (.bin .neq (.tmp 56) (.tmp 58))])
 (.cond (.tmp 59) (.seq (.reg [oF 60 2 6,
  oL 61 60,
  oO 62 (.loadn 3 (.tmp 9)),
  oO 63 (.bslice 181 3 1 [.int .i64 0,.int .i64 0,.int .i64 0] [(0,3,(.tmp 62))]),
  oO 64 (.app 181 3 24 (.tmp 61) (.tmp 63)),
  oF 65 2 6,
  oS (.store 1 (.tmp 65) (.tmp 64))])
 (.seq (.reg [oM 66 0,
  oO 67 (.call (.func 148) [(.tmp 66),(oK 2)]),
  oO 68 (.bin .eql (.tmp 67) (oK 0))])
 (.cond (.tmp 68) (.reg [oO 69 (.bslice 183 2 0 [.int .i64 0,.int .i64 0] []),
  oF 70 3 6,
  oL 71 70,
  oO 72 (.app 183 2 16 (.tmp 69) (.tmp 71)),
  oM 73 8,
  oO 74 (.build [.int .i64 0,.int .i64 0] [(0,1,(.tmp 73)),(1,1,(oK 1))]),
  oO 75 (.bslice 183 2 1 [.int .i64 0,.int .i64 0] [(0,2,(.tmp 74))]),
  oO 76 (.app 183 2 16 (.tmp 72) (.tmp 75)),
  oF 77 3 6,
  oS (.store 1 (.tmp 77) (.tmp 76))]) .skip))) .skip)))))
 (.reg [oM 35 7,
  oO 36 (.bin .sub (.tmp 35) (oK 1)),
  oM 7 36]))))))
 (.seq (.seq (.reg [oM 78 0,
  oO 79 (.call (.func 148) [(.tmp 78),(oK 40)])])
 (.blk 2 (.seq (.reg [oO 81 (.bin .eql (.tmp 79) (oK 0)),
  oM 80 81])
 (.cond (.tmp 80) (.reg [oM 82 0,
  oF 83 1 6,
  oL 84 83,
  oO 85 (.bin .sub (.tmp 84) (oK 1)),
  oO 86 (.bslice 2 1 3 [.int .i64 0] [(0,1,(oK 0)),(1,1,(oK 31)),(2,1,(.tmp 85))]),
  oO 87 (.call (.func 147) [(.tmp 82),(.tmp 86)]),
  oF 88 1 6,
  oS (.store 1 (.tmp 88) (.tmp 87))]) (.seq (.reg [oO 90 (.bin .eql (.tmp 79) (oK 1)),
  oM 89 90])
 (.cond (.tmp 89) (.reg [oO 91 (.bslice 183 2 0 [.int .i64 0,.int .i64 0] []),
  oM 92 0,
  oO 93 (.bslice 2 1 3 [.int .i64 0] [(0,1,(.const (.int .i64 (-1)))),(1,1,(oK 1)),(2,1,(oK 999))]),
  oO 94 (.call (.func 147) [(.tmp 92),(.tmp 93)]),
  oM 95 0,
  oO 96 (.bslice 2 1 2 [.int .i64 0] [(0,1,(oK 0)),(1,1,(oK 1))]),
  oO 97 (.call (.func 147) [(.tmp 95),(.tmp 96)]),
  oO 98 (.build [.int .i64 0,.int .i64 0] [(0,1,(.tmp 94)),(1,1,(.tmp 97))]),
  oO 99 (.bslice 183 2 1 [.int .i64 0,.int .i64 0] [(0,2,(.tmp 98))]),
  oO 100 (.app 183 2 16 (.tmp 91) (.tmp 99)),
  oF 101 3 6,
  oS (.store 1 (.tmp 101) (.tmp 100))]) (.seq (.reg [oO 103 (.bin .eql (.tmp 79) (oK 2)),
  oM 102 103])
 (.cond (.tmp 102) (.reg [oO 104 (.bslice 181 3 0 [.int .i64 0,.int .i64 0,.int .i64 0] []),
  oF 105 2 6,
  oL 106 105,
  oO 107 (.app 181 3 24 (.tmp 104) (.tmp 106)),
  oM 108 0,
  oO 109 (.bslice 2 1 3 [.int .i64 0] [(0,1,(oK 0)),(1,1,(oK 1)),(2,1,(oK 999))]),
  oO 110 (.call (.func 147) [(.tmp 108),(.tmp 109)]),
  oM 111 0,
  oM 112 3,
  oO 113 (.bslice 2 1 3 [.int .i64 0] [(0,1,(oK 0)),(1,1,(oK 1)),(2,1,(.tmp 112))]),
  oO 114 (.call (.func 147) [(.tmp 111),(.tmp 113)]),
  oO 115 (.build [.int .i64 0,.int .i64 0,.int .i64 0] [(0,1,(oK 0)),(1,1,(.tmp 110)),(2,1,(.tmp 114))]),
  oO 116 (.bslice 181 3 1 [.int .i64 0,.int .i64 0,.int .i64 0] [(0,3,(.tmp 115))]),
  oO 117 (.app 181 3 24 (.tmp 107) (.tmp 116)),
  oF 118 2 6,
  oS (.store 1 (.tmp 118) (.tmp 117))]) .skip))))))))
 (.seq (.reg [oO 119 (.loadn 4 (.tmp 6)),
  oS (.store 4 (.tmp 2) (.tmp 119))])
 .ret)))))))⟩
theorem s209:compFn Try.prog Try.f209=some c209:=by kernel_rfl
def c210:XFn:=
 ⟨[.tmp 2],
 (.seq (.reg [oO 1 (.box 70 (.tmp 0)),
  oO 2 (.mv (.const (.bool false)))])
 (.seq (.seq (.reg [oF 8 0 1,
  oL 9 8,
  oO 10 (.call (.func 224) [(.tmp 9)]),
  oO 11 (.un .not (.tmp 10)),
  oM 12 11,
  oG 13 (.fadr 1 (.tmp 1)) 12 false,
  oG 14 (.load1 (.tmp 13)) 12 false,
  oG 15 (.call (.func 181) [(.tmp 14),(oK 1),(oK 30)]) 12 false,
  oG 16 (.un .not (.tmp 15)) 12 false,
  oO 17 (.pick (.tmp 12) (.const (.bool true)) (.tmp 16)),
  oM 18 17,
  oG 19 (.fadr 2 (.tmp 1)) 18 false,
  oG 20 (.load1 (.tmp 19)) 18 false,
  oG 21 (.len (.tmp 20)) 18 false,
  oG 22 (.bin .gtr (.tmp 21) (oK 900)) 18 false,
  oO 23 (.pick (.tmp 18) (.const (.bool true)) (.tmp 22)),
  oM 24 23,
  oG 25 (.fadr 3 (.tmp 1)) 24 false,
  oG 26 (.load1 (.tmp 25)) 24 false,
  oG 27 (.len (.tmp 26)) 24 false,
  oG 28 (.bin .lss (.tmp 27) (oK 1)) 24 false,
  oO 29 (.pick (.tmp 24) (.const (.bool true)) (.tmp 28)),
  oM 30 29,
  oG 31 (.fadr 3 (.tmp 1)) 30 false,
  oG 32 (.load1 (.tmp 31)) 30 false,
  oG 33 (.len (.tmp 32)) 30 false,
  oG 34 (.bin .gtr (.tmp 33) (oK 30)) 30 false,
  oO 35 (.pick (.tmp 30) (.const (.bool true)) (.tmp 34))])
 (.cond (.tmp 35) (.seq (.reg [oO 2 (.mv (.const (.bool false)))])
 .ret) .skip))
 (.seq (.seq (.reg [oO 3 (.mv (oK 0))])
 (.blk 0 (.loop (.seq (.seq (.reg [oM 36 3,
  oF 37 2 1,
  oL 38 37,
  oN 39 38,
  oO 40 (.bin .lss (.tmp 36) (.tmp 39))])
 (.cond (.tmp 40) .skip (.exit 0)))
 (.seq (.blk 1 (.seq (.reg [oF 43 2 1,
  oL 44 43,
  oM 45 3,
  oX 46 3 44 45,
  oO 47 (.loadn 3 (.tmp 46)),
  oF 48 1 1,
  oL 49 48,
  oM 50 3,
  oO 51 (.bin .add (.tmp 49) (.tmp 50)),
  oO 52 (.bin .sub (.tmp 51) (oK 1)),
  oM 5 52,
  oO 4 (.boxn 181 3 (.tmp 47))])
 (.seq (.reg [oF 53 0 4,
  oL 54 53,
  oM 55 5,
  oO 56 (.call (.func 181) [(.tmp 54),(oK 0),(.tmp 55)]),
  oO 57 (.un .not (.tmp 56)),
  oM 58 57,
  oG 59 (.fadr 1 (.tmp 4)) 58 false,
  oG 60 (.load1 (.tmp 59)) 58 false,
  oG 61 (.mv (.tmp 5)) 58 false,
  oG 62 (.call (.func 181) [(.tmp 60),(oK 0),(.tmp 61)]) 58 false,
  oG 63 (.un .not (.tmp 62)) 58 false,
  oO 64 (.pick (.tmp 58) (.const (.bool true)) (.tmp 63)),
  oM 65 64,
  oG 66 (.fadr 0 (.tmp 4)) 65 false,
  oG 67 (.load1 (.tmp 66)) 65 false,
  oG 68 (.fadr 1 (.tmp 4)) 65 false,
  oG 69 (.load1 (.tmp 68)) 65 false,
  oG 70 (.bin .eql (.tmp 67) (.tmp 69)) 65 false,
  oO 71 (.pick (.tmp 65) (.const (.bool true)) (.tmp 70)),
  oM 72 71,
  oG 73 (.fadr 2 (.tmp 4)) 72 false,
  oG 74 (.load1 (.tmp 73)) 72 false,
  oG 75 (.fadr 0 (.tmp 1)) 72 false,
  oG 76 (.load1 (.tmp 75)) 72 false,
  oG 77 (.bin .sub (.tmp 76) (oK 1)) 72 false,
  oG 78 (.call (.func 181) [(.tmp 74),(oK 1),(.tmp 77)]) 72 false,
  oG 79 (.un .not (.tmp 78)) 72 false,
  oO 80 (.pick (.tmp 72) (.const (.bool true)) (.tmp 79))])
 (.cond (.tmp 80) (.seq (.reg [oO 2 (.mv (.const (.bool false)))])
 .ret) .skip))))
 (.reg [oM 41 3,
  oO 42 (.bin .add (.tmp 41) (oK 1)),
  oM 3 42]))))))
 (.seq (.seq (.reg [oO 6 (.mv (oK 0))])
 (.blk 2 (.loop (.seq (.seq (.reg [oM 81 6,
  oF 82 3 1,
  oL 83 82,
  oN 84 83,
  oO 85 (.bin .lss (.tmp 81) (.tmp 84))])
 (.cond (.tmp 85) .skip (.exit 2)))
 (.seq (.blk 3 (.seq (.reg [oF 88 3 1,
  oL 89 88,
  oM 90 6,
  oX 91 2 89 90,
  oO 92 (.loadn 2 (.tmp 91)),
  oO 7 (.alloc 183 [.int .i64 0,.int .i64 0]),
  oS (.store 2 (.tmp 7) (.tmp 92))])
 (.seq (.reg [oF 93 0 7,
  oL 94 93,
  oF 95 1 1,
  oL 96 95,
  oF 97 2 1,
  oL 98 97,
  oN 99 98,
  oO 100 (.bin .add (.tmp 96) (.tmp 99)),
  oO 101 (.bin .sub (.tmp 100) (oK 1)),
  oO 102 (.call (.func 181) [(.tmp 94),(oK 0),(.tmp 101)]),
  oO 103 (.un .not (.tmp 102)),
  oM 104 103,
  oG 105 (.fadr 1 (.tmp 7)) 104 false,
  oG 106 (.load1 (.tmp 105)) 104 false,
  oG 107 (.fadr 0 (.tmp 1)) 104 false,
  oG 108 (.load1 (.tmp 107)) 104 false,
  oG 109 (.bin .sub (.tmp 108) (oK 1)) 104 false,
  oG 110 (.call (.func 181) [(.tmp 106),(oK 0),(.tmp 109)]) 104 false,
  oG 111 (.un .not (.tmp 110)) 104 false,
  oO 112 (.pick (.tmp 104) (.const (.bool true)) (.tmp 111)),
  oM 113 112,
  oG 114 (.fadr 1 (.tmp 7)) 113 false,
  oG 115 (.load1 (.tmp 114)) 113 false,
  oG 116 (.bin .eql (.tmp 115) (oK 0)) 113 false,
  oG 117 (.mv (.tmp 116)) 113 false,
  oG 118 (.fadr 0 (.tmp 7)) 117 true,
  oG 119 (.load1 (.tmp 118)) 117 true,
  oG 120 (.bin .neq (.tmp 119) (oK 0)) 117 true,
  oG 121 (.pick (.tmp 117) (.tmp 120) (.const (.bool false))) 113 false,
  oO 122 (.pick (.tmp 113) (.const (.bool true)) (.tmp 121))])
 (.cond (.tmp 122) (.seq (.reg [oO 2 (.mv (.const (.bool false)))])
 .ret) .skip))))
 (.reg [oM 86 6,
  oO 87 (.bin .add (.tmp 86) (oK 1)),
  oM 6 87]))))))
 (.seq (.reg [oO 2 (.mv (.const (.bool true)))])
 .ret)))))⟩
theorem s210:compFn Try.prog Try.f210=some c210:=by kernel_rfl
def c211:XFn:=
 ⟨[.tmp 2],
 (.seq (.reg [oO 1 (.box 70 (.tmp 0)),
  oO 2 (.mv (.const (.slice none 0 0)))])
 (.seq (.reg [oO 10 (.bslice 27 1 0 [.slice none 0 0] []),
  oM 3 10])
 (.seq (.seq (.reg [oO 4 (.mv (oK 0))])
 (.blk 0 (.loop (.seq (.seq (.reg [oM 11 4,
  oF 12 3 1,
  oL 13 12,
  oN 14 13,
  oO 15 (.bin .lss (.tmp 11) (.tmp 14))])
 (.cond (.tmp 15) .skip (.exit 0)))
 (.seq (.blk 1 (.reg [oM 18 3,
  oF 19 1 1,
  oL 20 19,
  oO 21 (.mks 2 1 8 [.int .i64 0] (.tmp 20)),
  oO 22 (.bslice 27 1 1 [.slice none 0 0] [(0,1,(.tmp 21))]),
  oO 23 (.app 27 1 24 (.tmp 18) (.tmp 22)),
  oM 3 23]))
 (.reg [oM 16 4,
  oO 17 (.bin .add (.tmp 16) (oK 1)),
  oM 4 17]))))))
 (.seq (.seq (.reg [oO 5 (.mv (oK 0))])
 (.blk 2 (.loop (.seq (.seq (.reg [oM 24 5,
  oF 25 1 1,
  oL 26 25,
  oO 27 (.bin .lss (.tmp 24) (.tmp 26))])
 (.cond (.tmp 27) .skip (.exit 2)))
 (.seq (.blk 3 (.seq (.reg [oF 30 1 1,
  oL 31 30,
  oO 32 (.mks 2 1 8 [.int .i64 0] (.tmp 31)),
  oM 6 32])
 (.seq (.reg [oM 33 6,
  oM 34 5,
  oX 35 1 33 34,
  oS (.store 1 (.tmp 35) (oK 1))])
 (.seq (.reg [oO 36 (.loadn 4 (.tmp 1)),
  oM 37 6,
  oO 38 (.call (.func 260) [(.tmp 36),(.tmp 37)]),
  oM 7 38])
 (.seq (.reg [oO 8 (.mv (oK 0))])
 (.blk 4 (.loop (.seq (.seq (.reg [oM 39 8,
  oM 40 7,
  oN 41 40,
  oO 42 (.bin .lss (.tmp 39) (.tmp 41))])
 (.cond (.tmp 42) .skip (.exit 4)))
 (.seq (.blk 5 (.seq (.reg [oM 45 3,
  oM 46 8,
  oX 47 1 45 46,
  oL 48 47,
  oM 9 48])
 (.reg [oM 49 9,
  oM 50 5,
  oM 51 7,
  oM 52 8,
  oX 53 1 51 52,
  oL 54 53,
  oX 55 1 49 50,
  oS (.store 1 (.tmp 55) (.tmp 54))])))
 (.reg [oM 43 8,
  oO 44 (.bin .add (.tmp 43) (oK 1)),
  oM 8 44]))))))))))
 (.reg [oM 28 5,
  oO 29 (.bin .add (.tmp 28) (oK 1)),
  oM 5 29]))))))
 (.seq (.reg [oM 56 3,
  oM 2 56])
 .ret)))))⟩
theorem s211:compFn Try.prog Try.f211=some c211:=by kernel_rfl
def c224:XFn:=
 ⟨[.tmp 2],
 (.seq (.reg [oO 2 (.mv (.const (.bool false)))])
 (.seq (.reg [oM 3 0,
  oO 4 (.bin .eql (.tmp 3) (oK 2)),
  oM 5 4,
  oG 6 (.mv (.tmp 0)) 5 false,
  oG 7 (.bin .eql (.tmp 6) (oK 3)) 5 false,
  oO 8 (.pick (.tmp 5) (.const (.bool true)) (.tmp 7)),
  oM 9 8,
  oG 10 (.mv (.tmp 0)) 9 false,
  oG 11 (.bin .eql (.tmp 10) (oK 5)) 9 false,
  oO 12 (.pick (.tmp 9) (.const (.bool true)) (.tmp 11)),
  oM 2 12])
 .ret))⟩
theorem s224:compFn Try.prog Try.f224=some c224:=by kernel_rfl
def c243:XFn:=
 ⟨[.tmp 4],
 (.seq (.reg [oO 4 (.mv (oK 0))])
 (.seq (.reg [oO 5 (.mv (oK 1))])
 (.blk 0 (.loop (.seq (.blk 1 (.seq (.reg [oM 8 5,
  oM 9 1,
  oO 10 (.bin .mul (.tmp 8) (.tmp 9)),
  oM 11 0,
  oO 12 (.bin .rem (.tmp 10) (.tmp 11)),
  oO 13 (.bin .eql (.tmp 12) (oK 1))])
 (.cond (.tmp 13) (.seq (.reg [oM 14 5,
  oM 4 14])
 .ret) .skip)))
 (.reg [oM 6 5,
  oO 7 (.bin .add (.tmp 6) (oK 1)),
  oM 5 7]))))))⟩
theorem s243:compFn Try.prog Try.f243=some c243:=by kernel_rfl
def c251:XFn:=
 ⟨[.tmp 6],
 (.seq (.reg [oO 6 (.mv (.const (.bool false)))])
 (.seq (.seq (.reg [oO 7 (.mv (oK 0))])
 (.blk 0 (.loop (.seq (.seq (.reg [oM 8 7,
  oM 9 1,
  oN 10 9,
  oO 11 (.bin .lss (.tmp 8) (.tmp 10))])
 (.cond (.tmp 11) .skip (.exit 0)))
 (.seq (.blk 1 (.seq (.reg [oM 14 1,
  oM 15 7,
  oX 16 1 14 15,
  oL 17 16,
  oM 18 0,
  oO 19 (.bin .sub (.tmp 18) (oK 1)),
  oO 20 (.call (.func 181) [(.tmp 17),(oK 0),(.tmp 19)]),
  oO 21 (.un .not (.tmp 20))])
 (.cond (.tmp 21) (.seq (.reg [oO 6 (.mv (.const (.bool false)))])
 .ret) .skip)))
 (.reg [oM 12 7,
  oO 13 (.bin .add (.tmp 12) (oK 1)),
  oM 7 13]))))))
 (.seq (.reg [oM 22 1,
  oN 23 22,
  oM 24 2,
  oO 25 (.bin .eql (.tmp 23) (.tmp 24)),
  oM 6 25])
 .ret)))⟩
theorem s251:compFn Try.prog Try.f251=some c251:=by kernel_rfl
def c260:XFn:=
 ⟨[.tmp 4],
 (.seq (.reg [oO 2 (.box 70 (.tmp 0)),
  oO 4 (.mv (.const (.slice none 0 0)))])
 (.seq (.reg [oM 10 1,
  oO 11 (.call (.func 264) [(.tmp 10)]),
  oO 12 (.bslice 2 1 0 [.int .i64 0] []),
  oM 5 11,
  oM 6 12])
 (.seq (.seq (.reg [oO 7 (.mv (oK 0))])
 (.blk 0 (.loop (.seq (.seq (.reg [oM 13 7,
  oF 14 2 2,
  oL 15 14,
  oN 16 15,
  oO 17 (.bin .lss (.tmp 13) (.tmp 16))])
 (.cond (.tmp 17) .skip (.exit 0)))
 (.seq (.blk 1 (.seq (.reg [oF 20 2 2,
  oL 21 20,
  oM 22 7,
  oX 23 3 21 22,
  oO 24 (.loadn 3 (.tmp 23)),
  oO 8 (.alloc 181 [.int .i64 0,.int .i64 0,.int .i64 0]),
  oS (.store 3 (.tmp 8) (.tmp 24))])
 (.reg [oM 25 5,
  oM 26 5,
  oF 27 0 8,
  oL 28 27,
  oX 29 1 26 28,
  oL 30 29,
  oF 31 2 8,
  oL 32 31,
  oM 33 5,
  oF 34 1 8,
  oL 35 34,
  oX 36 1 33 35,
  oL 37 36,
  oO 38 (.bin .mul (.tmp 32) (.tmp 37)),
  oO 39 (.bin .add (.tmp 30) (.tmp 38)),
  oF 40 0 2,
  oL 41 40,
  oO 42 (.bin .rem (.tmp 39) (.tmp 41)),
  oO 43 (.bslice 2 1 1 [.int .i64 0] [(0,1,(.tmp 42))]),
  oO 44 (.app 2 1 8 (.tmp 25) (.tmp 43)),
  oM 5 44])))
 (.reg [oM 18 7,
  oO 19 (.bin .add (.tmp 18) (oK 1)),
  oM 7 19]))))))
 (.seq (.seq (.reg [oO 9 (.mv (oK 0))])
 (.blk 2 (.loop (.seq (.seq (.reg [oM 45 9,
  oF 46 3 2,
  oL 47 46,
  oN 48 47,
  oO 49 (.bin .lss (.tmp 45) (.tmp 48))])
 (.cond (.tmp 49) .skip (.exit 2)))
 (.seq (.blk 3 (.reg [oM 52 6,
  oF 53 3 2,
  oL 54 53,
  oM 55 9,
  oX 56 2 54 55,
  oF 57 1 56,
  oL 58 57,
  oM 59 5,
  oF 60 3 2,
  oL 61 60,
  oM 62 9,
  oX 63 2 61 62,
  oF 64 0 63,
  oL 65 64,
  oX 66 1 59 65,
  oL 67 66,
  oO 68 (.bin .mul (.tmp 58) (.tmp 67)),
  oF 69 0 2,
  oL 70 69,
  oO 71 (.bin .rem (.tmp 68) (.tmp 70)),
  oO 72 (.bslice 2 1 1 [.int .i64 0] [(0,1,(.tmp 71))]),
  oO 73 (.app 2 1 8 (.tmp 52) (.tmp 72)),
  oM 6 73]))
 (.reg [oM 50 9,
  oO 51 (.bin .add (.tmp 50) (oK 1)),
  oM 9 51]))))))
 (.seq (.reg [oM 74 6,
  oM 4 74])
 .ret)))))⟩
theorem s260:compFn Try.prog Try.f260=some c260:=by kernel_rfl
def c264:XFn:=
 ⟨[.tmp 2],
 (.seq (.reg [oO 2 (.mv (.const (.slice none 0 0)))])
 (.seq (.reg [oO 3 (.bslice 2 1 0 [.int .i64 0] []),
  oM 4 0,
  oO 5 (.app 2 1 8 (.tmp 3) (.tmp 4)),
  oM 2 5])
 .ret))⟩
theorem s264:compFn Try.prog Try.f264=some c264:=by kernel_rfl
def c285:XFn:=
 ⟨[.tmp 2],
 (.seq (.reg [oO 2 (.mv (.const (.slice none 0 0)))])
 (.seq (.seq (.reg [oM 3 0,
  oO 4 (.isnil false (.tmp 3))])
 (.cond (.tmp 4) (.seq (.reg [oO 2 (.mv (.const (.slice none 0 0)))])
 .ret) .skip))
 (.seq (.reg [oO 5 (.bslice 2 1 0 [.int .i64 0] []),
  oM 6 0,
  oO 7 (.app 2 1 8 (.tmp 5) (.tmp 6)),
  oM 2 7])
 .ret)))⟩
theorem s285:compFn Try.prog Try.f285=some c285:=by kernel_rfl
def c294:XFn:=
 ⟨[.celln 4 3,.tmp 5],
 (.seq (.reg [oO 4 (.alloc 248 [.int .i64 0,.int .i64 0,.int .i64 0]),
  oO 5 (.mv (.const (.bool false)))])
 (.seq (.reg [oO 16 (.build [.int .i64 0,.int .i64 0,.int .i64 0] []),
  oO 6 (.alloc 248 [.int .i64 0,.int .i64 0,.int .i64 0]),
  oS (.store 3 (.tmp 6) (.tmp 16)),
  oO 7 (.mv (oK 1))])
 (.seq (.seq (.reg [oM 17 1,
  oN 18 17,
  oO 19 (.mv (oK 0))])
 (.blk 0 (.loop (.seq (.reg [oO 20 (.bin .lss (.tmp 19) (.tmp 18))])
 (.seq (.cond (.tmp 20) .skip (.exit 0))
 (.seq (.blk 1 (.seq (.reg [oM 21 19,
  oX 22 5 17 19,
  oO 23 (.loadn 5 (.tmp 22)),
  oO 9 (.alloc 246 [.int .u32 0,.int .u32 0,.int .u32 0,.int .u32 0,.int .u32 0]),
  oM 8 21,
  oS (.store 5 (.tmp 9) (.tmp 23))])
 (.seq (.reg [oO 10 (.mv (.const (.int .u32 0)))])
 (.seq (.seq (.reg [oO 24 (.slca 5 1 (.tmp 9) (some (oK 1)) none),
  oN 25 24,
  oO 26 (.mv (oK 0))])
 (.blk 2 (.loop (.seq (.reg [oO 27 (.bin .lss (.tmp 26) (.tmp 25))])
 (.seq (.cond (.tmp 27) .skip (.exit 2))
 (.seq (.blk 3 (.seq (.reg [oX 28 1 24 26,
  oL 29 28,
  oM 12 29])
 (.reg [oM 30 10,
  oM 31 12,
  oO 32 (.bin .or (.tmp 30) (.tmp 31)),
  oM 10 32])))
 (.reg [oO 33 (.bin .add (.tmp 26) (oK 1)),
  oM 26 33])))))))
 (.seq (.seq (.reg [oM 34 10,
  oO 35 (.call (.func 329) [(.tmp 34)]),
  oM 36 7,
  oO 37 (.bin .leq (.tmp 35) (.tmp 36))])
 (.cond (.tmp 37) (.exit 1) .skip))
 (.seq (.reg [oM 38 8,
  oO 39 (.bin .add (.tmp 38) (oK 1)),
  oM 13 39])
 (.blk 4 (.loop (.seq (.seq (.reg [oM 40 13,
  oM 41 1,
  oN 42 41,
  oO 43 (.bin .lss (.tmp 40) (.tmp 42))])
 (.cond (.tmp 43) .skip (.exit 4)))
 (.seq (.blk 5 (.seq (.reg [oO 14 (.mv (oK 1))])
 (.blk 6 (.loop (.seq (.seq (.reg [oM 46 14,
  oM 47 0,
  oO 48 (.bin .lss (.tmp 46) (.tmp 47))])
 (.cond (.tmp 48) .skip (.exit 6)))
 (.seq (.blk 7 (.seq (.reg [oM 51 0,
  oO 52 (.loadn 5 (.tmp 9)),
  oM 53 1,
  oM 54 13,
  oX 55 5 53 54,
  oO 56 (.loadn 5 (.tmp 55)),
  oM 57 14,
  oO 58 (.call (.func 295) [(.tmp 51),(.tmp 52),(.tmp 56),(.tmp 57)]),
  oO 59 (.call (.func 329) [(.tmp 58)]),
  oM 15 59])
 (.seq (.reg [oM 60 15,
  oM 61 7,
  oO 62 (.bin .gtr (.tmp 60) (.tmp 61))])
 (.cond (.tmp 62) (.reg [oM 63 8,
  oM 64 13,
  oM 65 14,
  oO 66 (.build [.int .i64 0,.int .i64 0,.int .i64 0] [(0,1,(.tmp 63)),(1,1,(.tmp 64)),(2,1,(.tmp 65))]),
  oM 67 15,
  oS (.store 3 (.tmp 6) (.tmp 66)),
  oM 7 67]) .skip))))
 (.reg [oM 49 14,
  oO 50 (.bin .add (.tmp 49) (oK 1)),
  oM 14 50])))))))
 (.reg [oM 44 13,
  oO 45 (.bin .add (.tmp 44) (oK 1)),
  oM 13 45])))))))))))
 (.reg [oO 68 (.bin .add (.tmp 19) (oK 1)),
  oM 19 68])))))))
 (.seq (.reg [oO 69 (.loadn 3 (.tmp 6)),
  oM 70 7,
  oO 71 (.bin .gtr (.tmp 70) (oK 1)),
  oS (.store 3 (.tmp 4) (.tmp 69)),
  oM 5 71])
 .ret))))⟩
theorem s294:compFn Try.prog Try.f294=some c294:=by kernel_rfl
def c295:XFn:=
 ⟨[.tmp 8],
 (.seq (.reg [oO 5 (.box 246 (.tmp 1)),
  oO 6 (.box 246 (.tmp 2)),
  oO 8 (.mv (.const (.int .u32 0)))])
 (.seq (.reg [oO 9 (.mv (.const (.int .u32 0)))])
 (.seq (.seq (.reg [oO 10 (.mv (oK 1))])
 (.blk 0 (.loop (.seq (.seq (.reg [oM 11 10,
  oM 12 0,
  oO 13 (.bin .lss (.tmp 11) (.tmp 12))])
 (.cond (.tmp 13) .skip (.exit 0)))
 (.seq (.blk 1 (.reg [oM 16 9,
  oM 17 10,
  oO 18 (.ixa 5 1 (.tmp 5) (.tmp 17)),
  oL 19 18,
  oM 20 10,
  oM 21 3,
  oO 22 (.bin .mul (.tmp 20) (.tmp 21)),
  oM 23 0,
  oO 24 (.bin .rem (.tmp 22) (.tmp 23)),
  oO 25 (.ixa 5 1 (.tmp 6) (.tmp 24)),
  oL 26 25,
  oO 27 (.bin .and (.tmp 19) (.tmp 26)),
  oO 28 (.bin .or (.tmp 16) (.tmp 27)),
  oM 9 28]))
 (.reg [oM 14 10,
  oO 15 (.bin .add (.tmp 14) (oK 1)),
  oM 10 15]))))))
 (.seq (.reg [oM 29 9,
  oM 8 29])
 .ret))))⟩
theorem s295:compFn Try.prog Try.f295=some c295:=by kernel_rfl
def c296:XFn:=
 ⟨[.celln 4 3,.tmp 5],
 (.seq (.reg [oO 4 (.alloc 181 [.int .i64 0,.int .i64 0,.int .i64 0]),
  oO 5 (.mv (oK 0))])
 (.seq (.reg [oO 16 (.build [.int .i64 0,.int .i64 0,.int .i64 0] []),
  oO 6 (.alloc 181 [.int .i64 0,.int .i64 0,.int .i64 0]),
  oS (.store 3 (.tmp 6) (.tmp 16)),
  oO 7 (.mv (oK 0))])
 (.seq (.reg [oM 17 1,
  oO 18 (.ixs 1 (.tmp 17) (oK 0)),
  oL 19 18,
  oN 20 19,
  oM 8 20])
 (.seq (.seq (.reg [oO 9 (.mv (oK 0))])
 (.blk 0 (.loop (.seq (.seq (.reg [oM 21 9,
  oM 22 8,
  oO 23 (.bin .lss (.tmp 21) (.tmp 22))])
 (.cond (.tmp 23) .skip (.exit 0)))
 (.seq (.blk 1 (.seq (.reg [oM 26 9,
  oO 27 (.bin .add (.tmp 26) (oK 1)),
  oM 10 27])
 (.blk 2 (.loop (.seq (.seq (.reg [oM 28 10,
  oM 29 8,
  oO 30 (.bin .lss (.tmp 28) (.tmp 29))])
 (.cond (.tmp 30) .skip (.exit 2)))
 (.seq (.blk 3 (.seq (.reg [oM 33 0,
  oO 34 (.mks 2 1 8 [.int .i64 0] (.tmp 33)),
  oM 11 34])
 (.seq (.seq (.reg [oO 12 (.mv (oK 0))])
 (.blk 4 (.loop (.seq (.seq (.reg [oM 35 12,
  oM 36 1,
  oN 37 36,
  oO 38 (.bin .lss (.tmp 35) (.tmp 37))])
 (.cond (.tmp 38) .skip (.exit 4)))
 (.seq (.blk 5 (.seq (.reg [oM 41 1,
  oM 42 12,
  oX 43 1 41 42,
  oL 44 43,
  oM 45 9,
  oX 46 1 44 45,
  oL 47 46,
  oM 48 1,
  oM 49 12,
  oX 50 1 48 49,
  oL 51 50,
  oM 52 10,
  oX 53 1 51 52,
  oL 54 53,
  oM 13 47,
  oM 14 54])
 (.seq (.reg [oM 55 13,
  oO 56 (.bin .neq (.tmp 55) (oK 0)),
  oM 57 56,
  oG 58 (.mv (.tmp 14)) 57 true,
  oG 59 (.bin .neq (.tmp 58) (oK 0)) 57 true,
  oO 60 (.pick (.tmp 57) (.tmp 59) (.const (.bool false)))])
 (.cond (.tmp 60) (.reg [oM 61 11,
  oM 62 14,
  oM 63 0,
  oM 64 13,
  oO 65 (.call (.func 311) [(.tmp 63),(.tmp 64)]),
  oO 66 (.bin .mul (.tmp 62) (.tmp 65)),
  oM 67 0,
  oO 68 (.bin .rem (.tmp 66) (.tmp 67)),
  oX 69 1 61 68,
  oL 70 69,
  oO 71 (.bin .add (.tmp 70) (oK 1)),
  oX 72 1 61 68,
  oS (.store 1 (.tmp 72) (.tmp 71))]) .skip))))
 (.reg [oM 39 12,
  oO 40 (.bin .add (.tmp 39) (oK 1)),
  oM 12 40]))))))
 (.seq (.reg [oO 15 (.mv (oK 1))])
 (.blk 6 (.loop (.seq (.seq (.reg [oM 73 15,
  oM 74 0,
  oO 75 (.bin .lss (.tmp 73) (.tmp 74))])
 (.cond (.tmp 75) .skip (.exit 6)))
 (.seq (.blk 7 (.seq (.reg [oM 78 11,
  oM 79 15,
  oX 80 1 78 79,
  oL 81 80,
  oM 82 7,
  oO 83 (.bin .gtr (.tmp 81) (.tmp 82))])
 (.cond (.tmp 83) (.seq (.reg [oM 84 11,
  oM 85 15,
  oX 86 1 84 85,
  oL 87 86,
  oM 7 87])
 (.reg [oM 88 9,
  oM 89 10,
  oM 90 15,
  oO 91 (.build [.int .i64 0,.int .i64 0,.int .i64 0] [(0,1,(.tmp 88)),(1,1,(.tmp 89)),(2,1,(.tmp 90))]),
  oS (.store 3 (.tmp 6) (.tmp 91))])) .skip)))
 (.reg [oM 76 15,
  oO 77 (.bin .add (.tmp 76) (oK 1)),
  oM 15 77])))))))))
 (.reg [oM 31 10,
  oO 32 (.bin .add (.tmp 31) (oK 1)),
  oM 10 32])))))))
 (.reg [oM 24 9,
  oO 25 (.bin .add (.tmp 24) (oK 1)),
  oM 9 25]))))))
 (.seq (.reg [oO 92 (.loadn 3 (.tmp 6)),
  oM 93 7,
  oS (.store 3 (.tmp 4) (.tmp 92)),
  oM 5 93])
 .ret)))))⟩
theorem s296:compFn Try.prog Try.f296=some c296:=by kernel_rfl
def c297:XFn:=
 ⟨[.celln 4 4],
 (.seq (.reg [oO 2 (.box 70 (.tmp 0)),
  oO 4 (.alloc 70 [.int .i64 0,.int .i64 0,.slice none 0 0,.slice none 0 0])])
 (.seq (.reg [oO 5 (.mv (.const (.int .i64 (-1)))),
  oO 6 (.mv (oK 0))])
 (.seq (.seq (.reg [oO 7 (.mv (oK 0))])
 (.blk 0 (.loop (.seq (.seq (.reg [oM 8 7,
  oM 9 1,
  oN 10 9,
  oO 11 (.bin .lss (.tmp 8) (.tmp 10))])
 (.cond (.tmp 11) .skip (.exit 0)))
 (.seq (.blk 1 (.blk 2 (.seq (.reg [oM 42 1,
  oM 43 7,
  oX 44 1 42 43,
  oL 45 44,
  oO 46 (.bin .eql (.tmp 45) (oK 0)),
  oM 41 46])
 (.cond (.tmp 41) .skip (.seq (.reg [oM 48 5,
  oO 49 (.bin .lss (.tmp 48) (oK 0)),
  oM 47 49])
 (.cond (.tmp 47) (.seq (.reg [oM 50 7,
  oM 5 50])
 (.reg [oM 51 1,
  oM 52 7,
  oX 53 1 51 52,
  oL 54 53,
  oM 6 54])) (.seq (.reg [oF 14 2 2,
  oL 15 14,
  oM 16 5,
  oM 17 7,
  oM 18 1,
  oM 19 7,
  oX 20 1 18 19,
  oL 21 20,
  oF 22 0 2,
  oL 23 22,
  oM 24 6,
  ⟨some 25,.call (.func 311) [(.tmp 23),(.tmp 24)],none,.t⟩,
  oO 26 (.bin .mul (.tmp 21) (.tmp 25)),
  oF 27 0 2,
  oL 28 27,
  oO 29 (.bin .rem (.tmp 26) (.tmp 28)),
  oO 30 (.build [.int .i64 0,.int .i64 0,.int .i64 0] [(0,1,(.tmp 16)),(1,1,(.tmp 17)),(2,1,(.tmp 29))]),
  oO 31 (.bslice 181 3 1 [.int .i64 0,.int .i64 0,.int .i64 0] [(0,3,(.tmp 30))]),
  oO 32 (.app 181 3 24 (.tmp 15) (.tmp 31)),
  oF 33 2 2,
  oS (.store 1 (.tmp 33) (.tmp 32))])
 (.reg [oF 34 1 2,
  oL 35 34,
  oF 36 2 2,
  oL 37 36,
  oN 38 37,
  oO 39 (.bin .add (.tmp 35) (.tmp 38)),
  oO 40 (.bin .sub (.tmp 39) (oK 1)),
  oM 5 40]))))))))
 (.reg [oM 12 7,
  oO 13 (.bin .add (.tmp 12) (oK 1)),
  oM 7 13]))))))
 (.seq (.reg [oF 55 3 2,
  oL 56 55,
  oM 57 5,
  oO 58 (.mm true (.tmp 57) [(oK 0)]),
  oM 59 6,
  oO 60 (.build [.int .i64 0,.int .i64 0] [(0,1,(.tmp 58)),(1,1,(.tmp 59))]),
  oO 61 (.bslice 183 2 1 [.int .i64 0,.int .i64 0] [(0,2,(.tmp 60))]),
  oO 62 (.app 183 2 16 (.tmp 56) (.tmp 61)),
  oF 63 3 2,
  oS (.store 1 (.tmp 63) (.tmp 62))])
 (.seq (.reg [oO 64 (.loadn 4 (.tmp 2)),
  oS (.store 4 (.tmp 4) (.tmp 64))])
 .ret)))))⟩
theorem s297:compFn Try.prog Try.f297=some c297:=by kernel_rfl
def c298:XFn:=
 ⟨[.celln 8 4],
 (.seq (.reg [oO 8 (.alloc 70 [.int .i64 0,.int .i64 0,.slice none 0 0,.slice none 0 0])])
 (.seq (.seq (.reg [oM 9 3])
 (.cond (.tmp 9) (.seq (.reg [oM 10 0,
  oM 11 1,
  oM 12 2,
  oO 13 (.call (.func 205) [(.tmp 10),(.tmp 11),(.tmp 12)]),
  oS (.store 4 (.tmp 8) (.tmp 13))])
 .ret) .skip))
 (.seq (.reg [oM 14 0,
  oM 15 1,
  oM 16 2,
  oO 17 (.call (.func 207) [(.tmp 14),(.tmp 15),(.tmp 16)]),
  oS (.store 4 (.tmp 8) (.tmp 17))])
 .ret)))⟩
theorem s298:compFn Try.prog Try.f298=some c298:=by kernel_rfl
def c311:XFn:=
 ⟨[.tmp 4],
 (.seq (.reg [oO 4 (.mv (oK 0))])
 (.seq (.seq (.reg [oO 5 (.mv (oK 1))])
 (.blk 0 (.loop (.seq (.seq (.reg [oM 6 5,
  oM 7 0,
  oO 8 (.bin .lss (.tmp 6) (.tmp 7))])
 (.cond (.tmp 8) .skip (.exit 0)))
 (.seq (.blk 1 (.seq (.reg [oM 11 5,
  oM 12 0,
  oM 13 1,
  oO 14 (.call (.func 314) [(.tmp 12),(.tmp 13)]),
  oO 15 (.bin .mul (.tmp 11) (.tmp 14)),
  oM 16 0,
  oO 17 (.bin .rem (.tmp 15) (.tmp 16)),
  oO 18 (.bin .eql (.tmp 17) (oK 1))])
 (.cond (.tmp 18) (.seq (.reg [oM 19 5,
  oM 4 19])
 .ret) .skip)))
 (.reg [oM 9 5,
  oO 10 (.bin .add (.tmp 9) (oK 1)),
  oM 5 10]))))))
 (.seq (.reg [oO 4 (.mv (oK 0))])
 .ret)))⟩
theorem s311:compFn Try.prog Try.f311=some c311:=by kernel_rfl
def c314:XFn:=
 ⟨[.tmp 4],
 (.seq (.reg [oO 4 (.mv (oK 0))])
 (.seq (.reg [oM 5 1,
  oM 6 0,
  oO 7 (.bin .rem (.tmp 5) (.tmp 6)),
  oM 8 0,
  oO 9 (.bin .add (.tmp 7) (.tmp 8)),
  oM 10 0,
  oO 11 (.bin .rem (.tmp 9) (.tmp 10)),
  oM 4 11])
 .ret))⟩
theorem s314:compFn Try.prog Try.f314=some c314:=by kernel_rfl
def c329:XFn:=
 ⟨[.tmp 2],
 (.seq (.reg [oO 2 (.mv (oK 0))])
 (.seq (.reg [oM 3 0,
  oO 4 (.bin .shr (.tmp 3) (.const (.int .u64 24))),
  oO 5 (.idxs [0,1,1,2,1,2,2,3,1,2,2,3,2,3,3,4,1,2,2,3,2,3,3,4,2,3,3,4,3,4,4,5,1,2,2,3,2,3,3,4,2,3,3,4,3,4,4,5,2,3,3,4,3,4,4,5,3,4,4,5,4,5,5,6,1,2,2,3,2,3,3,4,2,3,3,4,3,4,4,5,2,3,3,4,3,4,4,5,3,4,4,5,4,5,5,6,2,3,3,4,3,4,4,5,3,4,4,5,4,5,5,6,3,4,4,5,4,5,5,6,4,5,5,6,5,6,6,7,1,2,2,3,2,3,3,4,2,3,3,4,3,4,4,5,2,3,3,4,3,4,4,5,3,4,4,5,4,5,5,6,2,3,3,4,3,4,4,5,3,4,4,5,4,5,5,6,3,4,4,5,4,5,5,6,4,5,5,6,5,6,6,7,2,3,3,4,3,4,4,5,3,4,4,5,4,5,5,6,3,4,4,5,4,5,5,6,4,5,5,6,5,6,6,7,3,4,4,5,4,5,5,6,4,5,5,6,5,6,6,7,4,5,5,6,5,6,6,7,5,6,6,7,6,7,7,8] (.tmp 4)),
  oM 6 0,
  oO 7 (.bin .shr (.tmp 6) (.const (.int .u64 16))),
  oO 8 (.bin .and (.tmp 7) (.const (.int .u32 255))),
  oO 9 (.idxs [0,1,1,2,1,2,2,3,1,2,2,3,2,3,3,4,1,2,2,3,2,3,3,4,2,3,3,4,3,4,4,5,1,2,2,3,2,3,3,4,2,3,3,4,3,4,4,5,2,3,3,4,3,4,4,5,3,4,4,5,4,5,5,6,1,2,2,3,2,3,3,4,2,3,3,4,3,4,4,5,2,3,3,4,3,4,4,5,3,4,4,5,4,5,5,6,2,3,3,4,3,4,4,5,3,4,4,5,4,5,5,6,3,4,4,5,4,5,5,6,4,5,5,6,5,6,6,7,1,2,2,3,2,3,3,4,2,3,3,4,3,4,4,5,2,3,3,4,3,4,4,5,3,4,4,5,4,5,5,6,2,3,3,4,3,4,4,5,3,4,4,5,4,5,5,6,3,4,4,5,4,5,5,6,4,5,5,6,5,6,6,7,2,3,3,4,3,4,4,5,3,4,4,5,4,5,5,6,3,4,4,5,4,5,5,6,4,5,5,6,5,6,6,7,3,4,4,5,4,5,5,6,4,5,5,6,5,6,6,7,4,5,5,6,5,6,6,7,5,6,6,7,6,7,7,8] (.tmp 8)),
  oO 10 (.bin .add (.tmp 5) (.tmp 9)),
  oM 11 0,
  oO 12 (.bin .shr (.tmp 11) (.const (.int .u64 8))),
  oO 13 (.bin .and (.tmp 12) (.const (.int .u32 255))),
  oO 14 (.idxs [0,1,1,2,1,2,2,3,1,2,2,3,2,3,3,4,1,2,2,3,2,3,3,4,2,3,3,4,3,4,4,5,1,2,2,3,2,3,3,4,2,3,3,4,3,4,4,5,2,3,3,4,3,4,4,5,3,4,4,5,4,5,5,6,1,2,2,3,2,3,3,4,2,3,3,4,3,4,4,5,2,3,3,4,3,4,4,5,3,4,4,5,4,5,5,6,2,3,3,4,3,4,4,5,3,4,4,5,4,5,5,6,3,4,4,5,4,5,5,6,4,5,5,6,5,6,6,7,1,2,2,3,2,3,3,4,2,3,3,4,3,4,4,5,2,3,3,4,3,4,4,5,3,4,4,5,4,5,5,6,2,3,3,4,3,4,4,5,3,4,4,5,4,5,5,6,3,4,4,5,4,5,5,6,4,5,5,6,5,6,6,7,2,3,3,4,3,4,4,5,3,4,4,5,4,5,5,6,3,4,4,5,4,5,5,6,4,5,5,6,5,6,6,7,3,4,4,5,4,5,5,6,4,5,5,6,5,6,6,7,4,5,5,6,5,6,6,7,5,6,6,7,6,7,7,8] (.tmp 13)),
  oO 15 (.bin .add (.tmp 10) (.tmp 14)),
  oM 16 0,
  oO 17 (.bin .and (.tmp 16) (.const (.int .u32 255))),
  oO 18 (.idxs [0,1,1,2,1,2,2,3,1,2,2,3,2,3,3,4,1,2,2,3,2,3,3,4,2,3,3,4,3,4,4,5,1,2,2,3,2,3,3,4,2,3,3,4,3,4,4,5,2,3,3,4,3,4,4,5,3,4,4,5,4,5,5,6,1,2,2,3,2,3,3,4,2,3,3,4,3,4,4,5,2,3,3,4,3,4,4,5,3,4,4,5,4,5,5,6,2,3,3,4,3,4,4,5,3,4,4,5,4,5,5,6,3,4,4,5,4,5,5,6,4,5,5,6,5,6,6,7,1,2,2,3,2,3,3,4,2,3,3,4,3,4,4,5,2,3,3,4,3,4,4,5,3,4,4,5,4,5,5,6,2,3,3,4,3,4,4,5,3,4,4,5,4,5,5,6,3,4,4,5,4,5,5,6,4,5,5,6,5,6,6,7,2,3,3,4,3,4,4,5,3,4,4,5,4,5,5,6,3,4,4,5,4,5,5,6,4,5,5,6,5,6,6,7,3,4,4,5,4,5,5,6,4,5,5,6,5,6,6,7,4,5,5,6,5,6,6,7,5,6,6,7,6,7,7,8] (.tmp 17)),
  oO 19 (.bin .add (.tmp 15) (.tmp 18)),
  oO 20 (.conv .i64 (.tmp 19)),
  oM 2 20])
 .ret))⟩
theorem s329:compFn Try.prog Try.f329=some c329:=by kernel_rfl
def tab2:List (Nat×XFn):=[(203,c203),(204,c204),(205,c205),(206,c206),(207,c207),(208,c208),(209,c209),(210,c210),(211,c211),(224,c224),(243,c243),(251,c251),(260,c260),(264,c264),(285,c285),(294,c294),(295,c295),(296,c296),(297,c297),(298,c298),(311,c311),(314,c314),(329,c329)]
theorem ts2:TSound Try.prog (fun g=>tab2.lookup g):=by
 refine tsound_of_all (P:=Try.prog) (tab:=tab2) ?_
 intro p hp
 simp only[tab2,List.mem_cons,List.not_mem_nil,or_false] at hp
 rcases hp with rfl|rfl|rfl|rfl|rfl|rfl|rfl|rfl|rfl|rfl|rfl|rfl|rfl|rfl|rfl|rfl|rfl|rfl|rfl|rfl|rfl|rfl|rfl
 ·exact⟨_,Try.func203,s203⟩
 ·exact⟨_,Try.func204,s204⟩
 ·exact⟨_,Try.func205,s205⟩
 ·exact⟨_,Try.func206,s206⟩
 ·exact⟨_,Try.func207,s207⟩
 ·exact⟨_,Try.func208,s208⟩
 ·exact⟨_,Try.func209,s209⟩
 ·exact⟨_,Try.func210,s210⟩
 ·exact⟨_,Try.func211,s211⟩
 ·exact⟨_,Try.func224,s224⟩
 ·exact⟨_,Try.func243,s243⟩
 ·exact⟨_,Try.func251,s251⟩
 ·exact⟨_,Try.func260,s260⟩
 ·exact⟨_,Try.func264,s264⟩
 ·exact⟨_,Try.func285,s285⟩
 ·exact⟨_,Try.func294,s294⟩
 ·exact⟨_,Try.func295,s295⟩
 ·exact⟨_,Try.func296,s296⟩
 ·exact⟨_,Try.func297,s297⟩
 ·exact⟨_,Try.func298,s298⟩
 ·exact⟨_,Try.func311,s311⟩
 ·exact⟨_,Try.func314,s314⟩
 ·exact⟨_,Try.func329,s329⟩
end Go.Proofs.Ytapafdpnmakekaa.X
