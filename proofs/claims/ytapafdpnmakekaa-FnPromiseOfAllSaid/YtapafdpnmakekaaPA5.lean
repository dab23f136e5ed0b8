/- Texts of one claim, put together by merge.py: XCode2. -/
import Derived.Test.YtapafdpnmakekaaPA3
import Derived.Test.YtapafdpnmakekaaProg
set_option linter.unusedVariables false
set_option maxRecDepth 4000
namespace Go.Proofs.Ytapafdpnmakekaa.X
open Go Go.RowKit
def c184:XFn:=
 ⟨[.tmp 4],
 (.seq (.reg [oO 4 (.mv (.const (.bool false)))])
 (.seq (.seq (.reg [oM 7 1,
  oN 8 7,
  oO 9 (.mv (oK 0))])
 (.blk 0 (.loop (.seq (.reg [oO 10 (.bin .lss (.tmp 9) (.tmp 8))])
 (.seq (.cond (.tmp 10) .skip (.exit 0))
 (.seq (.blk 1 (.seq (.reg [oX 11 1 7 9,
  oL 12 11,
  oM 6 12])
 (.seq (.reg [oM 13 6,
  oO 14 (.bin .lss (.tmp 13) (oK 0)),
  oM 15 14,
  oG 16 (.mv (.tmp 6)) 15 false,
  oG 17 (.mv (.tmp 0)) 15 false,
  oG 18 (.bin .geq (.tmp 16) (.tmp 17)) 15 false,
  oO 19 (.pick (.tmp 15) (.const (.bool true)) (.tmp 18))])
 (.cond (.tmp 19) (.seq (.reg [oO 4 (.mv (.const (.bool false)))])
 .ret) .skip))))
 (.reg [oO 20 (.bin .add (.tmp 9) (oK 1)),
  oM 9 20])))))))
 (.seq (.reg [oO 4 (.mv (.const (.bool true)))])
 .ret)))⟩
theorem s184:compFn Try.prog Try.f184=some c184:=by kernel_rfl
def c196:XFn:=
 ⟨[.celln 2 27],
 (.seq (.reg [oO 1 (.box 138 (.tmp 0)),
  oO 2 (.alloc 172 [.int .u8 0,.int .u8 0,.int .u8 0,.int .u8 0,.int .u8 0,.int .u8 0,.int .u8 0,.int .u8 0,.int .u8 0,.int .u8 0,.int .u8 0,.int .u8 0,.int .u8 0,.int .u8 0,.int .u8 0,.int .u8 0,.int .u8 0,.int .u8 0,.int .u8 0,.int .u8 0,.int .u8 0,.int .u8 0,.int .u8 0,.int .u8 0,.int .u8 0,.int .u8 0,.int .u8 0])])
 (.seq (.reg [oF 3 0 1,
  oO 4 (.loadn 9 (.tmp 3)),
  oF 5 9 1,
  oO 6 (.loadn 9 (.tmp 5)),
  oF 7 18 1,
  oO 8 (.loadn 9 (.tmp 7)),
  oO 9 (.build [.int .u8 0,.int .u8 0,.int .u8 0,.int .u8 0,.int .u8 0,.int .u8 0,.int .u8 0,.int .u8 0,.int .u8 0,.int .u8 0,.int .u8 0,.int .u8 0,.int .u8 0,.int .u8 0,.int .u8 0,.int .u8 0,.int .u8 0,.int .u8 0,.int .u8 0,.int .u8 0,.int .u8 0,.int .u8 0,.int .u8 0,.int .u8 0,.int .u8 0,.int .u8 0,.int .u8 0] [(0,9,(.tmp 4)),(9,9,(.tmp 6)),(18,9,(.tmp 8))]),
  oS (.store 27 (.tmp 2) (.tmp 9))])
 .ret))⟩
theorem s196:compFn Try.prog Try.f196=some c196:=by kernel_rfl
def c198:XFn:=
 ⟨[.celln 4 9],
 (.seq (.reg [oO 2 (.box 138 (.tmp 0)),
  oO 4 (.alloc 136 [.int .u8 0,.int .u8 0,.int .u8 0,.int .u8 0,.int .u8 0,.int .u8 0,.int .u8 0,.int .u8 0,.int .u8 0])])
 (.seq (.seq (.reg [oM 5 1])
 (.blk 0 (.seq (.reg [oO 7 (.bin .eql (.tmp 5) (oK 0)),
  oM 6 7])
 (.cond (.tmp 6) (.seq (.reg [oF 8 0 2,
  oO 9 (.loadn 9 (.tmp 8)),
  oS (.store 9 (.tmp 4) (.tmp 9))])
 .ret) (.seq (.reg [oO 11 (.bin .eql (.tmp 5) (oK 1)),
  oM 10 11])
 (.cond (.tmp 10) (.seq (.reg [oF 12 9 2,
  oO 13 (.loadn 9 (.tmp 12)),
  oS (.store 9 (.tmp 4) (.tmp 13))])
 .ret) .skip))))))
 (.seq (.reg [oF 14 18 2,
  oO 15 (.loadn 9 (.tmp 14)),
  oS (.store 9 (.tmp 4) (.tmp 15))])
 .ret)))⟩
theorem s198:compFn Try.prog Try.f198=some c198:=by kernel_rfl
def c203:XFn:=
 ⟨[.celln 6 4],
 (.seq (.reg [oO 6 (.alloc 70 [.int .i64 0,.int .i64 0,.slice none 0 0,.slice none 0 0])])
 (.seq (.reg [oM 24 0,
  oM 25 1,
  oO 26 (.build [.int .i64 0,.int .i64 0,.slice none 0 0,.slice none 0 0] [(0,1,(.tmp 24)),(1,1,(.tmp 25))]),
  oM 27 1,
  oO 28 (.mks 246 5 20 [.int .u32 0,.int .u32 0,.int .u32 0,.int .u32 0,.int .u32 0] (.tmp 27)),
  oM 8 28,
  oO 7 (.boxn 70 4 (.tmp 26))])
 (.seq (.seq (.reg [oM 29 2,
  oN 30 29,
  oO 31 (.mv (oK 0))])
 (.blk 0 (.loop (.seq (.reg [oO 32 (.bin .lss (.tmp 31) (.tmp 30))])
 (.seq (.cond (.tmp 32) .skip (.exit 0))
 (.seq (.blk 1 (.seq (.reg [oM 33 31,
  oX 34 1 29 31,
  oL 35 34,
  oM 9 33,
  oM 10 35])
 (.seq (.reg [oM 36 10,
  oN 37 36,
  oO 38 (.mv (oK 0))])
 (.blk 2 (.loop (.seq (.reg [oO 39 (.bin .lss (.tmp 38) (.tmp 37))])
 (.seq (.cond (.tmp 39) .skip (.exit 2))
 (.seq (.blk 3 (.seq (.reg [oM 40 38,
  oX 41 1 36 38,
  oL 42 41,
  oM 11 40,
  oM 12 42])
 (.reg [oM 43 8,
  oM 44 11,
  oM 45 12,
  oX 46 5 43 44,
  oO 47 (.ixa 5 1 (.tmp 46) (.tmp 45)),
  oL 48 47,
  oM 49 9,
  oO 50 (.bin .shl (.const (.int .u32 1)) (.tmp 49)),
  oO 51 (.bin .or (.tmp 48) (.tmp 50)),
  oX 52 5 43 44,
  oO 53 (.ixa 5 1 (.tmp 52) (.tmp 45)),
  oS (.store 1 (.tmp 53) (.tmp 51))])))
 (.reg [oO 54 (.bin .add (.tmp 38) (oK 1)),
  oM 38 54])))))))))
 (.reg [oO 55 (.bin .add (.tmp 31) (oK 1)),
  oM 31 55])))))))
 (.seq (.blk 4 (.loop (.blk 5 (.seq (.reg [oM 57 0,
  oM 58 8,
  oO 59 (.call (.func 294) [(.tmp 57),(.tmp 58)]),
  oM 56 59,
  oE 60 56 0,
  oE 61 56 1,
  oO 13 (.alloc 248 [.int .i64 0,.int .i64 0,.int .i64 0]),
  oS (.store 3 (.tmp 13) (.tmp 60)),
  oM 14 61])
 (.seq (.seq (.reg [oM 62 14,
  oO 63 (.un .not (.tmp 62))])
 (.cond (.tmp 63) (.exit 4) .skip))
 (.seq (.reg [oM 64 0,
  oM 65 8,
  oF 66 0 13,
  oL 67 66,
  oX 68 5 65 67,
  oO 69 (.loadn 5 (.tmp 68)),
  oM 70 8,
  oF 71 1 13,
  oL 72 71,
  oX 73 5 70 72,
  oO 74 (.loadn 5 (.tmp 73)),
  oF 75 2 13,
  oL 76 75,
  oO 77 (.call (.func 295) [(.tmp 64),(.tmp 69),(.tmp 74),(.tmp 76)]),
  oO 78 (.build [.int .u32 0,.int .u32 0,.int .u32 0,.int .u32 0,.int .u32 0] []),
  oM 15 77,
  oO 16 (.boxn 246 5 (.tmp 78))])
 (.seq (.seq (.reg [oO 17 (.mv (oK 1))])
 (.blk 6 (.loop (.seq (.seq (.reg [oM 79 17,
  oM 80 0,
  oO 81 (.bin .lss (.tmp 79) (.tmp 80))])
 (.cond (.tmp 81) .skip (.exit 6)))
 (.seq (.blk 7 (.seq (.reg [oM 84 17,
  oM 85 8,
  oF 86 0 13,
  oL 87 86,
  oM 88 17,
  oX 89 5 85 87,
  oO 90 (.ixa 5 1 (.tmp 89) (.tmp 88)),
  oL 91 90,
  oM 92 15,
  oO 93 (.bin .and (.tmp 91) (.tmp 92)),
  oO 94 (.ixa 5 1 (.tmp 16) (.tmp 84)),
  oS (.store 1 (.tmp 94) (.tmp 93))])
 (.seq (.reg [oM 95 8,
  oF 96 0 13,
  oL 97 96,
  oM 98 17,
  oX 99 5 95 97,
  oO 100 (.ixa 5 1 (.tmp 99) (.tmp 98)),
  oL 101 100,
  oM 102 15,
  oO 103 (.bin .andNot (.tmp 101) (.tmp 102)),
  oX 104 5 95 97,
  oO 105 (.ixa 5 1 (.tmp 104) (.tmp 98)),
  oS (.store 1 (.tmp 105) (.tmp 103))])
 (.reg [oM 106 8,
  oF 107 1 13,
  oL 108 107,
  oM 109 17,
  oX 110 5 106 108,
  oO 111 (.ixa 5 1 (.tmp 110) (.tmp 109)),
  oL 112 111,
  oM 113 15,
  oO 114 (.bin .andNot (.tmp 112) (.tmp 113)),
  oX 115 5 106 108,
  oO 116 (.ixa 5 1 (.tmp 115) (.tmp 109)),
  oS (.store 1 (.tmp 116) (.tmp 114))]))))
 (.reg [oM 82 17,
  oO 83 (.bin .add (.tmp 82) (oK 1)),
  oM 17 83]))))))
 (.seq (.reg [oM 117 8,
  oO 118 (.loadn 5 (.tmp 16)),
  oO 119 (.bslice 246 5 1 [.int .u32 0,.int .u32 0,.int .u32 0,.int .u32 0,.int .u32 0] [(0,5,(.tmp 118))]),
  oO 120 (.app 246 5 20 (.tmp 117) (.tmp 119)),
  oM 8 120])
 (.reg [oF 121 2 7,
  oL 122 121,
  oF 123 0 13,
  oL 124 123,
  oF 125 1 13,
  oL 126 125,
  oF 127 2 13,
  oL 128 127,
  oO 129 (.build [.int .i64 0,.int .i64 0,.int .i64 0] [(0,1,(.tmp 124)),(1,1,(.tmp 126)),(2,1,(.tmp 128))]),
  oO 130 (.bslice 181 3 1 [.int .i64 0,.int .i64 0,.int .i64 0] [(0,3,(.tmp 129))]),
  oO 131 (.app 181 3 24 (.tmp 122) (.tmp 130)),
  oF 132 2 7,
  oS (.store 1 (.tmp 132) (.tmp 131))])))))))))
 (.seq (.reg [oO 133 (.bslice 27 1 0 [.slice none 0 0] []),
  oM 18 133])
 (.seq (.seq (.reg [oM 134 2,
  oN 135 134,
  oO 136 (.mv (oK 0))])
 (.blk 8 (.loop (.seq (.reg [oO 137 (.bin .lss (.tmp 136) (.tmp 135))])
 (.seq (.cond (.tmp 137) .skip (.exit 8))
 (.seq (.blk 9 (.seq (.reg [oM 138 136,
  oM 19 138])
 (.seq (.reg [oM 139 8,
  oN 140 139,
  oO 141 (.mks 2 1 8 [.int .i64 0] (.tmp 140)),
  oM 20 141])
 (.seq (.seq (.reg [oM 142 8,
  oN 143 142,
  oO 144 (.mv (oK 0))])
 (.blk 10 (.loop (.seq (.reg [oO 145 (.bin .lss (.tmp 144) (.tmp 143))])
 (.seq (.cond (.tmp 145) .skip (.exit 10))
 (.seq (.blk 11 (.seq (.reg [oM 146 144,
  oX 147 5 142 144,
  oO 148 (.loadn 5 (.tmp 147)),
  oO 22 (.alloc 246 [.int .u32 0,.int .u32 0,.int .u32 0,.int .u32 0,.int .u32 0]),
  oM 21 146,
  oS (.store 5 (.tmp 22) (.tmp 148))])
 (.seq (.reg [oO 23 (.mv (oK 1))])
 (.blk 12 (.loop (.seq (.seq (.reg [oM 149 23,
  oM 150 0,
  oO 151 (.bin .lss (.tmp 149) (.tmp 150))])
 (.cond (.tmp 151) .skip (.exit 12)))
 (.seq (.blk 13 (.seq (.reg [oM 154 23,
  oO 155 (.ixa 5 1 (.tmp 22) (.tmp 154)),
  oL 156 155,
  oM 157 19,
  oO 158 (.bin .shr (.tmp 156) (.tmp 157)),
  oO 159 (.bin .and (.tmp 158) (.const (.int .u32 1))),
  oO 160 (.bin .eql (.tmp 159) (.const (.int .u32 1)))])
 (.cond (.tmp 160) (.reg [oM 161 20,
  oM 162 21,
  oM 163 23,
  oX 164 1 161 162,
  oS (.store 1 (.tmp 164) (.tmp 163))]) .skip)))
 (.reg [oM 152 23,
  oO 153 (.bin .add (.tmp 152) (oK 1)),
  oM 23 153]))))))))
 (.reg [oO 165 (.bin .add (.tmp 144) (oK 1)),
  oM 144 165])))))))
 (.reg [oM 166 18,
  oM 167 20,
  oO 168 (.bslice 27 1 1 [.slice none 0 0] [(0,1,(.tmp 167))]),
  oO 169 (.app 27 1 24 (.tmp 166) (.tmp 168)),
  oM 18 169])))))
 (.reg [oO 170 (.bin .add (.tmp 136) (oK 1)),
  oM 136 170])))))))
 (.seq (.reg [oO 171 (.loadn 4 (.tmp 7)),
  oM 172 18,
  oO 173 (.call (.func 206) [(.tmp 171),(.tmp 172)]),
  oS (.store 4 (.tmp 6) (.tmp 173))])
 .ret)))))))⟩
theorem s203:compFn Try.prog Try.f203=some c203:=by kernel_rfl
def c206:XFn:=
 ⟨[.celln 4 4],
 (.seq (.reg [oO 2 (.box 70 (.tmp 0)),
  oO 4 (.alloc 70 [.int .i64 0,.int .i64 0,.slice none 0 0,.slice none 0 0])])
 (.seq (.seq (.reg [oM 10 1,
  oN 11 10,
  oO 12 (.mv (oK 0))])
 (.blk 0 (.loop (.seq (.reg [oO 13 (.bin .lss (.tmp 12) (.tmp 11))])
 (.seq (.cond (.tmp 13) .skip (.exit 0))
 (.seq (.blk 1 (.seq (.reg [oX 14 1 10 12,
  oL 15 14,
  oM 6 15])
 (.seq (.reg [oO 16 (.build [.int .i64 0,.int .i64 0] []),
  oO 7 (.alloc 183 [.int .i64 0,.int .i64 0]),
  oS (.store 2 (.tmp 7) (.tmp 16))])
 (.seq (.seq (.reg [oM 17 6,
  oN 18 17,
  oO 19 (.mv (oK 0))])
 (.blk 2 (.loop (.seq (.reg [oO 20 (.bin .lss (.tmp 19) (.tmp 18))])
 (.seq (.cond (.tmp 20) .skip (.exit 2))
 (.seq (.blk 3 (.seq (.reg [oM 21 19,
  oX 22 1 17 19,
  oL 23 22,
  oM 8 21,
  oM 9 23])
 (.blk 4 (.seq (.reg [oM 52 9,
  oO 53 (.bin .eql (.tmp 52) (oK 0)),
  oM 51 53])
 (.cond (.tmp 51) .skip (.seq (.reg [oF 55 1 7,
  oL 56 55,
  oO 57 (.bin .eql (.tmp 56) (oK 0)),
  oM 54 57])
 (.cond (.tmp 54) (.reg [oM 58 8,
  oM 59 9,
  oO 60 (.build [.int .i64 0,.int .i64 0] [(0,1,(.tmp 58)),(1,1,(.tmp 59))]),
  oS (.store 2 (.tmp 7) (.tmp 60))]) (.seq (.reg [oF 24 2 2,
  oL 25 24,
  oF 26 0 7,
  oL 27 26,
  oM 28 8,
  oM 29 9,
  oF 30 0 2,
  oL 31 30,
  oF 32 1 7,
  oL 33 32,
  ⟨some 34,.call (.func 243) [(.tmp 31),(.tmp 33)],none,.t⟩,
  oO 35 (.bin .mul (.tmp 29) (.tmp 34)),
  oF 36 0 2,
  oL 37 36,
  oO 38 (.bin .rem (.tmp 35) (.tmp 37)),
  oO 39 (.build [.int .i64 0,.int .i64 0,.int .i64 0] [(0,1,(.tmp 27)),(1,1,(.tmp 28)),(2,1,(.tmp 38))]),
  oO 40 (.bslice 181 3 1 [.int .i64 0,.int .i64 0,.int .i64 0] [(0,3,(.tmp 39))]),
  oO 41 (.app 181 3 24 (.tmp 25) (.tmp 40)),
  oF 42 2 2,
  oS (.store 1 (.tmp 42) (.tmp 41))])
 (.reg [oF 43 1 2,
  oL 44 43,
  oF 45 2 2,
  oL 46 45,
  oN 47 46,
  oO 48 (.bin .add (.tmp 44) (.tmp 47)),
  oO 49 (.bin .sub (.tmp 48) (oK 1)),
  oF 50 0 7,
  oS (.store 1 (.tmp 50) (.tmp 49))])))))))))
 (.reg [oO 61 (.bin .add (.tmp 19) (oK 1)),
  oM 19 61])))))))
 (.reg [oF 62 3 2,
  oL 63 62,
  oO 64 (.loadn 2 (.tmp 7)),
  oO 65 (.bslice 183 2 1 [.int .i64 0,.int .i64 0] [(0,2,(.tmp 64))]),
  oO 66 (.app 183 2 16 (.tmp 63) (.tmp 65)),
  oF 67 3 2,
  oS (.store 1 (.tmp 67) (.tmp 66))])))))
 (.reg [oO 68 (.bin .add (.tmp 12) (oK 1)),
  oM 12 68])))))))
 (.seq (.reg [oO 69 (.loadn 4 (.tmp 2)),
  oS (.store 4 (.tmp 4) (.tmp 69))])
 .ret)))⟩
theorem s206:compFn Try.prog Try.f206=some c206:=by kernel_rfl
def c208:XFn:=
 ⟨[.tmp 2],
 (.seq (.reg [oO 2 (.mv (.const (.slice none 0 0)))])
 (.seq (.reg [oO 8 (.bslice 27 1 0 [.slice none 0 0] []),
  oM 3 8])
 (.seq (.seq (.reg [oM 9 0,
  oO 10 (.ixs 1 (.tmp 9) (oK 0)),
  oL 11 10,
  oN 12 11,
  oO 13 (.mv (oK 0))])
 (.blk 0 (.loop (.seq (.reg [oO 14 (.bin .lss (.tmp 13) (.tmp 12))])
 (.seq (.cond (.tmp 14) .skip (.exit 0))
 (.seq (.blk 1 (.seq (.reg [oM 15 13,
  oM 4 15])
 (.seq (.reg [oO 16 (.bslice 2 1 0 [.int .i64 0] []),
  oM 5 16])
 (.seq (.seq (.reg [oM 17 0,
  oN 18 17,
  oO 19 (.mv (oK 0))])
 (.blk 2 (.loop (.seq (.reg [oO 20 (.bin .lss (.tmp 19) (.tmp 18))])
 (.seq (.cond (.tmp 20) .skip (.exit 2))
 (.seq (.blk 3 (.seq (.reg [oX 21 1 17 19,
  oL 22 21,
  oM 7 22])
 (.reg [oM 23 5,
  oM 24 7,
  oM 25 4,
  oX 26 1 24 25,
  oL 27 26,
  oO 28 (.bslice 2 1 1 [.int .i64 0] [(0,1,(.tmp 27))]),
  oO 29 (.app 2 1 8 (.tmp 23) (.tmp 28)),
  oM 5 29])))
 (.reg [oO 30 (.bin .add (.tmp 19) (oK 1)),
  oM 19 30])))))))
 (.reg [oM 31 3,
  oM 32 5,
  oO 33 (.bslice 27 1 1 [.slice none 0 0] [(0,1,(.tmp 32))]),
  oO 34 (.app 27 1 24 (.tmp 31) (.tmp 33)),
  oM 3 34])))))
 (.reg [oO 35 (.bin .add (.tmp 13) (oK 1)),
  oM 13 35])))))))
 (.seq (.reg [oM 36 3,
  oM 2 36])
 .ret))))⟩
theorem s208:compFn Try.prog Try.f208=some c208:=by kernel_rfl
def c214:XFn:=
 ⟨[.tmp 8],
 (.seq (.reg [oO 8 (.mv (.const (.bool false)))])
 (.seq (.seq (.reg [oM 11 1,
  oN 12 11,
  oM 13 2,
  oO 14 (.bin .neq (.tmp 12) (.tmp 13))])
 (.cond (.tmp 14) (.seq (.reg [oO 8 (.mv (.const (.bool false)))])
 .ret) .skip))
 (.seq (.seq (.reg [oO 9 (.mv (oK 0))])
 (.blk 0 (.loop (.seq (.seq (.reg [oM 15 9,
  oM 16 1,
  oN 17 16,
  oO 18 (.bin .lss (.tmp 15) (.tmp 17))])
 (.cond (.tmp 18) .skip (.exit 0)))
 (.seq (.blk 1 (.seq (.seq (.reg [oM 21 1,
  oM 22 9,
  oX 23 1 21 22,
  oL 24 23,
  oN 25 24,
  oM 26 3,
  oO 27 (.bin .neq (.tmp 25) (.tmp 26))])
 (.cond (.tmp 27) (.seq (.reg [oO 8 (.mv (.const (.bool false)))])
 .ret) .skip))
 (.seq (.reg [oO 10 (.mv (oK 0))])
 (.blk 2 (.loop (.seq (.seq (.reg [oM 28 10,
  oM 29 1,
  oM 30 9,
  oX 31 1 29 30,
  oL 32 31,
  oN 33 32,
  oO 34 (.bin .lss (.tmp 28) (.tmp 33))])
 (.cond (.tmp 34) .skip (.exit 2)))
 (.seq (.blk 3 (.seq (.reg [oM 37 1,
  oM 38 9,
  oX 39 1 37 38,
  oL 40 39,
  oM 41 10,
  oX 42 1 40 41,
  oL 43 42,
  oM 44 0,
  oO 45 (.bin .sub (.tmp 44) (oK 1)),
  oO 46 (.call (.func 181) [(.tmp 43),(oK 0),(.tmp 45)]),
  oO 47 (.un .not (.tmp 46))])
 (.cond (.tmp 47) (.seq (.reg [oO 8 (.mv (.const (.bool false)))])
 .ret) .skip)))
 (.reg [oM 35 10,
  oO 36 (.bin .add (.tmp 35) (oK 1)),
  oM 10 36]))))))))
 (.reg [oM 19 9,
  oO 20 (.bin .add (.tmp 19) (oK 1)),
  oM 9 20]))))))
 (.seq (.reg [oO 8 (.mv (.const (.bool true)))])
 .ret))))⟩
theorem s214:compFn Try.prog Try.f214=some c214:=by kernel_rfl
def c215:XFn:=
 ⟨[.tmp 6],
 (.seq (.reg [oO 3 (.box 26 (.tmp 0)),
  oO 6 (.mv (.const (.slice none 0 0)))])
 (.seq (.reg [oO 15 (.bslice 27 1 0 [.slice none 0 0] []),
  oM 7 15])
 (.seq (.seq (.reg [oO 8 (.mv (oK 0))])
 (.blk 0 (.loop (.seq (.seq (.reg [oM 16 8,
  oF 17 1 3,
  oL 18 17,
  oO 19 (.bin .lss (.tmp 16) (.tmp 18))])
 (.cond (.tmp 19) .skip (.exit 0)))
 (.seq (.blk 1 (.reg [oM 22 7,
  oF 23 3 3,
  oL 24 23,
  oO 25 (.mks 2 1 8 [.int .i64 0] (.tmp 24)),
  oO 26 (.bslice 27 1 1 [.slice none 0 0] [(0,1,(.tmp 25))]),
  oO 27 (.app 27 1 24 (.tmp 22) (.tmp 26)),
  oM 7 27]))
 (.reg [oM 20 8,
  oO 21 (.bin .add (.tmp 20) (oK 1)),
  oM 8 21]))))))
 (.seq (.seq (.reg [oO 9 (.mv (oK 0))])
 (.blk 2 (.loop (.seq (.seq (.reg [oM 28 9,
  oF 29 4 3,
  oL 30 29,
  oN 31 30,
  oO 32 (.bin .lss (.tmp 28) (.tmp 31))])
 (.cond (.tmp 32) .skip (.exit 2)))
 (.seq (.blk 3 (.seq (.reg [oF 35 4 3,
  oL 36 35,
  oM 37 9,
  oX 38 27 36 37,
  oO 39 (.loadn 27 (.tmp 38)),
  oO 10 (.alloc 138 [.int .u8 0,.int .u8 0,.int .u8 0,.int .u8 0,.int .u8 0,.int .u8 0,.int .u8 0,.int .u8 0,.int .u8 0,.int .u8 0,.int .u8 0,.int .u8 0,.int .u8 0,.int .u8 0,.int .u8 0,.int .u8 0,.int .u8 0,.int .u8 0,.int .u8 0,.int .u8 0,.int .u8 0,.int .u8 0,.int .u8 0,.int .u8 0,.int .u8 0,.int .u8 0,.int .u8 0]),
  oS (.store 27 (.tmp 10) (.tmp 39))])
 (.seq (.reg [oF 40 0 10,
  oO 41 (.loadn 9 (.tmp 40)),
  oM 42 1,
  ⟨some 43,.call (.func 299) [(.tmp 41),(.tmp 42)],none,.t⟩,
  oF 44 0 3,
  oL 45 44,
  oO 46 (.bin .rem (.tmp 43) (.tmp 45)),
  oF 47 9 10,
  oO 48 (.loadn 9 (.tmp 47)),
  oM 49 2,
  ⟨some 50,.call (.func 299) [(.tmp 48),(.tmp 49)],none,.t⟩,
  oF 51 0 3,
  oL 52 51,
  oO 53 (.bin .rem (.tmp 50) (.tmp 52)),
  oO 54 (.bin .mul (.tmp 46) (.tmp 53)),
  oF 55 0 3,
  oL 56 55,
  oO 57 (.bin .rem (.tmp 54) (.tmp 56)),
  oM 11 57])
 (.seq (.reg [oO 12 (.mv (oK 0))])
 (.blk 4 (.loop (.seq (.seq (.reg [oM 58 12,
  oF 59 1 3,
  oL 60 59,
  oO 61 (.bin .lss (.tmp 58) (.tmp 60))])
 (.cond (.tmp 61) .skip (.exit 4)))
 (.seq (.blk 5 (.seq (.reg [oM 64 7,
  oM 65 12,
  oX 66 1 64 65,
  oL 67 66,
  oM 13 67])
 (.seq (.reg [oO 14 (.mv (oK 0))])
 (.blk 6 (.loop (.seq (.seq (.reg [oM 68 14,
  oF 69 3 3,
  oL 70 69,
  oO 71 (.bin .lss (.tmp 68) (.tmp 70))])
 (.cond (.tmp 71) .skip (.exit 6)))
 (.seq (.blk 7 (.reg [oM 74 13,
  oM 75 14,
  oM 76 13,
  oM 77 14,
  oX 78 1 76 77,
  oL 79 78,
  oM 80 12,
  oF 81 3 3,
  oL 82 81,
  oO 83 (.bin .mul (.tmp 80) (.tmp 82)),
  oM 84 14,
  oO 85 (.bin .add (.tmp 83) (.tmp 84)),
  oF 86 18 10,
  oO 87 (.ixa 9 1 (.tmp 86) (.tmp 85)),
  oL 88 87,
  oO 89 (.conv .i64 (.tmp 88)),
  oM 90 11,
  oO 91 (.bin .mul (.tmp 89) (.tmp 90)),
  oO 92 (.bin .add (.tmp 79) (.tmp 91)),
  oF 93 0 3,
  oL 94 93,
  oO 95 (.bin .rem (.tmp 92) (.tmp 94)),
  oX 96 1 74 75,
  oS (.store 1 (.tmp 96) (.tmp 95))]))
 (.reg [oM 72 14,
  oO 73 (.bin .add (.tmp 72) (oK 1)),
  oM 14 73]))))))))
 (.reg [oM 62 12,
  oO 63 (.bin .add (.tmp 62) (oK 1)),
  oM 12 63])))))))))
 (.reg [oM 33 9,
  oO 34 (.bin .add (.tmp 33) (oK 1)),
  oM 9 34]))))))
 (.seq (.reg [oM 97 7,
  oM 6 97])
 .ret)))))⟩
theorem s215:compFn Try.prog Try.f215=some c215:=by kernel_rfl
def c218:XFn:=
 ⟨[.tmp 8],
 (.seq (.reg [oO 4 (.box 26 (.tmp 0)),
  oO 8 (.mv (oK 0))])
 (.seq (.reg [oO 9 (.mv (oK 0))])
 (.seq (.seq (.reg [oF 12 4 4,
  oL 13 12,
  oN 14 13,
  oO 15 (.mv (oK 0))])
 (.blk 0 (.loop (.seq (.reg [oO 16 (.bin .lss (.tmp 15) (.tmp 14))])
 (.seq (.cond (.tmp 16) .skip (.exit 0))
 (.seq (.blk 1 (.seq (.reg [oX 17 27 13 15,
  oO 18 (.loadn 27 (.tmp 17)),
  oO 11 (.alloc 138 [.int .u8 0,.int .u8 0,.int .u8 0,.int .u8 0,.int .u8 0,.int .u8 0,.int .u8 0,.int .u8 0,.int .u8 0,.int .u8 0,.int .u8 0,.int .u8 0,.int .u8 0,.int .u8 0,.int .u8 0,.int .u8 0,.int .u8 0,.int .u8 0,.int .u8 0,.int .u8 0,.int .u8 0,.int .u8 0,.int .u8 0,.int .u8 0,.int .u8 0,.int .u8 0,.int .u8 0]),
  oS (.store 27 (.tmp 11) (.tmp 18))])
 (.reg [oM 19 9,
  oM 20 1,
  oF 21 0 11,
  oO 22 (.ixa 9 1 (.tmp 21) (.tmp 20)),
  oL 23 22,
  oO 24 (.conv .i64 (.tmp 23)),
  oM 25 2,
  oF 26 9 11,
  oO 27 (.ixa 9 1 (.tmp 26) (.tmp 25)),
  oL 28 27,
  oO 29 (.conv .i64 (.tmp 28)),
  oO 30 (.bin .mul (.tmp 24) (.tmp 29)),
  oM 31 3,
  oF 32 18 11,
  oO 33 (.ixa 9 1 (.tmp 32) (.tmp 31)),
  oL 34 33,
  oO 35 (.conv .i64 (.tmp 34)),
  oO 36 (.bin .mul (.tmp 30) (.tmp 35)),
  oO 37 (.bin .add (.tmp 19) (.tmp 36)),
  oM 9 37])))
 (.reg [oO 38 (.bin .add (.tmp 15) (oK 1)),
  oM 15 38])))))))
 (.seq (.reg [oM 39 9,
  oF 40 0 4,
  oL 41 40,
  oO 42 (.bin .rem (.tmp 39) (.tmp 41)),
  oM 8 42])
 .ret))))⟩
theorem s218:compFn Try.prog Try.f218=some c218:=by kernel_rfl
def c219:XFn:=
 ⟨[.tmp 8],
 (.seq (.reg [oO 4 (.box 26 (.tmp 0)),
  oO 8 (.mv (oK 0))])
 (.seq (.seq (.reg [oM 9 1,
  oF 10 2 4,
  oL 11 10,
  oO 12 (.bin .rem (.tmp 9) (.tmp 11)),
  oM 13 2,
  oF 14 3 4,
  oL 15 14,
  oO 16 (.bin .quo (.tmp 13) (.tmp 15)),
  oO 17 (.bin .eql (.tmp 12) (.tmp 16)),
  oM 18 17,
  oG 19 (.mv (.tmp 1)) 18 true,
  oG 20 (.fadr 2 (.tmp 4)) 18 true,
  oG 21 (.load1 (.tmp 20)) 18 true,
  oG 22 (.bin .quo (.tmp 19) (.tmp 21)) 18 true,
  oG 23 (.mv (.tmp 3)) 18 true,
  oG 24 (.fadr 3 (.tmp 4)) 18 true,
  oG 25 (.load1 (.tmp 24)) 18 true,
  oG 26 (.bin .quo (.tmp 23) (.tmp 25)) 18 true,
  oG 27 (.bin .eql (.tmp 22) (.tmp 26)) 18 true,
  oO 28 (.pick (.tmp 18) (.tmp 27) (.const (.bool false))),
  oM 29 28,
  oG 30 (.mv (.tmp 2)) 29 true,
  oG 31 (.fadr 3 (.tmp 4)) 29 true,
  oG 32 (.load1 (.tmp 31)) 29 true,
  oG 33 (.bin .rem (.tmp 30) (.tmp 32)) 29 true,
  oG 34 (.mv (.tmp 3)) 29 true,
  oG 35 (.fadr 3 (.tmp 4)) 29 true,
  oG 36 (.load1 (.tmp 35)) 29 true,
  oG 37 (.bin .rem (.tmp 34) (.tmp 36)) 29 true,
  oG 38 (.bin .eql (.tmp 33) (.tmp 37)) 29 true,
  oO 39 (.pick (.tmp 29) (.tmp 38) (.const (.bool false)))])
 (.cond (.tmp 39) (.seq (.reg [oO 8 (.mv (oK 1))])
 .ret) .skip))
 (.seq (.reg [oO 8 (.mv (oK 0))])
 .ret)))⟩
theorem s219:compFn Try.prog Try.f219=some c219:=by kernel_rfl
def c224:XFn:=
 ⟨[.tmp 2],
 (.seq (.reg [oO 2 (.mv (.const (.bool false)))])
 (.seq (.reg [oM 3 0,
  oO 4 (.bin .eql (.tmp 3) (oK 2)),
  oM 5 4,
  oG 6 (.mv (.tmp 0)) 5 false,
  oG 7 (.bin .eql (.tmp 6) (oK 3)) 5 false,
  oO 8 (.pick (.tmp 5) (.const (.bool true)) (.tmp 7)),
  oM 9 8,
  oG 10 (.mv (.tmp 0)) 9 false,
  oG 11 (.bin .eql (.tmp 10) (oK 5)) 9 false,
  oO 12 (.pick (.tmp 9) (.const (.bool true)) (.tmp 11)),
  oM 2 12])
 .ret))⟩
theorem s224:compFn Try.prog Try.f224=some c224:=by kernel_rfl
def c243:XFn:=
 ⟨[.tmp 4],
 (.seq (.reg [oO 4 (.mv (oK 0))])
 (.seq (.reg [oO 5 (.mv (oK 1))])
 (.blk 0 (.loop (.seq (.blk 1 (.seq (.reg [oM 8 5,
  oM 9 1,
  oO 10 (.bin .mul (.tmp 8) (.tmp 9)),
  oM 11 0,
  oO 12 (.bin .rem (.tmp 10) (.tmp 11)),
  oO 13 (.bin .eql (.tmp 12) (oK 1))])
 (.cond (.tmp 13) (.seq (.reg [oM 14 5,
  oM 4 14])
 .ret) .skip)))
 (.reg [oM 6 5,
  oO 7 (.bin .add (.tmp 6) (oK 1)),
  oM 5 7]))))))⟩
theorem s243:compFn Try.prog Try.f243=some c243:=by kernel_rfl
def c259:XFn:=
 ⟨[.celln 2 5],
 (.seq (.reg [oO 1 (.box 26 (.tmp 0)),
  oO 2 (.alloc 26 [.int .i64 0,.int .i64 0,.int .i64 0,.int .i64 0,.slice none 0 0])])
 (.seq (.reg [oO 7 (.loadn 5 (.tmp 1)),
  oO 8 (.call (.func 317) [(.tmp 7)]),
  oO 3 (.alloc 26 [.int .i64 0,.int .i64 0,.int .i64 0,.int .i64 0,.slice none 0 0]),
  oS (.store 5 (.tmp 3) (.tmp 8)),
  oO 4 (.mv (.const (.bool true)))])
 (.seq (.blk 0 (.loop (.seq (.seq (.reg [oM 9 4])
 (.cond (.tmp 9) .skip (.exit 0)))
 (.blk 1 (.seq (.reg [oO 11 (.loadn 5 (.tmp 3)),
  oO 12 (.call (.func 318) [(.tmp 11)]),
  oM 10 12,
  oE 13 10 0,
  oE 14 10 1,
  oO 5 (.alloc 26 [.int .i64 0,.int .i64 0,.int .i64 0,.int .i64 0,.slice none 0 0]),
  oS (.store 5 (.tmp 5) (.tmp 13)),
  oM 6 14])
 (.seq (.reg [oO 15 (.loadn 5 (.tmp 5)),
  oS (.store 5 (.tmp 3) (.tmp 15))])
 (.reg [oM 16 6,
  oM 4 16])))))))
 (.seq (.reg [oO 17 (.loadn 5 (.tmp 3)),
  oS (.store 5 (.tmp 2) (.tmp 17))])
 .ret))))⟩
theorem s259:compFn Try.prog Try.f259=some c259:=by kernel_rfl
def c267:XFn:=
 ⟨[.celln 6 9],
 (.seq (.reg [oO 4 (.box 136 (.tmp 1)),
  oO 6 (.alloc 136 [.int .u8 0,.int .u8 0,.int .u8 0,.int .u8 0,.int .u8 0,.int .u8 0,.int .u8 0,.int .u8 0,.int .u8 0])])
 (.seq (.reg [oM 7 0,
  oO 8 (.build [.int .u8 0,.int .u8 0,.int .u8 0,.int .u8 0,.int .u8 0,.int .u8 0,.int .u8 0,.int .u8 0,.int .u8 0] []),
  oO 9 (.loadn 9 (.tmp 4)),
  oM 10 2,
  oO 11 (.call (.func 279) [(.tmp 7),(.tmp 8),(.tmp 9),(.tmp 10)]),
  oS (.store 9 (.tmp 6) (.tmp 11))])
 .ret))⟩
theorem s267:compFn Try.prog Try.f267=some c267:=by kernel_rfl
def c268:XFn:=
 ⟨[.celln 6 27],
 (.seq (.reg [oO 3 (.box 138 (.tmp 0)),
  oO 5 (.box 136 (.tmp 2)),
  oO 6 (.alloc 138 [.int .u8 0,.int .u8 0,.int .u8 0,.int .u8 0,.int .u8 0,.int .u8 0,.int .u8 0,.int .u8 0,.int .u8 0,.int .u8 0,.int .u8 0,.int .u8 0,.int .u8 0,.int .u8 0,.int .u8 0,.int .u8 0,.int .u8 0,.int .u8 0,.int .u8 0,.int .u8 0,.int .u8 0,.int .u8 0,.int .u8 0,.int .u8 0,.int .u8 0,.int .u8 0,.int .u8 0])])
 (.seq (.seq (.reg [oM 7 1])
 (.blk 0 (.seq (.reg [oO 11 (.bin .eql (.tmp 7) (oK 0)),
  oM 10 11])
 (.cond (.tmp 10) (.reg [oO 12 (.loadn 9 (.tmp 5)),
  oF 13 0 3,
  oS (.store 9 (.tmp 13) (.tmp 12))]) (.seq (.reg [oO 15 (.bin .eql (.tmp 7) (oK 1)),
  oM 14 15])
 (.cond (.tmp 14) (.reg [oO 16 (.loadn 9 (.tmp 5)),
  oF 17 9 3,
  oS (.store 9 (.tmp 17) (.tmp 16))]) (.reg [oO 8 (.loadn 9 (.tmp 5)),
  oF 9 18 3,
  oS (.store 9 (.tmp 9) (.tmp 8))])))))))
 (.seq (.reg [oO 18 (.loadn 27 (.tmp 3)),
  oS (.store 27 (.tmp 6) (.tmp 18))])
 .ret)))⟩
theorem s268:compFn Try.prog Try.f268=some c268:=by kernel_rfl
def c270:XFn:=
 ⟨[.tmp 6],
 (.seq (.reg [oO 4 (.box 158 (.tmp 1)),
  oO 5 (.box 138 (.tmp 2)),
  oO 6 (.mv (.const (.bool false)))])
 (.seq (.seq (.reg [oO 9 (.loadn 27 (.tmp 5)),
  oO 10 (.call (.func 196) [(.tmp 9)]),
  oO 11 (.mv (oK 0))])
 (.blk 0 (.loop (.seq (.reg [oO 12 (.bin .lss (.tmp 11) (oK 3))])
 (.seq (.cond (.tmp 12) .skip (.exit 0))
 (.seq (.blk 1 (.seq (.reg [oM 13 11,
  oO 14 (.idxn 3 9 (.tmp 10) (.tmp 11)),
  oO 8 (.alloc 136 [.int .u8 0,.int .u8 0,.int .u8 0,.int .u8 0,.int .u8 0,.int .u8 0,.int .u8 0,.int .u8 0,.int .u8 0]),
  oM 7 13,
  oS (.store 9 (.tmp 8) (.tmp 14))])
 (.seq (.reg [oM 15 0,
  oM 16 7,
  oO 17 (.ixa 3 1 (.tmp 4) (.tmp 16)),
  oL 18 17,
  oO 19 (.loadn 9 (.tmp 8)),
  oO 20 (.call (.func 322) [(.tmp 15),(.tmp 18),(.tmp 19)]),
  oO 21 (.un .not (.tmp 20))])
 (.cond (.tmp 21) (.seq (.reg [oO 6 (.mv (.const (.bool false)))])
 .ret) .skip))))
 (.reg [oO 22 (.bin .add (.tmp 11) (oK 1)),
  oM 11 22])))))))
 (.seq (.reg [oO 23 (.loadn 27 (.tmp 5)),
  oO 24 (.call (.func 283) [(.tmp 23)]),
  oO 25 (.un .not (.tmp 24)),
  oM 6 25])
 .ret)))⟩
theorem s270:compFn Try.prog Try.f270=some c270:=by kernel_rfl
def c271:XFn:=
 ⟨[.celln 2 3],
 (.seq (.reg [oO 1 (.box 26 (.tmp 0)),
  oO 2 (.alloc 158 [.int .i64 0,.int .i64 0,.int .i64 0])])
 (.seq (.reg [oF 3 1 1,
  oL 4 3,
  oF 5 2 1,
  oL 6 5,
  oO 7 (.bin .mul (.tmp 4) (.tmp 6)),
  oF 8 2 1,
  oL 9 8,
  oF 10 3 1,
  oL 11 10,
  oO 12 (.bin .mul (.tmp 9) (.tmp 11)),
  oF 13 1 1,
  oL 14 13,
  oF 15 3 1,
  oL 16 15,
  oO 17 (.bin .mul (.tmp 14) (.tmp 16)),
  oO 18 (.build [.int .i64 0,.int .i64 0,.int .i64 0] [(0,1,(.tmp 7)),(1,1,(.tmp 12)),(2,1,(.tmp 17))]),
  oS (.store 3 (.tmp 2) (.tmp 18))])
 .ret))⟩
theorem s271:compFn Try.prog Try.f271=some c271:=by kernel_rfl
def c272:XFn:=
 ⟨[.celln 8 9],
 (.seq (.reg [oO 5 (.box 136 (.tmp 1)),
  oO 6 (.box 136 (.tmp 2)),
  oO 8 (.alloc 136 [.int .u8 0,.int .u8 0,.int .u8 0,.int .u8 0,.int .u8 0,.int .u8 0,.int .u8 0,.int .u8 0,.int .u8 0])])
 (.seq (.seq (.reg [oO 10 (.mv (oK 0))])
 (.blk 0 (.loop (.seq (.reg [oO 11 (.bin .lss (.tmp 10) (oK 9))])
 (.seq (.cond (.tmp 11) .skip (.exit 0))
 (.seq (.blk 1 (.seq (.reg [oM 12 10,
  oM 9 12])
 (.reg [oM 13 9,
  oM 14 9,
  oO 15 (.ixa 9 1 (.tmp 5) (.tmp 14)),
  oL 16 15,
  oO 17 (.conv .i64 (.tmp 16)),
  oM 18 3,
  oM 19 9,
  oO 20 (.ixa 9 1 (.tmp 6) (.tmp 19)),
  oL 21 20,
  oO 22 (.conv .i64 (.tmp 21)),
  oO 23 (.bin .mul (.tmp 18) (.tmp 22)),
  oO 24 (.bin .add (.tmp 17) (.tmp 23)),
  oM 25 0,
  oO 26 (.bin .rem (.tmp 24) (.tmp 25)),
  oO 27 (.conv .u8 (.tmp 26)),
  oO 28 (.ixa 9 1 (.tmp 5) (.tmp 13)),
  oS (.store 1 (.tmp 28) (.tmp 27))])))
 (.reg [oO 29 (.bin .add (.tmp 10) (oK 1)),
  oM 10 29])))))))
 (.seq (.reg [oO 30 (.loadn 9 (.tmp 5)),
  oS (.store 9 (.tmp 8) (.tmp 30))])
 .ret)))⟩
theorem s272:compFn Try.prog Try.f272=some c272:=by kernel_rfl
def c273:XFn:=
 ⟨[.celln 2 27],
 (.seq (.reg [oO 1 (.box 172 (.tmp 0)),
  oO 2 (.alloc 138 [.int .u8 0,.int .u8 0,.int .u8 0,.int .u8 0,.int .u8 0,.int .u8 0,.int .u8 0,.int .u8 0,.int .u8 0,.int .u8 0,.int .u8 0,.int .u8 0,.int .u8 0,.int .u8 0,.int .u8 0,.int .u8 0,.int .u8 0,.int .u8 0,.int .u8 0,.int .u8 0,.int .u8 0,.int .u8 0,.int .u8 0,.int .u8 0,.int .u8 0,.int .u8 0,.int .u8 0])])
 (.seq (.reg [oO 3 (.ixa 3 9 (.tmp 1) (oK 0)),
  oO 4 (.loadn 9 (.tmp 3)),
  oO 5 (.ixa 3 9 (.tmp 1) (oK 1)),
  oO 6 (.loadn 9 (.tmp 5)),
  oO 7 (.ixa 3 9 (.tmp 1) (oK 2)),
  oO 8 (.loadn 9 (.tmp 7)),
  oO 9 (.build [.int .u8 0,.int .u8 0,.int .u8 0,.int .u8 0,.int .u8 0,.int .u8 0,.int .u8 0,.int .u8 0,.int .u8 0,.int .u8 0,.int .u8 0,.int .u8 0,.int .u8 0,.int .u8 0,.int .u8 0,.int .u8 0,.int .u8 0,.int .u8 0,.int .u8 0,.int .u8 0,.int .u8 0,.int .u8 0,.int .u8 0,.int .u8 0,.int .u8 0,.int .u8 0,.int .u8 0] [(0,9,(.tmp 4)),(9,9,(.tmp 6)),(18,9,(.tmp 8))]),
  oS (.store 27 (.tmp 2) (.tmp 9))])
 .ret))⟩
theorem s273:compFn Try.prog Try.f273=some c273:=by kernel_rfl
def c274:XFn:=
 ⟨[.tmp 2],
 (.seq (.reg [oO 2 (.mv (.const (.slice none 0 0)))])
 (.seq (.reg [oM 3 0,
  oO 4 (.call (.func 323) [(.tmp 3),(.func 283)]),
  oM 2 4])
 .ret))⟩
theorem s274:compFn Try.prog Try.f274=some c274:=by kernel_rfl
def c275:XFn:=
 ⟨[.tmp 8],
 (.seq (.reg [oO 8 (.mv (.const (.bool false)))])
 (.seq (.reg [oM 9 0,
  oO 10 (.call (.func 224) [(.tmp 9)]),
  oM 11 10,
  oG 12 (.mv (.tmp 1)) 11 true,
  oG 13 (.call (.func 181) [(.tmp 12),(oK 1),(oK 3)]) 11 true,
  oO 14 (.pick (.tmp 11) (.tmp 13) (.const (.bool false))),
  oM 15 14,
  oG 16 (.mv (.tmp 2)) 15 true,
  oG 17 (.call (.func 181) [(.tmp 16),(oK 1),(oK 3)]) 15 true,
  oO 18 (.pick (.tmp 15) (.tmp 17) (.const (.bool false))),
  oM 19 18,
  oG 20 (.mv (.tmp 3)) 19 true,
  oG 21 (.call (.func 181) [(.tmp 20),(oK 1),(oK 3)]) 19 true,
  oO 22 (.pick (.tmp 19) (.tmp 21) (.const (.bool false))),
  oM 8 22])
 .ret))⟩
theorem s275:compFn Try.prog Try.f275=some c275:=by kernel_rfl
def c276:XFn:=
 ⟨[.tmp 4],
 (.seq (.reg [oO 2 (.box 26 (.tmp 0)),
  oO 3 (.box 138 (.tmp 1)),
  oO 4 (.mv (.const (.bool false)))])
 (.seq (.reg [oO 9 (.loadn 5 (.tmp 2)),
  oO 10 (.call (.func 300) [(.tmp 9)]),
  oM 8 10,
  oE 11 8 0,
  oE 12 8 1,
  oE 13 8 2,
  oM 5 11,
  oM 6 12,
  oM 7 13])
 (.seq (.seq (.reg [oF 14 0 2,
  oL 15 14,
  oF 16 0 3,
  oO 17 (.loadn 9 (.tmp 16)),
  oM 18 5,
  oO 19 (.call (.func 324) [(.tmp 15),(.tmp 17),(.tmp 18)]),
  oO 20 (.un .not (.tmp 19)),
  oM 21 20,
  oG 22 (.fadr 0 (.tmp 2)) 21 false,
  oG 23 (.load1 (.tmp 22)) 21 false,
  oG 24 (.fadr 9 (.tmp 3)) 21 false,
  oG 25 (.loadn 9 (.tmp 24)) 21 false,
  oG 26 (.mv (.tmp 6)) 21 false,
  oG 27 (.call (.func 324) [(.tmp 23),(.tmp 25),(.tmp 26)]) 21 false,
  oG 28 (.un .not (.tmp 27)) 21 false,
  oO 29 (.pick (.tmp 21) (.const (.bool true)) (.tmp 28)),
  oM 30 29,
  oG 31 (.fadr 0 (.tmp 2)) 30 false,
  oG 32 (.load1 (.tmp 31)) 30 false,
  oG 33 (.fadr 18 (.tmp 3)) 30 false,
  oG 34 (.loadn 9 (.tmp 33)) 30 false,
  oG 35 (.mv (.tmp 7)) 30 false,
  oG 36 (.call (.func 324) [(.tmp 32),(.tmp 34),(.tmp 35)]) 30 false,
  oG 37 (.un .not (.tmp 36)) 30 false,
  oO 38 (.pick (.tmp 30) (.const (.bool true)) (.tmp 37))])
 (.cond (.tmp 38) (.seq (.reg [oO 4 (.mv (.const (.bool false)))])
 .ret) .skip))
 (.seq (.reg [oF 39 0 3,
  oO 40 (.loadn 9 (.tmp 39)),
  oO 41 (.call (.func 278) [(.tmp 40)]),
  oO 42 (.un .not (.tmp 41)),
  oM 43 42,
  oG 44 (.fadr 9 (.tmp 3)) 43 true,
  oG 45 (.loadn 9 (.tmp 44)) 43 true,
  oG 46 (.call (.func 278) [(.tmp 45)]) 43 true,
  oG 47 (.un .not (.tmp 46)) 43 true,
  oO 48 (.pick (.tmp 43) (.tmp 47) (.const (.bool false))),
  oM 49 48,
  oG 50 (.fadr 18 (.tmp 3)) 49 true,
  oG 51 (.loadn 9 (.tmp 50)) 49 true,
  oG 52 (.call (.func 278) [(.tmp 51)]) 49 true,
  oG 53 (.un .not (.tmp 52)) 49 true,
  oO 54 (.pick (.tmp 49) (.tmp 53) (.const (.bool false))),
  oM 4 54])
 .ret))))⟩
theorem s276:compFn Try.prog Try.f276=some c276:=by kernel_rfl
def c277:XFn:=
 ⟨[.celln 2 5],
 (.seq (.reg [oO 1 (.box 26 (.tmp 0)),
  oO 2 (.alloc 26 [.int .i64 0,.int .i64 0,.int .i64 0,.int .i64 0,.slice none 0 0])])
 (.seq (.reg [oF 3 0 1,
  oL 4 3,
  oF 5 1 1,
  oL 6 5,
  oF 7 2 1,
  oL 8 7,
  oF 9 3 1,
  oL 10 9,
  oO 11 (.mkz),
  oO 12 (.build [.int .i64 0,.int .i64 0,.int .i64 0,.int .i64 0,.slice none 0 0] [(0,1,(.tmp 4)),(1,1,(.tmp 6)),(2,1,(.tmp 8)),(3,1,(.tmp 10)),(4,1,(.tmp 11))]),
  oS (.store 5 (.tmp 2) (.tmp 12))])
 .ret))⟩
theorem s277:compFn Try.prog Try.f277=some c277:=by kernel_rfl
def c278:XFn:=
 ⟨[.tmp 2],
 (.seq (.reg [oO 1 (.box 136 (.tmp 0)),
  oO 2 (.mv (.const (.bool false)))])
 (.seq (.reg [oO 3 (.loadn 9 (.tmp 1)),
  oO 4 (.build [.int .u8 0,.int .u8 0,.int .u8 0,.int .u8 0,.int .u8 0,.int .u8 0,.int .u8 0,.int .u8 0,.int .u8 0] []),
  oO 5 (.eqa false 9 (.tmp 3) (.tmp 4)),
  oM 2 5])
 .ret))⟩
theorem s278:compFn Try.prog Try.f278=some c278:=by kernel_rfl
def c279:XFn:=
 ⟨[.celln 8 9],
 (.seq (.reg [oO 5 (.box 136 (.tmp 1)),
  oO 6 (.box 136 (.tmp 2)),
  oO 8 (.alloc 136 [.int .u8 0,.int .u8 0,.int .u8 0,.int .u8 0,.int .u8 0,.int .u8 0,.int .u8 0,.int .u8 0,.int .u8 0])])
 (.seq (.seq (.reg [oO 9 (.mv (oK 0))])
 (.blk 0 (.loop (.seq (.seq (.reg [oM 10 9,
  oO 11 (.bin .lss (.tmp 10) (oK 9))])
 (.cond (.tmp 11) .skip (.exit 0)))
 (.seq (.blk 1 (.reg [oM 14 9,
  oM 15 0,
  oM 16 9,
  oO 17 (.ixa 9 1 (.tmp 5) (.tmp 16)),
  oL 18 17,
  oO 19 (.conv .i64 (.tmp 18)),
  oM 20 3,
  oM 21 9,
  oO 22 (.ixa 9 1 (.tmp 6) (.tmp 21)),
  oL 23 22,
  oO 24 (.conv .i64 (.tmp 23)),
  oO 25 (.bin .mul (.tmp 20) (.tmp 24)),
  oO 26 (.bin .add (.tmp 19) (.tmp 25)),
  oO 27 (.call (.func 314) [(.tmp 15),(.tmp 26)]),
  oO 28 (.conv .u8 (.tmp 27)),
  oO 29 (.ixa 9 1 (.tmp 5) (.tmp 14)),
  oS (.store 1 (.tmp 29) (.tmp 28))]))
 (.reg [oM 12 9,
  oO 13 (.bin .add (.tmp 12) (oK 1)),
  oM 9 13]))))))
 (.seq (.reg [oO 30 (.loadn 9 (.tmp 5)),
  oS (.store 9 (.tmp 8) (.tmp 30))])
 .ret)))⟩
theorem s279:compFn Try.prog Try.f279=some c279:=by kernel_rfl
def c280:XFn:=
 ⟨[.celln 4 27],
 (.seq (.reg [oO 3 (.box 138 (.tmp 1)),
  oO 4 (.alloc 138 [.int .u8 0,.int .u8 0,.int .u8 0,.int .u8 0,.int .u8 0,.int .u8 0,.int .u8 0,.int .u8 0,.int .u8 0,.int .u8 0,.int .u8 0,.int .u8 0,.int .u8 0,.int .u8 0,.int .u8 0,.int .u8 0,.int .u8 0,.int .u8 0,.int .u8 0,.int .u8 0,.int .u8 0,.int .u8 0,.int .u8 0,.int .u8 0,.int .u8 0,.int .u8 0,.int .u8 0])])
 (.seq (.reg [oF 7 0 3,
  oO 8 (.loadn 9 (.tmp 7)),
  ⟨some 9,.call (.func 325) [(.tmp 8)],none,.t⟩,
  oF 10 9 3,
  oO 11 (.loadn 9 (.tmp 10)),
  oO 12 (.call (.func 325) [(.tmp 11)]),
  oM 5 9,
  oM 6 12])
 (.seq (.reg [oM 13 0,
  oF 14 0 3,
  oO 15 (.loadn 9 (.tmp 14)),
  oM 16 0,
  oM 17 5,
  ⟨some 18,.call (.func 243) [(.tmp 16),(.tmp 17)],none,.t⟩,
  ⟨some 19,.call (.func 326) [(.tmp 13),(.tmp 15),(.tmp 18)],none,.t⟩,
  oM 20 0,
  oF 21 9 3,
  oO 22 (.loadn 9 (.tmp 21)),
  oM 23 0,
  oM 24 6,
  ⟨some 25,.call (.func 243) [(.tmp 23),(.tmp 24)],none,.t⟩,
  ⟨some 26,.call (.func 326) [(.tmp 20),(.tmp 22),(.tmp 25)],none,.t⟩,
  oM 27 0,
  oF 28 18 3,
  oO 29 (.loadn 9 (.tmp 28)),
  oM 30 5,
  oM 31 6,
  oO 32 (.bin .mul (.tmp 30) (.tmp 31)),
  oM 33 0,
  oO 34 (.bin .rem (.tmp 32) (.tmp 33)),
  oO 35 (.call (.func 326) [(.tmp 27),(.tmp 29),(.tmp 34)]),
  oO 36 (.build [.int .u8 0,.int .u8 0,.int .u8 0,.int .u8 0,.int .u8 0,.int .u8 0,.int .u8 0,.int .u8 0,.int .u8 0,.int .u8 0,.int .u8 0,.int .u8 0,.int .u8 0,.int .u8 0,.int .u8 0,.int .u8 0,.int .u8 0,.int .u8 0,.int .u8 0,.int .u8 0,.int .u8 0,.int .u8 0,.int .u8 0,.int .u8 0,.int .u8 0,.int .u8 0,.int .u8 0] [(0,9,(.tmp 19)),(9,9,(.tmp 26)),(18,9,(.tmp 35))]),
  oS (.store 27 (.tmp 4) (.tmp 36))])
 .ret)))⟩
theorem s280:compFn Try.prog Try.f280=some c280:=by kernel_rfl
def c281:XFn:=
 ⟨[.celln 6 27,.tmp 7],
 (.seq (.reg [oO 4 (.box 138 (.tmp 1)),
  oO 5 (.box 138 (.tmp 2)),
  oO 6 (.alloc 138 [.int .u8 0,.int .u8 0,.int .u8 0,.int .u8 0,.int .u8 0,.int .u8 0,.int .u8 0,.int .u8 0,.int .u8 0,.int .u8 0,.int .u8 0,.int .u8 0,.int .u8 0,.int .u8 0,.int .u8 0,.int .u8 0,.int .u8 0,.int .u8 0,.int .u8 0,.int .u8 0,.int .u8 0,.int .u8 0,.int .u8 0,.int .u8 0,.int .u8 0,.int .u8 0,.int .u8 0]),
  oO 7 (.mv (.const (.bool false)))])
 (.seq (.seq (.reg [oM 9 0,
  oF 10 18 4,
  oO 11 (.loadn 9 (.tmp 10)),
  oF 12 18 5,
  oO 13 (.loadn 9 (.tmp 12)),
  oO 14 (.call (.func 327) [(.tmp 9),(.tmp 11),(.tmp 13)]),
  oM 8 14])
 (.blk 0 (.seq (.reg [oF 17 0 4,
  oO 18 (.loadn 9 (.tmp 17)),
  oF 19 0 5,
  oO 20 (.loadn 9 (.tmp 19)),
  oO 21 (.eqa false 9 (.tmp 18) (.tmp 20)),
  oM 22 21,
  oG 23 (.fadr 9 (.tmp 4)) 22 true,
  oG 24 (.loadn 9 (.tmp 23)) 22 true,
  oG 25 (.fadr 9 (.tmp 5)) 22 true,
  oG 26 (.loadn 9 (.tmp 25)) 22 true,
  oG 27 (.eqa false 9 (.tmp 24) (.tmp 26)) 22 true,
  oO 28 (.pick (.tmp 22) (.tmp 27) (.const (.bool false))),
  oM 16 28])
 (.cond (.tmp 16) (.reg [oM 29 0,
  oF 30 18 4,
  oO 31 (.loadn 9 (.tmp 30)),
  oF 32 18 5,
  oO 33 (.loadn 9 (.tmp 32)),
  oO 34 (.call (.func 272) [(.tmp 29),(.tmp 31),(.tmp 33),(oK 1)]),
  oF 35 18 4,
  oS (.store 9 (.tmp 35) (.tmp 34))]) (.seq (.reg [oF 37 0 4,
  oO 38 (.loadn 9 (.tmp 37)),
  oF 39 0 5,
  oO 40 (.loadn 9 (.tmp 39)),
  oO 41 (.eqa false 9 (.tmp 38) (.tmp 40)),
  oM 42 41,
  oG 43 (.mv (.tmp 8)) 42 true,
  oG 44 (.bin .gtr (.tmp 43) (oK 0)) 42 true,
  oO 45 (.pick (.tmp 42) (.tmp 44) (.const (.bool false))),
  oM 36 45])
 (.cond (.tmp 36) (.reg [oM 46 0,
  oF 47 9 4,
  oO 48 (.loadn 9 (.tmp 47)),
  oF 49 9 5,
  oO 50 (.loadn 9 (.tmp 49)),
  oM 51 8,
  oO 52 (.call (.func 272) [(.tmp 46),(.tmp 48),(.tmp 50),(.tmp 51)]),
  oF 53 9 4,
  oS (.store 9 (.tmp 53) (.tmp 52))]) (.seq (.reg [oF 55 9 4,
  oO 56 (.loadn 9 (.tmp 55)),
  oF 57 9 5,
  oO 58 (.loadn 9 (.tmp 57)),
  oO 59 (.eqa false 9 (.tmp 56) (.tmp 58)),
  oM 60 59,
  oG 61 (.mv (.tmp 8)) 60 true,
  oG 62 (.bin .gtr (.tmp 61) (oK 0)) 60 true,
  oO 63 (.pick (.tmp 60) (.tmp 62) (.const (.bool false))),
  oM 54 63])
 (.cond (.tmp 54) (.reg [oM 64 0,
  oF 65 0 4,
  oO 66 (.loadn 9 (.tmp 65)),
  oF 67 0 5,
  oO 68 (.loadn 9 (.tmp 67)),
  oM 69 8,
  oO 70 (.call (.func 272) [(.tmp 64),(.tmp 66),(.tmp 68),(.tmp 69)]),
  oF 71 0 4,
  oS (.store 9 (.tmp 71) (.tmp 70))]) (.seq (.reg [oO 15 (.build [.int .u8 0,.int .u8 0,.int .u8 0,.int .u8 0,.int .u8 0,.int .u8 0,.int .u8 0,.int .u8 0,.int .u8 0,.int .u8 0,.int .u8 0,.int .u8 0,.int .u8 0,.int .u8 0,.int .u8 0,.int .u8 0,.int .u8 0,.int .u8 0,.int .u8 0,.int .u8 0,.int .u8 0,.int .u8 0,.int .u8 0,.int .u8 0,.int .u8 0,.int .u8 0,.int .u8 0] []),
  oS (.store 27 (.tmp 6) (.tmp 15)),
  oO 7 (.mv (.const (.bool false)))])
 .ret)))))))))
 (.seq (.reg [oO 72 (.loadn 27 (.tmp 4)),
  oS (.store 27 (.tmp 6) (.tmp 72)),
  oO 7 (.mv (.const (.bool true)))])
 .ret)))⟩
theorem s281:compFn Try.prog Try.f281=some c281:=by kernel_rfl
def c282:XFn:=
 ⟨[.tmp 4],
 (.seq (.reg [oO 4 (.mv (.const (.slice none 0 0)))])
 (.seq (.reg [oM 5 0,
  oM 6 1,
  oO 7 (.slc 27 (.tmp 5) none (some (.tmp 6))),
  oM 8 0,
  oM 9 1,
  oO 10 (.bin .add (.tmp 9) (oK 1)),
  oO 11 (.slc 27 (.tmp 8) (some (.tmp 10)) none),
  oO 12 (.bslice 24 1 2 [.slice none 0 0] [(0,1,(.tmp 7)),(1,1,(.tmp 11))]),
  oO 13 (.call (.func 328) [(.tmp 12)]),
  oM 4 13])
 .ret))⟩
theorem s282:compFn Try.prog Try.f282=some c282:=by kernel_rfl
def c283:XFn:=
 ⟨[.tmp 2],
 (.seq (.reg [oO 1 (.box 138 (.tmp 0)),
  oO 2 (.mv (.const (.bool false)))])
 (.seq (.reg [oF 3 0 1,
  oO 4 (.loadn 9 (.tmp 3)),
  oO 5 (.build [.int .u8 0,.int .u8 0,.int .u8 0,.int .u8 0,.int .u8 0,.int .u8 0,.int .u8 0,.int .u8 0,.int .u8 0] []),
  oO 6 (.eqa false 9 (.tmp 4) (.tmp 5)),
  oM 7 6,
  oG 8 (.fadr 9 (.tmp 1)) 7 false,
  oG 9 (.loadn 9 (.tmp 8)) 7 false,
  oG 10 (.build [.int .u8 0,.int .u8 0,.int .u8 0,.int .u8 0,.int .u8 0,.int .u8 0,.int .u8 0,.int .u8 0,.int .u8 0] []) 7 false,
  oG 11 (.eqa false 9 (.tmp 9) (.tmp 10)) 7 false,
  oO 12 (.pick (.tmp 7) (.const (.bool true)) (.tmp 11)),
  oM 13 12,
  oG 14 (.fadr 18 (.tmp 1)) 13 false,
  oG 15 (.loadn 9 (.tmp 14)) 13 false,
  oG 16 (.build [.int .u8 0,.int .u8 0,.int .u8 0,.int .u8 0,.int .u8 0,.int .u8 0,.int .u8 0,.int .u8 0,.int .u8 0] []) 13 false,
  oG 17 (.eqa false 9 (.tmp 15) (.tmp 16)) 13 false,
  oO 18 (.pick (.tmp 13) (.const (.bool true)) (.tmp 17)),
  oM 2 18])
 .ret))⟩
theorem s283:compFn Try.prog Try.f283=some c283:=by kernel_rfl
def c284:XFn:=
 ⟨[.tmp 7],
 (.seq (.reg [oO 7 (.mv (oK 0))])
 (.seq (.reg [oO 8 (.loadn 5 (.tmp 3)),
  oM 9 0,
  oM 10 1,
  oM 11 2,
  oO 12 (.call (.func 218) [(.tmp 8),(.tmp 9),(.tmp 10),(.tmp 11)]),
  oM 7 12])
 .ret))⟩
theorem s284:compFn Try.prog Try.f284=some c284:=by kernel_rfl
def c285:XFn:=
 ⟨[.tmp 2],
 (.seq (.reg [oO 2 (.mv (.const (.slice none 0 0)))])
 (.seq (.seq (.reg [oM 3 0,
  oO 4 (.isnil false (.tmp 3))])
 (.cond (.tmp 4) (.seq (.reg [oO 2 (.mv (.const (.slice none 0 0)))])
 .ret) .skip))
 (.seq (.reg [oO 5 (.bslice 2 1 0 [.int .i64 0] []),
  oM 6 0,
  oO 7 (.app 2 1 8 (.tmp 5) (.tmp 6)),
  oM 2 7])
 .ret)))⟩
theorem s285:compFn Try.prog Try.f285=some c285:=by kernel_rfl
def c286:XFn:=
 ⟨[.tmp 6],
 (.seq (.reg [oO 4 (.box 136 (.tmp 1)),
  oO 6 (.mv (oK 0))])
 (.seq (.reg [oO 7 (.mv (oK 0))])
 (.seq (.seq (.reg [oM 10 2,
  oN 11 10,
  oO 12 (.mv (oK 0))])
 (.blk 0 (.loop (.seq (.reg [oO 13 (.bin .lss (.tmp 12) (.tmp 11))])
 (.seq (.cond (.tmp 13) .skip (.exit 0))
 (.seq (.blk 1 (.seq (.reg [oM 14 12,
  oX 15 1 10 12,
  oL 16 15,
  oM 8 14,
  oM 9 16])
 (.reg [oM 17 7,
  oM 18 8,
  oO 19 (.ixa 9 1 (.tmp 4) (.tmp 18)),
  oL 20 19,
  oO 21 (.conv .i64 (.tmp 20)),
  oM 22 9,
  oO 23 (.bin .mul (.tmp 21) (.tmp 22)),
  oO 24 (.bin .add (.tmp 17) (.tmp 23)),
  oM 7 24])))
 (.reg [oO 25 (.bin .add (.tmp 12) (oK 1)),
  oM 12 25])))))))
 (.seq (.reg [oM 26 7,
  oM 27 0,
  oO 28 (.bin .rem (.tmp 26) (.tmp 27)),
  oM 6 28])
 .ret))))⟩
theorem s286:compFn Try.prog Try.f286=some c286:=by kernel_rfl
def c287:XFn:=
 ⟨[.tmp 4],
 (.seq (.reg [oO 4 (.mv (.const (.slice none 0 0)))])
 (.seq (.seq (.reg [oM 5 1,
  oO 6 (.bin .lss (.tmp 5) (oK 0))])
 (.cond (.tmp 6) (.reg [oO 7 (.fail),
  oS (.fail)]) .skip))
 (.seq (.seq (.reg [oM 8 1,
  oM 9 0,
  oO 10 (.cap (.tmp 9)),
  oM 11 0,
  oN 12 11,
  oO 13 (.bin .sub (.tmp 10) (.tmp 12)),
  oO 14 (.bin .sub (.tmp 8) (.tmp 13)),
  oM 1 14])
 (.seq (.reg [oM 15 1,
  oO 16 (.bin .gtr (.tmp 15) (oK 0))])
 (.cond (.tmp 16) (.reg [oM 17 0,
  oM 18 0,
  oO 19 (.cap (.tmp 18)),
  oO 20 (.slc 1 (.tmp 17) none (some (.tmp 19))),
  oM 21 1,
  oO 22 (.appz 2 1 8 (.tmp 20) (.tmp 21)),
  oM 23 0,
  oN 24 23,
  oO 25 (.slc 1 (.tmp 22) none (some (.tmp 24))),
  oM 0 25]) .skip)))
 (.seq (.reg [oM 26 0,
  oM 4 26])
 .ret))))⟩
theorem s287:compFn Try.prog Try.f287=some c287:=by kernel_rfl
def c288:XFn:=
 ⟨[],
 (.seq (.reg [oL 7 2])
 (.cond (.tmp 7) (.reg [oL 8 3,
  oF 9 0 4,
  oL 10 9,
  oM 11 0,
  oM 12 1,
  ⟨some 13,.call (.func 203) [(.tmp 10),(.tmp 11),(.tmp 12)],none,.t⟩,
  oO 14 (.bslice 70 4 1 [.int .i64 0,.int .i64 0,.slice none 0 0,.slice none 0 0] [(0,4,(.tmp 13))]),
  oO 15 (.app 70 4 64 (.tmp 8) (.tmp 14)),
  oS (.store 1 (.tmp 3) (.tmp 15))]) (.reg [oL 16 3,
  oF 17 0 4,
  oL 18 17,
  oM 19 0,
  oO 20 (.build [.int .i64 0,.int .i64 0,.slice none 0 0,.slice none 0 0] [(0,1,(.tmp 18)),(1,1,(.tmp 19))]),
  oM 21 1,
  ⟨some 22,.call (.func 206) [(.tmp 20),(.tmp 21)],none,.t⟩,
  oO 23 (.bslice 70 4 1 [.int .i64 0,.int .i64 0,.slice none 0 0,.slice none 0 0] [(0,4,(.tmp 22))]),
  oO 24 (.app 70 4 64 (.tmp 16) (.tmp 23)),
  oS (.store 1 (.tmp 3) (.tmp 24))])))⟩
theorem s288:compFn Try.prog Try.f288=some c288:=by kernel_rfl
def c289:XFn:=
 ⟨[.tmp 6],
 (.seq (.reg [oO 3 (.box 26 (.tmp 0)),
  oO 6 (.mv (.const (.slice none 0 0)))])
 (.seq (.reg [oO 10 (.bslice 27 1 0 [.slice none 0 0] []),
  oM 7 10])
 (.seq (.seq (.reg [oF 11 4 3,
  oL 12 11,
  oN 13 12,
  oO 14 (.mv (oK 0))])
 (.blk 0 (.loop (.seq (.reg [oO 15 (.bin .lss (.tmp 14) (.tmp 13))])
 (.seq (.cond (.tmp 15) .skip (.exit 0))
 (.seq (.blk 1 (.seq (.reg [oX 16 27 12 14,
  oO 17 (.loadn 27 (.tmp 16)),
  oO 9 (.alloc 138 [.int .u8 0,.int .u8 0,.int .u8 0,.int .u8 0,.int .u8 0,.int .u8 0,.int .u8 0,.int .u8 0,.int .u8 0,.int .u8 0,.int .u8 0,.int .u8 0,.int .u8 0,.int .u8 0,.int .u8 0,.int .u8 0,.int .u8 0,.int .u8 0,.int .u8 0,.int .u8 0,.int .u8 0,.int .u8 0,.int .u8 0,.int .u8 0,.int .u8 0,.int .u8 0,.int .u8 0]),
  oS (.store 27 (.tmp 9) (.tmp 17))])
 (.reg [oM 18 7,
  oO 19 (.loadn 27 (.tmp 9)),
  oO 20 (.call (.func 196) [(.tmp 19)]),
  oM 21 1,
  oO 22 (.idxn 3 9 (.tmp 20) (.tmp 21)),
  oM 23 2,
  oO 24 (.call (.func 310) [(.tmp 22),(oK 1),(.tmp 23)]),
  oO 25 (.ixs 1 (.tmp 24) (oK 0)),
  oL 26 25,
  oO 27 (.bslice 27 1 1 [.slice none 0 0] [(0,1,(.tmp 26))]),
  oO 28 (.app 27 1 24 (.tmp 18) (.tmp 27)),
  oM 7 28])))
 (.reg [oO 29 (.bin .add (.tmp 14) (oK 1)),
  oM 14 29])))))))
 (.seq (.reg [oM 30 7,
  oM 6 30])
 .ret))))⟩
theorem s289:compFn Try.prog Try.f289=some c289:=by kernel_rfl
def c294:XFn:=
 ⟨[.celln 4 3,.tmp 5],
 (.seq (.reg [oO 4 (.alloc 248 [.int .i64 0,.int .i64 0,.int .i64 0]),
  oO 5 (.mv (.const (.bool false)))])
 (.seq (.reg [oO 16 (.build [.int .i64 0,.int .i64 0,.int .i64 0] []),
  oO 6 (.alloc 248 [.int .i64 0,.int .i64 0,.int .i64 0]),
  oS (.store 3 (.tmp 6) (.tmp 16)),
  oO 7 (.mv (oK 1))])
 (.seq (.seq (.reg [oM 17 1,
  oN 18 17,
  oO 19 (.mv (oK 0))])
 (.blk 0 (.loop (.seq (.reg [oO 20 (.bin .lss (.tmp 19) (.tmp 18))])
 (.seq (.cond (.tmp 20) .skip (.exit 0))
 (.seq (.blk 1 (.seq (.reg [oM 21 19,
  oX 22 5 17 19,
  oO 23 (.loadn 5 (.tmp 22)),
  oO 9 (.alloc 246 [.int .u32 0,.int .u32 0,.int .u32 0,.int .u32 0,.int .u32 0]),
  oM 8 21,
  oS (.store 5 (.tmp 9) (.tmp 23))])
 (.seq (.reg [oO 10 (.mv (.const (.int .u32 0)))])
 (.seq (.seq (.reg [oO 24 (.slca 5 1 (.tmp 9) (some (oK 1)) none),
  oN 25 24,
  oO 26 (.mv (oK 0))])
 (.blk 2 (.loop (.seq (.reg [oO 27 (.bin .lss (.tmp 26) (.tmp 25))])
 (.seq (.cond (.tmp 27) .skip (.exit 2))
 (.seq (.blk 3 (.seq (.reg [oX 28 1 24 26,
  oL 29 28,
  oM 12 29])
 (.reg [oM 30 10,
  oM 31 12,
  oO 32 (.bin .or (.tmp 30) (.tmp 31)),
  oM 10 32])))
 (.reg [oO 33 (.bin .add (.tmp 26) (oK 1)),
  oM 26 33])))))))
 (.seq (.seq (.reg [oM 34 10,
  oO 35 (.call (.func 329) [(.tmp 34)]),
  oM 36 7,
  oO 37 (.bin .leq (.tmp 35) (.tmp 36))])
 (.cond (.tmp 37) (.exit 1) .skip))
 (.seq (.reg [oM 38 8,
  oO 39 (.bin .add (.tmp 38) (oK 1)),
  oM 13 39])
 (.blk 4 (.loop (.seq (.seq (.reg [oM 40 13,
  oM 41 1,
  oN 42 41,
  oO 43 (.bin .lss (.tmp 40) (.tmp 42))])
 (.cond (.tmp 43) .skip (.exit 4)))
 (.seq (.blk 5 (.seq (.reg [oO 14 (.mv (oK 1))])
 (.blk 6 (.loop (.seq (.seq (.reg [oM 46 14,
  oM 47 0,
  oO 48 (.bin .lss (.tmp 46) (.tmp 47))])
 (.cond (.tmp 48) .skip (.exit 6)))
 (.seq (.blk 7 (.seq (.reg [oM 51 0,
  oO 52 (.loadn 5 (.tmp 9)),
  oM 53 1,
  oM 54 13,
  oX 55 5 53 54,
  oO 56 (.loadn 5 (.tmp 55)),
  oM 57 14,
  oO 58 (.call (.func 295) [(.tmp 51),(.tmp 52),(.tmp 56),(.tmp 57)]),
  oO 59 (.call (.func 329) [(.tmp 58)]),
  oM 15 59])
 (.seq (.reg [oM 60 15,
  oM 61 7,
  oO 62 (.bin .gtr (.tmp 60) (.tmp 61))])
 (.cond (.tmp 62) (.reg [oM 63 8,
  oM 64 13,
  oM 65 14,
  oO 66 (.build [.int .i64 0,.int .i64 0,.int .i64 0] [(0,1,(.tmp 63)),(1,1,(.tmp 64)),(2,1,(.tmp 65))]),
  oM 67 15,
  oS (.store 3 (.tmp 6) (.tmp 66)),
  oM 7 67]) .skip))))
 (.reg [oM 49 14,
  oO 50 (.bin .add (.tmp 49) (oK 1)),
  oM 14 50])))))))
 (.reg [oM 44 13,
  oO 45 (.bin .add (.tmp 44) (oK 1)),
  oM 13 45])))))))))))
 (.reg [oO 68 (.bin .add (.tmp 19) (oK 1)),
  oM 19 68])))))))
 (.seq (.reg [oO 69 (.loadn 3 (.tmp 6)),
  oM 70 7,
  oO 71 (.bin .gtr (.tmp 70) (oK 1)),
  oS (.store 3 (.tmp 4) (.tmp 69)),
  oM 5 71])
 .ret))))⟩
theorem s294:compFn Try.prog Try.f294=some c294:=by kernel_rfl
def c295:XFn:=
 ⟨[.tmp 8],
 (.seq (.reg [oO 5 (.box 246 (.tmp 1)),
  oO 6 (.box 246 (.tmp 2)),
  oO 8 (.mv (.const (.int .u32 0)))])
 (.seq (.reg [oO 9 (.mv (.const (.int .u32 0)))])
 (.seq (.seq (.reg [oO 10 (.mv (oK 1))])
 (.blk 0 (.loop (.seq (.seq (.reg [oM 11 10,
  oM 12 0,
  oO 13 (.bin .lss (.tmp 11) (.tmp 12))])
 (.cond (.tmp 13) .skip (.exit 0)))
 (.seq (.blk 1 (.reg [oM 16 9,
  oM 17 10,
  oO 18 (.ixa 5 1 (.tmp 5) (.tmp 17)),
  oL 19 18,
  oM 20 10,
  oM 21 3,
  oO 22 (.bin .mul (.tmp 20) (.tmp 21)),
  oM 23 0,
  oO 24 (.bin .rem (.tmp 22) (.tmp 23)),
  oO 25 (.ixa 5 1 (.tmp 6) (.tmp 24)),
  oL 26 25,
  oO 27 (.bin .and (.tmp 19) (.tmp 26)),
  oO 28 (.bin .or (.tmp 16) (.tmp 27)),
  oM 9 28]))
 (.reg [oM 14 10,
  oO 15 (.bin .add (.tmp 14) (oK 1)),
  oM 10 15]))))))
 (.seq (.reg [oM 29 9,
  oM 8 29])
 .ret))))⟩
theorem s295:compFn Try.prog Try.f295=some c295:=by kernel_rfl
def c299:XFn:=
 ⟨[.tmp 4],
 (.seq (.reg [oO 2 (.box 136 (.tmp 0)),
  oO 4 (.mv (oK 0))])
 (.seq (.reg [oO 5 (.mv (oK 0)),
  oO 6 (.mv (oK 0))])
 (.seq (.seq (.reg [oO 7 (.mv (oK 0))])
 (.blk 0 (.loop (.seq (.seq (.reg [oM 9 7,
  oM 10 1,
  oN 11 10,
  oO 12 (.bin .lss (.tmp 9) (.tmp 11))])
 (.cond (.tmp 12) .skip (.exit 0)))
 (.seq (.blk 1 (.seq (.reg [oO 8 (.mv (oK 0))])
 (.blk 2 (.loop (.seq (.seq (.reg [oM 15 8,
  oM 16 1,
  oM 17 7,
  oX 18 1 16 17,
  oL 19 18,
  oN 20 19,
  oO 21 (.bin .lss (.tmp 15) (.tmp 20))])
 (.cond (.tmp 21) .skip (.exit 2)))
 (.seq (.blk 3 (.seq (.reg [oM 24 5,
  oM 25 6,
  oO 26 (.ixa 9 1 (.tmp 2) (.tmp 25)),
  oL 27 26,
  oO 28 (.conv .i64 (.tmp 27)),
  oM 29 1,
  oM 30 7,
  oX 31 1 29 30,
  oL 32 31,
  oM 33 8,
  oX 34 1 32 33,
  oL 35 34,
  oO 36 (.bin .mul (.tmp 28) (.tmp 35)),
  oO 37 (.bin .add (.tmp 24) (.tmp 36)),
  oM 5 37])
 (.reg [oM 38 6,
  oO 39 (.bin .add (.tmp 38) (oK 1)),
  oM 6 39])))
 (.reg [oM 22 8,
  oO 23 (.bin .add (.tmp 22) (oK 1)),
  oM 8 23])))))))
 (.reg [oM 13 7,
  oO 14 (.bin .add (.tmp 13) (oK 1)),
  oM 7 14]))))))
 (.seq (.reg [oM 40 5,
  oM 4 40])
 .ret))))⟩
theorem s299:compFn Try.prog Try.f299=some c299:=by kernel_rfl
def c300:XFn:=
 ⟨[.tmp 2,.tmp 3,.tmp 4],
 (.seq (.reg [oO 1 (.box 26 (.tmp 0)),
  oO 2 (.mv (oK 0)),
  oO 3 (.mv (oK 0)),
  oO 4 (.mv (oK 0))])
 (.seq (.reg [oF 5 1 1,
  oL 6 5,
  oF 7 2 1,
  oL 8 7,
  oO 9 (.bin .mul (.tmp 6) (.tmp 8)),
  oF 10 2 1,
  oL 11 10,
  oF 12 3 1,
  oL 13 12,
  oO 14 (.bin .mul (.tmp 11) (.tmp 13)),
  oF 15 1 1,
  oL 16 15,
  oF 17 3 1,
  oL 18 17,
  oO 19 (.bin .mul (.tmp 16) (.tmp 18)),
  oM 2 9,
  oM 3 14,
  oM 4 19])
 .ret))⟩
theorem s300:compFn Try.prog Try.f300=some c300:=by kernel_rfl
def c310:XFn:=
 ⟨[.tmp 6],
 (.seq (.reg [oO 3 (.box 136 (.tmp 0)),
  oO 6 (.mv (.const (.slice none 0 0)))])
 (.seq (.reg [oO 9 (.bslice 2 1 0 [.int .i64 0] []),
  oM 7 9])
 (.seq (.seq (.reg [oM 10 1,
  oM 11 2,
  oO 12 (.bin .mul (.tmp 10) (.tmp 11)),
  oO 13 (.mv (oK 0))])
 (.blk 0 (.loop (.seq (.reg [oO 14 (.bin .lss (.tmp 13) (.tmp 12))])
 (.seq (.cond (.tmp 14) .skip (.exit 0))
 (.seq (.blk 1 (.seq (.reg [oM 15 13,
  oM 8 15])
 (.reg [oM 16 7,
  oM 17 8,
  oO 18 (.ixa 9 1 (.tmp 3) (.tmp 17)),
  oL 19 18,
  oO 20 (.conv .i64 (.tmp 19)),
  oO 21 (.bslice 2 1 1 [.int .i64 0] [(0,1,(.tmp 20))]),
  oO 22 (.app 2 1 8 (.tmp 16) (.tmp 21)),
  oM 7 22])))
 (.reg [oO 23 (.bin .add (.tmp 13) (oK 1)),
  oM 13 23])))))))
 (.seq (.reg [oM 24 7,
  oM 25 2,
  oO 26 (.call (.func 163) [(.tmp 24),(.tmp 25)]),
  oM 6 26])
 .ret))))⟩
theorem s310:compFn Try.prog Try.f310=some c310:=by kernel_rfl
def tab2:List (Nat×XFn):=[(184,c184),(196,c196),(198,c198),(203,c203),(206,c206),(208,c208),(214,c214),(215,c215),(218,c218),(219,c219),(224,c224),(243,c243),(259,c259),(267,c267),(268,c268),(270,c270),(271,c271),(272,c272),(273,c273),(274,c274),(275,c275),(276,c276),(277,c277),(278,c278),(279,c279),(280,c280),(281,c281),(282,c282),(283,c283),(284,c284),(285,c285),(286,c286),(287,c287),(288,c288),(289,c289),(294,c294),(295,c295),(299,c299),(300,c300),(310,c310)]
theorem ts2:TSound Try.prog (fun g=>tab2.lookup g):=by
 refine tsound_of_all (P:=Try.prog) (tab:=tab2) ?_
 intro p hp
 simp only[tab2,List.mem_cons,List.not_mem_nil,or_false] at hp
 rcases hp with rfl|rfl|rfl|rfl|rfl|rfl|rfl|rfl|rfl|rfl|rfl|rfl|rfl|rfl|rfl|rfl|rfl|rfl|rfl|rfl|rfl|rfl|rfl|rfl|rfl|rfl|rfl|rfl|rfl|rfl|rfl|rfl|rfl|rfl|rfl|rfl|rfl|rfl|rfl|rfl
 ·exact⟨_,Try.func184,s184⟩
 ·exact⟨_,Try.func196,s196⟩
 ·exact⟨_,Try.func198,s198⟩
 ·exact⟨_,Try.func203,s203⟩
 ·exact⟨_,Try.func206,s206⟩
 ·exact⟨_,Try.func208,s208⟩
 ·exact⟨_,Try.func214,s214⟩
 ·exact⟨_,Try.func215,s215⟩
 ·exact⟨_,Try.func218,s218⟩
 ·exact⟨_,Try.func219,s219⟩
 ·exact⟨_,Try.func224,s224⟩
 ·exact⟨_,Try.func243,s243⟩
 ·exact⟨_,Try.func259,s259⟩
 ·exact⟨_,Try.func267,s267⟩
 ·exact⟨_,Try.func268,s268⟩
 ·exact⟨_,Try.func270,s270⟩
 ·exact⟨_,Try.func271,s271⟩
 ·exact⟨_,Try.func272,s272⟩
 ·exact⟨_,Try.func273,s273⟩
 ·exact⟨_,Try.func274,s274⟩
 ·exact⟨_,Try.func275,s275⟩
 ·exact⟨_,Try.func276,s276⟩
 ·exact⟨_,Try.func277,s277⟩
 ·exact⟨_,Try.func278,s278⟩
 ·exact⟨_,Try.func279,s279⟩
 ·exact⟨_,Try.func280,s280⟩
 ·exact⟨_,Try.func281,s281⟩
 ·exact⟨_,Try.func282,s282⟩
 ·exact⟨_,Try.func283,s283⟩
 ·exact⟨_,Try.func284,s284⟩
 ·exact⟨_,Try.func285,s285⟩
 ·exact⟨_,Try.func286,s286⟩
 ·exact⟨_,Try.func287,s287⟩
 ·exact⟨_,Try.func288,s288⟩
 ·exact⟨_,Try.func289,s289⟩
 ·exact⟨_,Try.func294,s294⟩
 ·exact⟨_,Try.func295,s295⟩
 ·exact⟨_,Try.func299,s299⟩
 ·exact⟨_,Try.func300,s300⟩
 ·exact⟨_,Try.func310,s310⟩
end Go.Proofs.Ytapafdpnmakekaa.X
