/- Texts of one claim, put together by merge.py: XCode2. -/
import Derived.Test.YtapafdpnmakekaaCS3
import Derived.Test.YtapafdpnmakekaaProg
set_option linter.unusedVariables false
set_option maxRecDepth 4000
namespace Go.Proofs.Ytapafdpnmakekaa.X
open Go Go.RowKit
def c236:XFn:=
 ⟨[.tmp 6,.tmp 7],
 (.seq (.reg [oO 3 (.box 26 (.tmp 0)),
  oO 6 (.mv (oK 0)),
  oO 7 (.mv (.const (.bool false)))])
 (.seq (.reg [oO 12 (.loadn 5 (.tmp 3)),
  oM 13 1,
  oM 14 2,
  oO 15 (.call (.func 232) [(.tmp 12),(.tmp 13),(.tmp 14)]),
  oM 11 15,
  oE 16 11 0,
  oE 17 11 1,
  oE 18 11 2,
  oM 8 16,
  oM 9 17,
  oM 10 18])
 (.seq (.reg [oM 19 8,
  oM 20 9,
  oO 21 (.bin .add (.tmp 19) (.tmp 20)),
  oM 22 10,
  oM 23 22,
  oG 24 (.mv (.tmp 8)) 23 true,
  oG 25 (.mv (.tmp 9)) 23 true,
  oG 26 (.bin .add (.tmp 24) (.tmp 25)) 23 true,
  oG 27 (.bin .leq (.tmp 26) (oK 1000000000000000)) 23 true,
  oO 28 (.pick (.tmp 23) (.tmp 27) (.const (.bool false))),
  oM 6 21,
  oM 7 28])
 .ret)))⟩
theorem s236:compFn Try.prog Try.f236=some c236:=by kernel_rfl
def c237:XFn:=
 ⟨[.tmp 6],
 (.seq (.reg [oO 3 (.box 26 (.tmp 0)),
  oO 6 (.mv (oK 0))])
 (.seq (.reg [oO 8 (.loadn 5 (.tmp 3)),
  oO 9 (.call (.func 233) [(.tmp 8)]),
  oM 7 9])
 (.seq (.seq (.reg [oM 10 7,
  oO 11 (.bin .eql (.tmp 10) (oK 0)),
  oM 12 11,
  oG 13 (.mv (.tmp 1)) 12 true,
  oG 14 (.call (.func 181) [(.tmp 13),(oK 0),(oK 8)]) 12 true,
  oG 15 (.un .not (.tmp 14)) 12 true,
  oG 16 (.mv (.tmp 15)) 12 true,
  oG 17 (.mv (.tmp 2)) 16 false,
  oG 18 (.call (.func 181) [(.tmp 17),(oK 1),(oK 1000)]) 16 false,
  oG 19 (.un .not (.tmp 18)) 16 false,
  oG 20 (.pick (.tmp 16) (.const (.bool true)) (.tmp 19)) 12 true,
  oO 21 (.pick (.tmp 12) (.tmp 20) (.const (.bool false)))])
 (.cond (.tmp 21) (.reg [oO 7 (.mv (oK 2))]) .skip))
 (.seq (.reg [oM 22 7,
  oM 6 22])
 .ret))))⟩
theorem s237:compFn Try.prog Try.f237=some c237:=by kernel_rfl
def c238:XFn:=
 ⟨[.tmp 6,.tmp 7],
 (.seq (.reg [oO 3 (.box 26 (.tmp 0)),
  oO 6 (.mv (oK 0)),
  oO 7 (.mv (.const (.bool false)))])
 (.seq (.reg [oO 12 (.loadn 5 (.tmp 3)),
  oM 13 1,
  oM 14 2,
  oO 15 (.call (.func 234) [(.tmp 12),(.tmp 13),(.tmp 14)]),
  oM 11 15,
  oE 16 11 0,
  oE 17 11 1,
  oE 18 11 2,
  oM 8 16,
  oM 9 17,
  oM 10 18])
 (.seq (.seq (.reg [oM 19 10,
  oO 20 (.un .not (.tmp 19)),
  oM 21 20,
  oG 22 (.mv (.tmp 8)) 21 false,
  oG 23 (.mv (.tmp 9)) 21 false,
  oG 24 (.bin .add (.tmp 22) (.tmp 23)) 21 false,
  oG 25 (.bin .gtr (.tmp 24) (oK 1000000000000000)) 21 false,
  oO 26 (.pick (.tmp 21) (.const (.bool true)) (.tmp 25))])
 (.cond (.tmp 26) (.seq (.reg [oO 6 (.mv (oK 0)),
  oO 7 (.mv (.const (.bool false)))])
 .ret) .skip))
 (.seq (.reg [oM 27 8,
  oM 28 9,
  oO 29 (.bin .add (.tmp 27) (.tmp 28)),
  oM 6 29,
  oO 7 (.mv (.const (.bool true)))])
 .ret))))⟩
theorem s238:compFn Try.prog Try.f238=some c238:=by kernel_rfl
def c239:XFn:=
 ⟨[.celln 6 9],
 (.seq (.reg [oO 3 (.box 136 (.tmp 0)),
  oO 6 (.alloc 136 [.int .u8 0,.int .u8 0,.int .u8 0,.int .u8 0,.int .u8 0,.int .u8 0,.int .u8 0,.int .u8 0,.int .u8 0])])
 (.seq (.reg [oO 7 (.loadn 9 (.tmp 3)),
  oM 8 1,
  oM 9 2,
  oO 10 (.call (.func 310) [(.tmp 7),(.tmp 8),(.tmp 9)]),
  oO 11 (.call (.func 208) [(.tmp 10)]),
  oO 12 (.call (.func 309) [(.tmp 11)]),
  oS (.store 9 (.tmp 6) (.tmp 12))])
 .ret))⟩
theorem s239:compFn Try.prog Try.f239=some c239:=by kernel_rfl
def c257:XFn:=
 ⟨[.tmp 2],
 (.seq (.reg [oO 1 (.box 26 (.tmp 0)),
  oO 2 (.mv (.const (.bool false)))])
 (.seq (.reg [oF 3 1 1,
  oL 4 3,
  oO 5 (.bin .geq (.tmp 4) (oK 2)),
  oM 6 5,
  oG 7 (.fadr 1 (.tmp 1)) 6 true,
  oG 8 (.load1 (.tmp 7)) 6 true,
  oG 9 (.fadr 2 (.tmp 1)) 6 true,
  oG 10 (.load1 (.tmp 9)) 6 true,
  oG 11 (.bin .eql (.tmp 8) (.tmp 10)) 6 true,
  oO 12 (.pick (.tmp 6) (.tmp 11) (.const (.bool false))),
  oM 13 12,
  oG 14 (.fadr 2 (.tmp 1)) 13 true,
  oG 15 (.load1 (.tmp 14)) 13 true,
  oG 16 (.fadr 3 (.tmp 1)) 13 true,
  oG 17 (.load1 (.tmp 16)) 13 true,
  oG 18 (.bin .eql (.tmp 15) (.tmp 17)) 13 true,
  oO 19 (.pick (.tmp 13) (.tmp 18) (.const (.bool false))),
  oM 2 19])
 .ret))⟩
theorem s257:compFn Try.prog Try.f257=some c257:=by kernel_rfl
def c266:XFn:=
 ⟨[.celln 2 5],
 (.seq (.reg [oO 2 (.alloc 26 [.int .i64 0,.int .i64 0,.int .i64 0,.int .i64 0,.slice none 0 0])])
 (.seq (.reg [oM 5 0,
  oO 6 (.call (.func 320) [(.tmp 5)]),
  oO 3 (.alloc 26 [.int .i64 0,.int .i64 0,.int .i64 0,.int .i64 0,.slice none 0 0]),
  oS (.store 5 (.tmp 3) (.tmp 6))])
 (.seq (.seq (.reg [oM 7 0,
  oO 8 (.call (.func 148) [(.tmp 7),(oK 4)])])
 (.blk 0 (.seq (.reg [oO 10 (.bin .eql (.tmp 8) (oK 0)),
  oM 9 10])
 (.cond (.tmp 9) (.seq (.reg [oF 11 0 3,
  oL 12 11,
  oO 13 (.call (.func 321) [(.tmp 12)]),
  oS (.store 5 (.tmp 2) (.tmp 13))])
 .ret) (.seq (.reg [oO 15 (.bin .eql (.tmp 8) (oK 1)),
  oM 14 15])
 (.cond (.tmp 14) (.seq (.reg [oF 16 0 3,
  oL 17 16,
  oF 18 1 3,
  oL 19 18,
  oF 20 2 3,
  oL 21 20,
  oF 22 3 3,
  oL 23 22,
  oO 24 (.call (.func 303) [(.tmp 17),(.tmp 19),(.tmp 21),(.tmp 23)]),
  oS (.store 5 (.tmp 2) (.tmp 24))])
 .ret) .skip))))))
 (.seq (.seq (.reg [oM 25 0,
  oO 26 (.call (.func 148) [(.tmp 25),(oK 6)]),
  oM 4 26])
 (.blk 1 (.loop (.seq (.seq (.reg [oM 27 4,
  oO 28 (.bin .gtr (.tmp 27) (oK 0))])
 (.cond (.tmp 28) .skip (.exit 1)))
 (.seq (.blk 2 (.reg [oF 31 4 3,
  oL 32 31,
  oM 33 0,
  oO 34 (.loadn 5 (.tmp 3)),
  ⟨some 35,.call (.func 305) [(.tmp 33),(.tmp 34)],none,(.s true [(.tmp 31)])⟩,
  oO 36 (.bslice 138 27 1 [.int .u8 0,.int .u8 0,.int .u8 0,.int .u8 0,.int .u8 0,.int .u8 0,.int .u8 0,.int .u8 0,.int .u8 0,.int .u8 0,.int .u8 0,.int .u8 0,.int .u8 0,.int .u8 0,.int .u8 0,.int .u8 0,.int .u8 0,.int .u8 0,.int .u8 0,.int .u8 0,.int .u8 0,.int .u8 0,.int .u8 0,.int .u8 0,.int .u8 0,.int .u8 0,.int .u8 0] [(0,27,(.tmp 35))]),
  oO 37 (.app 138 27 27 (.tmp 32) (.tmp 36)),
  oF 38 4 3,
  oS (.store 1 (.tmp 38) (.tmp 37))]))
 (.reg [oM 29 4,
  oO 30 (.bin .sub (.tmp 29) (oK 1)),
  oM 4 30]))))))
 (.seq (.reg [oO 39 (.loadn 5 (.tmp 3)),
  oS (.store 5 (.tmp 2) (.tmp 39))])
 .ret)))))⟩
theorem s266:compFn Try.prog Try.f266=some c266:=by kernel_rfl
def c269:XFn:=
 ⟨[.celln 4 5],
 (.seq (.reg [oO 3 (.box 26 (.tmp 1)),
  oO 4 (.alloc 26 [.int .i64 0,.int .i64 0,.int .i64 0,.int .i64 0,.slice none 0 0])])
 (.seq (.seq (.reg [oM 8 0,
  oO 9 (.call (.func 148) [(.tmp 8),(oK 40)])])
 (.blk 0 (.seq (.reg [oO 11 (.bin .eql (.tmp 9) (oK 0)),
  oM 10 11])
 (.cond (.tmp 10) (.reg [oM 12 0,
  oO 13 (.bslice 2 1 4 [.int .i64 0] [(0,1,(oK 0)),(1,1,(oK 4)),(2,1,(oK 7)),(3,1,(oK 3))]),
  oO 14 (.call (.func 147) [(.tmp 12),(.tmp 13)]),
  oF 15 0 3,
  oS (.store 1 (.tmp 15) (.tmp 14))]) (.seq (.reg [oO 17 (.bin .eql (.tmp 9) (oK 1)),
  oM 16 17])
 (.cond (.tmp 16) (.reg [oM 18 0,
  oO 19 (.bslice 2 1 3 [.int .i64 0] [(0,1,(oK 0)),(1,1,(oK 4)),(2,1,(.const (.int .i64 (-1))))]),
  oO 20 (.call (.func 147) [(.tmp 18),(.tmp 19)]),
  oF 21 1 3,
  oS (.store 1 (.tmp 21) (.tmp 20))]) (.seq (.reg [oO 23 (.bin .eql (.tmp 9) (oK 2)),
  oM 22 23])
 (.cond (.tmp 22) (.reg [oM 24 0,
  oF 25 3 3,
  oL 26 25,
  oO 27 (.bin .sub (.tmp 26) (oK 1)),
  oO 28 (.bslice 2 1 3 [.int .i64 0] [(0,1,(oK 0)),(1,1,(oK 4)),(2,1,(.tmp 27))]),
  oO 29 (.call (.func 147) [(.tmp 24),(.tmp 28)]),
  oF 30 3 3,
  oS (.store 1 (.tmp 30) (.tmp 29))]) (.seq (.seq (.reg [oO 32 (.bin .eql (.tmp 9) (oK 3)),
  oM 31 32])
 (.cond (.tmp 31) .skip (.seq (.reg [oO 33 (.bin .eql (.tmp 9) (oK 4)),
  oM 31 33])
 (.cond (.tmp 31) .skip (.reg [oO 34 (.bin .eql (.tmp 9) (oK 5)),
  oM 31 34])))))
 (.cond (.tmp 31) (.seq (.reg [oF 35 4 3,
  oL 36 35,
  oN 37 36,
  oM 5 37])
 (.seq (.reg [oM 38 5,
  oO 39 (.bin .gtr (.tmp 38) (oK 0))])
 (.cond (.tmp 39) (.seq (.reg [oO 40 (.bslice 138 27 0 [.int .u8 0,.int .u8 0,.int .u8 0,.int .u8 0,.int .u8 0,.int .u8 0,.int .u8 0,.int .u8 0,.int .u8 0,.int .u8 0,.int .u8 0,.int .u8 0,.int .u8 0,.int .u8 0,.int .u8 0,.int .u8 0,.int .u8 0,.int .u8 0,.int .u8 0,.int .u8 0,.int .u8 0,.int .u8 0,.int .u8 0,.int .u8 0,.int .u8 0,.int .u8 0,.int .u8 0] []),
  oF 41 4 3,
  oL 42 41,
  oO 43 (.app 138 27 27 (.tmp 40) (.tmp 42)),
  oM 6 43])
 (.seq (.reg [oM 44 6,
  oM 45 0,
  oM 46 5,
  oO 47 (.call (.func 148) [(.tmp 45),(.tmp 46)]),
  oX 48 27 44 47,
  oO 49 (.loadn 27 (.tmp 48)),
  oO 7 (.alloc 138 [.int .u8 0,.int .u8 0,.int .u8 0,.int .u8 0,.int .u8 0,.int .u8 0,.int .u8 0,.int .u8 0,.int .u8 0,.int .u8 0,.int .u8 0,.int .u8 0,.int .u8 0,.int .u8 0,.int .u8 0,.int .u8 0,.int .u8 0,.int .u8 0,.int .u8 0,.int .u8 0,.int .u8 0,.int .u8 0,.int .u8 0,.int .u8 0,.int .u8 0,.int .u8 0,.int .u8 0]),
  oS (.store 27 (.tmp 7) (.tmp 49))])
 (.seq (.reg [oM 50 0,
  oO 51 (.call (.func 148) [(.tmp 50),(oK 9)]),
  oM 52 0,
  oO 53 (.call (.func 148) [(.tmp 52),(oK 4)]),
  oO 54 (.conv .u8 (.tmp 53)),
  oF 55 9 7,
  oO 56 (.ixa 9 1 (.tmp 55) (.tmp 51)),
  oS (.store 1 (.tmp 56) (.tmp 54))])
 (.seq (.reg [oM 57 6,
  oM 58 0,
  oM 59 5,
  ⟨some 60,.call (.func 148) [(.tmp 58),(.tmp 59)],none,(.s true [])⟩,
  ⟨some 61,.loadn 27 (.tmp 7),none,(.s false [(.tmp 58)])⟩,
  oX 62 27 57 60,
  oS (.store 27 (.tmp 62) (.tmp 61))])
 (.reg [oM 63 6,
  oF 64 4 3,
  oS (.store 1 (.tmp 64) (.tmp 63))]))))) .skip))) .skip))))))))))
 (.seq (.reg [oO 65 (.loadn 5 (.tmp 3)),
  oS (.store 5 (.tmp 4) (.tmp 65))])
 .ret)))⟩
theorem s269:compFn Try.prog Try.f269=some c269:=by kernel_rfl
def c270:XFn:=
 ⟨[.tmp 6],
 (.seq (.reg [oO 4 (.box 158 (.tmp 1)),
  oO 5 (.box 138 (.tmp 2)),
  oO 6 (.mv (.const (.bool false)))])
 (.seq (.seq (.reg [oO 9 (.loadn 27 (.tmp 5)),
  oO 10 (.call (.func 196) [(.tmp 9)]),
  oO 11 (.mv (oK 0))])
 (.blk 0 (.loop (.seq (.reg [oO 12 (.bin .lss (.tmp 11) (oK 3))])
 (.seq (.cond (.tmp 12) .skip (.exit 0))
 (.seq (.blk 1 (.seq (.reg [oM 13 11,
  oO 14 (.idxn 3 9 (.tmp 10) (.tmp 11)),
  oO 8 (.alloc 136 [.int .u8 0,.int .u8 0,.int .u8 0,.int .u8 0,.int .u8 0,.int .u8 0,.int .u8 0,.int .u8 0,.int .u8 0]),
  oM 7 13,
  oS (.store 9 (.tmp 8) (.tmp 14))])
 (.seq (.reg [oM 15 0,
  oM 16 7,
  oO 17 (.ixa 3 1 (.tmp 4) (.tmp 16)),
  oL 18 17,
  oO 19 (.loadn 9 (.tmp 8)),
  oO 20 (.call (.func 322) [(.tmp 15),(.tmp 18),(.tmp 19)]),
  oO 21 (.un .not (.tmp 20))])
 (.cond (.tmp 21) (.seq (.reg [oO 6 (.mv (.const (.bool false)))])
 .ret) .skip))))
 (.reg [oO 22 (.bin .add (.tmp 11) (oK 1)),
  oM 11 22])))))))
 (.seq (.reg [oO 23 (.loadn 27 (.tmp 5)),
  oO 24 (.call (.func 283) [(.tmp 23)]),
  oO 25 (.un .not (.tmp 24)),
  oM 6 25])
 .ret)))⟩
theorem s270:compFn Try.prog Try.f270=some c270:=by kernel_rfl
def c271:XFn:=
 ⟨[.celln 2 3],
 (.seq (.reg [oO 1 (.box 26 (.tmp 0)),
  oO 2 (.alloc 158 [.int .i64 0,.int .i64 0,.int .i64 0])])
 (.seq (.reg [oF 3 1 1,
  oL 4 3,
  oF 5 2 1,
  oL 6 5,
  oO 7 (.bin .mul (.tmp 4) (.tmp 6)),
  oF 8 2 1,
  oL 9 8,
  oF 10 3 1,
  oL 11 10,
  oO 12 (.bin .mul (.tmp 9) (.tmp 11)),
  oF 13 1 1,
  oL 14 13,
  oF 15 3 1,
  oL 16 15,
  oO 17 (.bin .mul (.tmp 14) (.tmp 16)),
  oO 18 (.build [.int .i64 0,.int .i64 0,.int .i64 0] [(0,1,(.tmp 7)),(1,1,(.tmp 12)),(2,1,(.tmp 17))]),
  oS (.store 3 (.tmp 2) (.tmp 18))])
 .ret))⟩
theorem s271:compFn Try.prog Try.f271=some c271:=by kernel_rfl
def c275:XFn:=
 ⟨[.tmp 8],
 (.seq (.reg [oO 8 (.mv (.const (.bool false)))])
 (.seq (.reg [oM 9 0,
  oO 10 (.call (.func 224) [(.tmp 9)]),
  oM 11 10,
  oG 12 (.mv (.tmp 1)) 11 true,
  oG 13 (.call (.func 181) [(.tmp 12),(oK 1),(oK 3)]) 11 true,
  oO 14 (.pick (.tmp 11) (.tmp 13) (.const (.bool false))),
  oM 15 14,
  oG 16 (.mv (.tmp 2)) 15 true,
  oG 17 (.call (.func 181) [(.tmp 16),(oK 1),(oK 3)]) 15 true,
  oO 18 (.pick (.tmp 15) (.tmp 17) (.const (.bool false))),
  oM 19 18,
  oG 20 (.mv (.tmp 3)) 19 true,
  oG 21 (.call (.func 181) [(.tmp 20),(oK 1),(oK 3)]) 19 true,
  oO 22 (.pick (.tmp 19) (.tmp 21) (.const (.bool false))),
  oM 8 22])
 .ret))⟩
theorem s275:compFn Try.prog Try.f275=some c275:=by kernel_rfl
def c276:XFn:=
 ⟨[.tmp 4],
 (.seq (.reg [oO 2 (.box 26 (.tmp 0)),
  oO 3 (.box 138 (.tmp 1)),
  oO 4 (.mv (.const (.bool false)))])
 (.seq (.reg [oO 9 (.loadn 5 (.tmp 2)),
  oO 10 (.call (.func 300) [(.tmp 9)]),
  oM 8 10,
  oE 11 8 0,
  oE 12 8 1,
  oE 13 8 2,
  oM 5 11,
  oM 6 12,
  oM 7 13])
 (.seq (.seq (.reg [oF 14 0 2,
  oL 15 14,
  oF 16 0 3,
  oO 17 (.loadn 9 (.tmp 16)),
  oM 18 5,
  oO 19 (.call (.func 324) [(.tmp 15),(.tmp 17),(.tmp 18)]),
  oO 20 (.un .not (.tmp 19)),
  oM 21 20,
  oG 22 (.fadr 0 (.tmp 2)) 21 false,
  oG 23 (.load1 (.tmp 22)) 21 false,
  oG 24 (.fadr 9 (.tmp 3)) 21 false,
  oG 25 (.loadn 9 (.tmp 24)) 21 false,
  oG 26 (.mv (.tmp 6)) 21 false,
  oG 27 (.call (.func 324) [(.tmp 23),(.tmp 25),(.tmp 26)]) 21 false,
  oG 28 (.un .not (.tmp 27)) 21 false,
  oO 29 (.pick (.tmp 21) (.const (.bool true)) (.tmp 28)),
  oM 30 29,
  oG 31 (.fadr 0 (.tmp 2)) 30 false,
  oG 32 (.load1 (.tmp 31)) 30 false,
  oG 33 (.fadr 18 (.tmp 3)) 30 false,
  oG 34 (.loadn 9 (.tmp 33)) 30 false,
  oG 35 (.mv (.tmp 7)) 30 false,
  oG 36 (.call (.func 324) [(.tmp 32),(.tmp 34),(.tmp 35)]) 30 false,
  oG 37 (.un .not (.tmp 36)) 30 false,
  oO 38 (.pick (.tmp 30) (.const (.bool true)) (.tmp 37))])
 (.cond (.tmp 38) (.seq (.reg [oO 4 (.mv (.const (.bool false)))])
 .ret) .skip))
 (.seq (.reg [oF 39 0 3,
  oO 40 (.loadn 9 (.tmp 39)),
  oO 41 (.call (.func 278) [(.tmp 40)]),
  oO 42 (.un .not (.tmp 41)),
  oM 43 42,
  oG 44 (.fadr 9 (.tmp 3)) 43 true,
  oG 45 (.loadn 9 (.tmp 44)) 43 true,
  oG 46 (.call (.func 278) [(.tmp 45)]) 43 true,
  oG 47 (.un .not (.tmp 46)) 43 true,
  oO 48 (.pick (.tmp 43) (.tmp 47) (.const (.bool false))),
  oM 49 48,
  oG 50 (.fadr 18 (.tmp 3)) 49 true,
  oG 51 (.loadn 9 (.tmp 50)) 49 true,
  oG 52 (.call (.func 278) [(.tmp 51)]) 49 true,
  oG 53 (.un .not (.tmp 52)) 49 true,
  oO 54 (.pick (.tmp 49) (.tmp 53) (.const (.bool false))),
  oM 4 54])
 .ret))))⟩
theorem s276:compFn Try.prog Try.f276=some c276:=by kernel_rfl
def c277:XFn:=
 ⟨[.celln 2 5],
 (.seq (.reg [oO 1 (.box 26 (.tmp 0)),
  oO 2 (.alloc 26 [.int .i64 0,.int .i64 0,.int .i64 0,.int .i64 0,.slice none 0 0])])
 (.seq (.reg [oF 3 0 1,
  oL 4 3,
  oF 5 1 1,
  oL 6 5,
  oF 7 2 1,
  oL 8 7,
  oF 9 3 1,
  oL 10 9,
  oO 11 (.mkz),
  oO 12 (.build [.int .i64 0,.int .i64 0,.int .i64 0,.int .i64 0,.slice none 0 0] [(0,1,(.tmp 4)),(1,1,(.tmp 6)),(2,1,(.tmp 8)),(3,1,(.tmp 10)),(4,1,(.tmp 11))]),
  oS (.store 5 (.tmp 2) (.tmp 12))])
 .ret))⟩
theorem s277:compFn Try.prog Try.f277=some c277:=by kernel_rfl
def c278:XFn:=
 ⟨[.tmp 2],
 (.seq (.reg [oO 1 (.box 136 (.tmp 0)),
  oO 2 (.mv (.const (.bool false)))])
 (.seq (.reg [oO 3 (.loadn 9 (.tmp 1)),
  oO 4 (.build [.int .u8 0,.int .u8 0,.int .u8 0,.int .u8 0,.int .u8 0,.int .u8 0,.int .u8 0,.int .u8 0,.int .u8 0] []),
  oO 5 (.eqa false 9 (.tmp 3) (.tmp 4)),
  oM 2 5])
 .ret))⟩
theorem s278:compFn Try.prog Try.f278=some c278:=by kernel_rfl
def c283:XFn:=
 ⟨[.tmp 2],
 (.seq (.reg [oO 1 (.box 138 (.tmp 0)),
  oO 2 (.mv (.const (.bool false)))])
 (.seq (.reg [oF 3 0 1,
  oO 4 (.loadn 9 (.tmp 3)),
  oO 5 (.build [.int .u8 0,.int .u8 0,.int .u8 0,.int .u8 0,.int .u8 0,.int .u8 0,.int .u8 0,.int .u8 0,.int .u8 0] []),
  oO 6 (.eqa false 9 (.tmp 4) (.tmp 5)),
  oM 7 6,
  oG 8 (.fadr 9 (.tmp 1)) 7 false,
  oG 9 (.loadn 9 (.tmp 8)) 7 false,
  oG 10 (.build [.int .u8 0,.int .u8 0,.int .u8 0,.int .u8 0,.int .u8 0,.int .u8 0,.int .u8 0,.int .u8 0,.int .u8 0] []) 7 false,
  oG 11 (.eqa false 9 (.tmp 9) (.tmp 10)) 7 false,
  oO 12 (.pick (.tmp 7) (.const (.bool true)) (.tmp 11)),
  oM 13 12,
  oG 14 (.fadr 18 (.tmp 1)) 13 false,
  oG 15 (.loadn 9 (.tmp 14)) 13 false,
  oG 16 (.build [.int .u8 0,.int .u8 0,.int .u8 0,.int .u8 0,.int .u8 0,.int .u8 0,.int .u8 0,.int .u8 0,.int .u8 0] []) 13 false,
  oG 17 (.eqa false 9 (.tmp 15) (.tmp 16)) 13 false,
  oO 18 (.pick (.tmp 13) (.const (.bool true)) (.tmp 17)),
  oM 2 18])
 .ret))⟩
theorem s283:compFn Try.prog Try.f283=some c283:=by kernel_rfl
def c285:XFn:=
 ⟨[.tmp 2],
 (.seq (.reg [oO 2 (.mv (.const (.slice none 0 0)))])
 (.seq (.seq (.reg [oM 3 0,
  oO 4 (.isnil false (.tmp 3))])
 (.cond (.tmp 4) (.seq (.reg [oO 2 (.mv (.const (.slice none 0 0)))])
 .ret) .skip))
 (.seq (.reg [oO 5 (.bslice 2 1 0 [.int .i64 0] []),
  oM 6 0,
  oO 7 (.app 2 1 8 (.tmp 5) (.tmp 6)),
  oM 2 7])
 .ret)))⟩
theorem s285:compFn Try.prog Try.f285=some c285:=by kernel_rfl
def c287:XFn:=
 ⟨[.tmp 4],
 (.seq (.reg [oO 4 (.mv (.const (.slice none 0 0)))])
 (.seq (.seq (.reg [oM 5 1,
  oO 6 (.bin .lss (.tmp 5) (oK 0))])
 (.cond (.tmp 6) (.reg [oO 7 (.fail),
  oS (.fail)]) .skip))
 (.seq (.seq (.reg [oM 8 1,
  oM 9 0,
  oO 10 (.cap (.tmp 9)),
  oM 11 0,
  oN 12 11,
  oO 13 (.bin .sub (.tmp 10) (.tmp 12)),
  oO 14 (.bin .sub (.tmp 8) (.tmp 13)),
  oM 1 14])
 (.seq (.reg [oM 15 1,
  oO 16 (.bin .gtr (.tmp 15) (oK 0))])
 (.cond (.tmp 16) (.reg [oM 17 0,
  oM 18 0,
  oO 19 (.cap (.tmp 18)),
  oO 20 (.slc 1 (.tmp 17) none (some (.tmp 19))),
  oM 21 1,
  oO 22 (.appz 2 1 8 (.tmp 20) (.tmp 21)),
  oM 23 0,
  oN 24 23,
  oO 25 (.slc 1 (.tmp 22) none (some (.tmp 24))),
  oM 0 25]) .skip)))
 (.seq (.reg [oM 26 0,
  oM 4 26])
 .ret))))⟩
theorem s287:compFn Try.prog Try.f287=some c287:=by kernel_rfl
def c300:XFn:=
 ⟨[.tmp 2,.tmp 3,.tmp 4],
 (.seq (.reg [oO 1 (.box 26 (.tmp 0)),
  oO 2 (.mv (oK 0)),
  oO 3 (.mv (oK 0)),
  oO 4 (.mv (oK 0))])
 (.seq (.reg [oF 5 1 1,
  oL 6 5,
  oF 7 2 1,
  oL 8 7,
  oO 9 (.bin .mul (.tmp 6) (.tmp 8)),
  oF 10 2 1,
  oL 11 10,
  oF 12 3 1,
  oL 13 12,
  oO 14 (.bin .mul (.tmp 11) (.tmp 13)),
  oF 15 1 1,
  oL 16 15,
  oF 17 3 1,
  oL 18 17,
  oO 19 (.bin .mul (.tmp 16) (.tmp 18)),
  oM 2 9,
  oM 3 14,
  oM 4 19])
 .ret))⟩
theorem s300:compFn Try.prog Try.f300=some c300:=by kernel_rfl
def c301:XFn:=
 ⟨[.celln 2 5],
 (.seq (.reg [oO 2 (.alloc 26 [.int .i64 0,.int .i64 0,.int .i64 0,.int .i64 0,.slice none 0 0])])
 (.seq (.reg [oM 3 0,
  oO 4 (.bslice 9 1 21 [.string ⟨#[]⟩] [(0,1,(.const (.string ⟨#[49,48,48,49]⟩))),(1,1,(.const (.string ⟨#[49,48,48,49]⟩))),(2,1,(.const (.string ⟨#[49,48,48,49]⟩))),(3,1,(.const (.string ⟨#[48,48,49,49]⟩))),(4,1,(.const (.string ⟨#[49,48,48,48]⟩))),(5,1,(.const (.string ⟨#[48,48,49,109]⟩))),(6,1,(.const (.string ⟨#[49,48,48,48]⟩))),(7,1,(.const (.string ⟨#[48,49,48,109]⟩))),(8,1,(.const (.string ⟨#[48,49,48,49]⟩))),(9,1,(.const (.string ⟨#[48,48,48,49]⟩))),(10,1,(.const (.string ⟨#[109,48,49,48]⟩))),(11,1,(.const (.string ⟨#[49,48,49,48]⟩))),(12,1,(.const (.string ⟨#[49,49,48,48]⟩))),(13,1,(.const (.string ⟨#[48,48,48,49]⟩))),(14,1,(.const (.string ⟨#[109,49,48,48]⟩))),(15,1,(.const (.string ⟨#[109,48,49,48]⟩))),(16,1,(.const (.string ⟨#[49,49,48,48]⟩))),(17,1,(.const (.string ⟨#[48,48,48,49]⟩))),(18,1,(.const (.string ⟨#[48,49,48,109]⟩))),(19,1,(.const (.string ⟨#[48,48,49,49]⟩))),(20,1,(.const (.string ⟨#[49,48,48,48]⟩)))]),
  oO 5 (.call (.func 330) [(.tmp 3),(.tmp 4)]),
  oS (.store 5 (.tmp 2) (.tmp 5))])
 .ret))⟩
theorem s301:compFn Try.prog Try.f301=some c301:=by kernel_rfl
def c302:XFn:=
 ⟨[.celln 2 5],
 (.seq (.reg [oO 2 (.alloc 26 [.int .i64 0,.int .i64 0,.int .i64 0,.int .i64 0,.slice none 0 0])])
 (.seq (.reg [oM 3 0,
  oO 4 (.bslice 9 1 21 [.string ⟨#[]⟩] [(0,1,(.const (.string ⟨#[49,48,48,48]⟩))),(1,1,(.const (.string ⟨#[49,48,48,48]⟩))),(2,1,(.const (.string ⟨#[49,49,49,49]⟩))),(3,1,(.const (.string ⟨#[48,49,48,48]⟩))),(4,1,(.const (.string ⟨#[48,48,49,48]⟩))),(5,1,(.const (.string ⟨#[49,48,48,48]⟩))),(6,1,(.const (.string ⟨#[109,48,49,49]⟩))),(7,1,(.const (.string ⟨#[49,109,48,49]⟩))),(8,1,(.const (.string ⟨#[48,49,49,49]⟩))),(9,1,(.const (.string ⟨#[48,48,49,49]⟩))),(10,1,(.const (.string ⟨#[109,49,48,48]⟩))),(11,1,(.const (.string ⟨#[48,49,48,49]⟩))),(12,1,(.const (.string ⟨#[49,48,109,48]⟩))),(13,1,(.const (.string ⟨#[48,109,48,49]⟩))),(14,1,(.const (.string ⟨#[48,48,49,49]⟩))),(15,1,(.const (.string ⟨#[48,48,48,49]⟩))),(16,1,(.const (.string ⟨#[49,109,109,49]⟩))),(17,1,(.const (.string ⟨#[48,48,109,48]⟩))),(18,1,(.const (.string ⟨#[49,49,109,109]⟩))),(19,1,(.const (.string ⟨#[48,48,48,49]⟩))),(20,1,(.const (.string ⟨#[48,49,48,48]⟩)))]),
  oO 5 (.call (.func 330) [(.tmp 3),(.tmp 4)]),
  oS (.store 5 (.tmp 2) (.tmp 5))])
 .ret))⟩
theorem s302:compFn Try.prog Try.f302=some c302:=by kernel_rfl
def c303:XFn:=
 ⟨[.celln 8 5],
 (.seq (.reg [oO 8 (.alloc 26 [.int .i64 0,.int .i64 0,.int .i64 0,.int .i64 0,.slice none 0 0])])
 (.seq (.reg [oM 14 0,
  oM 15 1,
  oM 16 2,
  oM 17 3,
  oO 18 (.bslice 138 27 0 [.int .u8 0,.int .u8 0,.int .u8 0,.int .u8 0,.int .u8 0,.int .u8 0,.int .u8 0,.int .u8 0,.int .u8 0,.int .u8 0,.int .u8 0,.int .u8 0,.int .u8 0,.int .u8 0,.int .u8 0,.int .u8 0,.int .u8 0,.int .u8 0,.int .u8 0,.int .u8 0,.int .u8 0,.int .u8 0,.int .u8 0,.int .u8 0,.int .u8 0,.int .u8 0,.int .u8 0] []),
  oO 19 (.build [.int .i64 0,.int .i64 0,.int .i64 0,.int .i64 0,.slice none 0 0] [(0,1,(.tmp 14)),(1,1,(.tmp 15)),(2,1,(.tmp 16)),(3,1,(.tmp 17)),(4,1,(.tmp 18))]),
  oO 9 (.alloc 26 [.int .i64 0,.int .i64 0,.int .i64 0,.int .i64 0,.slice none 0 0]),
  oS (.store 5 (.tmp 9) (.tmp 19))])
 (.seq (.seq (.reg [oO 10 (.mv (oK 0))])
 (.blk 0 (.loop (.seq (.seq (.reg [oM 20 10,
  oM 21 1,
  oO 22 (.bin .lss (.tmp 20) (.tmp 21))])
 (.cond (.tmp 22) .skip (.exit 0)))
 (.seq (.blk 1 (.seq (.reg [oO 11 (.mv (oK 0))])
 (.blk 2 (.loop (.seq (.seq (.reg [oM 25 11,
  oM 26 2,
  oO 27 (.bin .lss (.tmp 25) (.tmp 26))])
 (.cond (.tmp 27) .skip (.exit 2)))
 (.seq (.blk 3 (.seq (.reg [oO 12 (.mv (oK 0))])
 (.blk 4 (.loop (.seq (.seq (.reg [oM 30 12,
  oM 31 3,
  oO 32 (.bin .lss (.tmp 30) (.tmp 31))])
 (.cond (.tmp 32) .skip (.exit 4)))
 (.seq (.blk 5 (.seq (.reg [oO 35 (.build [.int .u8 0,.int .u8 0,.int .u8 0,.int .u8 0,.int .u8 0,.int .u8 0,.int .u8 0,.int .u8 0,.int .u8 0,.int .u8 0,.int .u8 0,.int .u8 0,.int .u8 0,.int .u8 0,.int .u8 0,.int .u8 0,.int .u8 0,.int .u8 0,.int .u8 0,.int .u8 0,.int .u8 0,.int .u8 0,.int .u8 0,.int .u8 0,.int .u8 0,.int .u8 0,.int .u8 0] []),
  oO 13 (.alloc 138 [.int .u8 0,.int .u8 0,.int .u8 0,.int .u8 0,.int .u8 0,.int .u8 0,.int .u8 0,.int .u8 0,.int .u8 0,.int .u8 0,.int .u8 0,.int .u8 0,.int .u8 0,.int .u8 0,.int .u8 0,.int .u8 0,.int .u8 0,.int .u8 0,.int .u8 0,.int .u8 0,.int .u8 0,.int .u8 0,.int .u8 0,.int .u8 0,.int .u8 0,.int .u8 0,.int .u8 0]),
  oS (.store 27 (.tmp 13) (.tmp 35))])
 (.seq (.reg [oM 36 10,
  oM 37 2,
  oO 38 (.bin .mul (.tmp 36) (.tmp 37)),
  oM 39 11,
  oO 40 (.bin .add (.tmp 38) (.tmp 39)),
  oF 41 0 13,
  oO 42 (.ixa 9 1 (.tmp 41) (.tmp 40)),
  oS (.store 1 (.tmp 42) (.const (.int .u8 1)))])
 (.seq (.reg [oM 43 11,
  oM 44 3,
  oO 45 (.bin .mul (.tmp 43) (.tmp 44)),
  oM 46 12,
  oO 47 (.bin .add (.tmp 45) (.tmp 46)),
  oF 48 9 13,
  oO 49 (.ixa 9 1 (.tmp 48) (.tmp 47)),
  oS (.store 1 (.tmp 49) (.const (.int .u8 1)))])
 (.seq (.reg [oM 50 10,
  oM 51 3,
  oO 52 (.bin .mul (.tmp 50) (.tmp 51)),
  oM 53 12,
  oO 54 (.bin .add (.tmp 52) (.tmp 53)),
  oF 55 18 13,
  oO 56 (.ixa 9 1 (.tmp 55) (.tmp 54)),
  oS (.store 1 (.tmp 56) (.const (.int .u8 1)))])
 (.reg [oF 57 4 9,
  oL 58 57,
  oO 59 (.loadn 27 (.tmp 13)),
  oO 60 (.bslice 138 27 1 [.int .u8 0,.int .u8 0,.int .u8 0,.int .u8 0,.int .u8 0,.int .u8 0,.int .u8 0,.int .u8 0,.int .u8 0,.int .u8 0,.int .u8 0,.int .u8 0,.int .u8 0,.int .u8 0,.int .u8 0,.int .u8 0,.int .u8 0,.int .u8 0,.int .u8 0,.int .u8 0,.int .u8 0,.int .u8 0,.int .u8 0,.int .u8 0,.int .u8 0,.int .u8 0,.int .u8 0] [(0,27,(.tmp 59))]),
  oO 61 (.app 138 27 27 (.tmp 58) (.tmp 60)),
  oF 62 4 9,
  oS (.store 1 (.tmp 62) (.tmp 61))]))))))
 (.reg [oM 33 12,
  oO 34 (.bin .add (.tmp 33) (oK 1)),
  oM 12 34])))))))
 (.reg [oM 28 11,
  oO 29 (.bin .add (.tmp 28) (oK 1)),
  oM 11 29])))))))
 (.reg [oM 23 10,
  oO 24 (.bin .add (.tmp 23) (oK 1)),
  oM 10 24]))))))
 (.seq (.reg [oO 63 (.loadn 5 (.tmp 9)),
  oS (.store 5 (.tmp 8) (.tmp 63))])
 .ret))))⟩
theorem s303:compFn Try.prog Try.f303=some c303:=by kernel_rfl
def c304:XFn:=
 ⟨[.celln 4 5],
 (.seq (.reg [oO 3 (.box 158 (.tmp 1)),
  oO 4 (.alloc 26 [.int .i64 0,.int .i64 0,.int .i64 0,.int .i64 0,.slice none 0 0])])
 (.seq (.seq (.reg [oO 10 (.loadn 3 (.tmp 3))])
 (.blk 0 (.seq (.reg [oO 12 (.build [.int .i64 0,.int .i64 0,.int .i64 0] [(0,1,(oK 1)),(1,1,(oK 1)),(2,1,(oK 1))]),
  oO 13 (.eqa false 3 (.tmp 10) (.tmp 12)),
  oM 11 13])
 (.cond (.tmp 11) (.seq (.reg [oM 14 0,
  oO 15 (.call (.func 303) [(.tmp 14),(oK 1),(oK 1),(oK 1)]),
  oS (.store 5 (.tmp 4) (.tmp 15))])
 .ret) (.seq (.reg [oO 17 (.build [.int .i64 0,.int .i64 0,.int .i64 0] [(0,1,(oK 2)),(1,1,(oK 2)),(2,1,(oK 2))]),
  oO 18 (.eqa false 3 (.tmp 10) (.tmp 17)),
  oM 16 18])
 (.cond (.tmp 16) (.seq (.reg [oM 19 0,
  oO 20 (.call (.func 301) [(.tmp 19)]),
  oS (.store 5 (.tmp 4) (.tmp 20))])
 .ret) .skip))))))
 (.seq (.reg [oO 21 (.loadn 3 (.tmp 3)),
  oO 22 (.call (.func 331) [(.tmp 21)]),
  oM 5 22])
 (.seq (.seq (.reg [oO 6 (.mv (oK 0))])
 (.blk 1 (.loop (.seq (.seq (.reg [oM 23 6,
  oO 24 (.bin .lss (.tmp 23) (oK 3))])
 (.cond (.tmp 24) .skip (.exit 1)))
 (.seq (.blk 2 (.seq (.reg [oO 7 (.mv (oK 1))])
 (.blk 3 (.loop (.seq (.seq (.reg [oM 27 7,
  oM 28 6,
  oO 29 (.ixa 3 1 (.tmp 3) (.tmp 28)),
  oL 30 29,
  oO 31 (.bin .lss (.tmp 27) (.tmp 30))])
 (.cond (.tmp 31) .skip (.exit 3)))
 (.seq (.blk 4 (.seq (.reg [oO 34 (.loadn 3 (.tmp 3)),
  oM 35 6,
  oM 36 7,
  ⟨some 37,.call (.func 332) [(.tmp 34),(.tmp 35),(.tmp 36)],none,.t⟩,
  oO 38 (.loadn 3 (.tmp 3)),
  oM 39 6,
  oM 40 6,
  oO 41 (.ixa 3 1 (.tmp 3) (.tmp 40)),
  oL 42 41,
  oM 43 7,
  oO 44 (.bin .sub (.tmp 42) (.tmp 43)),
  oO 45 (.call (.func 332) [(.tmp 38),(.tmp 39),(.tmp 44)]),
  oO 8 (.boxn 158 3 (.tmp 37)),
  oO 9 (.boxn 158 3 (.tmp 45))])
 (.seq (.reg [oO 46 (.loadn 3 (.tmp 8)),
  ⟨some 47,.call (.func 331) [(.tmp 46)],none,.t⟩,
  oO 48 (.loadn 3 (.tmp 9)),
  oO 49 (.call (.func 331) [(.tmp 48)]),
  oO 50 (.bin .add (.tmp 47) (.tmp 49)),
  oM 51 5,
  oO 52 (.bin .eql (.tmp 50) (.tmp 51))])
 (.cond (.tmp 52) (.seq (.reg [oM 53 0,
  oO 54 (.loadn 3 (.tmp 8)),
  ⟨some 55,.call (.func 304) [(.tmp 53),(.tmp 54)],none,.t⟩,
  oM 56 0,
  oO 57 (.loadn 3 (.tmp 9)),
  oO 58 (.call (.func 304) [(.tmp 56),(.tmp 57)]),
  oM 59 6,
  oO 60 (.call (.func 333) [(.tmp 55),(.tmp 58),(.tmp 59)]),
  oS (.store 5 (.tmp 4) (.tmp 60))])
 .ret) .skip))))
 (.reg [oM 32 7,
  oO 33 (.bin .add (.tmp 32) (oK 1)),
  oM 7 33])))))))
 (.reg [oM 25 6,
  oO 26 (.bin .add (.tmp 25) (oK 1)),
  oM 6 26]))))))
 (.seq (.reg [oO 61 (.build [.int .i64 0,.int .i64 0,.int .i64 0,.int .i64 0,.slice none 0 0] []),
  oS (.store 5 (.tmp 4) (.tmp 61))])
 .ret)))))⟩
theorem s304:compFn Try.prog Try.f304=some c304:=by kernel_rfl
def c305:XFn:=
 ⟨[.celln 4 27],
 (.seq (.reg [oO 3 (.box 26 (.tmp 1)),
  oO 4 (.alloc 138 [.int .u8 0,.int .u8 0,.int .u8 0,.int .u8 0,.int .u8 0,.int .u8 0,.int .u8 0,.int .u8 0,.int .u8 0,.int .u8 0,.int .u8 0,.int .u8 0,.int .u8 0,.int .u8 0,.int .u8 0,.int .u8 0,.int .u8 0,.int .u8 0,.int .u8 0,.int .u8 0,.int .u8 0,.int .u8 0,.int .u8 0,.int .u8 0,.int .u8 0,.int .u8 0,.int .u8 0])])
 (.seq (.reg [oO 9 (.loadn 5 (.tmp 3)),
  oO 10 (.call (.func 300) [(.tmp 9)]),
  oM 8 10,
  oE 11 8 0,
  oE 12 8 1,
  oE 13 8 2,
  oM 5 11,
  oM 6 12,
  oM 7 13])
 (.seq (.reg [oM 14 0,
  oF 15 0 3,
  oL 16 15,
  oM 17 5,
  ⟨some 18,.call (.func 334) [(.tmp 14),(.tmp 16),(.tmp 17)],none,(.s true [])⟩,
  oM 19 0,
  oF 20 0 3,
  ⟨some 21,.load1 (.tmp 20),none,(.s false [(.tmp 14)])⟩,
  oM 22 6,
  ⟨some 23,.call (.func 334) [(.tmp 19),(.tmp 21),(.tmp 22)],none,(.s true [])⟩,
  oM 24 0,
  oF 25 0 3,
  ⟨some 26,.load1 (.tmp 25),none,(.s false [(.tmp 14),(.tmp 19)])⟩,
  oM 27 7,
  oO 28 (.call (.func 334) [(.tmp 24),(.tmp 26),(.tmp 27)]),
  oO 29 (.build [.int .u8 0,.int .u8 0,.int .u8 0,.int .u8 0,.int .u8 0,.int .u8 0,.int .u8 0,.int .u8 0,.int .u8 0,.int .u8 0,.int .u8 0,.int .u8 0,.int .u8 0,.int .u8 0,.int .u8 0,.int .u8 0,.int .u8 0,.int .u8 0,.int .u8 0,.int .u8 0,.int .u8 0,.int .u8 0,.int .u8 0,.int .u8 0,.int .u8 0,.int .u8 0,.int .u8 0] [(0,9,(.tmp 18)),(9,9,(.tmp 23)),(18,9,(.tmp 28))]),
  oS (.store 27 (.tmp 4) (.tmp 29))])
 .ret)))⟩
theorem s305:compFn Try.prog Try.f305=some c305:=by kernel_rfl
def c306:XFn:=
 ⟨[.tmp 2],
 (.seq (.reg [oO 1 (.box 136 (.tmp 0)),
  oO 2 (.mv (oK 0))])
 (.seq (.reg [oO 3 (.mv (oK 0))])
 (.seq (.seq (.reg [oO 6 (.loadn 9 (.tmp 1)),
  oO 7 (.mv (oK 0))])
 (.blk 0 (.loop (.seq (.reg [oO 8 (.bin .lss (.tmp 7) (oK 9))])
 (.seq (.cond (.tmp 8) .skip (.exit 0))
 (.seq (.blk 1 (.seq (.reg [oO 9 (.idx1 9 (.tmp 6) (.tmp 7)),
  oM 5 9])
 (.seq (.reg [oM 10 5,
  oO 11 (.bin .neq (.tmp 10) (.const (.int .u8 0)))])
 (.cond (.tmp 11) (.reg [oM 12 3,
  oO 13 (.bin .add (.tmp 12) (oK 1)),
  oM 3 13]) .skip))))
 (.reg [oO 14 (.bin .add (.tmp 7) (oK 1)),
  oM 7 14])))))))
 (.seq (.reg [oM 15 3,
  oM 2 15])
 .ret))))⟩
theorem s306:compFn Try.prog Try.f306=some c306:=by kernel_rfl
def c307:XFn:=
 ⟨[.tmp 2],
 (.seq (.reg [oO 1 (.box 136 (.tmp 0)),
  oO 2 (.mv (oK 0))])
 (.seq (.reg [oO 3 (.mv (oK 0))])
 (.seq (.seq (.reg [oO 4 (.mv (oK 0))])
 (.blk 0 (.loop (.seq (.seq (.reg [oM 5 4,
  oO 6 (.bin .lss (.tmp 5) (oK 9))])
 (.cond (.tmp 6) .skip (.exit 0)))
 (.seq (.blk 1 (.seq (.reg [oM 9 4,
  oO 10 (.ixa 9 1 (.tmp 1) (.tmp 9)),
  oL 11 10,
  oO 12 (.bin .neq (.tmp 11) (.const (.int .u8 0)))])
 (.cond (.tmp 12) (.reg [oM 13 3,
  oO 14 (.bin .add (.tmp 13) (oK 1)),
  oM 3 14]) .skip)))
 (.reg [oM 7 4,
  oO 8 (.bin .add (.tmp 7) (oK 1)),
  oM 4 8]))))))
 (.seq (.reg [oM 15 3,
  oM 2 15])
 .ret))))⟩
theorem s307:compFn Try.prog Try.f307=some c307:=by kernel_rfl
def c308:XFn:=
 ⟨[.tmp 2],
 (.seq (.reg [oO 2 (.mv (oK 0))])
 (.seq (.reg [oO 3 (.mv (oK 0))])
 (.seq (.seq (.reg [oM 8 0,
  oN 9 8,
  oO 10 (.mv (oK 0))])
 (.blk 0 (.loop (.seq (.reg [oO 11 (.bin .lss (.tmp 10) (.tmp 9))])
 (.seq (.cond (.tmp 11) .skip (.exit 0))
 (.seq (.blk 1 (.seq (.reg [oX 12 2 8 10,
  oO 13 (.loadn 2 (.tmp 12)),
  oO 5 (.alloc 266 [.int .i64 0,.int .i64 0]),
  oS (.store 2 (.tmp 5) (.tmp 13))])
 (.seq (.reg [oO 14 (.ixa 2 1 (.tmp 5) (oK 0)),
  oL 15 14,
  oO 16 (.mm false (.tmp 15) [(oK 1000000000000001)]),
  oO 17 (.ixa 2 1 (.tmp 5) (oK 1)),
  oL 18 17,
  oO 19 (.mm false (.tmp 18) [(oK 1000000000000001)]),
  oM 6 16,
  oM 7 19])
 (.seq (.seq (.reg [oM 20 7,
  oO 21 (.bin .gtr (.tmp 20) (oK 0)),
  oM 22 21,
  oG 23 (.mv (.tmp 6)) 22 true,
  oG 24 (.mv (.tmp 7)) 22 true,
  oG 25 (.bin .quo (oK 1000000000000000) (.tmp 24)) 22 true,
  oG 26 (.bin .gtr (.tmp 23) (.tmp 25)) 22 true,
  oO 27 (.pick (.tmp 22) (.tmp 26) (.const (.bool false)))])
 (.cond (.tmp 27) (.seq (.reg [oO 2 (.mv (oK 1000000000000001))])
 .ret) .skip))
 (.reg [oM 28 3,
  oM 29 6,
  oM 30 7,
  oO 31 (.bin .mul (.tmp 29) (.tmp 30)),
  oO 32 (.bin .add (.tmp 28) (.tmp 31)),
  oO 33 (.mm false (.tmp 32) [(oK 1000000000000001)]),
  oM 3 33])))))
 (.reg [oO 34 (.bin .add (.tmp 10) (oK 1)),
  oM 10 34])))))))
 (.seq (.reg [oM 35 3,
  oM 2 35])
 .ret))))⟩
theorem s308:compFn Try.prog Try.f308=some c308:=by kernel_rfl
def c309:XFn:=
 ⟨[.celln 2 9],
 (.seq (.reg [oO 2 (.alloc 136 [.int .u8 0,.int .u8 0,.int .u8 0,.int .u8 0,.int .u8 0,.int .u8 0,.int .u8 0,.int .u8 0,.int .u8 0])])
 (.seq (.reg [oO 6 (.build [.int .u8 0,.int .u8 0,.int .u8 0,.int .u8 0,.int .u8 0,.int .u8 0,.int .u8 0,.int .u8 0,.int .u8 0] []),
  oO 3 (.alloc 136 [.int .u8 0,.int .u8 0,.int .u8 0,.int .u8 0,.int .u8 0,.int .u8 0,.int .u8 0,.int .u8 0,.int .u8 0]),
  oS (.store 9 (.tmp 3) (.tmp 6))])
 (.seq (.seq (.reg [oM 7 0,
  oO 8 (.call (.func 165) [(.tmp 7)]),
  oN 9 8,
  oO 10 (.mv (oK 0))])
 (.blk 0 (.loop (.seq (.reg [oO 11 (.bin .lss (.tmp 10) (.tmp 9))])
 (.seq (.cond (.tmp 11) .skip (.exit 0))
 (.seq (.blk 1 (.seq (.reg [oM 12 10,
  oX 13 1 8 10,
  oL 14 13,
  oM 4 12,
  oM 5 14])
 (.reg [oM 15 4,
  oM 16 5,
  oO 17 (.conv .u8 (.tmp 16)),
  oO 18 (.ixa 9 1 (.tmp 3) (.tmp 15)),
  oS (.store 1 (.tmp 18) (.tmp 17))])))
 (.reg [oO 19 (.bin .add (.tmp 10) (oK 1)),
  oM 10 19])))))))
 (.seq (.reg [oO 20 (.loadn 9 (.tmp 3)),
  oS (.store 9 (.tmp 2) (.tmp 20))])
 .ret))))⟩
theorem s309:compFn Try.prog Try.f309=some c309:=by kernel_rfl
def c310:XFn:=
 ⟨[.tmp 6],
 (.seq (.reg [oO 3 (.box 136 (.tmp 0)),
  oO 6 (.mv (.const (.slice none 0 0)))])
 (.seq (.reg [oO 9 (.bslice 2 1 0 [.int .i64 0] []),
  oM 7 9])
 (.seq (.seq (.reg [oM 10 1,
  oM 11 2,
  oO 12 (.bin .mul (.tmp 10) (.tmp 11)),
  oO 13 (.mv (oK 0))])
 (.blk 0 (.loop (.seq (.reg [oO 14 (.bin .lss (.tmp 13) (.tmp 12))])
 (.seq (.cond (.tmp 14) .skip (.exit 0))
 (.seq (.blk 1 (.seq (.reg [oM 15 13,
  oM 8 15])
 (.reg [oM 16 7,
  oM 17 8,
  oO 18 (.ixa 9 1 (.tmp 3) (.tmp 17)),
  oL 19 18,
  oO 20 (.conv .i64 (.tmp 19)),
  oO 21 (.bslice 2 1 1 [.int .i64 0] [(0,1,(.tmp 20))]),
  oO 22 (.app 2 1 8 (.tmp 16) (.tmp 21)),
  oM 7 22])))
 (.reg [oO 23 (.bin .add (.tmp 13) (oK 1)),
  oM 13 23])))))))
 (.seq (.reg [oM 24 7,
  oM 25 2,
  oO 26 (.call (.func 163) [(.tmp 24),(.tmp 25)]),
  oM 6 26])
 .ret))))⟩
theorem s310:compFn Try.prog Try.f310=some c310:=by kernel_rfl
def c320:XFn:=
 ⟨[.celln 2 5],
 (.seq (.reg [oO 2 (.alloc 26 [.int .i64 0,.int .i64 0,.int .i64 0,.int .i64 0,.slice none 0 0])])
 (.seq (.reg [oM 4 0,
  oO 5 (.bslice 2 1 5 [.int .i64 0] [(0,1,(oK 2)),(1,1,(oK 2)),(2,1,(oK 2)),(3,1,(oK 3)),(4,1,(oK 5))]),
  oO 6 (.call (.func 147) [(.tmp 4),(.tmp 5)]),
  oO 7 (.bslice 138 27 0 [.int .u8 0,.int .u8 0,.int .u8 0,.int .u8 0,.int .u8 0,.int .u8 0,.int .u8 0,.int .u8 0,.int .u8 0,.int .u8 0,.int .u8 0,.int .u8 0,.int .u8 0,.int .u8 0,.int .u8 0,.int .u8 0,.int .u8 0,.int .u8 0,.int .u8 0,.int .u8 0,.int .u8 0,.int .u8 0,.int .u8 0,.int .u8 0,.int .u8 0,.int .u8 0,.int .u8 0] []),
  oO 8 (.build [.int .i64 0,.int .i64 0,.int .i64 0,.int .i64 0,.slice none 0 0] [(0,1,(.tmp 6)),(1,1,(oK 2)),(2,1,(oK 2)),(3,1,(oK 2)),(4,1,(.tmp 7))]),
  oO 3 (.alloc 26 [.int .i64 0,.int .i64 0,.int .i64 0,.int .i64 0,.slice none 0 0]),
  oS (.store 5 (.tmp 3) (.tmp 8))])
 (.seq (.seq (.reg [oM 9 0,
  oO 10 (.call (.func 148) [(.tmp 9),(oK 2)]),
  oO 11 (.bin .eql (.tmp 10) (oK 0))])
 (.cond (.tmp 11) (.seq (.reg [oM 12 0,
  oO 13 (.bslice 2 1 3 [.int .i64 0] [(0,1,(oK 1)),(1,1,(oK 2)),(2,1,(oK 3))]),
  oO 14 (.call (.func 147) [(.tmp 12),(.tmp 13)]),
  oF 15 1 3,
  oS (.store 1 (.tmp 15) (.tmp 14))])
 (.seq (.reg [oM 16 0,
  oO 17 (.bslice 2 1 3 [.int .i64 0] [(0,1,(oK 1)),(1,1,(oK 2)),(2,1,(oK 3))]),
  oO 18 (.call (.func 147) [(.tmp 16),(.tmp 17)]),
  oF 19 2 3,
  oS (.store 1 (.tmp 19) (.tmp 18))])
 (.reg [oM 20 0,
  oO 21 (.bslice 2 1 3 [.int .i64 0] [(0,1,(oK 1)),(1,1,(oK 2)),(2,1,(oK 3))]),
  oO 22 (.call (.func 147) [(.tmp 20),(.tmp 21)]),
  oF 23 3 3,
  oS (.store 1 (.tmp 23) (.tmp 22))]))) .skip))
 (.seq (.reg [oO 24 (.loadn 5 (.tmp 3)),
  oS (.store 5 (.tmp 2) (.tmp 24))])
 .ret))))⟩
theorem s320:compFn Try.prog Try.f320=some c320:=by kernel_rfl
def c321:XFn:=
 ⟨[.celln 2 5],
 (.seq (.reg [oO 2 (.alloc 26 [.int .i64 0,.int .i64 0,.int .i64 0,.int .i64 0,.slice none 0 0])])
 (.seq (.reg [oM 5 0,
  oO 6 (.bslice 138 27 0 [.int .u8 0,.int .u8 0,.int .u8 0,.int .u8 0,.int .u8 0,.int .u8 0,.int .u8 0,.int .u8 0,.int .u8 0,.int .u8 0,.int .u8 0,.int .u8 0,.int .u8 0,.int .u8 0,.int .u8 0,.int .u8 0,.int .u8 0,.int .u8 0,.int .u8 0,.int .u8 0,.int .u8 0,.int .u8 0,.int .u8 0,.int .u8 0,.int .u8 0,.int .u8 0,.int .u8 0] []),
  oO 7 (.build [.int .i64 0,.int .i64 0,.int .i64 0,.int .i64 0,.slice none 0 0] [(0,1,(.tmp 5)),(1,1,(oK 2)),(2,1,(oK 2)),(3,1,(oK 2)),(4,1,(.tmp 6))]),
  oO 3 (.alloc 26 [.int .i64 0,.int .i64 0,.int .i64 0,.int .i64 0,.slice none 0 0]),
  oS (.store 5 (.tmp 3) (.tmp 7))])
 (.seq (.reg [oM 8 0,
  oO 9 (.bin .sub (.tmp 8) (oK 1)),
  oO 10 (.conv .u8 (.tmp 9)),
  oM 4 10])
 (.seq (.reg [oF 11 4 3,
  oL 12 11,
  oO 13 (.build [.int .u8 0,.int .u8 0,.int .u8 0,.int .u8 0,.int .u8 0,.int .u8 0,.int .u8 0,.int .u8 0,.int .u8 0] [(0,1,(.const (.int .u8 1))),(1,1,(.const (.int .u8 0))),(2,1,(.const (.int .u8 0))),(3,1,(.const (.int .u8 1)))]),
  oO 14 (.build [.int .u8 0,.int .u8 0,.int .u8 0,.int .u8 0,.int .u8 0,.int .u8 0,.int .u8 0,.int .u8 0,.int .u8 0] [(0,1,(.const (.int .u8 1))),(1,1,(.const (.int .u8 0))),(2,1,(.const (.int .u8 0))),(3,1,(.const (.int .u8 1)))]),
  oO 15 (.build [.int .u8 0,.int .u8 0,.int .u8 0,.int .u8 0,.int .u8 0,.int .u8 0,.int .u8 0,.int .u8 0,.int .u8 0] [(0,1,(.const (.int .u8 1))),(1,1,(.const (.int .u8 0))),(2,1,(.const (.int .u8 0))),(3,1,(.const (.int .u8 1)))]),
  oO 16 (.build [.int .u8 0,.int .u8 0,.int .u8 0,.int .u8 0,.int .u8 0,.int .u8 0,.int .u8 0,.int .u8 0,.int .u8 0,.int .u8 0,.int .u8 0,.int .u8 0,.int .u8 0,.int .u8 0,.int .u8 0,.int .u8 0,.int .u8 0,.int .u8 0,.int .u8 0,.int .u8 0,.int .u8 0,.int .u8 0,.int .u8 0,.int .u8 0,.int .u8 0,.int .u8 0,.int .u8 0] [(0,9,(.tmp 13)),(9,9,(.tmp 14)),(18,9,(.tmp 15))]),
  oO 17 (.build [.int .u8 0,.int .u8 0,.int .u8 0,.int .u8 0,.int .u8 0,.int .u8 0,.int .u8 0,.int .u8 0,.int .u8 0] [(0,1,(.const (.int .u8 0))),(1,1,(.const (.int .u8 0))),(2,1,(.const (.int .u8 1))),(3,1,(.const (.int .u8 1)))]),
  oO 18 (.build [.int .u8 0,.int .u8 0,.int .u8 0,.int .u8 0,.int .u8 0,.int .u8 0,.int .u8 0,.int .u8 0,.int .u8 0] [(0,1,(.const (.int .u8 1)))]),
  oM 19 4,
  oO 20 (.build [.int .u8 0,.int .u8 0,.int .u8 0,.int .u8 0,.int .u8 0,.int .u8 0,.int .u8 0,.int .u8 0,.int .u8 0] [(0,1,(.const (.int .u8 0))),(1,1,(.const (.int .u8 0))),(2,1,(.const (.int .u8 1))),(3,1,(.tmp 19))]),
  oO 21 (.build [.int .u8 0,.int .u8 0,.int .u8 0,.int .u8 0,.int .u8 0,.int .u8 0,.int .u8 0,.int .u8 0,.int .u8 0,.int .u8 0,.int .u8 0,.int .u8 0,.int .u8 0,.int .u8 0,.int .u8 0,.int .u8 0,.int .u8 0,.int .u8 0,.int .u8 0,.int .u8 0,.int .u8 0,.int .u8 0,.int .u8 0,.int .u8 0,.int .u8 0,.int .u8 0,.int .u8 0] [(0,9,(.tmp 17)),(9,9,(.tmp 18)),(18,9,(.tmp 20))]),
  oO 22 (.build [.int .u8 0,.int .u8 0,.int .u8 0,.int .u8 0,.int .u8 0,.int .u8 0,.int .u8 0,.int .u8 0,.int .u8 0] [(0,1,(.const (.int .u8 1)))]),
  oM 23 4,
  oO 24 (.build [.int .u8 0,.int .u8 0,.int .u8 0,.int .u8 0,.int .u8 0,.int .u8 0,.int .u8 0,.int .u8 0,.int .u8 0] [(0,1,(.const (.int .u8 0))),(1,1,(.const (.int .u8 1))),(2,1,(.const (.int .u8 0))),(3,1,(.tmp 23))]),
  oO 25 (.build [.int .u8 0,.int .u8 0,.int .u8 0,.int .u8 0,.int .u8 0,.int .u8 0,.int .u8 0,.int .u8 0,.int .u8 0] [(0,1,(.const (.int .u8 0))),(1,1,(.const (.int .u8 1))),(2,1,(.const (.int .u8 0))),(3,1,(.const (.int .u8 1)))]),
  oO 26 (.build [.int .u8 0,.int .u8 0,.int .u8 0,.int .u8 0,.int .u8 0,.int .u8 0,.int .u8 0,.int .u8 0,.int .u8 0,.int .u8 0,.int .u8 0,.int .u8 0,.int .u8 0,.int .u8 0,.int .u8 0,.int .u8 0,.int .u8 0,.int .u8 0,.int .u8 0,.int .u8 0,.int .u8 0,.int .u8 0,.int .u8 0,.int .u8 0,.int .u8 0,.int .u8 0,.int .u8 0] [(0,9,(.tmp 22)),(9,9,(.tmp 24)),(18,9,(.tmp 25))]),
  oO 27 (.build [.int .u8 0,.int .u8 0,.int .u8 0,.int .u8 0,.int .u8 0,.int .u8 0,.int .u8 0,.int .u8 0,.int .u8 0] [(0,1,(.const (.int .u8 0))),(1,1,(.const (.int .u8 0))),(2,1,(.const (.int .u8 0))),(3,1,(.const (.int .u8 1)))]),
  oM 28 4,
  oO 29 (.build [.int .u8 0,.int .u8 0,.int .u8 0,.int .u8 0,.int .u8 0,.int .u8 0,.int .u8 0,.int .u8 0,.int .u8 0] [(0,1,(.tmp 28)),(1,1,(.const (.int .u8 0))),(2,1,(.const (.int .u8 1)))]),
  oO 30 (.build [.int .u8 0,.int .u8 0,.int .u8 0,.int .u8 0,.int .u8 0,.int .u8 0,.int .u8 0,.int .u8 0,.int .u8 0] [(0,1,(.const (.int .u8 1))),(1,1,(.const (.int .u8 0))),(2,1,(.const (.int .u8 1)))]),
  oO 31 (.build [.int .u8 0,.int .u8 0,.int .u8 0,.int .u8 0,.int .u8 0,.int .u8 0,.int .u8 0,.int .u8 0,.int .u8 0,.int .u8 0,.int .u8 0,.int .u8 0,.int .u8 0,.int .u8 0,.int .u8 0,.int .u8 0,.int .u8 0,.int .u8 0,.int .u8 0,.int .u8 0,.int .u8 0,.int .u8 0,.int .u8 0,.int .u8 0,.int .u8 0,.int .u8 0,.int .u8 0] [(0,9,(.tmp 27)),(9,9,(.tmp 29)),(18,9,(.tmp 30))]),
  oO 32 (.build [.int .u8 0,.int .u8 0,.int .u8 0,.int .u8 0,.int .u8 0,.int .u8 0,.int .u8 0,.int .u8 0,.int .u8 0] [(0,1,(.const (.int .u8 1))),(1,1,(.const (.int .u8 1)))]),
  oO 33 (.build [.int .u8 0,.int .u8 0,.int .u8 0,.int .u8 0,.int .u8 0,.int .u8 0,.int .u8 0,.int .u8 0,.int .u8 0] [(0,1,(.const (.int .u8 0))),(1,1,(.const (.int .u8 0))),(2,1,(.const (.int .u8 0))),(3,1,(.const (.int .u8 1)))]),
  oM 34 4,
  oO 35 (.build [.int .u8 0,.int .u8 0,.int .u8 0,.int .u8 0,.int .u8 0,.int .u8 0,.int .u8 0,.int .u8 0,.int .u8 0] [(0,1,(.tmp 34)),(1,1,(.const (.int .u8 1)))]),
  oO 36 (.build [.int .u8 0,.int .u8 0,.int .u8 0,.int .u8 0,.int .u8 0,.int .u8 0,.int .u8 0,.int .u8 0,.int .u8 0,.int .u8 0,.int .u8 0,.int .u8 0,.int .u8 0,.int .u8 0,.int .u8 0,.int .u8 0,.int .u8 0,.int .u8 0,.int .u8 0,.int .u8 0,.int .u8 0,.int .u8 0,.int .u8 0,.int .u8 0,.int .u8 0,.int .u8 0,.int .u8 0] [(0,9,(.tmp 32)),(9,9,(.tmp 33)),(18,9,(.tmp 35))]),
  oM 37 4,
  oO 38 (.build [.int .u8 0,.int .u8 0,.int .u8 0,.int .u8 0,.int .u8 0,.int .u8 0,.int .u8 0,.int .u8 0,.int .u8 0] [(0,1,(.tmp 37)),(1,1,(.const (.int .u8 0))),(2,1,(.const (.int .u8 1)))]),
  oO 39 (.build [.int .u8 0,.int .u8 0,.int .u8 0,.int .u8 0,.int .u8 0,.int .u8 0,.int .u8 0,.int .u8 0,.int .u8 0] [(0,1,(.const (.int .u8 1))),(1,1,(.const (.int .u8 1)))]),
  oO 40 (.build [.int .u8 0,.int .u8 0,.int .u8 0,.int .u8 0,.int .u8 0,.int .u8 0,.int .u8 0,.int .u8 0,.int .u8 0] [(0,1,(.const (.int .u8 0))),(1,1,(.const (.int .u8 0))),(2,1,(.const (.int .u8 0))),(3,1,(.const (.int .u8 1)))]),
  oO 41 (.build [.int .u8 0,.int .u8 0,.int .u8 0,.int .u8 0,.int .u8 0,.int .u8 0,.int .u8 0,.int .u8 0,.int .u8 0,.int .u8 0,.int .u8 0,.int .u8 0,.int .u8 0,.int .u8 0,.int .u8 0,.int .u8 0,.int .u8 0,.int .u8 0,.int .u8 0,.int .u8 0,.int .u8 0,.int .u8 0,.int .u8 0,.int .u8 0,.int .u8 0,.int .u8 0,.int .u8 0] [(0,9,(.tmp 38)),(9,9,(.tmp 39)),(18,9,(.tmp 40))]),
  oM 42 4,
  oO 43 (.build [.int .u8 0,.int .u8 0,.int .u8 0,.int .u8 0,.int .u8 0,.int .u8 0,.int .u8 0,.int .u8 0,.int .u8 0] [(0,1,(.const (.int .u8 0))),(1,1,(.const (.int .u8 1))),(2,1,(.const (.int .u8 0))),(3,1,(.tmp 42))]),
  oO 44 (.build [.int .u8 0,.int .u8 0,.int .u8 0,.int .u8 0,.int .u8 0,.int .u8 0,.int .u8 0,.int .u8 0,.int .u8 0] [(0,1,(.const (.int .u8 0))),(1,1,(.const (.int .u8 0))),(2,1,(.const (.int .u8 1))),(3,1,(.const (.int .u8 1)))]),
  oO 45 (.build [.int .u8 0,.int .u8 0,.int .u8 0,.int .u8 0,.int .u8 0,.int .u8 0,.int .u8 0,.int .u8 0,.int .u8 0] [(0,1,(.const (.int .u8 1)))]),
  oO 46 (.build [.int .u8 0,.int .u8 0,.int .u8 0,.int .u8 0,.int .u8 0,.int .u8 0,.int .u8 0,.int .u8 0,.int .u8 0,.int .u8 0,.int .u8 0,.int .u8 0,.int .u8 0,.int .u8 0,.int .u8 0,.int .u8 0,.int .u8 0,.int .u8 0,.int .u8 0,.int .u8 0,.int .u8 0,.int .u8 0,.int .u8 0,.int .u8 0,.int .u8 0,.int .u8 0,.int .u8 0] [(0,9,(.tmp 43)),(9,9,(.tmp 44)),(18,9,(.tmp 45))]),
  oO 47 (.bslice 138 27 7 [.int .u8 0,.int .u8 0,.int .u8 0,.int .u8 0,.int .u8 0,.int .u8 0,.int .u8 0,.int .u8 0,.int .u8 0,.int .u8 0,.int .u8 0,.int .u8 0,.int .u8 0,.int .u8 0,.int .u8 0,.int .u8 0,.int .u8 0,.int .u8 0,.int .u8 0,.int .u8 0,.int .u8 0,.int .u8 0,.int .u8 0,.int .u8 0,.int .u8 0,.int .u8 0,.int .u8 0] [(0,27,(.tmp 16)),(27,27,(.tmp 21)),(54,27,(.tmp 26)),(81,27,(.tmp 31)),(108,27,(.tmp 36)),(135,27,(.tmp 41)),(162,27,(.tmp 46))]),
  oO 48 (.app 138 27 27 (.tmp 12) (.tmp 47)),
  oF 49 4 3,
  oS (.store 1 (.tmp 49) (.tmp 48))])
 (.seq (.reg [oO 50 (.loadn 5 (.tmp 3)),
  oS (.store 5 (.tmp 2) (.tmp 50))])
 .ret)))))⟩
theorem s321:compFn Try.prog Try.f321=some c321:=by kernel_rfl
def c322:XFn:=
 ⟨[.tmp 6],
 (.seq (.reg [oO 5 (.box 136 (.tmp 2)),
  oO 6 (.mv (.const (.bool false)))])
 (.seq (.seq (.reg [oO 9 (.loadn 9 (.tmp 5)),
  oO 10 (.mv (oK 0))])
 (.blk 0 (.loop (.seq (.reg [oO 11 (.bin .lss (.tmp 10) (oK 9))])
 (.seq (.cond (.tmp 11) .skip (.exit 0))
 (.seq (.blk 1 (.seq (.reg [oM 12 10,
  oO 13 (.idx1 9 (.tmp 9) (.tmp 10)),
  oM 7 12,
  oM 8 13])
 (.seq (.reg [oM 14 8,
  oO 15 (.conv .i64 (.tmp 14)),
  oM 16 0,
  oO 17 (.bin .geq (.tmp 15) (.tmp 16)),
  oM 18 17,
  oG 19 (.mv (.tmp 8)) 18 false,
  oG 20 (.bin .neq (.tmp 19) (.const (.int .u8 0))) 18 false,
  oG 21 (.mv (.tmp 20)) 18 false,
  oG 22 (.mv (.tmp 7)) 21 true,
  oG 23 (.mv (.tmp 1)) 21 true,
  oG 24 (.bin .geq (.tmp 22) (.tmp 23)) 21 true,
  oG 25 (.pick (.tmp 21) (.tmp 24) (.const (.bool false))) 18 false,
  oO 26 (.pick (.tmp 18) (.const (.bool true)) (.tmp 25))])
 (.cond (.tmp 26) (.seq (.reg [oO 6 (.mv (.const (.bool false)))])
 .ret) .skip))))
 (.reg [oO 27 (.bin .add (.tmp 10) (oK 1)),
  oM 10 27])))))))
 (.seq (.reg [oO 6 (.mv (.const (.bool true)))])
 .ret)))⟩
theorem s322:compFn Try.prog Try.f322=some c322:=by kernel_rfl
def c324:XFn:=
 ⟨[.tmp 6],
 (.seq (.reg [oO 4 (.box 136 (.tmp 1)),
  oO 6 (.mv (.const (.bool false)))])
 (.seq (.seq (.reg [oO 7 (.mv (oK 0))])
 (.blk 0 (.loop (.seq (.seq (.reg [oM 8 7,
  oO 9 (.bin .lss (.tmp 8) (oK 9))])
 (.cond (.tmp 9) .skip (.exit 0)))
 (.seq (.blk 1 (.seq (.reg [oM 12 7,
  oO 13 (.ixa 9 1 (.tmp 4) (.tmp 12)),
  oL 14 13,
  oO 15 (.conv .i64 (.tmp 14)),
  oM 16 0,
  oO 17 (.bin .geq (.tmp 15) (.tmp 16)),
  oM 18 17,
  oG 19 (.mv (.tmp 7)) 18 false,
  oG 20 (.mv (.tmp 2)) 18 false,
  oG 21 (.bin .geq (.tmp 19) (.tmp 20)) 18 false,
  oG 22 (.mv (.tmp 21)) 18 false,
  oG 23 (.mv (.tmp 7)) 22 true,
  oG 24 (.ixa 9 1 (.tmp 4) (.tmp 23)) 22 true,
  oG 25 (.load1 (.tmp 24)) 22 true,
  oG 26 (.bin .neq (.tmp 25) (.const (.int .u8 0))) 22 true,
  oG 27 (.pick (.tmp 22) (.tmp 26) (.const (.bool false))) 18 false,
  oO 28 (.pick (.tmp 18) (.const (.bool true)) (.tmp 27))])
 (.cond (.tmp 28) (.seq (.reg [oO 6 (.mv (.const (.bool false)))])
 .ret) .skip)))
 (.reg [oM 10 7,
  oO 11 (.bin .add (.tmp 10) (oK 1)),
  oM 7 11]))))))
 (.seq (.reg [oO 6 (.mv (.const (.bool true)))])
 .ret)))⟩
theorem s324:compFn Try.prog Try.f324=some c324:=by kernel_rfl
def c330:XFn:=
 ⟨[.celln 4 5],
 (.seq (.reg [oO 4 (.alloc 26 [.int .i64 0,.int .i64 0,.int .i64 0,.int .i64 0,.slice none 0 0])])
 (.seq (.reg [oM 9 0,
  oO 10 (.build [.int .i64 0,.int .i64 0,.int .i64 0,.int .i64 0,.slice none 0 0] [(0,1,(.tmp 9)),(1,1,(oK 2)),(2,1,(oK 2)),(3,1,(oK 2))]),
  oO 5 (.alloc 26 [.int .i64 0,.int .i64 0,.int .i64 0,.int .i64 0,.slice none 0 0]),
  oS (.store 5 (.tmp 5) (.tmp 10))])
 (.seq (.seq (.reg [oO 6 (.mv (oK 0))])
 (.blk 0 (.loop (.seq (.seq (.reg [oM 11 6,
  oO 12 (.bin .add (.tmp 11) (oK 2)),
  oM 13 1,
  oN 14 13,
  oO 15 (.bin .lss (.tmp 12) (.tmp 14))])
 (.cond (.tmp 15) .skip (.exit 0)))
 (.seq (.blk 1 (.seq (.reg [oO 18 (.build [.int .u8 0,.int .u8 0,.int .u8 0,.int .u8 0,.int .u8 0,.int .u8 0,.int .u8 0,.int .u8 0,.int .u8 0,.int .u8 0,.int .u8 0,.int .u8 0,.int .u8 0,.int .u8 0,.int .u8 0,.int .u8 0,.int .u8 0,.int .u8 0,.int .u8 0,.int .u8 0,.int .u8 0,.int .u8 0,.int .u8 0,.int .u8 0,.int .u8 0,.int .u8 0,.int .u8 0] []),
  oO 7 (.alloc 138 [.int .u8 0,.int .u8 0,.int .u8 0,.int .u8 0,.int .u8 0,.int .u8 0,.int .u8 0,.int .u8 0,.int .u8 0,.int .u8 0,.int .u8 0,.int .u8 0,.int .u8 0,.int .u8 0,.int .u8 0,.int .u8 0,.int .u8 0,.int .u8 0,.int .u8 0,.int .u8 0,.int .u8 0,.int .u8 0,.int .u8 0,.int .u8 0,.int .u8 0,.int .u8 0,.int .u8 0]),
  oS (.store 27 (.tmp 7) (.tmp 18))])
 (.seq (.seq (.reg [oO 8 (.mv (oK 0))])
 (.blk 2 (.loop (.seq (.seq (.reg [oM 19 8,
  oO 20 (.bin .lss (.tmp 19) (oK 4))])
 (.cond (.tmp 20) .skip (.exit 2)))
 (.seq (.blk 3 (.seq (.reg [oM 23 8,
  oM 24 0,
  oM 25 1,
  oM 26 6,
  oX 27 1 25 26,
  oL 28 27,
  oM 29 8,
  oO 30 (.idxt (.tmp 28) (.tmp 29)),
  oO 31 (.call (.func 339) [(.tmp 24),(.tmp 30)]),
  oF 32 0 7,
  oO 33 (.ixa 9 1 (.tmp 32) (.tmp 23)),
  oS (.store 1 (.tmp 33) (.tmp 31))])
 (.seq (.reg [oM 34 8,
  oM 35 0,
  oM 36 1,
  oM 37 6,
  oO 38 (.bin .add (.tmp 37) (oK 1)),
  oX 39 1 36 38,
  oL 40 39,
  oM 41 8,
  oO 42 (.idxt (.tmp 40) (.tmp 41)),
  oO 43 (.call (.func 339) [(.tmp 35),(.tmp 42)]),
  oF 44 9 7,
  oO 45 (.ixa 9 1 (.tmp 44) (.tmp 34)),
  oS (.store 1 (.tmp 45) (.tmp 43))])
 (.reg [oM 46 8,
  oM 47 0,
  oM 48 1,
  oM 49 6,
  oO 50 (.bin .add (.tmp 49) (oK 2)),
  oX 51 1 48 50,
  oL 52 51,
  oM 53 8,
  oO 54 (.idxt (.tmp 52) (.tmp 53)),
  oO 55 (.call (.func 339) [(.tmp 47),(.tmp 54)]),
  oF 56 18 7,
  oO 57 (.ixa 9 1 (.tmp 56) (.tmp 46)),
  oS (.store 1 (.tmp 57) (.tmp 55))]))))
 (.reg [oM 21 8,
  oO 22 (.bin .add (.tmp 21) (oK 1)),
  oM 8 22]))))))
 (.reg [oF 58 4 5,
  oL 59 58,
  oO 60 (.loadn 27 (.tmp 7)),
  oO 61 (.bslice 138 27 1 [.int .u8 0,.int .u8 0,.int .u8 0,.int .u8 0,.int .u8 0,.int .u8 0,.int .u8 0,.int .u8 0,.int .u8 0,.int .u8 0,.int .u8 0,.int .u8 0,.int .u8 0,.int .u8 0,.int .u8 0,.int .u8 0,.int .u8 0,.int .u8 0,.int .u8 0,.int .u8 0,.int .u8 0,.int .u8 0,.int .u8 0,.int .u8 0,.int .u8 0,.int .u8 0,.int .u8 0] [(0,27,(.tmp 60))]),
  oO 62 (.app 138 27 27 (.tmp 59) (.tmp 61)),
  oF 63 4 5,
  oS (.store 1 (.tmp 63) (.tmp 62))]))))
 (.reg [oM 16 6,
  oO 17 (.bin .add (.tmp 16) (oK 3)),
  oM 6 17]))))))
 (.seq (.reg [oO 64 (.loadn 5 (.tmp 5)),
  oS (.store 5 (.tmp 4) (.tmp 64))])
 .ret))))⟩
theorem s330:compFn Try.prog Try.f330=some c330:=by kernel_rfl
def c331:XFn:=
 ⟨[.tmp 2],
 (.seq (.reg [oO 1 (.box 158 (.tmp 0)),
  oO 2 (.mv (oK 0))])
 (.seq (.seq (.reg [oO 7 (.loadn 3 (.tmp 1))])
 (.blk 0 (.seq (.reg [oO 9 (.build [.int .i64 0,.int .i64 0,.int .i64 0] [(0,1,(oK 1)),(1,1,(oK 1)),(2,1,(oK 1))]),
  oO 10 (.eqa false 3 (.tmp 7) (.tmp 9)),
  oM 8 10])
 (.cond (.tmp 8) (.seq (.reg [oO 2 (.mv (oK 1))])
 .ret) (.seq (.reg [oO 12 (.build [.int .i64 0,.int .i64 0,.int .i64 0] [(0,1,(oK 2)),(1,1,(oK 2)),(2,1,(oK 2))]),
  oO 13 (.eqa false 3 (.tmp 7) (.tmp 12)),
  oM 11 13])
 (.cond (.tmp 11) (.seq (.reg [oO 2 (.mv (oK 7))])
 .ret) .skip))))))
 (.seq (.reg [oO 3 (.mv (oK 100))])
 (.seq (.seq (.reg [oO 4 (.mv (oK 0))])
 (.blk 1 (.loop (.seq (.seq (.reg [oM 14 4,
  oO 15 (.bin .lss (.tmp 14) (oK 3))])
 (.cond (.tmp 15) .skip (.exit 1)))
 (.seq (.blk 2 (.seq (.reg [oO 5 (.mv (oK 1))])
 (.blk 3 (.loop (.seq (.seq (.reg [oM 18 5,
  oM 19 4,
  oO 20 (.ixa 3 1 (.tmp 1) (.tmp 19)),
  oL 21 20,
  oO 22 (.bin .lss (.tmp 18) (.tmp 21))])
 (.cond (.tmp 22) .skip (.exit 3)))
 (.seq (.blk 4 (.seq (.reg [oO 25 (.loadn 3 (.tmp 1)),
  oM 26 4,
  oM 27 5,
  ⟨some 28,.call (.func 332) [(.tmp 25),(.tmp 26),(.tmp 27)],none,.t⟩,
  ⟨some 29,.call (.func 331) [(.tmp 28)],none,.t⟩,
  oO 30 (.loadn 3 (.tmp 1)),
  oM 31 4,
  oM 32 4,
  oO 33 (.ixa 3 1 (.tmp 1) (.tmp 32)),
  oL 34 33,
  oM 35 5,
  oO 36 (.bin .sub (.tmp 34) (.tmp 35)),
  oO 37 (.call (.func 332) [(.tmp 30),(.tmp 31),(.tmp 36)]),
  oO 38 (.call (.func 331) [(.tmp 37)]),
  oO 39 (.bin .add (.tmp 29) (.tmp 38)),
  oM 6 39])
 (.reg [oM 40 3,
  oM 41 6,
  oO 42 (.mm false (.tmp 40) [(.tmp 41)]),
  oM 3 42])))
 (.reg [oM 23 5,
  oO 24 (.bin .add (.tmp 23) (oK 1)),
  oM 5 24])))))))
 (.reg [oM 16 4,
  oO 17 (.bin .add (.tmp 16) (oK 1)),
  oM 4 17]))))))
 (.seq (.reg [oM 43 3,
  oM 2 43])
 .ret)))))⟩
theorem s331:compFn Try.prog Try.f331=some c331:=by kernel_rfl
def c332:XFn:=
 ⟨[.celln 6 3],
 (.seq (.reg [oO 3 (.box 158 (.tmp 0)),
  oO 6 (.alloc 158 [.int .i64 0,.int .i64 0,.int .i64 0])])
 (.seq (.reg [oM 7 1,
  oM 8 2,
  oO 9 (.ixa 3 1 (.tmp 3) (.tmp 7)),
  oS (.store 1 (.tmp 9) (.tmp 8))])
 (.seq (.reg [oO 10 (.loadn 3 (.tmp 3)),
  oS (.store 3 (.tmp 6) (.tmp 10))])
 .ret)))⟩
theorem s332:compFn Try.prog Try.f332=some c332:=by kernel_rfl
def c333:XFn:=
 ⟨[.celln 6 5],
 (.seq (.reg [oO 3 (.box 26 (.tmp 0)),
  oO 4 (.box 26 (.tmp 1)),
  oO 6 (.alloc 26 [.int .i64 0,.int .i64 0,.int .i64 0,.int .i64 0,.slice none 0 0])])
 (.seq (.reg [oO 8 (.loadn 5 (.tmp 3)),
  oO 9 (.call (.func 277) [(.tmp 8)]),
  oO 7 (.alloc 26 [.int .i64 0,.int .i64 0,.int .i64 0,.int .i64 0,.slice none 0 0]),
  oS (.store 5 (.tmp 7) (.tmp 9))])
 (.seq (.seq (.reg [oM 10 2])
 (.blk 0 (.seq (.reg [oO 12 (.bin .eql (.tmp 10) (oK 0)),
  oM 11 12])
 (.cond (.tmp 11) (.seq (.reg [oF 13 1 3,
  oL 14 13,
  oF 15 1 4,
  oL 16 15,
  oO 17 (.bin .add (.tmp 14) (.tmp 16)),
  oF 18 1 7,
  oS (.store 1 (.tmp 18) (.tmp 17))])
 (.seq (.reg [oO 19 (.loadn 5 (.tmp 4)),
  oO 20 (.loadn 5 (.tmp 3)),
  oO 21 (.loadn 5 (.tmp 7)),
  ⟨some 22,.call (.func 340) [(.tmp 20),(.tmp 21),(oK 0),(oK 0),(oK 0)],none,.t⟩,
  oF 23 1 3,
  oL 24 23,
  oO 25 (.call (.func 340) [(.tmp 19),(.tmp 22),(.tmp 24),(oK 0),(oK 0)]),
  oS (.store 5 (.tmp 6) (.tmp 25))])
 .ret)) (.seq (.reg [oO 27 (.bin .eql (.tmp 10) (oK 1)),
  oM 26 27])
 (.cond (.tmp 26) (.seq (.reg [oF 28 2 3,
  oL 29 28,
  oF 30 2 4,
  oL 31 30,
  oO 32 (.bin .add (.tmp 29) (.tmp 31)),
  oF 33 2 7,
  oS (.store 1 (.tmp 33) (.tmp 32))])
 (.seq (.reg [oO 34 (.loadn 5 (.tmp 4)),
  oO 35 (.loadn 5 (.tmp 3)),
  oO 36 (.loadn 5 (.tmp 7)),
  ⟨some 37,.call (.func 340) [(.tmp 35),(.tmp 36),(oK 0),(oK 0),(oK 0)],none,.t⟩,
  oF 38 2 3,
  oL 39 38,
  oO 40 (.call (.func 340) [(.tmp 34),(.tmp 37),(oK 0),(.tmp 39),(oK 0)]),
  oS (.store 5 (.tmp 6) (.tmp 40))])
 .ret)) .skip))))))
 (.seq (.reg [oF 41 3 3,
  oL 42 41,
  oF 43 3 4,
  oL 44 43,
  oO 45 (.bin .add (.tmp 42) (.tmp 44)),
  oF 46 3 7,
  oS (.store 1 (.tmp 46) (.tmp 45))])
 (.seq (.reg [oO 47 (.loadn 5 (.tmp 4)),
  oO 48 (.loadn 5 (.tmp 3)),
  oO 49 (.loadn 5 (.tmp 7)),
  ⟨some 50,.call (.func 340) [(.tmp 48),(.tmp 49),(oK 0),(oK 0),(oK 0)],none,.t⟩,
  oF 51 3 3,
  oL 52 51,
  oO 53 (.call (.func 340) [(.tmp 47),(.tmp 50),(oK 0),(oK 0),(.tmp 52)]),
  oS (.store 5 (.tmp 6) (.tmp 53))])
 .ret)))))⟩
theorem s333:compFn Try.prog Try.f333=some c333:=by kernel_rfl
def c334:XFn:=
 ⟨[.celln 6 9],
 (.seq (.reg [oO 6 (.alloc 136 [.int .u8 0,.int .u8 0,.int .u8 0,.int .u8 0,.int .u8 0,.int .u8 0,.int .u8 0,.int .u8 0,.int .u8 0])])
 (.seq (.reg [oO 9 (.build [.int .u8 0,.int .u8 0,.int .u8 0,.int .u8 0,.int .u8 0,.int .u8 0,.int .u8 0,.int .u8 0,.int .u8 0] []),
  oO 7 (.alloc 136 [.int .u8 0,.int .u8 0,.int .u8 0,.int .u8 0,.int .u8 0,.int .u8 0,.int .u8 0,.int .u8 0,.int .u8 0]),
  oS (.store 9 (.tmp 7) (.tmp 9))])
 (.seq (.seq (.reg [oO 8 (.mv (oK 0))])
 (.blk 0 (.loop (.seq (.seq (.reg [oM 10 8,
  oM 11 2,
  oO 12 (.bin .lss (.tmp 10) (.tmp 11))])
 (.cond (.tmp 12) .skip (.exit 0)))
 (.seq (.blk 1 (.seq (.reg [oM 15 0,
  oO 16 (.call (.func 148) [(.tmp 15),(oK 2)]),
  oO 17 (.bin .eql (.tmp 16) (oK 0))])
 (.cond (.tmp 17) (.reg [oM 18 8,
  oM 19 0,
  oM 20 1,
  oO 21 (.call (.func 148) [(.tmp 19),(.tmp 20)]),
  oO 22 (.conv .u8 (.tmp 21)),
  oO 23 (.ixa 9 1 (.tmp 7) (.tmp 18)),
  oS (.store 1 (.tmp 23) (.tmp 22))]) .skip)))
 (.reg [oM 13 8,
  oO 14 (.bin .add (.tmp 13) (oK 1)),
  oM 8 14]))))))
 (.seq (.seq (.reg [oO 24 (.loadn 9 (.tmp 7)),
  oO 25 (.call (.func 278) [(.tmp 24)])])
 (.cond (.tmp 25) (.reg [oM 26 0,
  oM 27 2,
  oO 28 (.call (.func 148) [(.tmp 26),(.tmp 27)]),
  oM 29 0,
  oM 30 1,
  oO 31 (.bin .sub (.tmp 30) (oK 1)),
  oO 32 (.call (.func 148) [(.tmp 29),(.tmp 31)]),
  oO 33 (.bin .add (oK 1) (.tmp 32)),
  oO 34 (.conv .u8 (.tmp 33)),
  oO 35 (.ixa 9 1 (.tmp 7) (.tmp 28)),
  oS (.store 1 (.tmp 35) (.tmp 34))]) .skip))
 (.seq (.reg [oO 36 (.loadn 9 (.tmp 7)),
  oS (.store 9 (.tmp 6) (.tmp 36))])
 .ret)))))⟩
theorem s334:compFn Try.prog Try.f334=some c334:=by kernel_rfl
def c339:XFn:=
 ⟨[.tmp 4],
 (.seq (.reg [oO 4 (.mv (.const (.int .u8 0)))])
 (.seq (.seq (.reg [oM 5 1,
  oO 6 (.bin .eql (.tmp 5) (.const (.int .u8 109)))])
 (.cond (.tmp 6) (.seq (.reg [oM 7 0,
  oO 8 (.bin .sub (.tmp 7) (oK 1)),
  oO 9 (.conv .u8 (.tmp 8)),
  oM 4 9])
 .ret) .skip))
 (.seq (.reg [oM 10 1,
  oO 11 (.bin .sub (.tmp 10) (.const (.int .u8 48))),
  oM 4 11])
 .ret)))⟩
theorem s339:compFn Try.prog Try.f339=some c339:=by kernel_rfl
def c340:XFn:=
 ⟨[.celln 10 5],
 (.seq (.reg [oO 5 (.box 26 (.tmp 0)),
  oO 6 (.box 26 (.tmp 1)),
  oO 10 (.alloc 26 [.int .i64 0,.int .i64 0,.int .i64 0,.int .i64 0,.slice none 0 0])])
 (.seq (.seq (.reg [oO 11 (.mv (oK 0))])
 (.blk 0 (.loop (.seq (.seq (.reg [oM 14 11,
  oF 15 4 5,
  oL 16 15,
  oN 17 16,
  oO 18 (.bin .lss (.tmp 14) (.tmp 17))])
 (.cond (.tmp 18) .skip (.exit 0)))
 (.seq (.blk 1 (.seq (.reg [oF 21 4 5,
  oL 22 21,
  oM 23 11,
  oX 24 27 22 23,
  oO 25 (.loadn 27 (.tmp 24)),
  oO 12 (.alloc 138 [.int .u8 0,.int .u8 0,.int .u8 0,.int .u8 0,.int .u8 0,.int .u8 0,.int .u8 0,.int .u8 0,.int .u8 0,.int .u8 0,.int .u8 0,.int .u8 0,.int .u8 0,.int .u8 0,.int .u8 0,.int .u8 0,.int .u8 0,.int .u8 0,.int .u8 0,.int .u8 0,.int .u8 0,.int .u8 0,.int .u8 0,.int .u8 0,.int .u8 0,.int .u8 0,.int .u8 0]),
  oS (.store 27 (.tmp 12) (.tmp 25))])
 (.seq (.reg [oF 26 0 12,
  oO 27 (.loadn 9 (.tmp 26)),
  oF 28 1 5,
  oL 29 28,
  oF 30 2 5,
  oL 31 30,
  oF 32 2 6,
  oL 33 32,
  oM 34 2,
  oM 35 3,
  ⟨some 36,.call (.func 343) [(.tmp 27),(.tmp 29),(.tmp 31),(.tmp 33),(.tmp 34),(.tmp 35)],none,.t⟩,
  oF 37 9 12,
  oO 38 (.loadn 9 (.tmp 37)),
  oF 39 2 5,
  oL 40 39,
  oF 41 3 5,
  oL 42 41,
  oF 43 3 6,
  oL 44 43,
  oM 45 3,
  oM 46 4,
  ⟨some 47,.call (.func 343) [(.tmp 38),(.tmp 40),(.tmp 42),(.tmp 44),(.tmp 45),(.tmp 46)],none,.t⟩,
  oF 48 18 12,
  oO 49 (.loadn 9 (.tmp 48)),
  oF 50 1 5,
  oL 51 50,
  oF 52 3 5,
  oL 53 52,
  oF 54 3 6,
  oL 55 54,
  oM 56 2,
  oM 57 4,
  oO 58 (.call (.func 343) [(.tmp 49),(.tmp 51),(.tmp 53),(.tmp 55),(.tmp 56),(.tmp 57)]),
  oO 59 (.build [.int .u8 0,.int .u8 0,.int .u8 0,.int .u8 0,.int .u8 0,.int .u8 0,.int .u8 0,.int .u8 0,.int .u8 0,.int .u8 0,.int .u8 0,.int .u8 0,.int .u8 0,.int .u8 0,.int .u8 0,.int .u8 0,.int .u8 0,.int .u8 0,.int .u8 0,.int .u8 0,.int .u8 0,.int .u8 0,.int .u8 0,.int .u8 0,.int .u8 0,.int .u8 0,.int .u8 0] [(0,9,(.tmp 36)),(9,9,(.tmp 47)),(18,9,(.tmp 58))]),
  oO 13 (.boxn 138 27 (.tmp 59))])
 (.reg [oF 60 4 6,
  oL 61 60,
  oO 62 (.loadn 27 (.tmp 13)),
  oO 63 (.bslice 138 27 1 [.int .u8 0,.int .u8 0,.int .u8 0,.int .u8 0,.int .u8 0,.int .u8 0,.int .u8 0,.int .u8 0,.int .u8 0,.int .u8 0,.int .u8 0,.int .u8 0,.int .u8 0,.int .u8 0,.int .u8 0,.int .u8 0,.int .u8 0,.int .u8 0,.int .u8 0,.int .u8 0,.int .u8 0,.int .u8 0,.int .u8 0,.int .u8 0,.int .u8 0,.int .u8 0,.int .u8 0] [(0,27,(.tmp 62))]),
  oO 64 (.app 138 27 27 (.tmp 61) (.tmp 63)),
  oF 65 4 6,
  oS (.store 1 (.tmp 65) (.tmp 64))]))))
 (.reg [oM 19 11,
  oO 20 (.bin .add (.tmp 19) (oK 1)),
  oM 11 20]))))))
 (.seq (.reg [oO 66 (.loadn 5 (.tmp 6)),
  oS (.store 5 (.tmp 10) (.tmp 66))])
 .ret)))⟩
theorem s340:compFn Try.prog Try.f340=some c340:=by kernel_rfl
def c343:XFn:=
 ⟨[.celln 12 9],
 (.seq (.reg [oO 6 (.box 136 (.tmp 0)),
  oO 12 (.alloc 136 [.int .u8 0,.int .u8 0,.int .u8 0,.int .u8 0,.int .u8 0,.int .u8 0,.int .u8 0,.int .u8 0,.int .u8 0])])
 (.seq (.reg [oO 16 (.build [.int .u8 0,.int .u8 0,.int .u8 0,.int .u8 0,.int .u8 0,.int .u8 0,.int .u8 0,.int .u8 0,.int .u8 0] []),
  oO 13 (.alloc 136 [.int .u8 0,.int .u8 0,.int .u8 0,.int .u8 0,.int .u8 0,.int .u8 0,.int .u8 0,.int .u8 0,.int .u8 0]),
  oS (.store 9 (.tmp 13) (.tmp 16))])
 (.seq (.seq (.reg [oO 14 (.mv (oK 0))])
 (.blk 0 (.loop (.seq (.seq (.reg [oM 17 14,
  oM 18 1,
  oO 19 (.bin .lss (.tmp 17) (.tmp 18))])
 (.cond (.tmp 19) .skip (.exit 0)))
 (.seq (.blk 1 (.seq (.reg [oO 15 (.mv (oK 0))])
 (.blk 2 (.loop (.seq (.seq (.reg [oM 22 15,
  oM 23 2,
  oO 24 (.bin .lss (.tmp 22) (.tmp 23))])
 (.cond (.tmp 24) .skip (.exit 2)))
 (.seq (.blk 3 (.reg [oM 27 3,
  oM 28 14,
  oM 29 4,
  oO 30 (.bin .add (.tmp 28) (.tmp 29)),
  oO 31 (.bin .mul (.tmp 27) (.tmp 30)),
  oM 32 15,
  oO 33 (.bin .add (.tmp 31) (.tmp 32)),
  oM 34 5,
  oO 35 (.bin .add (.tmp 33) (.tmp 34)),
  oM 36 2,
  oM 37 14,
  oO 38 (.bin .mul (.tmp 36) (.tmp 37)),
  oM 39 15,
  oO 40 (.bin .add (.tmp 38) (.tmp 39)),
  oO 41 (.ixa 9 1 (.tmp 6) (.tmp 40)),
  oL 42 41,
  oO 43 (.ixa 9 1 (.tmp 13) (.tmp 35)),
  oS (.store 1 (.tmp 43) (.tmp 42))]))
 (.reg [oM 25 15,
  oO 26 (.bin .add (.tmp 25) (oK 1)),
  oM 15 26])))))))
 (.reg [oM 20 14,
  oO 21 (.bin .add (.tmp 20) (oK 1)),
  oM 14 21]))))))
 (.seq (.reg [oO 44 (.loadn 9 (.tmp 13)),
  oS (.store 9 (.tmp 12) (.tmp 44))])
 .ret))))⟩
theorem s343:compFn Try.prog Try.f343=some c343:=by kernel_rfl
def tab2:List (Nat×XFn):=[(236,c236),(237,c237),(238,c238),(239,c239),(257,c257),(266,c266),(269,c269),(270,c270),(271,c271),(275,c275),(276,c276),(277,c277),(278,c278),(283,c283),(285,c285),(287,c287),(300,c300),(301,c301),(302,c302),(303,c303),(304,c304),(305,c305),(306,c306),(307,c307),(308,c308),(309,c309),(310,c310),(320,c320),(321,c321),(322,c322),(324,c324),(330,c330),(331,c331),(332,c332),(333,c333),(334,c334),(339,c339),(340,c340),(343,c343)]
theorem ts2:TSound Try.prog (fun g=>tab2.lookup g):=by
 refine tsound_of_all (P:=Try.prog) (tab:=tab2) ?_
 intro p hp
 simp only[tab2,List.mem_cons,List.not_mem_nil,or_false] at hp
 rcases hp with rfl|rfl|rfl|rfl|rfl|rfl|rfl|rfl|rfl|rfl|rfl|rfl|rfl|rfl|rfl|rfl|rfl|rfl|rfl|rfl|rfl|rfl|rfl|rfl|rfl|rfl|rfl|rfl|rfl|rfl|rfl|rfl|rfl|rfl|rfl|rfl|rfl|rfl|rfl
 ·exact⟨_,Try.func236,s236⟩
 ·exact⟨_,Try.func237,s237⟩
 ·exact⟨_,Try.func238,s238⟩
 ·exact⟨_,Try.func239,s239⟩
 ·exact⟨_,Try.func257,s257⟩
 ·exact⟨_,Try.func266,s266⟩
 ·exact⟨_,Try.func269,s269⟩
 ·exact⟨_,Try.func270,s270⟩
 ·exact⟨_,Try.func271,s271⟩
 ·exact⟨_,Try.func275,s275⟩
 ·exact⟨_,Try.func276,s276⟩
 ·exact⟨_,Try.func277,s277⟩
 ·exact⟨_,Try.func278,s278⟩
 ·exact⟨_,Try.func283,s283⟩
 ·exact⟨_,Try.func285,s285⟩
 ·exact⟨_,Try.func287,s287⟩
 ·exact⟨_,Try.func300,s300⟩
 ·exact⟨_,Try.func301,s301⟩
 ·exact⟨_,Try.func302,s302⟩
 ·exact⟨_,Try.func303,s303⟩
 ·exact⟨_,Try.func304,s304⟩
 ·exact⟨_,Try.func305,s305⟩
 ·exact⟨_,Try.func306,s306⟩
 ·exact⟨_,Try.func307,s307⟩
 ·exact⟨_,Try.func308,s308⟩
 ·exact⟨_,Try.func309,s309⟩
 ·exact⟨_,Try.func310,s310⟩
 ·exact⟨_,Try.func320,s320⟩
 ·exact⟨_,Try.func321,s321⟩
 ·exact⟨_,Try.func322,s322⟩
 ·exact⟨_,Try.func324,s324⟩
 ·exact⟨_,Try.func330,s330⟩
 ·exact⟨_,Try.func331,s331⟩
 ·exact⟨_,Try.func332,s332⟩
 ·exact⟨_,Try.func333,s333⟩
 ·exact⟨_,Try.func334,s334⟩
 ·exact⟨_,Try.func339,s339⟩
 ·exact⟨_,Try.func340,s340⟩
 ·exact⟨_,Try.func343,s343⟩
end Go.Proofs.Ytapafdpnmakekaa.X
