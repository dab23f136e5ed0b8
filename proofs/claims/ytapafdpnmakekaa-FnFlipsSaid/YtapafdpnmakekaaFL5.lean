/- Texts of one claim, put together by merge.py: XCode2. -/
import Derived.Test.YtapafdpnmakekaaFL3
import Derived.Test.YtapafdpnmakekaaProg
set_option linter.unusedVariables false
set_option maxRecDepth 4000
namespace Go.Proofs.Ytapafdpnmakekaa.X
open Go Go.RowKit
def c218:XFn:=
 ⟨[.tmp 8],
 (.seq (.reg [oO 4 (.box 26 (.tmp 0)),
  oO 8 (.mv (oK 0))])
 (.seq (.reg [oO 9 (.mv (oK 0))])
 (.seq (.seq (.reg [oF 12 4 4,
  oL 13 12,
  oN 14 13,
  oO 15 (.mv (oK 0))])
 (.blk 0 (.loop (.seq (.reg [oO 16 (.bin .lss (.tmp 15) (.tmp 14))])
 (.seq (.cond (.tmp 16) .skip (.exit 0))
 (.seq (.blk 1 (.seq (.reg [oX 17 27 13 15,
  oO 18 (.loadn 27 (.tmp 17)),
  oO 11 (.alloc 138 [.int .u8 0,.int .u8 0,.int .u8 0,.int .u8 0,.int .u8 0,.int .u8 0,.int .u8 0,.int .u8 0,.int .u8 0,.int .u8 0,.int .u8 0,.int .u8 0,.int .u8 0,.int .u8 0,.int .u8 0,.int .u8 0,.int .u8 0,.int .u8 0,.int .u8 0,.int .u8 0,.int .u8 0,.int .u8 0,.int .u8 0,.int .u8 0,.int .u8 0,.int .u8 0,.int .u8 0]),
  oS (.store 27 (.tmp 11) (.tmp 18))])
 (.reg [oM 19 9,
  oM 20 1,
  oF 21 0 11,
  oO 22 (.ixa 9 1 (.tmp 21) (.tmp 20)),
  oL 23 22,
  oO 24 (.conv .i64 (.tmp 23)),
  oM 25 2,
  oF 26 9 11,
  oO 27 (.ixa 9 1 (.tmp 26) (.tmp 25)),
  oL 28 27,
  oO 29 (.conv .i64 (.tmp 28)),
  oO 30 (.bin .mul (.tmp 24) (.tmp 29)),
  oM 31 3,
  oF 32 18 11,
  oO 33 (.ixa 9 1 (.tmp 32) (.tmp 31)),
  oL 34 33,
  oO 35 (.conv .i64 (.tmp 34)),
  oO 36 (.bin .mul (.tmp 30) (.tmp 35)),
  oO 37 (.bin .add (.tmp 19) (.tmp 36)),
  oM 9 37])))
 (.reg [oO 38 (.bin .add (.tmp 15) (oK 1)),
  oM 15 38])))))))
 (.seq (.reg [oM 39 9,
  oF 40 0 4,
  oL 41 40,
  oO 42 (.bin .rem (.tmp 39) (.tmp 41)),
  oM 8 42])
 .ret))))⟩
theorem s218:compFn Try.prog Try.f218=some c218:=by kernel_rfl
def c224:XFn:=
 ⟨[.tmp 2],
 (.seq (.reg [oO 2 (.mv (.const (.bool false)))])
 (.seq (.reg [oM 3 0,
  oO 4 (.bin .eql (.tmp 3) (oK 2)),
  oM 5 4,
  oG 6 (.mv (.tmp 0)) 5 false,
  oG 7 (.bin .eql (.tmp 6) (oK 3)) 5 false,
  oO 8 (.pick (.tmp 5) (.const (.bool true)) (.tmp 7)),
  oM 9 8,
  oG 10 (.mv (.tmp 0)) 9 false,
  oG 11 (.bin .eql (.tmp 10) (oK 5)) 9 false,
  oO 12 (.pick (.tmp 9) (.const (.bool true)) (.tmp 11)),
  oM 2 12])
 .ret))⟩
theorem s224:compFn Try.prog Try.f224=some c224:=by kernel_rfl
def c256:XFn:=
 ⟨[.tmp 2],
 (.seq (.reg [oO 2 (.mv (.const (.bool false)))])
 (.seq (.seq (.reg [oM 5 0,
  oN 6 5,
  oO 7 (.mv (oK 0))])
 (.blk 0 (.loop (.seq (.reg [oO 8 (.bin .lss (.tmp 7) (.tmp 6))])
 (.seq (.cond (.tmp 8) .skip (.exit 0))
 (.seq (.blk 1 (.seq (.reg [oX 9 5 5 7,
  oO 10 (.loadn 5 (.tmp 9)),
  oO 4 (.alloc 26 [.int .i64 0,.int .i64 0,.int .i64 0,.int .i64 0,.slice none 0 0]),
  oS (.store 5 (.tmp 4) (.tmp 10))])
 (.seq (.reg [oO 11 (.loadn 5 (.tmp 4)),
  oO 12 (.call (.func 149) [(.tmp 11)]),
  oO 13 (.un .not (.tmp 12))])
 (.cond (.tmp 13) (.seq (.reg [oO 2 (.mv (.const (.bool false)))])
 .ret) .skip))))
 (.reg [oO 14 (.bin .add (.tmp 7) (oK 1)),
  oM 7 14])))))))
 (.seq (.reg [oO 2 (.mv (.const (.bool true)))])
 .ret)))⟩
theorem s256:compFn Try.prog Try.f256=some c256:=by kernel_rfl
def c266:XFn:=
 ⟨[.celln 2 5],
 (.seq (.reg [oO 2 (.alloc 26 [.int .i64 0,.int .i64 0,.int .i64 0,.int .i64 0,.slice none 0 0])])
 (.seq (.reg [oM 5 0,
  oO 6 (.call (.func 320) [(.tmp 5)]),
  oO 3 (.alloc 26 [.int .i64 0,.int .i64 0,.int .i64 0,.int .i64 0,.slice none 0 0]),
  oS (.store 5 (.tmp 3) (.tmp 6))])
 (.seq (.seq (.reg [oM 7 0,
  oO 8 (.call (.func 148) [(.tmp 7),(oK 4)])])
 (.blk 0 (.seq (.reg [oO 10 (.bin .eql (.tmp 8) (oK 0)),
  oM 9 10])
 (.cond (.tmp 9) (.seq (.reg [oF 11 0 3,
  oL 12 11,
  oO 13 (.call (.func 321) [(.tmp 12)]),
  oS (.store 5 (.tmp 2) (.tmp 13))])
 .ret) (.seq (.reg [oO 15 (.bin .eql (.tmp 8) (oK 1)),
  oM 14 15])
 (.cond (.tmp 14) (.seq (.reg [oF 16 0 3,
  oL 17 16,
  oF 18 1 3,
  oL 19 18,
  oF 20 2 3,
  oL 21 20,
  oF 22 3 3,
  oL 23 22,
  oO 24 (.call (.func 303) [(.tmp 17),(.tmp 19),(.tmp 21),(.tmp 23)]),
  oS (.store 5 (.tmp 2) (.tmp 24))])
 .ret) .skip))))))
 (.seq (.seq (.reg [oM 25 0,
  oO 26 (.call (.func 148) [(.tmp 25),(oK 6)]),
  oM 4 26])
 (.blk 1 (.loop (.seq (.seq (.reg [oM 27 4,
  oO 28 (.bin .gtr (.tmp 27) (oK 0))])
 (.cond (.tmp 28) .skip (.exit 1)))
 (.seq (.blk 2 (.reg [oF 31 4 3,
  oL 32 31,
  oM 33 0,
  oO 34 (.loadn 5 (.tmp 3)),
  ⟨some 35,.call (.func 305) [(.tmp 33),(.tmp 34)],none,(.s true [(.tmp 31)])⟩,
  oO 36 (.bslice 138 27 1 [.int .u8 0,.int .u8 0,.int .u8 0,.int .u8 0,.int .u8 0,.int .u8 0,.int .u8 0,.int .u8 0,.int .u8 0,.int .u8 0,.int .u8 0,.int .u8 0,.int .u8 0,.int .u8 0,.int .u8 0,.int .u8 0,.int .u8 0,.int .u8 0,.int .u8 0,.int .u8 0,.int .u8 0,.int .u8 0,.int .u8 0,.int .u8 0,.int .u8 0,.int .u8 0,.int .u8 0] [(0,27,(.tmp 35))]),
  oO 37 (.app 138 27 27 (.tmp 32) (.tmp 36)),
  oF 38 4 3,
  oS (.store 1 (.tmp 38) (.tmp 37))]))
 (.reg [oM 29 4,
  oO 30 (.bin .sub (.tmp 29) (oK 1)),
  oM 4 30]))))))
 (.seq (.reg [oO 39 (.loadn 5 (.tmp 3)),
  oS (.store 5 (.tmp 2) (.tmp 39))])
 .ret)))))⟩
theorem s266:compFn Try.prog Try.f266=some c266:=by kernel_rfl
def c267:XFn:=
 ⟨[.celln 6 9],
 (.seq (.reg [oO 4 (.box 136 (.tmp 1)),
  oO 6 (.alloc 136 [.int .u8 0,.int .u8 0,.int .u8 0,.int .u8 0,.int .u8 0,.int .u8 0,.int .u8 0,.int .u8 0,.int .u8 0])])
 (.seq (.reg [oM 7 0,
  oO 8 (.build [.int .u8 0,.int .u8 0,.int .u8 0,.int .u8 0,.int .u8 0,.int .u8 0,.int .u8 0,.int .u8 0,.int .u8 0] []),
  oO 9 (.loadn 9 (.tmp 4)),
  oM 10 2,
  oO 11 (.call (.func 279) [(.tmp 7),(.tmp 8),(.tmp 9),(.tmp 10)]),
  oS (.store 9 (.tmp 6) (.tmp 11))])
 .ret))⟩
theorem s267:compFn Try.prog Try.f267=some c267:=by kernel_rfl
def c268:XFn:=
 ⟨[.celln 6 27],
 (.seq (.reg [oO 3 (.box 138 (.tmp 0)),
  oO 5 (.box 136 (.tmp 2)),
  oO 6 (.alloc 138 [.int .u8 0,.int .u8 0,.int .u8 0,.int .u8 0,.int .u8 0,.int .u8 0,.int .u8 0,.int .u8 0,.int .u8 0,.int .u8 0,.int .u8 0,.int .u8 0,.int .u8 0,.int .u8 0,.int .u8 0,.int .u8 0,.int .u8 0,.int .u8 0,.int .u8 0,.int .u8 0,.int .u8 0,.int .u8 0,.int .u8 0,.int .u8 0,.int .u8 0,.int .u8 0,.int .u8 0])])
 (.seq (.seq (.reg [oM 7 1])
 (.blk 0 (.seq (.reg [oO 11 (.bin .eql (.tmp 7) (oK 0)),
  oM 10 11])
 (.cond (.tmp 10) (.reg [oO 12 (.loadn 9 (.tmp 5)),
  oF 13 0 3,
  oS (.store 9 (.tmp 13) (.tmp 12))]) (.seq (.reg [oO 15 (.bin .eql (.tmp 7) (oK 1)),
  oM 14 15])
 (.cond (.tmp 14) (.reg [oO 16 (.loadn 9 (.tmp 5)),
  oF 17 9 3,
  oS (.store 9 (.tmp 17) (.tmp 16))]) (.reg [oO 8 (.loadn 9 (.tmp 5)),
  oF 9 18 3,
  oS (.store 9 (.tmp 9) (.tmp 8))])))))))
 (.seq (.reg [oO 18 (.loadn 27 (.tmp 3)),
  oS (.store 27 (.tmp 6) (.tmp 18))])
 .ret)))⟩
theorem s268:compFn Try.prog Try.f268=some c268:=by kernel_rfl
def c269:XFn:=
 ⟨[.celln 4 5],
 (.seq (.reg [oO 3 (.box 26 (.tmp 1)),
  oO 4 (.alloc 26 [.int .i64 0,.int .i64 0,.int .i64 0,.int .i64 0,.slice none 0 0])])
 (.seq (.seq (.reg [oM 8 0,
  oO 9 (.call (.func 148) [(.tmp 8),(oK 40)])])
 (.blk 0 (.seq (.reg [oO 11 (.bin .eql (.tmp 9) (oK 0)),
  oM 10 11])
 (.cond (.tmp 10) (.reg [oM 12 0,
  oO 13 (.bslice 2 1 4 [.int .i64 0] [(0,1,(oK 0)),(1,1,(oK 4)),(2,1,(oK 7)),(3,1,(oK 3))]),
  oO 14 (.call (.func 147) [(.tmp 12),(.tmp 13)]),
  oF 15 0 3,
  oS (.store 1 (.tmp 15) (.tmp 14))]) (.seq (.reg [oO 17 (.bin .eql (.tmp 9) (oK 1)),
  oM 16 17])
 (.cond (.tmp 16) (.reg [oM 18 0,
  oO 19 (.bslice 2 1 3 [.int .i64 0] [(0,1,(oK 0)),(1,1,(oK 4)),(2,1,(.const (.int .i64 (-1))))]),
  oO 20 (.call (.func 147) [(.tmp 18),(.tmp 19)]),
  oF 21 1 3,
  oS (.store 1 (.tmp 21) (.tmp 20))]) (.seq (.reg [oO 23 (.bin .eql (.tmp 9) (oK 2)),
  oM 22 23])
 (.cond (.tmp 22) (.reg [oM 24 0,
  oF 25 3 3,
  oL 26 25,
  oO 27 (.bin .sub (.tmp 26) (oK 1)),
  oO 28 (.bslice 2 1 3 [.int .i64 0] [(0,1,(oK 0)),(1,1,(oK 4)),(2,1,(.tmp 27))]),
  oO 29 (.call (.func 147) [(.tmp 24),(.tmp 28)]),
  oF 30 3 3,
  oS (.store 1 (.tmp 30) (.tmp 29))]) (.seq (.seq (.reg [oO 32 (.bin .eql (.tmp 9) (oK 3)),
  oM 31 32])
 (.cond (.tmp 31) .skip (.seq (.reg [oO 33 (.bin .eql (.tmp 9) (oK 4)),
  oM 31 33])
 (.cond (.tmp 31) .skip (.reg [oO 34 (.bin .eql (.tmp 9) (oK 5)),
  oM 31 34])))))
 (.cond (.tmp 31) (.seq (.reg [oF 35 4 3,
  oL 36 35,
  oN 37 36,
  oM 5 37])
 (.seq (.reg [oM 38 5,
  oO 39 (.bin .gtr (.tmp 38) (oK 0))])
 (.cond (.tmp 39) (.seq (.reg [oO 40 (.bslice 138 27 0 [.int .u8 0,.int .u8 0,.int .u8 0,.int .u8 0,.int .u8 0,.int .u8 0,.int .u8 0,.int .u8 0,.int .u8 0,.int .u8 0,.int .u8 0,.int .u8 0,.int .u8 0,.int .u8 0,.int .u8 0,.int .u8 0,.int .u8 0,.int .u8 0,.int .u8 0,.int .u8 0,.int .u8 0,.int .u8 0,.int .u8 0,.int .u8 0,.int .u8 0,.int .u8 0,.int .u8 0] []),
  oF 41 4 3,
  oL 42 41,
  oO 43 (.app 138 27 27 (.tmp 40) (.tmp 42)),
  oM 6 43])
 (.seq (.reg [oM 44 6,
  oM 45 0,
  oM 46 5,
  oO 47 (.call (.func 148) [(.tmp 45),(.tmp 46)]),
  oX 48 27 44 47,
  oO 49 (.loadn 27 (.tmp 48)),
  oO 7 (.alloc 138 [.int .u8 0,.int .u8 0,.int .u8 0,.int .u8 0,.int .u8 0,.int .u8 0,.int .u8 0,.int .u8 0,.int .u8 0,.int .u8 0,.int .u8 0,.int .u8 0,.int .u8 0,.int .u8 0,.int .u8 0,.int .u8 0,.int .u8 0,.int .u8 0,.int .u8 0,.int .u8 0,.int .u8 0,.int .u8 0,.int .u8 0,.int .u8 0,.int .u8 0,.int .u8 0,.int .u8 0]),
  oS (.store 27 (.tmp 7) (.tmp 49))])
 (.seq (.reg [oM 50 0,
  oO 51 (.call (.func 148) [(.tmp 50),(oK 9)]),
  oM 52 0,
  oO 53 (.call (.func 148) [(.tmp 52),(oK 4)]),
  oO 54 (.conv .u8 (.tmp 53)),
  oF 55 9 7,
  oO 56 (.ixa 9 1 (.tmp 55) (.tmp 51)),
  oS (.store 1 (.tmp 56) (.tmp 54))])
 (.seq (.reg [oM 57 6,
  oM 58 0,
  oM 59 5,
  ⟨some 60,.call (.func 148) [(.tmp 58),(.tmp 59)],none,(.s true [])⟩,
  ⟨some 61,.loadn 27 (.tmp 7),none,(.s false [(.tmp 58)])⟩,
  oX 62 27 57 60,
  oS (.store 27 (.tmp 62) (.tmp 61))])
 (.reg [oM 63 6,
  oF 64 4 3,
  oS (.store 1 (.tmp 64) (.tmp 63))]))))) .skip))) .skip))))))))))
 (.seq (.reg [oO 65 (.loadn 5 (.tmp 3)),
  oS (.store 5 (.tmp 4) (.tmp 65))])
 .ret)))⟩
theorem s269:compFn Try.prog Try.f269=some c269:=by kernel_rfl
def c270:XFn:=
 ⟨[.tmp 6],
 (.seq (.reg [oO 4 (.box 158 (.tmp 1)),
  oO 5 (.box 138 (.tmp 2)),
  oO 6 (.mv (.const (.bool false)))])
 (.seq (.seq (.reg [oO 9 (.loadn 27 (.tmp 5)),
  oO 10 (.call (.func 196) [(.tmp 9)]),
  oO 11 (.mv (oK 0))])
 (.blk 0 (.loop (.seq (.reg [oO 12 (.bin .lss (.tmp 11) (oK 3))])
 (.seq (.cond (.tmp 12) .skip (.exit 0))
 (.seq (.blk 1 (.seq (.reg [oM 13 11,
  oO 14 (.idxn 3 9 (.tmp 10) (.tmp 11)),
  oO 8 (.alloc 136 [.int .u8 0,.int .u8 0,.int .u8 0,.int .u8 0,.int .u8 0,.int .u8 0,.int .u8 0,.int .u8 0,.int .u8 0]),
  oM 7 13,
  oS (.store 9 (.tmp 8) (.tmp 14))])
 (.seq (.reg [oM 15 0,
  oM 16 7,
  oO 17 (.ixa 3 1 (.tmp 4) (.tmp 16)),
  oL 18 17,
  oO 19 (.loadn 9 (.tmp 8)),
  oO 20 (.call (.func 322) [(.tmp 15),(.tmp 18),(.tmp 19)]),
  oO 21 (.un .not (.tmp 20))])
 (.cond (.tmp 21) (.seq (.reg [oO 6 (.mv (.const (.bool false)))])
 .ret) .skip))))
 (.reg [oO 22 (.bin .add (.tmp 11) (oK 1)),
  oM 11 22])))))))
 (.seq (.reg [oO 23 (.loadn 27 (.tmp 5)),
  oO 24 (.call (.func 283) [(.tmp 23)]),
  oO 25 (.un .not (.tmp 24)),
  oM 6 25])
 .ret)))⟩
theorem s270:compFn Try.prog Try.f270=some c270:=by kernel_rfl
def c271:XFn:=
 ⟨[.celln 2 3],
 (.seq (.reg [oO 1 (.box 26 (.tmp 0)),
  oO 2 (.alloc 158 [.int .i64 0,.int .i64 0,.int .i64 0])])
 (.seq (.reg [oF 3 1 1,
  oL 4 3,
  oF 5 2 1,
  oL 6 5,
  oO 7 (.bin .mul (.tmp 4) (.tmp 6)),
  oF 8 2 1,
  oL 9 8,
  oF 10 3 1,
  oL 11 10,
  oO 12 (.bin .mul (.tmp 9) (.tmp 11)),
  oF 13 1 1,
  oL 14 13,
  oF 15 3 1,
  oL 16 15,
  oO 17 (.bin .mul (.tmp 14) (.tmp 16)),
  oO 18 (.build [.int .i64 0,.int .i64 0,.int .i64 0] [(0,1,(.tmp 7)),(1,1,(.tmp 12)),(2,1,(.tmp 17))]),
  oS (.store 3 (.tmp 2) (.tmp 18))])
 .ret))⟩
theorem s271:compFn Try.prog Try.f271=some c271:=by kernel_rfl
def c272:XFn:=
 ⟨[.celln 8 9],
 (.seq (.reg [oO 5 (.box 136 (.tmp 1)),
  oO 6 (.box 136 (.tmp 2)),
  oO 8 (.alloc 136 [.int .u8 0,.int .u8 0,.int .u8 0,.int .u8 0,.int .u8 0,.int .u8 0,.int .u8 0,.int .u8 0,.int .u8 0])])
 (.seq (.seq (.reg [oO 10 (.mv (oK 0))])
 (.blk 0 (.loop (.seq (.reg [oO 11 (.bin .lss (.tmp 10) (oK 9))])
 (.seq (.cond (.tmp 11) .skip (.exit 0))
 (.seq (.blk 1 (.seq (.reg [oM 12 10,
  oM 9 12])
 (.reg [oM 13 9,
  oM 14 9,
  oO 15 (.ixa 9 1 (.tmp 5) (.tmp 14)),
  oL 16 15,
  oO 17 (.conv .i64 (.tmp 16)),
  oM 18 3,
  oM 19 9,
  oO 20 (.ixa 9 1 (.tmp 6) (.tmp 19)),
  oL 21 20,
  oO 22 (.conv .i64 (.tmp 21)),
  oO 23 (.bin .mul (.tmp 18) (.tmp 22)),
  oO 24 (.bin .add (.tmp 17) (.tmp 23)),
  oM 25 0,
  oO 26 (.bin .rem (.tmp 24) (.tmp 25)),
  oO 27 (.conv .u8 (.tmp 26)),
  oO 28 (.ixa 9 1 (.tmp 5) (.tmp 13)),
  oS (.store 1 (.tmp 28) (.tmp 27))])))
 (.reg [oO 29 (.bin .add (.tmp 10) (oK 1)),
  oM 10 29])))))))
 (.seq (.reg [oO 30 (.loadn 9 (.tmp 5)),
  oS (.store 9 (.tmp 8) (.tmp 30))])
 .ret)))⟩
theorem s272:compFn Try.prog Try.f272=some c272:=by kernel_rfl
def c273:XFn:=
 ⟨[.celln 2 27],
 (.seq (.reg [oO 1 (.box 172 (.tmp 0)),
  oO 2 (.alloc 138 [.int .u8 0,.int .u8 0,.int .u8 0,.int .u8 0,.int .u8 0,.int .u8 0,.int .u8 0,.int .u8 0,.int .u8 0,.int .u8 0,.int .u8 0,.int .u8 0,.int .u8 0,.int .u8 0,.int .u8 0,.int .u8 0,.int .u8 0,.int .u8 0,.int .u8 0,.int .u8 0,.int .u8 0,.int .u8 0,.int .u8 0,.int .u8 0,.int .u8 0,.int .u8 0,.int .u8 0])])
 (.seq (.reg [oO 3 (.ixa 3 9 (.tmp 1) (oK 0)),
  oO 4 (.loadn 9 (.tmp 3)),
  oO 5 (.ixa 3 9 (.tmp 1) (oK 1)),
  oO 6 (.loadn 9 (.tmp 5)),
  oO 7 (.ixa 3 9 (.tmp 1) (oK 2)),
  oO 8 (.loadn 9 (.tmp 7)),
  oO 9 (.build [.int .u8 0,.int .u8 0,.int .u8 0,.int .u8 0,.int .u8 0,.int .u8 0,.int .u8 0,.int .u8 0,.int .u8 0,.int .u8 0,.int .u8 0,.int .u8 0,.int .u8 0,.int .u8 0,.int .u8 0,.int .u8 0,.int .u8 0,.int .u8 0,.int .u8 0,.int .u8 0,.int .u8 0,.int .u8 0,.int .u8 0,.int .u8 0,.int .u8 0,.int .u8 0,.int .u8 0] [(0,9,(.tmp 4)),(9,9,(.tmp 6)),(18,9,(.tmp 8))]),
  oS (.store 27 (.tmp 2) (.tmp 9))])
 .ret))⟩
theorem s273:compFn Try.prog Try.f273=some c273:=by kernel_rfl
def c274:XFn:=
 ⟨[.tmp 2],
 (.seq (.reg [oO 2 (.mv (.const (.slice none 0 0)))])
 (.seq (.reg [oM 3 0,
  oO 4 (.call (.func 323) [(.tmp 3),(.func 283)]),
  oM 2 4])
 .ret))⟩
theorem s274:compFn Try.prog Try.f274=some c274:=by kernel_rfl
def c275:XFn:=
 ⟨[.tmp 8],
 (.seq (.reg [oO 8 (.mv (.const (.bool false)))])
 (.seq (.reg [oM 9 0,
  oO 10 (.call (.func 224) [(.tmp 9)]),
  oM 11 10,
  oG 12 (.mv (.tmp 1)) 11 true,
  oG 13 (.call (.func 181) [(.tmp 12),(oK 1),(oK 3)]) 11 true,
  oO 14 (.pick (.tmp 11) (.tmp 13) (.const (.bool false))),
  oM 15 14,
  oG 16 (.mv (.tmp 2)) 15 true,
  oG 17 (.call (.func 181) [(.tmp 16),(oK 1),(oK 3)]) 15 true,
  oO 18 (.pick (.tmp 15) (.tmp 17) (.const (.bool false))),
  oM 19 18,
  oG 20 (.mv (.tmp 3)) 19 true,
  oG 21 (.call (.func 181) [(.tmp 20),(oK 1),(oK 3)]) 19 true,
  oO 22 (.pick (.tmp 19) (.tmp 21) (.const (.bool false))),
  oM 8 22])
 .ret))⟩
theorem s275:compFn Try.prog Try.f275=some c275:=by kernel_rfl
def c276:XFn:=
 ⟨[.tmp 4],
 (.seq (.reg [oO 2 (.box 26 (.tmp 0)),
  oO 3 (.box 138 (.tmp 1)),
  oO 4 (.mv (.const (.bool false)))])
 (.seq (.reg [oO 9 (.loadn 5 (.tmp 2)),
  oO 10 (.call (.func 300) [(.tmp 9)]),
  oM 8 10,
  oE 11 8 0,
  oE 12 8 1,
  oE 13 8 2,
  oM 5 11,
  oM 6 12,
  oM 7 13])
 (.seq (.seq (.reg [oF 14 0 2,
  oL 15 14,
  oF 16 0 3,
  oO 17 (.loadn 9 (.tmp 16)),
  oM 18 5,
  oO 19 (.call (.func 324) [(.tmp 15),(.tmp 17),(.tmp 18)]),
  oO 20 (.un .not (.tmp 19)),
  oM 21 20,
  oG 22 (.fadr 0 (.tmp 2)) 21 false,
  oG 23 (.load1 (.tmp 22)) 21 false,
  oG 24 (.fadr 9 (.tmp 3)) 21 false,
  oG 25 (.loadn 9 (.tmp 24)) 21 false,
  oG 26 (.mv (.tmp 6)) 21 false,
  oG 27 (.call (.func 324) [(.tmp 23),(.tmp 25),(.tmp 26)]) 21 false,
  oG 28 (.un .not (.tmp 27)) 21 false,
  oO 29 (.pick (.tmp 21) (.const (.bool true)) (.tmp 28)),
  oM 30 29,
  oG 31 (.fadr 0 (.tmp 2)) 30 false,
  oG 32 (.load1 (.tmp 31)) 30 false,
  oG 33 (.fadr 18 (.tmp 3)) 30 false,
  oG 34 (.loadn 9 (.tmp 33)) 30 false,
  oG 35 (.mv (.tmp 7)) 30 false,
  oG 36 (.call (.func 324) [(.tmp 32),(.tmp 34),(.tmp 35)]) 30 false,
  oG 37 (.un .not (.tmp 36)) 30 false,
  oO 38 (.pick (.tmp 30) (.const (.bool true)) (.tmp 37))])
 (.cond (.tmp 38) (.seq (.reg [oO 4 (.mv (.const (.bool false)))])
 .ret) .skip))
 (.seq (.reg [oF 39 0 3,
  oO 40 (.loadn 9 (.tmp 39)),
  oO 41 (.call (.func 278) [(.tmp 40)]),
  oO 42 (.un .not (.tmp 41)),
  oM 43 42,
  oG 44 (.fadr 9 (.tmp 3)) 43 true,
  oG 45 (.loadn 9 (.tmp 44)) 43 true,
  oG 46 (.call (.func 278) [(.tmp 45)]) 43 true,
  oG 47 (.un .not (.tmp 46)) 43 true,
  oO 48 (.pick (.tmp 43) (.tmp 47) (.const (.bool false))),
  oM 49 48,
  oG 50 (.fadr 18 (.tmp 3)) 49 true,
  oG 51 (.loadn 9 (.tmp 50)) 49 true,
  oG 52 (.call (.func 278) [(.tmp 51)]) 49 true,
  oG 53 (.un .not (.tmp 52)) 49 true,
  oO 54 (.pick (.tmp 49) (.tmp 53) (.const (.bool false))),
  oM 4 54])
 .ret))))⟩
theorem s276:compFn Try.prog Try.f276=some c276:=by kernel_rfl
def c277:XFn:=
 ⟨[.celln 2 5],
 (.seq (.reg [oO 1 (.box 26 (.tmp 0)),
  oO 2 (.alloc 26 [.int .i64 0,.int .i64 0,.int .i64 0,.int .i64 0,.slice none 0 0])])
 (.seq (.reg [oF 3 0 1,
  oL 4 3,
  oF 5 1 1,
  oL 6 5,
  oF 7 2 1,
  oL 8 7,
  oF 9 3 1,
  oL 10 9,
  oO 11 (.mkz),
  oO 12 (.build [.int .i64 0,.int .i64 0,.int .i64 0,.int .i64 0,.slice none 0 0] [(0,1,(.tmp 4)),(1,1,(.tmp 6)),(2,1,(.tmp 8)),(3,1,(.tmp 10)),(4,1,(.tmp 11))]),
  oS (.store 5 (.tmp 2) (.tmp 12))])
 .ret))⟩
theorem s277:compFn Try.prog Try.f277=some c277:=by kernel_rfl
def c278:XFn:=
 ⟨[.tmp 2],
 (.seq (.reg [oO 1 (.box 136 (.tmp 0)),
  oO 2 (.mv (.const (.bool false)))])
 (.seq (.reg [oO 3 (.loadn 9 (.tmp 1)),
  oO 4 (.build [.int .u8 0,.int .u8 0,.int .u8 0,.int .u8 0,.int .u8 0,.int .u8 0,.int .u8 0,.int .u8 0,.int .u8 0] []),
  oO 5 (.eqa false 9 (.tmp 3) (.tmp 4)),
  oM 2 5])
 .ret))⟩
theorem s278:compFn Try.prog Try.f278=some c278:=by kernel_rfl
def c279:XFn:=
 ⟨[.celln 8 9],
 (.seq (.reg [oO 5 (.box 136 (.tmp 1)),
  oO 6 (.box 136 (.tmp 2)),
  oO 8 (.alloc 136 [.int .u8 0,.int .u8 0,.int .u8 0,.int .u8 0,.int .u8 0,.int .u8 0,.int .u8 0,.int .u8 0,.int .u8 0])])
 (.seq (.seq (.reg [oO 9 (.mv (oK 0))])
 (.blk 0 (.loop (.seq (.seq (.reg [oM 10 9,
  oO 11 (.bin .lss (.tmp 10) (oK 9))])
 (.cond (.tmp 11) .skip (.exit 0)))
 (.seq (.blk 1 (.reg [oM 14 9,
  oM 15 0,
  oM 16 9,
  oO 17 (.ixa 9 1 (.tmp 5) (.tmp 16)),
  oL 18 17,
  oO 19 (.conv .i64 (.tmp 18)),
  oM 20 3,
  oM 21 9,
  oO 22 (.ixa 9 1 (.tmp 6) (.tmp 21)),
  oL 23 22,
  oO 24 (.conv .i64 (.tmp 23)),
  oO 25 (.bin .mul (.tmp 20) (.tmp 24)),
  oO 26 (.bin .add (.tmp 19) (.tmp 25)),
  oO 27 (.call (.func 314) [(.tmp 15),(.tmp 26)]),
  oO 28 (.conv .u8 (.tmp 27)),
  oO 29 (.ixa 9 1 (.tmp 5) (.tmp 14)),
  oS (.store 1 (.tmp 29) (.tmp 28))]))
 (.reg [oM 12 9,
  oO 13 (.bin .add (.tmp 12) (oK 1)),
  oM 9 13]))))))
 (.seq (.reg [oO 30 (.loadn 9 (.tmp 5)),
  oS (.store 9 (.tmp 8) (.tmp 30))])
 .ret)))⟩
theorem s279:compFn Try.prog Try.f279=some c279:=by kernel_rfl
def c283:XFn:=
 ⟨[.tmp 2],
 (.seq (.reg [oO 1 (.box 138 (.tmp 0)),
  oO 2 (.mv (.const (.bool false)))])
 (.seq (.reg [oF 3 0 1,
  oO 4 (.loadn 9 (.tmp 3)),
  oO 5 (.build [.int .u8 0,.int .u8 0,.int .u8 0,.int .u8 0,.int .u8 0,.int .u8 0,.int .u8 0,.int .u8 0,.int .u8 0] []),
  oO 6 (.eqa false 9 (.tmp 4) (.tmp 5)),
  oM 7 6,
  oG 8 (.fadr 9 (.tmp 1)) 7 false,
  oG 9 (.loadn 9 (.tmp 8)) 7 false,
  oG 10 (.build [.int .u8 0,.int .u8 0,.int .u8 0,.int .u8 0,.int .u8 0,.int .u8 0,.int .u8 0,.int .u8 0,.int .u8 0] []) 7 false,
  oG 11 (.eqa false 9 (.tmp 9) (.tmp 10)) 7 false,
  oO 12 (.pick (.tmp 7) (.const (.bool true)) (.tmp 11)),
  oM 13 12,
  oG 14 (.fadr 18 (.tmp 1)) 13 false,
  oG 15 (.loadn 9 (.tmp 14)) 13 false,
  oG 16 (.build [.int .u8 0,.int .u8 0,.int .u8 0,.int .u8 0,.int .u8 0,.int .u8 0,.int .u8 0,.int .u8 0,.int .u8 0] []) 13 false,
  oG 17 (.eqa false 9 (.tmp 15) (.tmp 16)) 13 false,
  oO 18 (.pick (.tmp 13) (.const (.bool true)) (.tmp 17)),
  oM 2 18])
 .ret))⟩
theorem s283:compFn Try.prog Try.f283=some c283:=by kernel_rfl
def c284:XFn:=
 ⟨[.tmp 7],
 (.seq (.reg [oO 7 (.mv (oK 0))])
 (.seq (.reg [oO 8 (.loadn 5 (.tmp 3)),
  oM 9 0,
  oM 10 1,
  oM 11 2,
  oO 12 (.call (.func 218) [(.tmp 8),(.tmp 9),(.tmp 10),(.tmp 11)]),
  oM 7 12])
 .ret))⟩
theorem s284:compFn Try.prog Try.f284=some c284:=by kernel_rfl
def c300:XFn:=
 ⟨[.tmp 2,.tmp 3,.tmp 4],
 (.seq (.reg [oO 1 (.box 26 (.tmp 0)),
  oO 2 (.mv (oK 0)),
  oO 3 (.mv (oK 0)),
  oO 4 (.mv (oK 0))])
 (.seq (.reg [oF 5 1 1,
  oL 6 5,
  oF 7 2 1,
  oL 8 7,
  oO 9 (.bin .mul (.tmp 6) (.tmp 8)),
  oF 10 2 1,
  oL 11 10,
  oF 12 3 1,
  oL 13 12,
  oO 14 (.bin .mul (.tmp 11) (.tmp 13)),
  oF 15 1 1,
  oL 16 15,
  oF 17 3 1,
  oL 18 17,
  oO 19 (.bin .mul (.tmp 16) (.tmp 18)),
  oM 2 9,
  oM 3 14,
  oM 4 19])
 .ret))⟩
theorem s300:compFn Try.prog Try.f300=some c300:=by kernel_rfl
def c303:XFn:=
 ⟨[.celln 8 5],
 (.seq (.reg [oO 8 (.alloc 26 [.int .i64 0,.int .i64 0,.int .i64 0,.int .i64 0,.slice none 0 0])])
 (.seq (.reg [oM 14 0,
  oM 15 1,
  oM 16 2,
  oM 17 3,
  oO 18 (.bslice 138 27 0 [.int .u8 0,.int .u8 0,.int .u8 0,.int .u8 0,.int .u8 0,.int .u8 0,.int .u8 0,.int .u8 0,.int .u8 0,.int .u8 0,.int .u8 0,.int .u8 0,.int .u8 0,.int .u8 0,.int .u8 0,.int .u8 0,.int .u8 0,.int .u8 0,.int .u8 0,.int .u8 0,.int .u8 0,.int .u8 0,.int .u8 0,.int .u8 0,.int .u8 0,.int .u8 0,.int .u8 0] []),
  oO 19 (.build [.int .i64 0,.int .i64 0,.int .i64 0,.int .i64 0,.slice none 0 0] [(0,1,(.tmp 14)),(1,1,(.tmp 15)),(2,1,(.tmp 16)),(3,1,(.tmp 17)),(4,1,(.tmp 18))]),
  oO 9 (.alloc 26 [.int .i64 0,.int .i64 0,.int .i64 0,.int .i64 0,.slice none 0 0]),
  oS (.store 5 (.tmp 9) (.tmp 19))])
 (.seq (.seq (.reg [oO 10 (.mv (oK 0))])
 (.blk 0 (.loop (.seq (.seq (.reg [oM 20 10,
  oM 21 1,
  oO 22 (.bin .lss (.tmp 20) (.tmp 21))])
 (.cond (.tmp 22) .skip (.exit 0)))
 (.seq (.blk 1 (.seq (.reg [oO 11 (.mv (oK 0))])
 (.blk 2 (.loop (.seq (.seq (.reg [oM 25 11,
  oM 26 2,
  oO 27 (.bin .lss (.tmp 25) (.tmp 26))])
 (.cond (.tmp 27) .skip (.exit 2)))
 (.seq (.blk 3 (.seq (.reg [oO 12 (.mv (oK 0))])
 (.blk 4 (.loop (.seq (.seq (.reg [oM 30 12,
  oM 31 3,
  oO 32 (.bin .lss (.tmp 30) (.tmp 31))])
 (.cond (.tmp 32) .skip (.exit 4)))
 (.seq (.blk 5 (.seq (.reg [oO 35 (.build [.int .u8 0,.int .u8 0,.int .u8 0,.int .u8 0,.int .u8 0,.int .u8 0,.int .u8 0,.int .u8 0,.int .u8 0,.int .u8 0,.int .u8 0,.int .u8 0,.int .u8 0,.int .u8 0,.int .u8 0,.int .u8 0,.int .u8 0,.int .u8 0,.int .u8 0,.int .u8 0,.int .u8 0,.int .u8 0,.int .u8 0,.int .u8 0,.int .u8 0,.int .u8 0,.int .u8 0] []),
  oO 13 (.alloc 138 [.int .u8 0,.int .u8 0,.int .u8 0,.int .u8 0,.int .u8 0,.int .u8 0,.int .u8 0,.int .u8 0,.int .u8 0,.int .u8 0,.int .u8 0,.int .u8 0,.int .u8 0,.int .u8 0,.int .u8 0,.int .u8 0,.int .u8 0,.int .u8 0,.int .u8 0,.int .u8 0,.int .u8 0,.int .u8 0,.int .u8 0,.int .u8 0,.int .u8 0,.int .u8 0,.int .u8 0]),
  oS (.store 27 (.tmp 13) (.tmp 35))])
 (.seq (.reg [oM 36 10,
  oM 37 2,
  oO 38 (.bin .mul (.tmp 36) (.tmp 37)),
  oM 39 11,
  oO 40 (.bin .add (.tmp 38) (.tmp 39)),
  oF 41 0 13,
  oO 42 (.ixa 9 1 (.tmp 41) (.tmp 40)),
  oS (.store 1 (.tmp 42) (.const (.int .u8 1)))])
 (.seq (.reg [oM 43 11,
  oM 44 3,
  oO 45 (.bin .mul (.tmp 43) (.tmp 44)),
  oM 46 12,
  oO 47 (.bin .add (.tmp 45) (.tmp 46)),
  oF 48 9 13,
  oO 49 (.ixa 9 1 (.tmp 48) (.tmp 47)),
  oS (.store 1 (.tmp 49) (.const (.int .u8 1)))])
 (.seq (.reg [oM 50 10,
  oM 51 3,
  oO 52 (.bin .mul (.tmp 50) (.tmp 51)),
  oM 53 12,
  oO 54 (.bin .add (.tmp 52) (.tmp 53)),
  oF 55 18 13,
  oO 56 (.ixa 9 1 (.tmp 55) (.tmp 54)),
  oS (.store 1 (.tmp 56) (.const (.int .u8 1)))])
 (.reg [oF 57 4 9,
  oL 58 57,
  oO 59 (.loadn 27 (.tmp 13)),
  oO 60 (.bslice 138 27 1 [.int .u8 0,.int .u8 0,.int .u8 0,.int .u8 0,.int .u8 0,.int .u8 0,.int .u8 0,.int .u8 0,.int .u8 0,.int .u8 0,.int .u8 0,.int .u8 0,.int .u8 0,.int .u8 0,.int .u8 0,.int .u8 0,.int .u8 0,.int .u8 0,.int .u8 0,.int .u8 0,.int .u8 0,.int .u8 0,.int .u8 0,.int .u8 0,.int .u8 0,.int .u8 0,.int .u8 0] [(0,27,(.tmp 59))]),
  oO 61 (.app 138 27 27 (.tmp 58) (.tmp 60)),
  oF 62 4 9,
  oS (.store 1 (.tmp 62) (.tmp 61))]))))))
 (.reg [oM 33 12,
  oO 34 (.bin .add (.tmp 33) (oK 1)),
  oM 12 34])))))))
 (.reg [oM 28 11,
  oO 29 (.bin .add (.tmp 28) (oK 1)),
  oM 11 29])))))))
 (.reg [oM 23 10,
  oO 24 (.bin .add (.tmp 23) (oK 1)),
  oM 10 24]))))))
 (.seq (.reg [oO 63 (.loadn 5 (.tmp 9)),
  oS (.store 5 (.tmp 8) (.tmp 63))])
 .ret))))⟩
theorem s303:compFn Try.prog Try.f303=some c303:=by kernel_rfl
def c305:XFn:=
 ⟨[.celln 4 27],
 (.seq (.reg [oO 3 (.box 26 (.tmp 1)),
  oO 4 (.alloc 138 [.int .u8 0,.int .u8 0,.int .u8 0,.int .u8 0,.int .u8 0,.int .u8 0,.int .u8 0,.int .u8 0,.int .u8 0,.int .u8 0,.int .u8 0,.int .u8 0,.int .u8 0,.int .u8 0,.int .u8 0,.int .u8 0,.int .u8 0,.int .u8 0,.int .u8 0,.int .u8 0,.int .u8 0,.int .u8 0,.int .u8 0,.int .u8 0,.int .u8 0,.int .u8 0,.int .u8 0])])
 (.seq (.reg [oO 9 (.loadn 5 (.tmp 3)),
  oO 10 (.call (.func 300) [(.tmp 9)]),
  oM 8 10,
  oE 11 8 0,
  oE 12 8 1,
  oE 13 8 2,
  oM 5 11,
  oM 6 12,
  oM 7 13])
 (.seq (.reg [oM 14 0,
  oF 15 0 3,
  oL 16 15,
  oM 17 5,
  ⟨some 18,.call (.func 334) [(.tmp 14),(.tmp 16),(.tmp 17)],none,(.s true [])⟩,
  oM 19 0,
  oF 20 0 3,
  ⟨some 21,.load1 (.tmp 20),none,(.s false [(.tmp 14)])⟩,
  oM 22 6,
  ⟨some 23,.call (.func 334) [(.tmp 19),(.tmp 21),(.tmp 22)],none,(.s true [])⟩,
  oM 24 0,
  oF 25 0 3,
  ⟨some 26,.load1 (.tmp 25),none,(.s false [(.tmp 14),(.tmp 19)])⟩,
  oM 27 7,
  oO 28 (.call (.func 334) [(.tmp 24),(.tmp 26),(.tmp 27)]),
  oO 29 (.build [.int .u8 0,.int .u8 0,.int .u8 0,.int .u8 0,.int .u8 0,.int .u8 0,.int .u8 0,.int .u8 0,.int .u8 0,.int .u8 0,.int .u8 0,.int .u8 0,.int .u8 0,.int .u8 0,.int .u8 0,.int .u8 0,.int .u8 0,.int .u8 0,.int .u8 0,.int .u8 0,.int .u8 0,.int .u8 0,.int .u8 0,.int .u8 0,.int .u8 0,.int .u8 0,.int .u8 0] [(0,9,(.tmp 18)),(9,9,(.tmp 23)),(18,9,(.tmp 28))]),
  oS (.store 27 (.tmp 4) (.tmp 29))])
 .ret)))⟩
theorem s305:compFn Try.prog Try.f305=some c305:=by kernel_rfl
def c314:XFn:=
 ⟨[.tmp 4],
 (.seq (.reg [oO 4 (.mv (oK 0))])
 (.seq (.reg [oM 5 1,
  oM 6 0,
  oO 7 (.bin .rem (.tmp 5) (.tmp 6)),
  oM 8 0,
  oO 9 (.bin .add (.tmp 7) (.tmp 8)),
  oM 10 0,
  oO 11 (.bin .rem (.tmp 9) (.tmp 10)),
  oM 4 11])
 .ret))⟩
theorem s314:compFn Try.prog Try.f314=some c314:=by kernel_rfl
def c320:XFn:=
 ⟨[.celln 2 5],
 (.seq (.reg [oO 2 (.alloc 26 [.int .i64 0,.int .i64 0,.int .i64 0,.int .i64 0,.slice none 0 0])])
 (.seq (.reg [oM 4 0,
  oO 5 (.bslice 2 1 5 [.int .i64 0] [(0,1,(oK 2)),(1,1,(oK 2)),(2,1,(oK 2)),(3,1,(oK 3)),(4,1,(oK 5))]),
  oO 6 (.call (.func 147) [(.tmp 4),(.tmp 5)]),
  oO 7 (.bslice 138 27 0 [.int .u8 0,.int .u8 0,.int .u8 0,.int .u8 0,.int .u8 0,.int .u8 0,.int .u8 0,.int .u8 0,.int .u8 0,.int .u8 0,.int .u8 0,.int .u8 0,.int .u8 0,.int .u8 0,.int .u8 0,.int .u8 0,.int .u8 0,.int .u8 0,.int .u8 0,.int .u8 0,.int .u8 0,.int .u8 0,.int .u8 0,.int .u8 0,.int .u8 0,.int .u8 0,.int .u8 0] []),
  oO 8 (.build [.int .i64 0,.int .i64 0,.int .i64 0,.int .i64 0,.slice none 0 0] [(0,1,(.tmp 6)),(1,1,(oK 2)),(2,1,(oK 2)),(3,1,(oK 2)),(4,1,(.tmp 7))]),
  oO 3 (.alloc 26 [.int .i64 0,.int .i64 0,.int .i64 0,.int .i64 0,.slice none 0 0]),
  oS (.store 5 (.tmp 3) (.tmp 8))])
 (.seq (.seq (.reg [oM 9 0,
  oO 10 (.call (.func 148) [(.tmp 9),(oK 2)]),
  oO 11 (.bin .eql (.tmp 10) (oK 0))])
 (.cond (.tmp 11) (.seq (.reg [oM 12 0,
  oO 13 (.bslice 2 1 3 [.int .i64 0] [(0,1,(oK 1)),(1,1,(oK 2)),(2,1,(oK 3))]),
  oO 14 (.call (.func 147) [(.tmp 12),(.tmp 13)]),
  oF 15 1 3,
  oS (.store 1 (.tmp 15) (.tmp 14))])
 (.seq (.reg [oM 16 0,
  oO 17 (.bslice 2 1 3 [.int .i64 0] [(0,1,(oK 1)),(1,1,(oK 2)),(2,1,(oK 3))]),
  oO 18 (.call (.func 147) [(.tmp 16),(.tmp 17)]),
  oF 19 2 3,
  oS (.store 1 (.tmp 19) (.tmp 18))])
 (.reg [oM 20 0,
  oO 21 (.bslice 2 1 3 [.int .i64 0] [(0,1,(oK 1)),(1,1,(oK 2)),(2,1,(oK 3))]),
  oO 22 (.call (.func 147) [(.tmp 20),(.tmp 21)]),
  oF 23 3 3,
  oS (.store 1 (.tmp 23) (.tmp 22))]))) .skip))
 (.seq (.reg [oO 24 (.loadn 5 (.tmp 3)),
  oS (.store 5 (.tmp 2) (.tmp 24))])
 .ret))))⟩
theorem s320:compFn Try.prog Try.f320=some c320:=by kernel_rfl
def c321:XFn:=
 ⟨[.celln 2 5],
 (.seq (.reg [oO 2 (.alloc 26 [.int .i64 0,.int .i64 0,.int .i64 0,.int .i64 0,.slice none 0 0])])
 (.seq (.reg [oM 5 0,
  oO 6 (.bslice 138 27 0 [.int .u8 0,.int .u8 0,.int .u8 0,.int .u8 0,.int .u8 0,.int .u8 0,.int .u8 0,.int .u8 0,.int .u8 0,.int .u8 0,.int .u8 0,.int .u8 0,.int .u8 0,.int .u8 0,.int .u8 0,.int .u8 0,.int .u8 0,.int .u8 0,.int .u8 0,.int .u8 0,.int .u8 0,.int .u8 0,.int .u8 0,.int .u8 0,.int .u8 0,.int .u8 0,.int .u8 0] []),
  oO 7 (.build [.int .i64 0,.int .i64 0,.int .i64 0,.int .i64 0,.slice none 0 0] [(0,1,(.tmp 5)),(1,1,(oK 2)),(2,1,(oK 2)),(3,1,(oK 2)),(4,1,(.tmp 6))]),
  oO 3 (.alloc 26 [.int .i64 0,.int .i64 0,.int .i64 0,.int .i64 0,.slice none 0 0]),
  oS (.store 5 (.tmp 3) (.tmp 7))])
 (.seq (.reg [oM 8 0,
  oO 9 (.bin .sub (.tmp 8) (oK 1)),
  oO 10 (.conv .u8 (.tmp 9)),
  oM 4 10])
 (.seq (.reg [oF 11 4 3,
  oL 12 11,
  oO 13 (.build [.int .u8 0,.int .u8 0,.int .u8 0,.int .u8 0,.int .u8 0,.int .u8 0,.int .u8 0,.int .u8 0,.int .u8 0] [(0,1,(.const (.int .u8 1))),(1,1,(.const (.int .u8 0))),(2,1,(.const (.int .u8 0))),(3,1,(.const (.int .u8 1)))]),
  oO 14 (.build [.int .u8 0,.int .u8 0,.int .u8 0,.int .u8 0,.int .u8 0,.int .u8 0,.int .u8 0,.int .u8 0,.int .u8 0] [(0,1,(.const (.int .u8 1))),(1,1,(.const (.int .u8 0))),(2,1,(.const (.int .u8 0))),(3,1,(.const (.int .u8 1)))]),
  oO 15 (.build [.int .u8 0,.int .u8 0,.int .u8 0,.int .u8 0,.int .u8 0,.int .u8 0,.int .u8 0,.int .u8 0,.int .u8 0] [(0,1,(.const (.int .u8 1))),(1,1,(.const (.int .u8 0))),(2,1,(.const (.int .u8 0))),(3,1,(.const (.int .u8 1)))]),
  oO 16 (.build [.int .u8 0,.int .u8 0,.int .u8 0,.int .u8 0,.int .u8 0,.int .u8 0,.int .u8 0,.int .u8 0,.int .u8 0,.int .u8 0,.int .u8 0,.int .u8 0,.int .u8 0,.int .u8 0,.int .u8 0,.int .u8 0,.int .u8 0,.int .u8 0,.int .u8 0,.int .u8 0,.int .u8 0,.int .u8 0,.int .u8 0,.int .u8 0,.int .u8 0,.int .u8 0,.int .u8 0] [(0,9,(.tmp 13)),(9,9,(.tmp 14)),(18,9,(.tmp 15))]),
  oO 17 (.build [.int .u8 0,.int .u8 0,.int .u8 0,.int .u8 0,.int .u8 0,.int .u8 0,.int .u8 0,.int .u8 0,.int .u8 0] [(0,1,(.const (.int .u8 0))),(1,1,(.const (.int .u8 0))),(2,1,(.const (.int .u8 1))),(3,1,(.const (.int .u8 1)))]),
  oO 18 (.build [.int .u8 0,.int .u8 0,.int .u8 0,.int .u8 0,.int .u8 0,.int .u8 0,.int .u8 0,.int .u8 0,.int .u8 0] [(0,1,(.const (.int .u8 1)))]),
  oM 19 4,
  oO 20 (.build [.int .u8 0,.int .u8 0,.int .u8 0,.int .u8 0,.int .u8 0,.int .u8 0,.int .u8 0,.int .u8 0,.int .u8 0] [(0,1,(.const (.int .u8 0))),(1,1,(.const (.int .u8 0))),(2,1,(.const (.int .u8 1))),(3,1,(.tmp 19))]),
  oO 21 (.build [.int .u8 0,.int .u8 0,.int .u8 0,.int .u8 0,.int .u8 0,.int .u8 0,.int .u8 0,.int .u8 0,.int .u8 0,.int .u8 0,.int .u8 0,.int .u8 0,.int .u8 0,.int .u8 0,.int .u8 0,.int .u8 0,.int .u8 0,.int .u8 0,.int .u8 0,.int .u8 0,.int .u8 0,.int .u8 0,.int .u8 0,.int .u8 0,.int .u8 0,.int .u8 0,.int .u8 0] [(0,9,(.tmp 17)),(9,9,(.tmp 18)),(18,9,(.tmp 20))]),
  oO 22 (.build [.int .u8 0,.int .u8 0,.int .u8 0,.int .u8 0,.int .u8 0,.int .u8 0,.int .u8 0,.int .u8 0,.int .u8 0] [(0,1,(.const (.int .u8 1)))]),
  oM 23 4,
  oO 24 (.build [.int .u8 0,.int .u8 0,.int .u8 0,.int .u8 0,.int .u8 0,.int .u8 0,.int .u8 0,.int .u8 0,.int .u8 0] [(0,1,(.const (.int .u8 0))),(1,1,(.const (.int .u8 1))),(2,1,(.const (.int .u8 0))),(3,1,(.tmp 23))]),
  oO 25 (.build [.int .u8 0,.int .u8 0,.int .u8 0,.int .u8 0,.int .u8 0,.int .u8 0,.int .u8 0,.int .u8 0,.int .u8 0] [(0,1,(.const (.int .u8 0))),(1,1,(.const (.int .u8 1))),(2,1,(.const (.int .u8 0))),(3,1,(.const (.int .u8 1)))]),
  oO 26 (.build [.int .u8 0,.int .u8 0,.int .u8 0,.int .u8 0,.int .u8 0,.int .u8 0,.int .u8 0,.int .u8 0,.int .u8 0,.int .u8 0,.int .u8 0,.int .u8 0,.int .u8 0,.int .u8 0,.int .u8 0,.int .u8 0,.int .u8 0,.int .u8 0,.int .u8 0,.int .u8 0,.int .u8 0,.int .u8 0,.int .u8 0,.int .u8 0,.int .u8 0,.int .u8 0,.int .u8 0] [(0,9,(.tmp 22)),(9,9,(.tmp 24)),(18,9,(.tmp 25))]),
  oO 27 (.build [.int .u8 0,.int .u8 0,.int .u8 0,.int .u8 0,.int .u8 0,.int .u8 0,.int .u8 0,.int .u8 0,.int .u8 0] [(0,1,(.const (.int .u8 0))),(1,1,(.const (.int .u8 0))),(2,1,(.const (.int .u8 0))),(3,1,(.const (.int .u8 1)))]),
  oM 28 4,
  oO 29 (.build [.int .u8 0,.int .u8 0,.int .u8 0,.int .u8 0,.int .u8 0,.int .u8 0,.int .u8 0,.int .u8 0,.int .u8 0] [(0,1,(.tmp 28)),(1,1,(.const (.int .u8 0))),(2,1,(.const (.int .u8 1)))]),
  oO 30 (.build [.int .u8 0,.int .u8 0,.int .u8 0,.int .u8 0,.int .u8 0,.int .u8 0,.int .u8 0,.int .u8 0,.int .u8 0] [(0,1,(.const (.int .u8 1))),(1,1,(.const (.int .u8 0))),(2,1,(.const (.int .u8 1)))]),
  oO 31 (.build [.int .u8 0,.int .u8 0,.int .u8 0,.int .u8 0,.int .u8 0,.int .u8 0,.int .u8 0,.int .u8 0,.int .u8 0,.int .u8 0,.int .u8 0,.int .u8 0,.int .u8 0,.int .u8 0,.int .u8 0,.int .u8 0,.int .u8 0,.int .u8 0,.int .u8 0,.int .u8 0,.int .u8 0,.int .u8 0,.int .u8 0,.int .u8 0,.int .u8 0,.int .u8 0,.int .u8 0] [(0,9,(.tmp 27)),(9,9,(.tmp 29)),(18,9,(.tmp 30))]),
  oO 32 (.build [.int .u8 0,.int .u8 0,.int .u8 0,.int .u8 0,.int .u8 0,.int .u8 0,.int .u8 0,.int .u8 0,.int .u8 0] [(0,1,(.const (.int .u8 1))),(1,1,(.const (.int .u8 1)))]),
  oO 33 (.build [.int .u8 0,.int .u8 0,.int .u8 0,.int .u8 0,.int .u8 0,.int .u8 0,.int .u8 0,.int .u8 0,.int .u8 0] [(0,1,(.const (.int .u8 0))),(1,1,(.const (.int .u8 0))),(2,1,(.const (.int .u8 0))),(3,1,(.const (.int .u8 1)))]),
  oM 34 4,
  oO 35 (.build [.int .u8 0,.int .u8 0,.int .u8 0,.int .u8 0,.int .u8 0,.int .u8 0,.int .u8 0,.int .u8 0,.int .u8 0] [(0,1,(.tmp 34)),(1,1,(.const (.int .u8 1)))]),
  oO 36 (.build [.int .u8 0,.int .u8 0,.int .u8 0,.int .u8 0,.int .u8 0,.int .u8 0,.int .u8 0,.int .u8 0,.int .u8 0,.int .u8 0,.int .u8 0,.int .u8 0,.int .u8 0,.int .u8 0,.int .u8 0,.int .u8 0,.int .u8 0,.int .u8 0,.int .u8 0,.int .u8 0,.int .u8 0,.int .u8 0,.int .u8 0,.int .u8 0,.int .u8 0,.int .u8 0,.int .u8 0] [(0,9,(.tmp 32)),(9,9,(.tmp 33)),(18,9,(.tmp 35))]),
  oM 37 4,
  oO 38 (.build [.int .u8 0,.int .u8 0,.int .u8 0,.int .u8 0,.int .u8 0,.int .u8 0,.int .u8 0,.int .u8 0,.int .u8 0] [(0,1,(.tmp 37)),(1,1,(.const (.int .u8 0))),(2,1,(.const (.int .u8 1)))]),
  oO 39 (.build [.int .u8 0,.int .u8 0,.int .u8 0,.int .u8 0,.int .u8 0,.int .u8 0,.int .u8 0,.int .u8 0,.int .u8 0] [(0,1,(.const (.int .u8 1))),(1,1,(.const (.int .u8 1)))]),
  oO 40 (.build [.int .u8 0,.int .u8 0,.int .u8 0,.int .u8 0,.int .u8 0,.int .u8 0,.int .u8 0,.int .u8 0,.int .u8 0] [(0,1,(.const (.int .u8 0))),(1,1,(.const (.int .u8 0))),(2,1,(.const (.int .u8 0))),(3,1,(.const (.int .u8 1)))]),
  oO 41 (.build [.int .u8 0,.int .u8 0,.int .u8 0,.int .u8 0,.int .u8 0,.int .u8 0,.int .u8 0,.int .u8 0,.int .u8 0,.int .u8 0,.int .u8 0,.int .u8 0,.int .u8 0,.int .u8 0,.int .u8 0,.int .u8 0,.int .u8 0,.int .u8 0,.int .u8 0,.int .u8 0,.int .u8 0,.int .u8 0,.int .u8 0,.int .u8 0,.int .u8 0,.int .u8 0,.int .u8 0] [(0,9,(.tmp 38)),(9,9,(.tmp 39)),(18,9,(.tmp 40))]),
  oM 42 4,
  oO 43 (.build [.int .u8 0,.int .u8 0,.int .u8 0,.int .u8 0,.int .u8 0,.int .u8 0,.int .u8 0,.int .u8 0,.int .u8 0] [(0,1,(.const (.int .u8 0))),(1,1,(.const (.int .u8 1))),(2,1,(.const (.int .u8 0))),(3,1,(.tmp 42))]),
  oO 44 (.build [.int .u8 0,.int .u8 0,.int .u8 0,.int .u8 0,.int .u8 0,.int .u8 0,.int .u8 0,.int .u8 0,.int .u8 0] [(0,1,(.const (.int .u8 0))),(1,1,(.const (.int .u8 0))),(2,1,(.const (.int .u8 1))),(3,1,(.const (.int .u8 1)))]),
  oO 45 (.build [.int .u8 0,.int .u8 0,.int .u8 0,.int .u8 0,.int .u8 0,.int .u8 0,.int .u8 0,.int .u8 0,.int .u8 0] [(0,1,(.const (.int .u8 1)))]),
  oO 46 (.build [.int .u8 0,.int .u8 0,.int .u8 0,.int .u8 0,.int .u8 0,.int .u8 0,.int .u8 0,.int .u8 0,.int .u8 0,.int .u8 0,.int .u8 0,.int .u8 0,.int .u8 0,.int .u8 0,.int .u8 0,.int .u8 0,.int .u8 0,.int .u8 0,.int .u8 0,.int .u8 0,.int .u8 0,.int .u8 0,.int .u8 0,.int .u8 0,.int .u8 0,.int .u8 0,.int .u8 0] [(0,9,(.tmp 43)),(9,9,(.tmp 44)),(18,9,(.tmp 45))]),
  oO 47 (.bslice 138 27 7 [.int .u8 0,.int .u8 0,.int .u8 0,.int .u8 0,.int .u8 0,.int .u8 0,.int .u8 0,.int .u8 0,.int .u8 0,.int .u8 0,.int .u8 0,.int .u8 0,.int .u8 0,.int .u8 0,.int .u8 0,.int .u8 0,.int .u8 0,.int .u8 0,.int .u8 0,.int .u8 0,.int .u8 0,.int .u8 0,.int .u8 0,.int .u8 0,.int .u8 0,.int .u8 0,.int .u8 0] [(0,27,(.tmp 16)),(27,27,(.tmp 21)),(54,27,(.tmp 26)),(81,27,(.tmp 31)),(108,27,(.tmp 36)),(135,27,(.tmp 41)),(162,27,(.tmp 46))]),
  oO 48 (.app 138 27 27 (.tmp 12) (.tmp 47)),
  oF 49 4 3,
  oS (.store 1 (.tmp 49) (.tmp 48))])
 (.seq (.reg [oO 50 (.loadn 5 (.tmp 3)),
  oS (.store 5 (.tmp 2) (.tmp 50))])
 .ret)))))⟩
theorem s321:compFn Try.prog Try.f321=some c321:=by kernel_rfl
def c322:XFn:=
 ⟨[.tmp 6],
 (.seq (.reg [oO 5 (.box 136 (.tmp 2)),
  oO 6 (.mv (.const (.bool false)))])
 (.seq (.seq (.reg [oO 9 (.loadn 9 (.tmp 5)),
  oO 10 (.mv (oK 0))])
 (.blk 0 (.loop (.seq (.reg [oO 11 (.bin .lss (.tmp 10) (oK 9))])
 (.seq (.cond (.tmp 11) .skip (.exit 0))
 (.seq (.blk 1 (.seq (.reg [oM 12 10,
  oO 13 (.idx1 9 (.tmp 9) (.tmp 10)),
  oM 7 12,
  oM 8 13])
 (.seq (.reg [oM 14 8,
  oO 15 (.conv .i64 (.tmp 14)),
  oM 16 0,
  oO 17 (.bin .geq (.tmp 15) (.tmp 16)),
  oM 18 17,
  oG 19 (.mv (.tmp 8)) 18 false,
  oG 20 (.bin .neq (.tmp 19) (.const (.int .u8 0))) 18 false,
  oG 21 (.mv (.tmp 20)) 18 false,
  oG 22 (.mv (.tmp 7)) 21 true,
  oG 23 (.mv (.tmp 1)) 21 true,
  oG 24 (.bin .geq (.tmp 22) (.tmp 23)) 21 true,
  oG 25 (.pick (.tmp 21) (.tmp 24) (.const (.bool false))) 18 false,
  oO 26 (.pick (.tmp 18) (.const (.bool true)) (.tmp 25))])
 (.cond (.tmp 26) (.seq (.reg [oO 6 (.mv (.const (.bool false)))])
 .ret) .skip))))
 (.reg [oO 27 (.bin .add (.tmp 10) (oK 1)),
  oM 10 27])))))))
 (.seq (.reg [oO 6 (.mv (.const (.bool true)))])
 .ret)))⟩
theorem s322:compFn Try.prog Try.f322=some c322:=by kernel_rfl
def c323:XFn:=
 ⟨[.tmp 4],
 (.seq (.reg [oO 4 (.mv (.const (.slice none 0 0)))])
 (.seq (.reg [oM 8 0,
  oM 9 1,
  oO 10 (.call (.func 337) [(.tmp 8),(.tmp 9)]),
  oM 5 10])
 (.seq (.seq (.reg [oM 11 5,
  oO 12 (.bin .eql (.tmp 11) (.const (.int .i64 (-1))))])
 (.cond (.tmp 12) (.seq (.reg [oM 13 0,
  oM 4 13])
 .ret) .skip))
 (.seq (.seq (.reg [oM 14 5,
  oO 15 (.bin .add (.tmp 14) (oK 1)),
  oM 6 15])
 (.blk 0 (.loop (.seq (.seq (.reg [oM 16 6,
  oM 17 0,
  oN 18 17,
  oO 19 (.bin .lss (.tmp 16) (.tmp 18))])
 (.cond (.tmp 19) .skip (.exit 0)))
 (.seq (.blk 1 (.seq (.reg [oM 22 0,
  oM 23 6,
  oX 24 27 22 23,
  oO 25 (.loadn 27 (.tmp 24)),
  oO 7 (.alloc 138 [.int .u8 0,.int .u8 0,.int .u8 0,.int .u8 0,.int .u8 0,.int .u8 0,.int .u8 0,.int .u8 0,.int .u8 0,.int .u8 0,.int .u8 0,.int .u8 0,.int .u8 0,.int .u8 0,.int .u8 0,.int .u8 0,.int .u8 0,.int .u8 0,.int .u8 0,.int .u8 0,.int .u8 0,.int .u8 0,.int .u8 0,.int .u8 0,.int .u8 0,.int .u8 0,.int .u8 0]),
  oS (.store 27 (.tmp 7) (.tmp 25))])
 (.seq (.reg [oM 26 1,
  oO 27 (.loadn 27 (.tmp 7)),
  oO 28 (.call (.tmp 26) [(.tmp 27)]),
  oO 29 (.un .not (.tmp 28))])
 (.cond (.tmp 29) (.seq (.reg [oM 30 0,
  oM 31 5,
  oO 32 (.loadn 27 (.tmp 7)),
  oX 33 27 30 31,
  oS (.store 27 (.tmp 33) (.tmp 32))])
 (.reg [oM 34 5,
  oO 35 (.bin .add (.tmp 34) (oK 1)),
  oM 5 35])) .skip))))
 (.reg [oM 20 6,
  oO 21 (.bin .add (.tmp 20) (oK 1)),
  oM 6 21]))))))
 (.seq (.reg [oM 36 0,
  oM 37 5,
  oO 38 (.slc 27 (.tmp 36) (some (.tmp 37)) none),
  oS (.clr 27 [.int .u8 0,.int .u8 0,.int .u8 0,.int .u8 0,.int .u8 0,.int .u8 0,.int .u8 0,.int .u8 0,.int .u8 0,.int .u8 0,.int .u8 0,.int .u8 0,.int .u8 0,.int .u8 0,.int .u8 0,.int .u8 0,.int .u8 0,.int .u8 0,.int .u8 0,.int .u8 0,.int .u8 0,.int .u8 0,.int .u8 0,.int .u8 0,.int .u8 0,.int .u8 0,.int .u8 0] (.tmp 38))])
 (.seq (.reg [oM 39 0,
  oM 40 5,
  oO 41 (.slc 27 (.tmp 39) none (some (.tmp 40))),
  oM 4 41])
 .ret))))))⟩
theorem s323:compFn Try.prog Try.f323=some c323:=by kernel_rfl
def c324:XFn:=
 ⟨[.tmp 6],
 (.seq (.reg [oO 4 (.box 136 (.tmp 1)),
  oO 6 (.mv (.const (.bool false)))])
 (.seq (.seq (.reg [oO 7 (.mv (oK 0))])
 (.blk 0 (.loop (.seq (.seq (.reg [oM 8 7,
  oO 9 (.bin .lss (.tmp 8) (oK 9))])
 (.cond (.tmp 9) .skip (.exit 0)))
 (.seq (.blk 1 (.seq (.reg [oM 12 7,
  oO 13 (.ixa 9 1 (.tmp 4) (.tmp 12)),
  oL 14 13,
  oO 15 (.conv .i64 (.tmp 14)),
  oM 16 0,
  oO 17 (.bin .geq (.tmp 15) (.tmp 16)),
  oM 18 17,
  oG 19 (.mv (.tmp 7)) 18 false,
  oG 20 (.mv (.tmp 2)) 18 false,
  oG 21 (.bin .geq (.tmp 19) (.tmp 20)) 18 false,
  oG 22 (.mv (.tmp 21)) 18 false,
  oG 23 (.mv (.tmp 7)) 22 true,
  oG 24 (.ixa 9 1 (.tmp 4) (.tmp 23)) 22 true,
  oG 25 (.load1 (.tmp 24)) 22 true,
  oG 26 (.bin .neq (.tmp 25) (.const (.int .u8 0))) 22 true,
  oG 27 (.pick (.tmp 22) (.tmp 26) (.const (.bool false))) 18 false,
  oO 28 (.pick (.tmp 18) (.const (.bool true)) (.tmp 27))])
 (.cond (.tmp 28) (.seq (.reg [oO 6 (.mv (.const (.bool false)))])
 .ret) .skip)))
 (.reg [oM 10 7,
  oO 11 (.bin .add (.tmp 10) (oK 1)),
  oM 7 11]))))))
 (.seq (.reg [oO 6 (.mv (.const (.bool true)))])
 .ret)))⟩
theorem s324:compFn Try.prog Try.f324=some c324:=by kernel_rfl
def c334:XFn:=
 ⟨[.celln 6 9],
 (.seq (.reg [oO 6 (.alloc 136 [.int .u8 0,.int .u8 0,.int .u8 0,.int .u8 0,.int .u8 0,.int .u8 0,.int .u8 0,.int .u8 0,.int .u8 0])])
 (.seq (.reg [oO 9 (.build [.int .u8 0,.int .u8 0,.int .u8 0,.int .u8 0,.int .u8 0,.int .u8 0,.int .u8 0,.int .u8 0,.int .u8 0] []),
  oO 7 (.alloc 136 [.int .u8 0,.int .u8 0,.int .u8 0,.int .u8 0,.int .u8 0,.int .u8 0,.int .u8 0,.int .u8 0,.int .u8 0]),
  oS (.store 9 (.tmp 7) (.tmp 9))])
 (.seq (.seq (.reg [oO 8 (.mv (oK 0))])
 (.blk 0 (.loop (.seq (.seq (.reg [oM 10 8,
  oM 11 2,
  oO 12 (.bin .lss (.tmp 10) (.tmp 11))])
 (.cond (.tmp 12) .skip (.exit 0)))
 (.seq (.blk 1 (.seq (.reg [oM 15 0,
  oO 16 (.call (.func 148) [(.tmp 15),(oK 2)]),
  oO 17 (.bin .eql (.tmp 16) (oK 0))])
 (.cond (.tmp 17) (.reg [oM 18 8,
  oM 19 0,
  oM 20 1,
  oO 21 (.call (.func 148) [(.tmp 19),(.tmp 20)]),
  oO 22 (.conv .u8 (.tmp 21)),
  oO 23 (.ixa 9 1 (.tmp 7) (.tmp 18)),
  oS (.store 1 (.tmp 23) (.tmp 22))]) .skip)))
 (.reg [oM 13 8,
  oO 14 (.bin .add (.tmp 13) (oK 1)),
  oM 8 14]))))))
 (.seq (.seq (.reg [oO 24 (.loadn 9 (.tmp 7)),
  oO 25 (.call (.func 278) [(.tmp 24)])])
 (.cond (.tmp 25) (.reg [oM 26 0,
  oM 27 2,
  oO 28 (.call (.func 148) [(.tmp 26),(.tmp 27)]),
  oM 29 0,
  oM 30 1,
  oO 31 (.bin .sub (.tmp 30) (oK 1)),
  oO 32 (.call (.func 148) [(.tmp 29),(.tmp 31)]),
  oO 33 (.bin .add (oK 1) (.tmp 32)),
  oO 34 (.conv .u8 (.tmp 33)),
  oO 35 (.ixa 9 1 (.tmp 7) (.tmp 28)),
  oS (.store 1 (.tmp 35) (.tmp 34))]) .skip))
 (.seq (.reg [oO 36 (.loadn 9 (.tmp 7)),
  oS (.store 9 (.tmp 6) (.tmp 36))])
 .ret)))))⟩
theorem s334:compFn Try.prog Try.f334=some c334:=by kernel_rfl
def c337:XFn:=
 ⟨[.tmp 4],
 (.seq (.reg [oO 4 (.mv (oK 0))])
 (.seq (.seq (.reg [oM 6 0,
  oN 7 6,
  oO 8 (.mv (oK 0))])
 (.blk 0 (.loop (.seq (.reg [oO 9 (.bin .lss (.tmp 8) (.tmp 7))])
 (.seq (.cond (.tmp 9) .skip (.exit 0))
 (.seq (.blk 1 (.seq (.reg [oM 10 8,
  oM 5 10])
 (.seq (.reg [oM 11 1,
  oM 12 0,
  oM 13 5,
  oX 14 27 12 13,
  oO 15 (.loadn 27 (.tmp 14)),
  oO 16 (.call (.tmp 11) [(.tmp 15)])])
 (.cond (.tmp 16) (.seq (.reg [oM 17 5,
  oM 4 17])
 .ret) .skip))))
 (.reg [oO 18 (.bin .add (.tmp 8) (oK 1)),
  oM 8 18])))))))
 (.seq (.reg [oO 4 (.mv (.const (.int .i64 (-1))))])
 .ret)))⟩
theorem s337:compFn Try.prog Try.f337=some c337:=by kernel_rfl
def tab2:List (Nat×XFn):=[(218,c218),(224,c224),(256,c256),(266,c266),(267,c267),(268,c268),(269,c269),(270,c270),(271,c271),(272,c272),(273,c273),(274,c274),(275,c275),(276,c276),(277,c277),(278,c278),(279,c279),(283,c283),(284,c284),(300,c300),(303,c303),(305,c305),(314,c314),(320,c320),(321,c321),(322,c322),(323,c323),(324,c324),(334,c334),(337,c337)]
theorem ts2:TSound Try.prog (fun g=>tab2.lookup g):=by
 refine tsound_of_all (P:=Try.prog) (tab:=tab2) ?_
 intro p hp
 simp only[tab2,List.mem_cons,List.not_mem_nil,or_false] at hp
 rcases hp with rfl|rfl|rfl|rfl|rfl|rfl|rfl|rfl|rfl|rfl|rfl|rfl|rfl|rfl|rfl|rfl|rfl|rfl|rfl|rfl|rfl|rfl|rfl|rfl|rfl|rfl|rfl|rfl|rfl|rfl
 ·exact⟨_,Try.func218,s218⟩
 ·exact⟨_,Try.func224,s224⟩
 ·exact⟨_,Try.func256,s256⟩
 ·exact⟨_,Try.func266,s266⟩
 ·exact⟨_,Try.func267,s267⟩
 ·exact⟨_,Try.func268,s268⟩
 ·exact⟨_,Try.func269,s269⟩
 ·exact⟨_,Try.func270,s270⟩
 ·exact⟨_,Try.func271,s271⟩
 ·exact⟨_,Try.func272,s272⟩
 ·exact⟨_,Try.func273,s273⟩
 ·exact⟨_,Try.func274,s274⟩
 ·exact⟨_,Try.func275,s275⟩
 ·exact⟨_,Try.func276,s276⟩
 ·exact⟨_,Try.func277,s277⟩
 ·exact⟨_,Try.func278,s278⟩
 ·exact⟨_,Try.func279,s279⟩
 ·exact⟨_,Try.func283,s283⟩
 ·exact⟨_,Try.func284,s284⟩
 ·exact⟨_,Try.func300,s300⟩
 ·exact⟨_,Try.func303,s303⟩
 ·exact⟨_,Try.func305,s305⟩
 ·exact⟨_,Try.func314,s314⟩
 ·exact⟨_,Try.func320,s320⟩
 ·exact⟨_,Try.func321,s321⟩
 ·exact⟨_,Try.func322,s322⟩
 ·exact⟨_,Try.func323,s323⟩
 ·exact⟨_,Try.func324,s324⟩
 ·exact⟨_,Try.func334,s334⟩
 ·exact⟨_,Try.func337,s337⟩
end Go.Proofs.Ytapafdpnmakekaa.X
