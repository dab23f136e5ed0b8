/- Texts of one claim, put together by merge.py: XCode3. -/
import Derived.Test.YtapafdpnmakekaaTO3
import Derived.Test.YtapafdpnmakekaaProg
set_option linter.unusedVariables false
set_option maxRecDepth 4000
namespace Go.Proofs.Ytapafdpnmakekaa.X
open Go Go.RowKit
def c300:XFn:=
 ⟨[.tmp 2,.tmp 3,.tmp 4],
 (.seq (.reg [oO 1 (.box 26 (.tmp 0)),
  oO 2 (.mv (oK 0)),
  oO 3 (.mv (oK 0)),
  oO 4 (.mv (oK 0))])
 (.seq (.reg [oF 5 1 1,
  oL 6 5,
  oF 7 2 1,
  oL 8 7,
  oO 9 (.bin .mul (.tmp 6) (.tmp 8)),
  oF 10 2 1,
  oL 11 10,
  oF 12 3 1,
  oL 13 12,
  oO 14 (.bin .mul (.tmp 11) (.tmp 13)),
  oF 15 1 1,
  oL 16 15,
  oF 17 3 1,
  oL 18 17,
  oO 19 (.bin .mul (.tmp 16) (.tmp 18)),
  oM 2 9,
  oM 3 14,
  oM 4 19])
 .ret))⟩
theorem s300:compFn Try.prog Try.f300=some c300:=by kernel_rfl
def c303:XFn:=
 ⟨[.celln 8 5],
 (.seq (.reg [oO 8 (.alloc 26 [.int .i64 0,.int .i64 0,.int .i64 0,.int .i64 0,.slice none 0 0])])
 (.seq (.reg [oM 14 0,
  oM 15 1,
  oM 16 2,
  oM 17 3,
  oO 18 (.bslice 138 27 0 [.int .u8 0,.int .u8 0,.int .u8 0,.int .u8 0,.int .u8 0,.int .u8 0,.int .u8 0,.int .u8 0,.int .u8 0,.int .u8 0,.int .u8 0,.int .u8 0,.int .u8 0,.int .u8 0,.int .u8 0,.int .u8 0,.int .u8 0,.int .u8 0,.int .u8 0,.int .u8 0,.int .u8 0,.int .u8 0,.int .u8 0,.int .u8 0,.int .u8 0,.int .u8 0,.int .u8 0] []),
  oO 19 (.build [.int .i64 0,.int .i64 0,.int .i64 0,.int .i64 0,.slice none 0 0] [(0,1,(.tmp 14)),(1,1,(.tmp 15)),(2,1,(.tmp 16)),(3,1,(.tmp 17)),(4,1,(.tmp 18))]),
  oO 9 (.alloc 26 [.int .i64 0,.int .i64 0,.int .i64 0,.int .i64 0,.slice none 0 0]),
  oS (.store 5 (.tmp 9) (.tmp 19))])
 (.seq (.seq (.reg [oO 10 (.mv (oK 0))])
 (.blk 0 (.loop (.seq (.seq (.reg [oM 20 10,
  oM 21 1,
  oO 22 (.bin .lss (.tmp 20) (.tmp 21))])
 (.cond (.tmp 22) .skip (.exit 0)))
 (.seq (.blk 1 (.seq (.reg [oO 11 (.mv (oK 0))])
 (.blk 2 (.loop (.seq (.seq (.reg [oM 25 11,
  oM 26 2,
  oO 27 (.bin .lss (.tmp 25) (.tmp 26))])
 (.cond (.tmp 27) .skip (.exit 2)))
 (.seq (.blk 3 (.seq (.reg [oO 12 (.mv (oK 0))])
 (.blk 4 (.loop (.seq (.seq (.reg [oM 30 12,
  oM 31 3,
  oO 32 (.bin .lss (.tmp 30) (.tmp 31))])
 (.cond (.tmp 32) .skip (.exit 4)))
 (.seq (.blk 5 (.seq (.reg [oO 35 (.build [.int .u8 0,.int .u8 0,.int .u8 0,.int .u8 0,.int .u8 0,.int .u8 0,.int .u8 0,.int .u8 0,.int .u8 0,.int .u8 0,.int .u8 0,.int .u8 0,.int .u8 0,.int .u8 0,.int .u8 0,.int .u8 0,.int .u8 0,.int .u8 0,.int .u8 0,.int .u8 0,.int .u8 0,.int .u8 0,.int .u8 0,.int .u8 0,.int .u8 0,.int .u8 0,.int .u8 0] []),
  oO 13 (.alloc 138 [.int .u8 0,.int .u8 0,.int .u8 0,.int .u8 0,.int .u8 0,.int .u8 0,.int .u8 0,.int .u8 0,.int .u8 0,.int .u8 0,.int .u8 0,.int .u8 0,.int .u8 0,.int .u8 0,.int .u8 0,.int .u8 0,.int .u8 0,.int .u8 0,.int .u8 0,.int .u8 0,.int .u8 0,.int .u8 0,.int .u8 0,.int .u8 0,.int .u8 0,.int .u8 0,.int .u8 0]),
  oS (.store 27 (.tmp 13) (.tmp 35))])
 (.seq (.reg [oM 36 10,
  oM 37 2,
  oO 38 (.bin .mul (.tmp 36) (.tmp 37)),
  oM 39 11,
  oO 40 (.bin .add (.tmp 38) (.tmp 39)),
  oF 41 0 13,
  oO 42 (.ixa 9 1 (.tmp 41) (.tmp 40)),
  oS (.store 1 (.tmp 42) (.const (.int .u8 1)))])
 (.seq (.reg [oM 43 11,
  oM 44 3,
  oO 45 (.bin .mul (.tmp 43) (.tmp 44)),
  oM 46 12,
  oO 47 (.bin .add (.tmp 45) (.tmp 46)),
  oF 48 9 13,
  oO 49 (.ixa 9 1 (.tmp 48) (.tmp 47)),
  oS (.store 1 (.tmp 49) (.const (.int .u8 1)))])
 (.seq (.reg [oM 50 10,
  oM 51 3,
  oO 52 (.bin .mul (.tmp 50) (.tmp 51)),
  oM 53 12,
  oO 54 (.bin .add (.tmp 52) (.tmp 53)),
  oF 55 18 13,
  oO 56 (.ixa 9 1 (.tmp 55) (.tmp 54)),
  oS (.store 1 (.tmp 56) (.const (.int .u8 1)))])
 (.reg [oF 57 4 9,
  oL 58 57,
  oO 59 (.loadn 27 (.tmp 13)),
  oO 60 (.bslice 138 27 1 [.int .u8 0,.int .u8 0,.int .u8 0,.int .u8 0,.int .u8 0,.int .u8 0,.int .u8 0,.int .u8 0,.int .u8 0,.int .u8 0,.int .u8 0,.int .u8 0,.int .u8 0,.int .u8 0,.int .u8 0,.int .u8 0,.int .u8 0,.int .u8 0,.int .u8 0,.int .u8 0,.int .u8 0,.int .u8 0,.int .u8 0,.int .u8 0,.int .u8 0,.int .u8 0,.int .u8 0] [(0,27,(.tmp 59))]),
  oO 61 (.app 138 27 27 (.tmp 58) (.tmp 60)),
  oF 62 4 9,
  oS (.store 1 (.tmp 62) (.tmp 61))]))))))
 (.reg [oM 33 12,
  oO 34 (.bin .add (.tmp 33) (oK 1)),
  oM 12 34])))))))
 (.reg [oM 28 11,
  oO 29 (.bin .add (.tmp 28) (oK 1)),
  oM 11 29])))))))
 (.reg [oM 23 10,
  oO 24 (.bin .add (.tmp 23) (oK 1)),
  oM 10 24]))))))
 (.seq (.reg [oO 63 (.loadn 5 (.tmp 9)),
  oS (.store 5 (.tmp 8) (.tmp 63))])
 .ret))))⟩
theorem s303:compFn Try.prog Try.f303=some c303:=by kernel_rfl
def c305:XFn:=
 ⟨[.celln 4 27],
 (.seq (.reg [oO 3 (.box 26 (.tmp 1)),
  oO 4 (.alloc 138 [.int .u8 0,.int .u8 0,.int .u8 0,.int .u8 0,.int .u8 0,.int .u8 0,.int .u8 0,.int .u8 0,.int .u8 0,.int .u8 0,.int .u8 0,.int .u8 0,.int .u8 0,.int .u8 0,.int .u8 0,.int .u8 0,.int .u8 0,.int .u8 0,.int .u8 0,.int .u8 0,.int .u8 0,.int .u8 0,.int .u8 0,.int .u8 0,.int .u8 0,.int .u8 0,.int .u8 0])])
 (.seq (.reg [oO 9 (.loadn 5 (.tmp 3)),
  oO 10 (.call (.func 300) [(.tmp 9)]),
  oM 8 10,
  oE 11 8 0,
  oE 12 8 1,
  oE 13 8 2,
  oM 5 11,
  oM 6 12,
  oM 7 13])
 (.seq (.reg [oM 14 0,
  oF 15 0 3,
  oL 16 15,
  oM 17 5,
  ⟨some 18,.call (.func 334) [(.tmp 14),(.tmp 16),(.tmp 17)],none,(.s true [])⟩,
  oM 19 0,
  oF 20 0 3,
  ⟨some 21,.load1 (.tmp 20),none,(.s false [(.tmp 14)])⟩,
  oM 22 6,
  ⟨some 23,.call (.func 334) [(.tmp 19),(.tmp 21),(.tmp 22)],none,(.s true [])⟩,
  oM 24 0,
  oF 25 0 3,
  ⟨some 26,.load1 (.tmp 25),none,(.s false [(.tmp 14),(.tmp 19)])⟩,
  oM 27 7,
  oO 28 (.call (.func 334) [(.tmp 24),(.tmp 26),(.tmp 27)]),
  oO 29 (.build [.int .u8 0,.int .u8 0,.int .u8 0,.int .u8 0,.int .u8 0,.int .u8 0,.int .u8 0,.int .u8 0,.int .u8 0,.int .u8 0,.int .u8 0,.int .u8 0,.int .u8 0,.int .u8 0,.int .u8 0,.int .u8 0,.int .u8 0,.int .u8 0,.int .u8 0,.int .u8 0,.int .u8 0,.int .u8 0,.int .u8 0,.int .u8 0,.int .u8 0,.int .u8 0,.int .u8 0] [(0,9,(.tmp 18)),(9,9,(.tmp 23)),(18,9,(.tmp 28))]),
  oS (.store 27 (.tmp 4) (.tmp 29))])
 .ret)))⟩
theorem s305:compFn Try.prog Try.f305=some c305:=by kernel_rfl
def c310:XFn:=
 ⟨[.tmp 6],
 (.seq (.reg [oO 3 (.box 136 (.tmp 0)),
  oO 6 (.mv (.const (.slice none 0 0)))])
 (.seq (.reg [oO 9 (.bslice 2 1 0 [.int .i64 0] []),
  oM 7 9])
 (.seq (.seq (.reg [oM 10 1,
  oM 11 2,
  oO 12 (.bin .mul (.tmp 10) (.tmp 11)),
  oO 13 (.mv (oK 0))])
 (.blk 0 (.loop (.seq (.reg [oO 14 (.bin .lss (.tmp 13) (.tmp 12))])
 (.seq (.cond (.tmp 14) .skip (.exit 0))
 (.seq (.blk 1 (.seq (.reg [oM 15 13,
  oM 8 15])
 (.reg [oM 16 7,
  oM 17 8,
  oO 18 (.ixa 9 1 (.tmp 3) (.tmp 17)),
  oL 19 18,
  oO 20 (.conv .i64 (.tmp 19)),
  oO 21 (.bslice 2 1 1 [.int .i64 0] [(0,1,(.tmp 20))]),
  oO 22 (.app 2 1 8 (.tmp 16) (.tmp 21)),
  oM 7 22])))
 (.reg [oO 23 (.bin .add (.tmp 13) (oK 1)),
  oM 13 23])))))))
 (.seq (.reg [oM 24 7,
  oM 25 2,
  oO 26 (.call (.func 163) [(.tmp 24),(.tmp 25)]),
  oM 6 26])
 .ret))))⟩
theorem s310:compFn Try.prog Try.f310=some c310:=by kernel_rfl
def c314:XFn:=
 ⟨[.tmp 4],
 (.seq (.reg [oO 4 (.mv (oK 0))])
 (.seq (.reg [oM 5 1,
  oM 6 0,
  oO 7 (.bin .rem (.tmp 5) (.tmp 6)),
  oM 8 0,
  oO 9 (.bin .add (.tmp 7) (.tmp 8)),
  oM 10 0,
  oO 11 (.bin .rem (.tmp 9) (.tmp 10)),
  oM 4 11])
 .ret))⟩
theorem s314:compFn Try.prog Try.f314=some c314:=by kernel_rfl
def c320:XFn:=
 ⟨[.celln 2 5],
 (.seq (.reg [oO 2 (.alloc 26 [.int .i64 0,.int .i64 0,.int .i64 0,.int .i64 0,.slice none 0 0])])
 (.seq (.reg [oM 4 0,
  oO 5 (.bslice 2 1 5 [.int .i64 0] [(0,1,(oK 2)),(1,1,(oK 2)),(2,1,(oK 2)),(3,1,(oK 3)),(4,1,(oK 5))]),
  oO 6 (.call (.func 147) [(.tmp 4),(.tmp 5)]),
  oO 7 (.bslice 138 27 0 [.int .u8 0,.int .u8 0,.int .u8 0,.int .u8 0,.int .u8 0,.int .u8 0,.int .u8 0,.int .u8 0,.int .u8 0,.int .u8 0,.int .u8 0,.int .u8 0,.int .u8 0,.int .u8 0,.int .u8 0,.int .u8 0,.int .u8 0,.int .u8 0,.int .u8 0,.int .u8 0,.int .u8 0,.int .u8 0,.int .u8 0,.int .u8 0,.int .u8 0,.int .u8 0,.int .u8 0] []),
  oO 8 (.build [.int .i64 0,.int .i64 0,.int .i64 0,.int .i64 0,.slice none 0 0] [(0,1,(.tmp 6)),(1,1,(oK 2)),(2,1,(oK 2)),(3,1,(oK 2)),(4,1,(.tmp 7))]),
  oO 3 (.alloc 26 [.int .i64 0,.int .i64 0,.int .i64 0,.int .i64 0,.slice none 0 0]),
  oS (.store 5 (.tmp 3) (.tmp 8))])
 (.seq (.seq (.reg [oM 9 0,
  oO 10 (.call (.func 148) [(.tmp 9),(oK 2)]),
  oO 11 (.bin .eql (.tmp 10) (oK 0))])
 (.cond (.tmp 11) (.seq (.reg [oM 12 0,
  oO 13 (.bslice 2 1 3 [.int .i64 0] [(0,1,(oK 1)),(1,1,(oK 2)),(2,1,(oK 3))]),
  oO 14 (.call (.func 147) [(.tmp 12),(.tmp 13)]),
  oF 15 1 3,
  oS (.store 1 (.tmp 15) (.tmp 14))])
 (.seq (.reg [oM 16 0,
  oO 17 (.bslice 2 1 3 [.int .i64 0] [(0,1,(oK 1)),(1,1,(oK 2)),(2,1,(oK 3))]),
  oO 18 (.call (.func 147) [(.tmp 16),(.tmp 17)]),
  oF 19 2 3,
  oS (.store 1 (.tmp 19) (.tmp 18))])
 (.reg [oM 20 0,
  oO 21 (.bslice 2 1 3 [.int .i64 0] [(0,1,(oK 1)),(1,1,(oK 2)),(2,1,(oK 3))]),
  oO 22 (.call (.func 147) [(.tmp 20),(.tmp 21)]),
  oF 23 3 3,
  oS (.store 1 (.tmp 23) (.tmp 22))]))) .skip))
 (.seq (.reg [oO 24 (.loadn 5 (.tmp 3)),
  oS (.store 5 (.tmp 2) (.tmp 24))])
 .ret))))⟩
theorem s320:compFn Try.prog Try.f320=some c320:=by kernel_rfl
def c321:XFn:=
 ⟨[.celln 2 5],
 (.seq (.reg [oO 2 (.alloc 26 [.int .i64 0,.int .i64 0,.int .i64 0,.int .i64 0,.slice none 0 0])])
 (.seq (.reg [oM 5 0,
  oO 6 (.bslice 138 27 0 [.int .u8 0,.int .u8 0,.int .u8 0,.int .u8 0,.int .u8 0,.int .u8 0,.int .u8 0,.int .u8 0,.int .u8 0,.int .u8 0,.int .u8 0,.int .u8 0,.int .u8 0,.int .u8 0,.int .u8 0,.int .u8 0,.int .u8 0,.int .u8 0,.int .u8 0,.int .u8 0,.int .u8 0,.int .u8 0,.int .u8 0,.int .u8 0,.int .u8 0,.int .u8 0,.int .u8 0] []),
  oO 7 (.build [.int .i64 0,.int .i64 0,.int .i64 0,.int .i64 0,.slice none 0 0] [(0,1,(.tmp 5)),(1,1,(oK 2)),(2,1,(oK 2)),(3,1,(oK 2)),(4,1,(.tmp 6))]),
  oO 3 (.alloc 26 [.int .i64 0,.int .i64 0,.int .i64 0,.int .i64 0,.slice none 0 0]),
  oS (.store 5 (.tmp 3) (.tmp 7))])
 (.seq (.reg [oM 8 0,
  oO 9 (.bin .sub (.tmp 8) (oK 1)),
  oO 10 (.conv .u8 (.tmp 9)),
  oM 4 10])
 (.seq (.reg [oF 11 4 3,
  oL 12 11,
  oO 13 (.build [.int .u8 0,.int .u8 0,.int .u8 0,.int .u8 0,.int .u8 0,.int .u8 0,.int .u8 0,.int .u8 0,.int .u8 0] [(0,1,(.const (.int .u8 1))),(1,1,(.const (.int .u8 0))),(2,1,(.const (.int .u8 0))),(3,1,(.const (.int .u8 1)))]),
  oO 14 (.build [.int .u8 0,.int .u8 0,.int .u8 0,.int .u8 0,.int .u8 0,.int .u8 0,.int .u8 0,.int .u8 0,.int .u8 0] [(0,1,(.const (.int .u8 1))),(1,1,(.const (.int .u8 0))),(2,1,(.const (.int .u8 0))),(3,1,(.const (.int .u8 1)))]),
  oO 15 (.build [.int .u8 0,.int .u8 0,.int .u8 0,.int .u8 0,.int .u8 0,.int .u8 0,.int .u8 0,.int .u8 0,.int .u8 0] [(0,1,(.const (.int .u8 1))),(1,1,(.const (.int .u8 0))),(2,1,(.const (.int .u8 0))),(3,1,(.const (.int .u8 1)))]),
  oO 16 (.build [.int .u8 0,.int .u8 0,.int .u8 0,.int .u8 0,.int .u8 0,.int .u8 0,.int .u8 0,.int .u8 0,.int .u8 0,.int .u8 0,.int .u8 0,.int .u8 0,.int .u8 0,.int .u8 0,.int .u8 0,.int .u8 0,.int .u8 0,.int .u8 0,.int .u8 0,.int .u8 0,.int .u8 0,.int .u8 0,.int .u8 0,.int .u8 0,.int .u8 0,.int .u8 0,.int .u8 0] [(0,9,(.tmp 13)),(9,9,(.tmp 14)),(18,9,(.tmp 15))]),
  oO 17 (.build [.int .u8 0,.int .u8 0,.int .u8 0,.int .u8 0,.int .u8 0,.int .u8 0,.int .u8 0,.int .u8 0,.int .u8 0] [(0,1,(.const (.int .u8 0))),(1,1,(.const (.int .u8 0))),(2,1,(.const (.int .u8 1))),(3,1,(.const (.int .u8 1)))]),
  oO 18 (.build [.int .u8 0,.int .u8 0,.int .u8 0,.int .u8 0,.int .u8 0,.int .u8 0,.int .u8 0,.int .u8 0,.int .u8 0] [(0,1,(.const (.int .u8 1)))]),
  oM 19 4,
  oO 20 (.build [.int .u8 0,.int .u8 0,.int .u8 0,.int .u8 0,.int .u8 0,.int .u8 0,.int .u8 0,.int .u8 0,.int .u8 0] [(0,1,(.const (.int .u8 0))),(1,1,(.const (.int .u8 0))),(2,1,(.const (.int .u8 1))),(3,1,(.tmp 19))]),
  oO 21 (.build [.int .u8 0,.int .u8 0,.int .u8 0,.int .u8 0,.int .u8 0,.int .u8 0,.int .u8 0,.int .u8 0,.int .u8 0,.int .u8 0,.int .u8 0,.int .u8 0,.int .u8 0,.int .u8 0,.int .u8 0,.int .u8 0,.int .u8 0,.int .u8 0,.int .u8 0,.int .u8 0,.int .u8 0,.int .u8 0,.int .u8 0,.int .u8 0,.int .u8 0,.int .u8 0,.int .u8 0] [(0,9,(.tmp 17)),(9,9,(.tmp 18)),(18,9,(.tmp 20))]),
  oO 22 (.build [.int .u8 0,.int .u8 0,.int .u8 0,.int .u8 0,.int .u8 0,.int .u8 0,.int .u8 0,.int .u8 0,.int .u8 0] [(0,1,(.const (.int .u8 1)))]),
  oM 23 4,
  oO 24 (.build [.int .u8 0,.int .u8 0,.int .u8 0,.int .u8 0,.int .u8 0,.int .u8 0,.int .u8 0,.int .u8 0,.int .u8 0] [(0,1,(.const (.int .u8 0))),(1,1,(.const (.int .u8 1))),(2,1,(.const (.int .u8 0))),(3,1,(.tmp 23))]),
  oO 25 (.build [.int .u8 0,.int .u8 0,.int .u8 0,.int .u8 0,.int .u8 0,.int .u8 0,.int .u8 0,.int .u8 0,.int .u8 0] [(0,1,(.const (.int .u8 0))),(1,1,(.const (.int .u8 1))),(2,1,(.const (.int .u8 0))),(3,1,(.const (.int .u8 1)))]),
  oO 26 (.build [.int .u8 0,.int .u8 0,.int .u8 0,.int .u8 0,.int .u8 0,.int .u8 0,.int .u8 0,.int .u8 0,.int .u8 0,.int .u8 0,.int .u8 0,.int .u8 0,.int .u8 0,.int .u8 0,.int .u8 0,.int .u8 0,.int .u8 0,.int .u8 0,.int .u8 0,.int .u8 0,.int .u8 0,.int .u8 0,.int .u8 0,.int .u8 0,.int .u8 0,.int .u8 0,.int .u8 0] [(0,9,(.tmp 22)),(9,9,(.tmp 24)),(18,9,(.tmp 25))]),
  oO 27 (.build [.int .u8 0,.int .u8 0,.int .u8 0,.int .u8 0,.int .u8 0,.int .u8 0,.int .u8 0,.int .u8 0,.int .u8 0] [(0,1,(.const (.int .u8 0))),(1,1,(.const (.int .u8 0))),(2,1,(.const (.int .u8 0))),(3,1,(.const (.int .u8 1)))]),
  oM 28 4,
  oO 29 (.build [.int .u8 0,.int .u8 0,.int .u8 0,.int .u8 0,.int .u8 0,.int .u8 0,.int .u8 0,.int .u8 0,.int .u8 0] [(0,1,(.tmp 28)),(1,1,(.const (.int .u8 0))),(2,1,(.const (.int .u8 1)))]),
  oO 30 (.build [.int .u8 0,.int .u8 0,.int .u8 0,.int .u8 0,.int .u8 0,.int .u8 0,.int .u8 0,.int .u8 0,.int .u8 0] [(0,1,(.const (.int .u8 1))),(1,1,(.const (.int .u8 0))),(2,1,(.const (.int .u8 1)))]),
  oO 31 (.build [.int .u8 0,.int .u8 0,.int .u8 0,.int .u8 0,.int .u8 0,.int .u8 0,.int .u8 0,.int .u8 0,.int .u8 0,.int .u8 0,.int .u8 0,.int .u8 0,.int .u8 0,.int .u8 0,.int .u8 0,.int .u8 0,.int .u8 0,.int .u8 0,.int .u8 0,.int .u8 0,.int .u8 0,.int .u8 0,.int .u8 0,.int .u8 0,.int .u8 0,.int .u8 0,.int .u8 0] [(0,9,(.tmp 27)),(9,9,(.tmp 29)),(18,9,(.tmp 30))]),
  oO 32 (.build [.int .u8 0,.int .u8 0,.int .u8 0,.int .u8 0,.int .u8 0,.int .u8 0,.int .u8 0,.int .u8 0,.int .u8 0] [(0,1,(.const (.int .u8 1))),(1,1,(.const (.int .u8 1)))]),
  oO 33 (.build [.int .u8 0,.int .u8 0,.int .u8 0,.int .u8 0,.int .u8 0,.int .u8 0,.int .u8 0,.int .u8 0,.int .u8 0] [(0,1,(.const (.int .u8 0))),(1,1,(.const (.int .u8 0))),(2,1,(.const (.int .u8 0))),(3,1,(.const (.int .u8 1)))]),
  oM 34 4,
  oO 35 (.build [.int .u8 0,.int .u8 0,.int .u8 0,.int .u8 0,.int .u8 0,.int .u8 0,.int .u8 0,.int .u8 0,.int .u8 0] [(0,1,(.tmp 34)),(1,1,(.const (.int .u8 1)))]),
  oO 36 (.build [.int .u8 0,.int .u8 0,.int .u8 0,.int .u8 0,.int .u8 0,.int .u8 0,.int .u8 0,.int .u8 0,.int .u8 0,.int .u8 0,.int .u8 0,.int .u8 0,.int .u8 0,.int .u8 0,.int .u8 0,.int .u8 0,.int .u8 0,.int .u8 0,.int .u8 0,.int .u8 0,.int .u8 0,.int .u8 0,.int .u8 0,.int .u8 0,.int .u8 0,.int .u8 0,.int .u8 0] [(0,9,(.tmp 32)),(9,9,(.tmp 33)),(18,9,(.tmp 35))]),
  oM 37 4,
  oO 38 (.build [.int .u8 0,.int .u8 0,.int .u8 0,.int .u8 0,.int .u8 0,.int .u8 0,.int .u8 0,.int .u8 0,.int .u8 0] [(0,1,(.tmp 37)),(1,1,(.const (.int .u8 0))),(2,1,(.const (.int .u8 1)))]),
  oO 39 (.build [.int .u8 0,.int .u8 0,.int .u8 0,.int .u8 0,.int .u8 0,.int .u8 0,.int .u8 0,.int .u8 0,.int .u8 0] [(0,1,(.const (.int .u8 1))),(1,1,(.const (.int .u8 1)))]),
  oO 40 (.build [.int .u8 0,.int .u8 0,.int .u8 0,.int .u8 0,.int .u8 0,.int .u8 0,.int .u8 0,.int .u8 0,.int .u8 0] [(0,1,(.const (.int .u8 0))),(1,1,(.const (.int .u8 0))),(2,1,(.const (.int .u8 0))),(3,1,(.const (.int .u8 1)))]),
  oO 41 (.build [.int .u8 0,.int .u8 0,.int .u8 0,.int .u8 0,.int .u8 0,.int .u8 0,.int .u8 0,.int .u8 0,.int .u8 0,.int .u8 0,.int .u8 0,.int .u8 0,.int .u8 0,.int .u8 0,.int .u8 0,.int .u8 0,.int .u8 0,.int .u8 0,.int .u8 0,.int .u8 0,.int .u8 0,.int .u8 0,.int .u8 0,.int .u8 0,.int .u8 0,.int .u8 0,.int .u8 0] [(0,9,(.tmp 38)),(9,9,(.tmp 39)),(18,9,(.tmp 40))]),
  oM 42 4,
  oO 43 (.build [.int .u8 0,.int .u8 0,.int .u8 0,.int .u8 0,.int .u8 0,.int .u8 0,.int .u8 0,.int .u8 0,.int .u8 0] [(0,1,(.const (.int .u8 0))),(1,1,(.const (.int .u8 1))),(2,1,(.const (.int .u8 0))),(3,1,(.tmp 42))]),
  oO 44 (.build [.int .u8 0,.int .u8 0,.int .u8 0,.int .u8 0,.int .u8 0,.int .u8 0,.int .u8 0,.int .u8 0,.int .u8 0] [(0,1,(.const (.int .u8 0))),(1,1,(.const (.int .u8 0))),(2,1,(.const (.int .u8 1))),(3,1,(.const (.int .u8 1)))]),
  oO 45 (.build [.int .u8 0,.int .u8 0,.int .u8 0,.int .u8 0,.int .u8 0,.int .u8 0,.int .u8 0,.int .u8 0,.int .u8 0] [(0,1,(.const (.int .u8 1)))]),
  oO 46 (.build [.int .u8 0,.int .u8 0,.int .u8 0,.int .u8 0,.int .u8 0,.int .u8 0,.int .u8 0,.int .u8 0,.int .u8 0,.int .u8 0,.int .u8 0,.int .u8 0,.int .u8 0,.int .u8 0,.int .u8 0,.int .u8 0,.int .u8 0,.int .u8 0,.int .u8 0,.int .u8 0,.int .u8 0,.int .u8 0,.int .u8 0,.int .u8 0,.int .u8 0,.int .u8 0,.int .u8 0] [(0,9,(.tmp 43)),(9,9,(.tmp 44)),(18,9,(.tmp 45))]),
  oO 47 (.bslice 138 27 7 [.int .u8 0,.int .u8 0,.int .u8 0,.int .u8 0,.int .u8 0,.int .u8 0,.int .u8 0,.int .u8 0,.int .u8 0,.int .u8 0,.int .u8 0,.int .u8 0,.int .u8 0,.int .u8 0,.int .u8 0,.int .u8 0,.int .u8 0,.int .u8 0,.int .u8 0,.int .u8 0,.int .u8 0,.int .u8 0,.int .u8 0,.int .u8 0,.int .u8 0,.int .u8 0,.int .u8 0] [(0,27,(.tmp 16)),(27,27,(.tmp 21)),(54,27,(.tmp 26)),(81,27,(.tmp 31)),(108,27,(.tmp 36)),(135,27,(.tmp 41)),(162,27,(.tmp 46))]),
  oO 48 (.app 138 27 27 (.tmp 12) (.tmp 47)),
  oF 49 4 3,
  oS (.store 1 (.tmp 49) (.tmp 48))])
 (.seq (.reg [oO 50 (.loadn 5 (.tmp 3)),
  oS (.store 5 (.tmp 2) (.tmp 50))])
 .ret)))))⟩
theorem s321:compFn Try.prog Try.f321=some c321:=by kernel_rfl
def c322:XFn:=
 ⟨[.tmp 6],
 (.seq (.reg [oO 5 (.box 136 (.tmp 2)),
  oO 6 (.mv (.const (.bool false)))])
 (.seq (.seq (.reg [oO 9 (.loadn 9 (.tmp 5)),
  oO 10 (.mv (oK 0))])
 (.blk 0 (.loop (.seq (.reg [oO 11 (.bin .lss (.tmp 10) (oK 9))])
 (.seq (.cond (.tmp 11) .skip (.exit 0))
 (.seq (.blk 1 (.seq (.reg [oM 12 10,
  oO 13 (.idx1 9 (.tmp 9) (.tmp 10)),
  oM 7 12,
  oM 8 13])
 (.seq (.reg [oM 14 8,
  oO 15 (.conv .i64 (.tmp 14)),
  oM 16 0,
  oO 17 (.bin .geq (.tmp 15) (.tmp 16)),
  oM 18 17,
  oG 19 (.mv (.tmp 8)) 18 false,
  oG 20 (.bin .neq (.tmp 19) (.const (.int .u8 0))) 18 false,
  oG 21 (.mv (.tmp 20)) 18 false,
  oG 22 (.mv (.tmp 7)) 21 true,
  oG 23 (.mv (.tmp 1)) 21 true,
  oG 24 (.bin .geq (.tmp 22) (.tmp 23)) 21 true,
  oG 25 (.pick (.tmp 21) (.tmp 24) (.const (.bool false))) 18 false,
  oO 26 (.pick (.tmp 18) (.const (.bool true)) (.tmp 25))])
 (.cond (.tmp 26) (.seq (.reg [oO 6 (.mv (.const (.bool false)))])
 .ret) .skip))))
 (.reg [oO 27 (.bin .add (.tmp 10) (oK 1)),
  oM 10 27])))))))
 (.seq (.reg [oO 6 (.mv (.const (.bool true)))])
 .ret)))⟩
theorem s322:compFn Try.prog Try.f322=some c322:=by kernel_rfl
def c323:XFn:=
 ⟨[.tmp 4],
 (.seq (.reg [oO 4 (.mv (.const (.slice none 0 0)))])
 (.seq (.reg [oM 8 0,
  oM 9 1,
  oO 10 (.call (.func 337) [(.tmp 8),(.tmp 9)]),
  oM 5 10])
 (.seq (.seq (.reg [oM 11 5,
  oO 12 (.bin .eql (.tmp 11) (.const (.int .i64 (-1))))])
 (.cond (.tmp 12) (.seq (.reg [oM 13 0,
  oM 4 13])
 .ret) .skip))
 (.seq (.seq (.reg [oM 14 5,
  oO 15 (.bin .add (.tmp 14) (oK 1)),
  oM 6 15])
 (.blk 0 (.loop (.seq (.seq (.reg [oM 16 6,
  oM 17 0,
  oN 18 17,
  oO 19 (.bin .lss (.tmp 16) (.tmp 18))])
 (.cond (.tmp 19) .skip (.exit 0)))
 (.seq (.blk 1 (.seq (.reg [oM 22 0,
  oM 23 6,
  oX 24 27 22 23,
  oO 25 (.loadn 27 (.tmp 24)),
  oO 7 (.alloc 138 [.int .u8 0,.int .u8 0,.int .u8 0,.int .u8 0,.int .u8 0,.int .u8 0,.int .u8 0,.int .u8 0,.int .u8 0,.int .u8 0,.int .u8 0,.int .u8 0,.int .u8 0,.int .u8 0,.int .u8 0,.int .u8 0,.int .u8 0,.int .u8 0,.int .u8 0,.int .u8 0,.int .u8 0,.int .u8 0,.int .u8 0,.int .u8 0,.int .u8 0,.int .u8 0,.int .u8 0]),
  oS (.store 27 (.tmp 7) (.tmp 25))])
 (.seq (.reg [oM 26 1,
  oO 27 (.loadn 27 (.tmp 7)),
  oO 28 (.call (.tmp 26) [(.tmp 27)]),
  oO 29 (.un .not (.tmp 28))])
 (.cond (.tmp 29) (.seq (.reg [oM 30 0,
  oM 31 5,
  oO 32 (.loadn 27 (.tmp 7)),
  oX 33 27 30 31,
  oS (.store 27 (.tmp 33) (.tmp 32))])
 (.reg [oM 34 5,
  oO 35 (.bin .add (.tmp 34) (oK 1)),
  oM 5 35])) .skip))))
 (.reg [oM 20 6,
  oO 21 (.bin .add (.tmp 20) (oK 1)),
  oM 6 21]))))))
 (.seq (.reg [oM 36 0,
  oM 37 5,
  oO 38 (.slc 27 (.tmp 36) (some (.tmp 37)) none),
  oS (.clr 27 [.int .u8 0,.int .u8 0,.int .u8 0,.int .u8 0,.int .u8 0,.int .u8 0,.int .u8 0,.int .u8 0,.int .u8 0,.int .u8 0,.int .u8 0,.int .u8 0,.int .u8 0,.int .u8 0,.int .u8 0,.int .u8 0,.int .u8 0,.int .u8 0,.int .u8 0,.int .u8 0,.int .u8 0,.int .u8 0,.int .u8 0,.int .u8 0,.int .u8 0,.int .u8 0,.int .u8 0] (.tmp 38))])
 (.seq (.reg [oM 39 0,
  oM 40 5,
  oO 41 (.slc 27 (.tmp 39) none (some (.tmp 40))),
  oM 4 41])
 .ret))))))⟩
theorem s323:compFn Try.prog Try.f323=some c323:=by kernel_rfl
def c324:XFn:=
 ⟨[.tmp 6],
 (.seq (.reg [oO 4 (.box 136 (.tmp 1)),
  oO 6 (.mv (.const (.bool false)))])
 (.seq (.seq (.reg [oO 7 (.mv (oK 0))])
 (.blk 0 (.loop (.seq (.seq (.reg [oM 8 7,
  oO 9 (.bin .lss (.tmp 8) (oK 9))])
 (.cond (.tmp 9) .skip (.exit 0)))
 (.seq (.blk 1 (.seq (.reg [oM 12 7,
  oO 13 (.ixa 9 1 (.tmp 4) (.tmp 12)),
  oL 14 13,
  oO 15 (.conv .i64 (.tmp 14)),
  oM 16 0,
  oO 17 (.bin .geq (.tmp 15) (.tmp 16)),
  oM 18 17,
  oG 19 (.mv (.tmp 7)) 18 false,
  oG 20 (.mv (.tmp 2)) 18 false,
  oG 21 (.bin .geq (.tmp 19) (.tmp 20)) 18 false,
  oG 22 (.mv (.tmp 21)) 18 false,
  oG 23 (.mv (.tmp 7)) 22 true,
  oG 24 (.ixa 9 1 (.tmp 4) (.tmp 23)) 22 true,
  oG 25 (.load1 (.tmp 24)) 22 true,
  oG 26 (.bin .neq (.tmp 25) (.const (.int .u8 0))) 22 true,
  oG 27 (.pick (.tmp 22) (.tmp 26) (.const (.bool false))) 18 false,
  oO 28 (.pick (.tmp 18) (.const (.bool true)) (.tmp 27))])
 (.cond (.tmp 28) (.seq (.reg [oO 6 (.mv (.const (.bool false)))])
 .ret) .skip)))
 (.reg [oM 10 7,
  oO 11 (.bin .add (.tmp 10) (oK 1)),
  oM 7 11]))))))
 (.seq (.reg [oO 6 (.mv (.const (.bool true)))])
 .ret)))⟩
theorem s324:compFn Try.prog Try.f324=some c324:=by kernel_rfl
def c325:XFn:=
 ⟨[.tmp 2],
 (.seq (.reg [oO 1 (.box 136 (.tmp 0)),
  oO 2 (.mv (oK 0))])
 (.seq (.seq (.reg [oO 5 (.loadn 9 (.tmp 1)),
  oO 6 (.mv (oK 0))])
 (.blk 0 (.loop (.seq (.reg [oO 7 (.bin .lss (.tmp 6) (oK 9))])
 (.seq (.cond (.tmp 7) .skip (.exit 0))
 (.seq (.blk 1 (.seq (.reg [oO 8 (.idx1 9 (.tmp 5) (.tmp 6)),
  oM 4 8])
 (.seq (.reg [oM 9 4,
  oO 10 (.bin .neq (.tmp 9) (.const (.int .u8 0)))])
 (.cond (.tmp 10) (.seq (.reg [oM 11 4,
  oO 12 (.conv .i64 (.tmp 11)),
  oM 2 12])
 .ret) .skip))))
 (.reg [oO 13 (.bin .add (.tmp 6) (oK 1)),
  oM 6 13])))))))
 (.seq (.reg [oO 2 (.mv (oK 0))])
 .ret)))⟩
theorem s325:compFn Try.prog Try.f325=some c325:=by kernel_rfl
def c326:XFn:=
 ⟨[.celln 6 9],
 (.seq (.reg [oO 4 (.box 136 (.tmp 1)),
  oO 6 (.alloc 136 [.int .u8 0,.int .u8 0,.int .u8 0,.int .u8 0,.int .u8 0,.int .u8 0,.int .u8 0,.int .u8 0,.int .u8 0])])
 (.seq (.reg [oM 7 0,
  oO 8 (.build [.int .u8 0,.int .u8 0,.int .u8 0,.int .u8 0,.int .u8 0,.int .u8 0,.int .u8 0,.int .u8 0,.int .u8 0] []),
  oO 9 (.loadn 9 (.tmp 4)),
  oM 10 2,
  oO 11 (.call (.func 272) [(.tmp 7),(.tmp 8),(.tmp 9),(.tmp 10)]),
  oS (.store 9 (.tmp 6) (.tmp 11))])
 .ret))⟩
theorem s326:compFn Try.prog Try.f326=some c326:=by kernel_rfl
def c327:XFn:=
 ⟨[.tmp 6],
 (.seq (.reg [oO 4 (.box 136 (.tmp 1)),
  oO 5 (.box 136 (.tmp 2)),
  oO 6 (.mv (oK 0))])
 (.seq (.seq (.reg [oO 7 (.mv (oK 1))])
 (.blk 0 (.loop (.seq (.seq (.reg [oM 8 7,
  oM 9 0,
  oO 10 (.bin .lss (.tmp 8) (.tmp 9))])
 (.cond (.tmp 10) .skip (.exit 0)))
 (.seq (.blk 1 (.seq (.reg [oM 13 0,
  oO 14 (.loadn 9 (.tmp 4)),
  oM 15 7,
  ⟨some 16,.call (.func 326) [(.tmp 13),(.tmp 14),(.tmp 15)],none,.t⟩,
  oO 17 (.loadn 9 (.tmp 5)),
  oO 18 (.eqa false 9 (.tmp 16) (.tmp 17))])
 (.cond (.tmp 18) (.seq (.reg [oM 19 7,
  oM 6 19])
 .ret) .skip)))
 (.reg [oM 11 7,
  oO 12 (.bin .add (.tmp 11) (oK 1)),
  oM 7 12]))))))
 (.seq (.reg [oO 6 (.mv (oK 0))])
 .ret)))⟩
theorem s327:compFn Try.prog Try.f327=some c327:=by kernel_rfl
def c328:XFn:=
 ⟨[.tmp 2],
 (.seq (.reg [oO 2 (.mv (.const (.slice none 0 0)))])
 (.seq (.reg [oO 3 (.mv (oK 0))])
 (.seq (.seq (.reg [oM 9 0,
  oN 10 9,
  oO 11 (.mv (oK 0))])
 (.blk 0 (.loop (.seq (.reg [oO 12 (.bin .lss (.tmp 11) (.tmp 10))])
 (.seq (.cond (.tmp 12) .skip (.exit 0))
 (.seq (.blk 1 (.seq (.reg [oX 13 1 9 11,
  oL 14 13,
  oM 5 14])
 (.seq (.reg [oM 15 3,
  oM 16 5,
  oN 17 16,
  oO 18 (.bin .add (.tmp 15) (.tmp 17)),
  oM 3 18])
 (.seq (.reg [oM 19 3,
  oO 20 (.bin .lss (.tmp 19) (oK 0))])
 (.cond (.tmp 20) (.reg [oO 21 (.fail),
  oS (.fail)]) .skip)))))
 (.reg [oO 22 (.bin .add (.tmp 11) (oK 1)),
  oM 11 22])))))))
 (.seq (.reg [oM 23 3,
  oO 24 (.call (.func 338) [(.const (.slice none 0 0)),(.tmp 23)]),
  oM 6 24])
 (.seq (.seq (.reg [oM 25 0,
  oN 26 25,
  oO 27 (.mv (oK 0))])
 (.blk 2 (.loop (.seq (.reg [oO 28 (.bin .lss (.tmp 27) (.tmp 26))])
 (.seq (.cond (.tmp 28) .skip (.exit 2))
 (.seq (.blk 3 (.seq (.reg [oX 29 1 25 27,
  oL 30 29,
  oM 8 30])
 (.reg [oM 31 6,
  oM 32 8,
  oO 33 (.app 138 27 27 (.tmp 31) (.tmp 32)),
  oM 6 33])))
 (.reg [oO 34 (.bin .add (.tmp 27) (oK 1)),
  oM 27 34])))))))
 (.seq (.reg [oM 35 6,
  oM 2 35])
 .ret))))))⟩
theorem s328:compFn Try.prog Try.f328=some c328:=by kernel_rfl
def c329:XFn:=
 ⟨[.tmp 2],
 (.seq (.reg [oO 2 (.mv (oK 0))])
 (.seq (.reg [oM 3 0,
  oO 4 (.bin .shr (.tmp 3) (.const (.int .u64 24))),
  oO 5 (.idxs [0,1,1,2,1,2,2,3,1,2,2,3,2,3,3,4,1,2,2,3,2,3,3,4,2,3,3,4,3,4,4,5,1,2,2,3,2,3,3,4,2,3,3,4,3,4,4,5,2,3,3,4,3,4,4,5,3,4,4,5,4,5,5,6,1,2,2,3,2,3,3,4,2,3,3,4,3,4,4,5,2,3,3,4,3,4,4,5,3,4,4,5,4,5,5,6,2,3,3,4,3,4,4,5,3,4,4,5,4,5,5,6,3,4,4,5,4,5,5,6,4,5,5,6,5,6,6,7,1,2,2,3,2,3,3,4,2,3,3,4,3,4,4,5,2,3,3,4,3,4,4,5,3,4,4,5,4,5,5,6,2,3,3,4,3,4,4,5,3,4,4,5,4,5,5,6,3,4,4,5,4,5,5,6,4,5,5,6,5,6,6,7,2,3,3,4,3,4,4,5,3,4,4,5,4,5,5,6,3,4,4,5,4,5,5,6,4,5,5,6,5,6,6,7,3,4,4,5,4,5,5,6,4,5,5,6,5,6,6,7,4,5,5,6,5,6,6,7,5,6,6,7,6,7,7,8] (.tmp 4)),
  oM 6 0,
  oO 7 (.bin .shr (.tmp 6) (.const (.int .u64 16))),
  oO 8 (.bin .and (.tmp 7) (.const (.int .u32 255))),
  oO 9 (.idxs [0,1,1,2,1,2,2,3,1,2,2,3,2,3,3,4,1,2,2,3,2,3,3,4,2,3,3,4,3,4,4,5,1,2,2,3,2,3,3,4,2,3,3,4,3,4,4,5,2,3,3,4,3,4,4,5,3,4,4,5,4,5,5,6,1,2,2,3,2,3,3,4,2,3,3,4,3,4,4,5,2,3,3,4,3,4,4,5,3,4,4,5,4,5,5,6,2,3,3,4,3,4,4,5,3,4,4,5,4,5,5,6,3,4,4,5,4,5,5,6,4,5,5,6,5,6,6,7,1,2,2,3,2,3,3,4,2,3,3,4,3,4,4,5,2,3,3,4,3,4,4,5,3,4,4,5,4,5,5,6,2,3,3,4,3,4,4,5,3,4,4,5,4,5,5,6,3,4,4,5,4,5,5,6,4,5,5,6,5,6,6,7,2,3,3,4,3,4,4,5,3,4,4,5,4,5,5,6,3,4,4,5,4,5,5,6,4,5,5,6,5,6,6,7,3,4,4,5,4,5,5,6,4,5,5,6,5,6,6,7,4,5,5,6,5,6,6,7,5,6,6,7,6,7,7,8] (.tmp 8)),
  oO 10 (.bin .add (.tmp 5) (.tmp 9)),
  oM 11 0,
  oO 12 (.bin .shr (.tmp 11) (.const (.int .u64 8))),
  oO 13 (.bin .and (.tmp 12) (.const (.int .u32 255))),
  oO 14 (.idxs [0,1,1,2,1,2,2,3,1,2,2,3,2,3,3,4,1,2,2,3,2,3,3,4,2,3,3,4,3,4,4,5,1,2,2,3,2,3,3,4,2,3,3,4,3,4,4,5,2,3,3,4,3,4,4,5,3,4,4,5,4,5,5,6,1,2,2,3,2,3,3,4,2,3,3,4,3,4,4,5,2,3,3,4,3,4,4,5,3,4,4,5,4,5,5,6,2,3,3,4,3,4,4,5,3,4,4,5,4,5,5,6,3,4,4,5,4,5,5,6,4,5,5,6,5,6,6,7,1,2,2,3,2,3,3,4,2,3,3,4,3,4,4,5,2,3,3,4,3,4,4,5,3,4,4,5,4,5,5,6,2,3,3,4,3,4,4,5,3,4,4,5,4,5,5,6,3,4,4,5,4,5,5,6,4,5,5,6,5,6,6,7,2,3,3,4,3,4,4,5,3,4,4,5,4,5,5,6,3,4,4,5,4,5,5,6,4,5,5,6,5,6,6,7,3,4,4,5,4,5,5,6,4,5,5,6,5,6,6,7,4,5,5,6,5,6,6,7,5,6,6,7,6,7,7,8] (.tmp 13)),
  oO 15 (.bin .add (.tmp 10) (.tmp 14)),
  oM 16 0,
  oO 17 (.bin .and (.tmp 16) (.const (.int .u32 255))),
  oO 18 (.idxs [0,1,1,2,1,2,2,3,1,2,2,3,2,3,3,4,1,2,2,3,2,3,3,4,2,3,3,4,3,4,4,5,1,2,2,3,2,3,3,4,2,3,3,4,3,4,4,5,2,3,3,4,3,4,4,5,3,4,4,5,4,5,5,6,1,2,2,3,2,3,3,4,2,3,3,4,3,4,4,5,2,3,3,4,3,4,4,5,3,4,4,5,4,5,5,6,2,3,3,4,3,4,4,5,3,4,4,5,4,5,5,6,3,4,4,5,4,5,5,6,4,5,5,6,5,6,6,7,1,2,2,3,2,3,3,4,2,3,3,4,3,4,4,5,2,3,3,4,3,4,4,5,3,4,4,5,4,5,5,6,2,3,3,4,3,4,4,5,3,4,4,5,4,5,5,6,3,4,4,5,4,5,5,6,4,5,5,6,5,6,6,7,2,3,3,4,3,4,4,5,3,4,4,5,4,5,5,6,3,4,4,5,4,5,5,6,4,5,5,6,5,6,6,7,3,4,4,5,4,5,5,6,4,5,5,6,5,6,6,7,4,5,5,6,5,6,6,7,5,6,6,7,6,7,7,8] (.tmp 17)),
  oO 19 (.bin .add (.tmp 15) (.tmp 18)),
  oO 20 (.conv .i64 (.tmp 19)),
  oM 2 20])
 .ret))⟩
theorem s329:compFn Try.prog Try.f329=some c329:=by kernel_rfl
def c334:XFn:=
 ⟨[.celln 6 9],
 (.seq (.reg [oO 6 (.alloc 136 [.int .u8 0,.int .u8 0,.int .u8 0,.int .u8 0,.int .u8 0,.int .u8 0,.int .u8 0,.int .u8 0,.int .u8 0])])
 (.seq (.reg [oO 9 (.build [.int .u8 0,.int .u8 0,.int .u8 0,.int .u8 0,.int .u8 0,.int .u8 0,.int .u8 0,.int .u8 0,.int .u8 0] []),
  oO 7 (.alloc 136 [.int .u8 0,.int .u8 0,.int .u8 0,.int .u8 0,.int .u8 0,.int .u8 0,.int .u8 0,.int .u8 0,.int .u8 0]),
  oS (.store 9 (.tmp 7) (.tmp 9))])
 (.seq (.seq (.reg [oO 8 (.mv (oK 0))])
 (.blk 0 (.loop (.seq (.seq (.reg [oM 10 8,
  oM 11 2,
  oO 12 (.bin .lss (.tmp 10) (.tmp 11))])
 (.cond (.tmp 12) .skip (.exit 0)))
 (.seq (.blk 1 (.seq (.reg [oM 15 0,
  oO 16 (.call (.func 148) [(.tmp 15),(oK 2)]),
  oO 17 (.bin .eql (.tmp 16) (oK 0))])
 (.cond (.tmp 17) (.reg [oM 18 8,
  oM 19 0,
  oM 20 1,
  oO 21 (.call (.func 148) [(.tmp 19),(.tmp 20)]),
  oO 22 (.conv .u8 (.tmp 21)),
  oO 23 (.ixa 9 1 (.tmp 7) (.tmp 18)),
  oS (.store 1 (.tmp 23) (.tmp 22))]) .skip)))
 (.reg [oM 13 8,
  oO 14 (.bin .add (.tmp 13) (oK 1)),
  oM 8 14]))))))
 (.seq (.seq (.reg [oO 24 (.loadn 9 (.tmp 7)),
  oO 25 (.call (.func 278) [(.tmp 24)])])
 (.cond (.tmp 25) (.reg [oM 26 0,
  oM 27 2,
  oO 28 (.call (.func 148) [(.tmp 26),(.tmp 27)]),
  oM 29 0,
  oM 30 1,
  oO 31 (.bin .sub (.tmp 30) (oK 1)),
  oO 32 (.call (.func 148) [(.tmp 29),(.tmp 31)]),
  oO 33 (.bin .add (oK 1) (.tmp 32)),
  oO 34 (.conv .u8 (.tmp 33)),
  oO 35 (.ixa 9 1 (.tmp 7) (.tmp 28)),
  oS (.store 1 (.tmp 35) (.tmp 34))]) .skip))
 (.seq (.reg [oO 36 (.loadn 9 (.tmp 7)),
  oS (.store 9 (.tmp 6) (.tmp 36))])
 .ret)))))⟩
theorem s334:compFn Try.prog Try.f334=some c334:=by kernel_rfl
def c337:XFn:=
 ⟨[.tmp 4],
 (.seq (.reg [oO 4 (.mv (oK 0))])
 (.seq (.seq (.reg [oM 6 0,
  oN 7 6,
  oO 8 (.mv (oK 0))])
 (.blk 0 (.loop (.seq (.reg [oO 9 (.bin .lss (.tmp 8) (.tmp 7))])
 (.seq (.cond (.tmp 9) .skip (.exit 0))
 (.seq (.blk 1 (.seq (.reg [oM 10 8,
  oM 5 10])
 (.seq (.reg [oM 11 1,
  oM 12 0,
  oM 13 5,
  oX 14 27 12 13,
  oO 15 (.loadn 27 (.tmp 14)),
  oO 16 (.call (.tmp 11) [(.tmp 15)])])
 (.cond (.tmp 16) (.seq (.reg [oM 17 5,
  oM 4 17])
 .ret) .skip))))
 (.reg [oO 18 (.bin .add (.tmp 8) (oK 1)),
  oM 8 18])))))))
 (.seq (.reg [oO 4 (.mv (.const (.int .i64 (-1))))])
 .ret)))⟩
theorem s337:compFn Try.prog Try.f337=some c337:=by kernel_rfl
def c338:XFn:=
 ⟨[.tmp 4],
 (.seq (.reg [oO 4 (.mv (.const (.slice none 0 0)))])
 (.seq (.seq (.reg [oM 5 1,
  oO 6 (.bin .lss (.tmp 5) (oK 0))])
 (.cond (.tmp 6) (.reg [oO 7 (.fail),
  oS (.fail)]) .skip))
 (.seq (.seq (.reg [oM 8 1,
  oM 9 0,
  oO 10 (.cap (.tmp 9)),
  oM 11 0,
  oN 12 11,
  oO 13 (.bin .sub (.tmp 10) (.tmp 12)),
  oO 14 (.bin .sub (.tmp 8) (.tmp 13)),
  oM 1 14])
 (.seq (.reg [oM 15 1,
  oO 16 (.bin .gtr (.tmp 15) (oK 0))])
 (.cond (.tmp 16) (.reg [oM 17 0,
  oM 18 0,
  oO 19 (.cap (.tmp 18)),
  oO 20 (.slc 27 (.tmp 17) none (some (.tmp 19))),
  oM 21 1,
  oO 22 (.appz 138 27 27 (.tmp 20) (.tmp 21)),
  oM 23 0,
  oN 24 23,
  oO 25 (.slc 27 (.tmp 22) none (some (.tmp 24))),
  oM 0 25]) .skip)))
 (.seq (.reg [oM 26 0,
  oM 4 26])
 .ret))))⟩
theorem s338:compFn Try.prog Try.f338=some c338:=by kernel_rfl
def tab3:List (Nat×XFn):=[(300,c300),(303,c303),(305,c305),(310,c310),(314,c314),(320,c320),(321,c321),(322,c322),(323,c323),(324,c324),(325,c325),(326,c326),(327,c327),(328,c328),(329,c329),(334,c334),(337,c337),(338,c338)]
theorem ts3:TSound Try.prog (fun g=>tab3.lookup g):=by
 refine tsound_of_all (P:=Try.prog) (tab:=tab3) ?_
 intro p hp
 simp only[tab3,List.mem_cons,List.not_mem_nil,or_false] at hp
 rcases hp with rfl|rfl|rfl|rfl|rfl|rfl|rfl|rfl|rfl|rfl|rfl|rfl|rfl|rfl|rfl|rfl|rfl|rfl
 ·exact⟨_,Try.func300,s300⟩
 ·exact⟨_,Try.func303,s303⟩
 ·exact⟨_,Try.func305,s305⟩
 ·exact⟨_,Try.func310,s310⟩
 ·exact⟨_,Try.func314,s314⟩
 ·exact⟨_,Try.func320,s320⟩
 ·exact⟨_,Try.func321,s321⟩
 ·exact⟨_,Try.func322,s322⟩
 ·exact⟨_,Try.func323,s323⟩
 ·exact⟨_,Try.func324,s324⟩
 ·exact⟨_,Try.func325,s325⟩
 ·exact⟨_,Try.func326,s326⟩
 ·exact⟨_,Try.func327,s327⟩
 ·exact⟨_,Try.func328,s328⟩
 ·exact⟨_,Try.func329,s329⟩
 ·exact⟨_,Try.func334,s334⟩
 ·exact⟨_,Try.func337,s337⟩
 ·exact⟨_,Try.func338,s338⟩
end Go.Proofs.Ytapafdpnmakekaa.X
