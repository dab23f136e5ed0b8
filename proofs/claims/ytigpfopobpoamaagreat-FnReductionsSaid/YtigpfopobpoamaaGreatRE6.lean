/- Texts of one claim, put together by merge.py: XCode3. -/
import Derived.Test.YtigpfopobpoamaaGreatRE3
import Derived.Test.YtigpfopobpoamaaGreatProg
set_option linter.unusedVariables false
set_option maxRecDepth 4000
namespace Go.Proofs.YtigpfopobpoamaaGreat.X
open Go Go.RowKit
def c78:XFn:=
 ⟨[.tmp 7],
 (.seq (.reg [oO 7 (.mv (oK 0))])
 (.seq (.reg [oO 8 (.loadn 5 (.tmp 3)),
  oM 9 0,
  oM 10 1,
  oM 11 2,
  oO 12 (.call (.func 79) [(.tmp 8),(.tmp 9),(.tmp 10),(.tmp 11)]),
  oM 7 12])
 .ret))⟩
theorem s78:compFn Tryz.prog Tryz.f78=some c78:=by kernel_rfl
def c79:XFn:=
 ⟨[.tmp 8],
 (.seq (.reg [oO 4 (.box 26 (.tmp 0)),
  oO 8 (.mv (oK 0))])
 (.seq (.reg [oO 9 (.mv (oK 0))])
 (.seq (.seq (.reg [oF 12 4 4,
  oL 13 12,
  oN 14 13,
  oO 15 (.mv (oK 0))])
 (.blk 0 (.loop (.seq (.reg [oO 16 (.bin .lss (.tmp 15) (.tmp 14))])
 (.seq (.cond (.tmp 16) .skip (.exit 0))
 (.seq (.blk 1 (.seq (.reg [oX 17 27 13 15,
  oO 18 (.loadn 27 (.tmp 17)),
  oO 11 (.alloc 53 [.int .u8 0,.int .u8 0,.int .u8 0,.int .u8 0,.int .u8 0,.int .u8 0,.int .u8 0,.int .u8 0,.int .u8 0,.int .u8 0,.int .u8 0,.int .u8 0,.int .u8 0,.int .u8 0,.int .u8 0,.int .u8 0,.int .u8 0,.int .u8 0,.int .u8 0,.int .u8 0,.int .u8 0,.int .u8 0,.int .u8 0,.int .u8 0,.int .u8 0,.int .u8 0,.int .u8 0]),
  oS (.store 27 (.tmp 11) (.tmp 18))])
 (.reg [oM 19 9,
  oM 20 1,
  oF 21 0 11,
  oO 22 (.ixa 9 1 (.tmp 21) (.tmp 20)),
  oL 23 22,
  oO 24 (.conv .i64 (.tmp 23)),
  oM 25 2,
  oF 26 9 11,
  oO 27 (.ixa 9 1 (.tmp 26) (.tmp 25)),
  oL 28 27,
  oO 29 (.conv .i64 (.tmp 28)),
  oO 30 (.bin .mul (.tmp 24) (.tmp 29)),
  oM 31 3,
  oF 32 18 11,
  oO 33 (.ixa 9 1 (.tmp 32) (.tmp 31)),
  oL 34 33,
  oO 35 (.conv .i64 (.tmp 34)),
  oO 36 (.bin .mul (.tmp 30) (.tmp 35)),
  oO 37 (.bin .add (.tmp 19) (.tmp 36)),
  oM 9 37])))
 (.reg [oO 38 (.bin .add (.tmp 15) (oK 1)),
  oM 15 38])))))))
 (.seq (.reg [oM 39 9,
  oF 40 0 4,
  oL 41 40,
  oO 42 (.bin .rem (.tmp 39) (.tmp 41)),
  oM 8 42])
 .ret))))⟩
theorem s79:compFn Tryz.prog Tryz.f79=some c79:=by kernel_rfl
def c80:XFn:=
 ⟨[.tmp 4],
 (.seq (.reg [oO 4 (.mv (oK 0))])
 (.seq (.reg [oM 5 1,
  oM 6 0,
  oM 7 1,
  oN 8 7,
  oO 9 (.call (.func 26) [(.tmp 6),(.tmp 8)]),
  oX 10 1 5 9,
  oL 11 10,
  oM 4 11])
 .ret))⟩
theorem s80:compFn Tryz.prog Tryz.f80=some c80:=by kernel_rfl
def c81:XFn:=
 ⟨[.tmp 4],
 (.seq (.reg [oO 4 (.mv (oK 0))])
 (.seq (.reg [oM 5 1,
  oM 6 0,
  oO 7 (.bin .rem (.tmp 5) (.tmp 6)),
  oM 8 0,
  oO 9 (.bin .add (.tmp 7) (.tmp 8)),
  oM 10 0,
  oO 11 (.bin .rem (.tmp 9) (.tmp 10)),
  oM 4 11])
 .ret))⟩
theorem s81:compFn Tryz.prog Tryz.f81=some c81:=by kernel_rfl
def c82:XFn:=
 ⟨[.celln 2 5],
 (.seq (.reg [oO 1 (.box 26 (.tmp 0)),
  oO 2 (.alloc 26 [.int .i64 0,.int .i64 0,.int .i64 0,.int .i64 0,.slice none 0 0])])
 (.seq (.reg [oF 3 0 1,
  oL 4 3,
  oF 5 1 1,
  oL 6 5,
  oF 7 2 1,
  oL 8 7,
  oF 9 3 1,
  oL 10 9,
  oO 11 (.mkz),
  oO 12 (.build [.int .i64 0,.int .i64 0,.int .i64 0,.int .i64 0,.slice none 0 0] [(0,1,(.tmp 4)),(1,1,(.tmp 6)),(2,1,(.tmp 8)),(3,1,(.tmp 10)),(4,1,(.tmp 11))]),
  oS (.store 5 (.tmp 2) (.tmp 12))])
 .ret))⟩
theorem s82:compFn Tryz.prog Tryz.f82=some c82:=by kernel_rfl
def c83:XFn:=
 ⟨[.tmp 4],
 (.seq (.reg [oO 4 (.mv (.const (.slice none 0 0)))])
 (.seq (.reg [oM 8 0,
  oM 9 1,
  oO 10 (.call (.func 101) [(.tmp 8),(.tmp 9)]),
  oM 5 10])
 (.seq (.seq (.reg [oM 11 5,
  oO 12 (.bin .eql (.tmp 11) (.const (.int .i64 (-1))))])
 (.cond (.tmp 12) (.seq (.reg [oM 13 0,
  oM 4 13])
 .ret) .skip))
 (.seq (.seq (.reg [oM 14 5,
  oO 15 (.bin .add (.tmp 14) (oK 1)),
  oM 6 15])
 (.blk 0 (.loop (.seq (.seq (.reg [oM 16 6,
  oM 17 0,
  oN 18 17,
  oO 19 (.bin .lss (.tmp 16) (.tmp 18))])
 (.cond (.tmp 19) .skip (.exit 0)))
 (.seq (.blk 1 (.seq (.reg [oM 22 0,
  oM 23 6,
  oX 24 27 22 23,
  oO 25 (.loadn 27 (.tmp 24)),
  oO 7 (.alloc 53 [.int .u8 0,.int .u8 0,.int .u8 0,.int .u8 0,.int .u8 0,.int .u8 0,.int .u8 0,.int .u8 0,.int .u8 0,.int .u8 0,.int .u8 0,.int .u8 0,.int .u8 0,.int .u8 0,.int .u8 0,.int .u8 0,.int .u8 0,.int .u8 0,.int .u8 0,.int .u8 0,.int .u8 0,.int .u8 0,.int .u8 0,.int .u8 0,.int .u8 0,.int .u8 0,.int .u8 0]),
  oS (.store 27 (.tmp 7) (.tmp 25))])
 (.seq (.reg [oM 26 1,
  oO 27 (.loadn 27 (.tmp 7)),
  oO 28 (.call (.tmp 26) [(.tmp 27)]),
  oO 29 (.un .not (.tmp 28))])
 (.cond (.tmp 29) (.seq (.reg [oM 30 0,
  oM 31 5,
  oO 32 (.loadn 27 (.tmp 7)),
  oX 33 27 30 31,
  oS (.store 27 (.tmp 33) (.tmp 32))])
 (.reg [oM 34 5,
  oO 35 (.bin .add (.tmp 34) (oK 1)),
  oM 5 35])) .skip))))
 (.reg [oM 20 6,
  oO 21 (.bin .add (.tmp 20) (oK 1)),
  oM 6 21]))))))
 (.seq (.reg [oM 36 0,
  oM 37 5,
  oO 38 (.slc 27 (.tmp 36) (some (.tmp 37)) none),
  oS (.clr 27 [.int .u8 0,.int .u8 0,.int .u8 0,.int .u8 0,.int .u8 0,.int .u8 0,.int .u8 0,.int .u8 0,.int .u8 0,.int .u8 0,.int .u8 0,.int .u8 0,.int .u8 0,.int .u8 0,.int .u8 0,.int .u8 0,.int .u8 0,.int .u8 0,.int .u8 0,.int .u8 0,.int .u8 0,.int .u8 0,.int .u8 0,.int .u8 0,.int .u8 0,.int .u8 0,.int .u8 0] (.tmp 38))])
 (.seq (.reg [oM 39 0,
  oM 40 5,
  oO 41 (.slc 27 (.tmp 39) none (some (.tmp 40))),
  oM 4 41])
 .ret))))))⟩
theorem s83:compFn Tryz.prog Tryz.f83=some c83:=by kernel_rfl
def c84:XFn:=
 ⟨[.tmp 2],
 (.seq (.reg [oO 1 (.box 26 (.tmp 0)),
  oO 2 (.mv (.const (.slice none 0 0)))])
 (.seq (.reg [oO 7 (.bslice 56 1 0 [.slice none 0 0] []),
  oM 3 7])
 (.seq (.seq (.reg [oO 4 (.mv (oK 0))])
 (.blk 0 (.loop (.seq (.seq (.reg [oM 8 4,
  oF 9 4 1,
  oL 10 9,
  oN 11 10,
  oO 12 (.bin .lss (.tmp 8) (.tmp 11))])
 (.cond (.tmp 12) .skip (.exit 0)))
 (.seq (.blk 1 (.seq (.reg [oO 5 (.mv (oK 0))])
 (.blk 2 (.loop (.seq (.seq (.reg [oM 15 5,
  oF 16 4 1,
  oL 17 16,
  oN 18 17,
  oO 19 (.bin .lss (.tmp 15) (.tmp 18))])
 (.cond (.tmp 19) .skip (.exit 2)))
 (.seq (.blk 3 (.seq (.reg [oO 6 (.mv (oK 0))])
 (.blk 4 (.loop (.seq (.seq (.reg [oM 22 6,
  oO 23 (.bin .lss (.tmp 22) (oK 3)),
  oM 24 23,
  oG 25 (.mv (.tmp 4)) 24 true,
  oG 26 (.mv (.tmp 5)) 24 true,
  oG 27 (.bin .neq (.tmp 25) (.tmp 26)) 24 true,
  oO 28 (.pick (.tmp 24) (.tmp 27) (.const (.bool false)))])
 (.cond (.tmp 28) .skip (.exit 4)))
 (.seq (.blk 5 (.seq (.reg [oF 31 4 1,
  oL 32 31,
  oM 33 4,
  oX 34 27 32 33,
  oO 35 (.loadn 27 (.tmp 34)),
  oM 36 6,
  ⟨some 37,.call (.func 40) [(.tmp 35),(.tmp 36)],none,.t⟩,
  oF 38 4 1,
  oL 39 38,
  oM 40 5,
  oX 41 27 39 40,
  oO 42 (.loadn 27 (.tmp 41)),
  oM 43 6,
  oO 44 (.call (.func 40) [(.tmp 42),(.tmp 43)]),
  oO 45 (.eqa false 9 (.tmp 37) (.tmp 44))])
 (.cond (.tmp 45) (.reg [oM 46 3,
  oM 47 4,
  oM 48 5,
  oM 49 6,
  oO 50 (.bslice 2 1 3 [.int .i64 0] [(0,1,(.tmp 47)),(1,1,(.tmp 48)),(2,1,(.tmp 49))]),
  oO 51 (.bslice 56 1 1 [.slice none 0 0] [(0,1,(.tmp 50))]),
  oO 52 (.app 56 1 24 (.tmp 46) (.tmp 51)),
  oM 3 52]) .skip)))
 (.reg [oM 29 6,
  oO 30 (.bin .add (.tmp 29) (oK 1)),
  oM 6 30])))))))
 (.reg [oM 20 5,
  oO 21 (.bin .add (.tmp 20) (oK 1)),
  oM 5 21])))))))
 (.reg [oM 13 4,
  oO 14 (.bin .add (.tmp 13) (oK 1)),
  oM 4 14]))))))
 (.seq (.reg [oM 53 3,
  oM 2 53])
 .ret))))⟩
theorem s84:compFn Tryz.prog Tryz.f84=some c84:=by kernel_rfl
def c85:XFn:=
 ⟨[.celln 10 5],
 (.seq (.reg [oO 5 (.box 26 (.tmp 0)),
  oO 10 (.alloc 26 [.int .i64 0,.int .i64 0,.int .i64 0,.int .i64 0,.slice none 0 0])])
 (.seq (.reg [oO 16 (.bslice 53 27 0 [.int .u8 0,.int .u8 0,.int .u8 0,.int .u8 0,.int .u8 0,.int .u8 0,.int .u8 0,.int .u8 0,.int .u8 0,.int .u8 0,.int .u8 0,.int .u8 0,.int .u8 0,.int .u8 0,.int .u8 0,.int .u8 0,.int .u8 0,.int .u8 0,.int .u8 0,.int .u8 0,.int .u8 0,.int .u8 0,.int .u8 0,.int .u8 0,.int .u8 0,.int .u8 0,.int .u8 0] []),
  oF 17 4 5,
  oL 18 17,
  oO 19 (.app 53 27 27 (.tmp 16) (.tmp 18)),
  oM 11 19])
 (.seq (.reg [oM 20 3,
  oO 21 (.bin .add (.tmp 20) (oK 1)),
  oO 22 (.bin .rem (.tmp 21) (oK 3)),
  oM 23 3,
  oO 24 (.bin .add (.tmp 23) (oK 2)),
  oO 25 (.bin .rem (.tmp 24) (oK 3)),
  oM 12 22,
  oM 13 25])
 (.seq (.reg [oM 26 11,
  oM 27 1,
  oX 28 27 26 27,
  oO 29 (.loadn 27 (.tmp 28)),
  oM 30 11,
  oM 31 2,
  oX 32 27 30 31,
  oO 33 (.loadn 27 (.tmp 32)),
  oO 14 (.boxn 53 27 (.tmp 29)),
  oO 15 (.boxn 53 27 (.tmp 33))])
 (.seq (.reg [oM 34 11,
  oM 35 1,
  oO 36 (.loadn 27 (.tmp 14)),
  oM 37 12,
  oF 38 0 5,
  oL 39 38,
  oO 40 (.loadn 27 (.tmp 14)),
  oM 41 12,
  ⟨some 42,.call (.func 40) [(.tmp 40),(.tmp 41)],none,.t⟩,
  oO 43 (.loadn 27 (.tmp 15)),
  oM 44 12,
  ⟨some 45,.call (.func 40) [(.tmp 43),(.tmp 44)],none,.t⟩,
  oM 46 4,
  ⟨some 47,.call (.func 51) [(.tmp 39),(.tmp 42),(.tmp 45),(.tmp 46)],none,.t⟩,
  oO 48 (.call (.func 50) [(.tmp 36),(.tmp 37),(.tmp 47)]),
  oX 49 27 34 35,
  oS (.store 27 (.tmp 49) (.tmp 48))])
 (.seq (.reg [oM 50 11,
  oM 51 2,
  oO 52 (.loadn 27 (.tmp 15)),
  oM 53 13,
  oF 54 0 5,
  oL 55 54,
  oO 56 (.loadn 27 (.tmp 15)),
  oM 57 13,
  ⟨some 58,.call (.func 40) [(.tmp 56),(.tmp 57)],none,.t⟩,
  oO 59 (.loadn 27 (.tmp 14)),
  oM 60 13,
  ⟨some 61,.call (.func 40) [(.tmp 59),(.tmp 60)],none,.t⟩,
  oM 62 4,
  oO 63 (.un .neg (.tmp 62)),
  ⟨some 64,.call (.func 51) [(.tmp 55),(.tmp 58),(.tmp 61),(.tmp 63)],none,.t⟩,
  oO 65 (.call (.func 50) [(.tmp 52),(.tmp 53),(.tmp 64)]),
  oX 66 27 50 51,
  oS (.store 27 (.tmp 66) (.tmp 65))])
 (.seq (.reg [oO 67 (.loadn 5 (.tmp 5)),
  oM 68 11,
  oO 69 (.call (.func 52) [(.tmp 67),(.tmp 68)]),
  oS (.store 5 (.tmp 10) (.tmp 69))])
 .ret)))))))⟩
theorem s85:compFn Tryz.prog Tryz.f85=some c85:=by kernel_rfl
def c86:XFn:=
 ⟨[.celln 4 27],
 (.seq (.reg [oO 3 (.box 26 (.tmp 1)),
  oO 4 (.alloc 53 [.int .u8 0,.int .u8 0,.int .u8 0,.int .u8 0,.int .u8 0,.int .u8 0,.int .u8 0,.int .u8 0,.int .u8 0,.int .u8 0,.int .u8 0,.int .u8 0,.int .u8 0,.int .u8 0,.int .u8 0,.int .u8 0,.int .u8 0,.int .u8 0,.int .u8 0,.int .u8 0,.int .u8 0,.int .u8 0,.int .u8 0,.int .u8 0,.int .u8 0,.int .u8 0,.int .u8 0])])
 (.seq (.reg [oO 9 (.loadn 5 (.tmp 3)),
  oO 10 (.call (.func 60) [(.tmp 9)]),
  oM 8 10,
  oE 11 8 0,
  oE 12 8 1,
  oE 13 8 2,
  oM 5 11,
  oM 6 12,
  oM 7 13])
 (.seq (.reg [oM 14 0,
  oF 15 0 3,
  oL 16 15,
  oM 17 5,
  ⟨some 18,.call (.func 37) [(.tmp 14),(.tmp 16),(.tmp 17)],none,(.s true [])⟩,
  oM 19 0,
  oF 20 0 3,
  ⟨some 21,.load1 (.tmp 20),none,(.s false [(.tmp 14)])⟩,
  oM 22 6,
  ⟨some 23,.call (.func 37) [(.tmp 19),(.tmp 21),(.tmp 22)],none,(.s true [])⟩,
  oM 24 0,
  oF 25 0 3,
  ⟨some 26,.load1 (.tmp 25),none,(.s false [(.tmp 14),(.tmp 19)])⟩,
  oM 27 7,
  oO 28 (.call (.func 37) [(.tmp 24),(.tmp 26),(.tmp 27)]),
  oO 29 (.build [.int .u8 0,.int .u8 0,.int .u8 0,.int .u8 0,.int .u8 0,.int .u8 0,.int .u8 0,.int .u8 0,.int .u8 0,.int .u8 0,.int .u8 0,.int .u8 0,.int .u8 0,.int .u8 0,.int .u8 0,.int .u8 0,.int .u8 0,.int .u8 0,.int .u8 0,.int .u8 0,.int .u8 0,.int .u8 0,.int .u8 0,.int .u8 0,.int .u8 0,.int .u8 0,.int .u8 0] [(0,9,(.tmp 18)),(9,9,(.tmp 23)),(18,9,(.tmp 28))]),
  oS (.store 27 (.tmp 4) (.tmp 29))])
 .ret)))⟩
theorem s86:compFn Tryz.prog Tryz.f86=some c86:=by kernel_rfl
def c88:XFn:=
 ⟨[.tmp 4],
 (.seq (.reg [oO 2 (.box 53 (.tmp 0)),
  oO 3 (.box 53 (.tmp 1)),
  oO 4 (.mv (oK 0))])
 (.seq (.reg [oF 5 0 2,
  oO 6 (.slca 9 1 (.tmp 5) none none),
  oF 7 0 3,
  oO 8 (.slca 9 1 (.tmp 7) none none),
  ⟨some 9,.call (.func 105) [(.tmp 6),(.tmp 8)],none,.t⟩,
  oF 10 9 2,
  oO 11 (.slca 9 1 (.tmp 10) none none),
  oF 12 9 3,
  oO 13 (.slca 9 1 (.tmp 12) none none),
  ⟨some 14,.call (.func 105) [(.tmp 11),(.tmp 13)],none,.t⟩,
  oF 15 18 2,
  oO 16 (.slca 9 1 (.tmp 15) none none),
  oF 17 18 3,
  oO 18 (.slca 9 1 (.tmp 17) none none),
  oO 19 (.call (.func 105) [(.tmp 16),(.tmp 18)]),
  oO 20 (.bslice 3 1 3 [.int .i64 0] [(0,1,(.tmp 9)),(1,1,(.tmp 14)),(2,1,(.tmp 19))]),
  oO 21 (.call (.func 104) [(.tmp 20)]),
  oM 4 21])
 .ret))⟩
theorem s88:compFn Tryz.prog Tryz.f88=some c88:=by kernel_rfl
def c89:XFn:=
 ⟨[.tmp 4],
 (.seq (.reg [oO 2 (.box 53 (.tmp 0)),
  oO 3 (.box 53 (.tmp 1)),
  oO 4 (.mv (.const (.bool false)))])
 (.seq (.reg [oF 9 0 2,
  oO 10 (.loadn 9 (.tmp 9)),
  oF 11 9 2,
  oO 12 (.loadn 9 (.tmp 11)),
  oF 13 18 2,
  oO 14 (.loadn 9 (.tmp 13)),
  oO 15 (.build [.int .u8 0,.int .u8 0,.int .u8 0,.int .u8 0,.int .u8 0,.int .u8 0,.int .u8 0,.int .u8 0,.int .u8 0,.int .u8 0,.int .u8 0,.int .u8 0,.int .u8 0,.int .u8 0,.int .u8 0,.int .u8 0,.int .u8 0,.int .u8 0,.int .u8 0,.int .u8 0,.int .u8 0,.int .u8 0,.int .u8 0,.int .u8 0,.int .u8 0,.int .u8 0,.int .u8 0] [(0,9,(.tmp 10)),(9,9,(.tmp 12)),(18,9,(.tmp 14))]),
  oF 16 0 3,
  oO 17 (.loadn 9 (.tmp 16)),
  oF 18 9 3,
  oO 19 (.loadn 9 (.tmp 18)),
  oF 20 18 3,
  oO 21 (.loadn 9 (.tmp 20)),
  oO 22 (.build [.int .u8 0,.int .u8 0,.int .u8 0,.int .u8 0,.int .u8 0,.int .u8 0,.int .u8 0,.int .u8 0,.int .u8 0,.int .u8 0,.int .u8 0,.int .u8 0,.int .u8 0,.int .u8 0,.int .u8 0,.int .u8 0,.int .u8 0,.int .u8 0,.int .u8 0,.int .u8 0,.int .u8 0,.int .u8 0,.int .u8 0,.int .u8 0,.int .u8 0,.int .u8 0,.int .u8 0] [(0,9,(.tmp 17)),(9,9,(.tmp 19)),(18,9,(.tmp 21))]),
  oO 5 (.boxn 68 27 (.tmp 15)),
  oO 6 (.boxn 68 27 (.tmp 22))])
 (.seq (.seq (.reg [oO 7 (.mv (oK 0))])
 (.blk 0 (.loop (.seq (.seq (.reg [oM 23 7,
  oO 24 (.bin .lss (.tmp 23) (oK 3))])
 (.cond (.tmp 24) .skip (.exit 0)))
 (.seq (.blk 1 (.seq (.reg [oO 8 (.mv (oK 0))])
 (.blk 2 (.loop (.seq (.seq (.reg [oM 27 8,
  oO 28 (.bin .lss (.tmp 27) (oK 9))])
 (.cond (.tmp 28) .skip (.exit 2)))
 (.seq (.blk 3 (.seq (.reg [oM 31 7,
  oM 32 8,
  oO 33 (.ixa 3 9 (.tmp 5) (.tmp 31)),
  oO 34 (.ixa 9 1 (.tmp 33) (.tmp 32)),
  oL 35 34,
  oM 36 7,
  oM 37 8,
  oO 38 (.ixa 3 9 (.tmp 6) (.tmp 36)),
  oO 39 (.ixa 9 1 (.tmp 38) (.tmp 37)),
  oL 40 39,
  oO 41 (.bin .neq (.tmp 35) (.tmp 40))])
 (.cond (.tmp 41) (.seq (.reg [oM 42 7,
  oM 43 8,
  oO 44 (.ixa 3 9 (.tmp 5) (.tmp 42)),
  oO 45 (.ixa 9 1 (.tmp 44) (.tmp 43)),
  oL 46 45,
  oM 47 7,
  oM 48 8,
  oO 49 (.ixa 3 9 (.tmp 6) (.tmp 47)),
  oO 50 (.ixa 9 1 (.tmp 49) (.tmp 48)),
  oL 51 50,
  oO 52 (.bin .lss (.tmp 46) (.tmp 51)),
  oM 4 52])
 .ret) .skip)))
 (.reg [oM 29 8,
  oO 30 (.bin .add (.tmp 29) (oK 1)),
  oM 8 30])))))))
 (.reg [oM 25 7,
  oO 26 (.bin .add (.tmp 25) (oK 1)),
  oM 7 26]))))))
 (.seq (.reg [oO 4 (.mv (.const (.bool false)))])
 .ret))))⟩
theorem s89:compFn Tryz.prog Tryz.f89=some c89:=by kernel_rfl
def c90:XFn:=
 ⟨[.celln 4 27],
 (.seq (.reg [oO 3 (.box 53 (.tmp 1)),
  oO 4 (.alloc 53 [.int .u8 0,.int .u8 0,.int .u8 0,.int .u8 0,.int .u8 0,.int .u8 0,.int .u8 0,.int .u8 0,.int .u8 0,.int .u8 0,.int .u8 0,.int .u8 0,.int .u8 0,.int .u8 0,.int .u8 0,.int .u8 0,.int .u8 0,.int .u8 0,.int .u8 0,.int .u8 0,.int .u8 0,.int .u8 0,.int .u8 0,.int .u8 0,.int .u8 0,.int .u8 0,.int .u8 0])])
 (.seq (.reg [oF 7 0 3,
  oO 8 (.loadn 9 (.tmp 7)),
  ⟨some 9,.call (.func 106) [(.tmp 8)],none,.t⟩,
  oF 10 9 3,
  oO 11 (.loadn 9 (.tmp 10)),
  oO 12 (.call (.func 106) [(.tmp 11)]),
  oM 5 9,
  oM 6 12])
 (.seq (.reg [oM 13 0,
  oF 14 0 3,
  oO 15 (.loadn 9 (.tmp 14)),
  oM 16 0,
  oM 17 5,
  ⟨some 18,.call (.func 107) [(.tmp 16),(.tmp 17)],none,.t⟩,
  oO 19 (.call (.func 64) [(.tmp 13),(.tmp 15),(.tmp 18)]),
  oF 20 0 3,
  oS (.store 9 (.tmp 20) (.tmp 19))])
 (.seq (.reg [oM 21 0,
  oF 22 9 3,
  oO 23 (.loadn 9 (.tmp 22)),
  oM 24 0,
  oM 25 6,
  ⟨some 26,.call (.func 107) [(.tmp 24),(.tmp 25)],none,.t⟩,
  oO 27 (.call (.func 64) [(.tmp 21),(.tmp 23),(.tmp 26)]),
  oF 28 9 3,
  oS (.store 9 (.tmp 28) (.tmp 27))])
 (.seq (.reg [oM 29 0,
  oF 30 18 3,
  oO 31 (.loadn 9 (.tmp 30)),
  oM 32 5,
  oM 33 6,
  oO 34 (.bin .mul (.tmp 32) (.tmp 33)),
  oO 35 (.call (.func 64) [(.tmp 29),(.tmp 31),(.tmp 34)]),
  oF 36 18 3,
  oS (.store 9 (.tmp 36) (.tmp 35))])
 (.seq (.reg [oO 37 (.loadn 27 (.tmp 3)),
  oS (.store 27 (.tmp 4) (.tmp 37))])
 .ret))))))⟩
theorem s90:compFn Tryz.prog Tryz.f90=some c90:=by kernel_rfl
def c91:XFn:=
 ⟨[.celln 2 5],
 (.seq (.reg [oO 2 (.alloc 26 [.int .i64 0,.int .i64 0,.int .i64 0,.int .i64 0,.slice none 0 0])])
 (.seq (.reg [oM 4 0,
  oO 5 (.bslice 2 1 5 [.int .i64 0] [(0,1,(oK 2)),(1,1,(oK 2)),(2,1,(oK 2)),(3,1,(oK 3)),(4,1,(oK 5))]),
  oO 6 (.call (.func 80) [(.tmp 4),(.tmp 5)]),
  oO 7 (.bslice 53 27 0 [.int .u8 0,.int .u8 0,.int .u8 0,.int .u8 0,.int .u8 0,.int .u8 0,.int .u8 0,.int .u8 0,.int .u8 0,.int .u8 0,.int .u8 0,.int .u8 0,.int .u8 0,.int .u8 0,.int .u8 0,.int .u8 0,.int .u8 0,.int .u8 0,.int .u8 0,.int .u8 0,.int .u8 0,.int .u8 0,.int .u8 0,.int .u8 0,.int .u8 0,.int .u8 0,.int .u8 0] []),
  oO 8 (.build [.int .i64 0,.int .i64 0,.int .i64 0,.int .i64 0,.slice none 0 0] [(0,1,(.tmp 6)),(1,1,(oK 2)),(2,1,(oK 2)),(3,1,(oK 2)),(4,1,(.tmp 7))]),
  oO 3 (.alloc 26 [.int .i64 0,.int .i64 0,.int .i64 0,.int .i64 0,.slice none 0 0]),
  oS (.store 5 (.tmp 3) (.tmp 8))])
 (.seq (.seq (.reg [oM 9 0,
  oO 10 (.call (.func 26) [(.tmp 9),(oK 2)]),
  oO 11 (.bin .eql (.tmp 10) (oK 0))])
 (.cond (.tmp 11) (.seq (.reg [oM 12 0,
  oO 13 (.bslice 2 1 3 [.int .i64 0] [(0,1,(oK 1)),(1,1,(oK 2)),(2,1,(oK 3))]),
  oO 14 (.call (.func 80) [(.tmp 12),(.tmp 13)]),
  oF 15 1 3,
  oS (.store 1 (.tmp 15) (.tmp 14))])
 (.seq (.reg [oM 16 0,
  oO 17 (.bslice 2 1 3 [.int .i64 0] [(0,1,(oK 1)),(1,1,(oK 2)),(2,1,(oK 3))]),
  oO 18 (.call (.func 80) [(.tmp 16),(.tmp 17)]),
  oF 19 2 3,
  oS (.store 1 (.tmp 19) (.tmp 18))])
 (.reg [oM 20 0,
  oO 21 (.bslice 2 1 3 [.int .i64 0] [(0,1,(oK 1)),(1,1,(oK 2)),(2,1,(oK 3))]),
  oO 22 (.call (.func 80) [(.tmp 20),(.tmp 21)]),
  oF 23 3 3,
  oS (.store 1 (.tmp 23) (.tmp 22))]))) .skip))
 (.seq (.reg [oO 24 (.loadn 5 (.tmp 3)),
  oS (.store 5 (.tmp 2) (.tmp 24))])
 .ret))))⟩
theorem s91:compFn Tryz.prog Tryz.f91=some c91:=by kernel_rfl
def c92:XFn:=
 ⟨[.celln 2 5],
 (.seq (.reg [oO 2 (.alloc 26 [.int .i64 0,.int .i64 0,.int .i64 0,.int .i64 0,.slice none 0 0])])
 (.seq (.reg [oM 5 0,
  oO 6 (.bslice 53 27 0 [.int .u8 0,.int .u8 0,.int .u8 0,.int .u8 0,.int .u8 0,.int .u8 0,.int .u8 0,.int .u8 0,.int .u8 0,.int .u8 0,.int .u8 0,.int .u8 0,.int .u8 0,.int .u8 0,.int .u8 0,.int .u8 0,.int .u8 0,.int .u8 0,.int .u8 0,.int .u8 0,.int .u8 0,.int .u8 0,.int .u8 0,.int .u8 0,.int .u8 0,.int .u8 0,.int .u8 0] []),
  oO 7 (.build [.int .i64 0,.int .i64 0,.int .i64 0,.int .i64 0,.slice none 0 0] [(0,1,(.tmp 5)),(1,1,(oK 2)),(2,1,(oK 2)),(3,1,(oK 2)),(4,1,(.tmp 6))]),
  oO 3 (.alloc 26 [.int .i64 0,.int .i64 0,.int .i64 0,.int .i64 0,.slice none 0 0]),
  oS (.store 5 (.tmp 3) (.tmp 7))])
 (.seq (.reg [oM 8 0,
  oO 9 (.bin .sub (.tmp 8) (oK 1)),
  oO 10 (.conv .u8 (.tmp 9)),
  oM 4 10])
 (.seq (.reg [oF 11 4 3,
  oL 12 11,
  oO 13 (.build [.int .u8 0,.int .u8 0,.int .u8 0,.int .u8 0,.int .u8 0,.int .u8 0,.int .u8 0,.int .u8 0,.int .u8 0] [(0,1,(.const (.int .u8 1))),(1,1,(.const (.int .u8 0))),(2,1,(.const (.int .u8 0))),(3,1,(.const (.int .u8 1)))]),
  oO 14 (.build [.int .u8 0,.int .u8 0,.int .u8 0,.int .u8 0,.int .u8 0,.int .u8 0,.int .u8 0,.int .u8 0,.int .u8 0] [(0,1,(.const (.int .u8 1))),(1,1,(.const (.int .u8 0))),(2,1,(.const (.int .u8 0))),(3,1,(.const (.int .u8 1)))]),
  oO 15 (.build [.int .u8 0,.int .u8 0,.int .u8 0,.int .u8 0,.int .u8 0,.int .u8 0,.int .u8 0,.int .u8 0,.int .u8 0] [(0,1,(.const (.int .u8 1))),(1,1,(.const (.int .u8 0))),(2,1,(.const (.int .u8 0))),(3,1,(.const (.int .u8 1)))]),
  oO 16 (.build [.int .u8 0,.int .u8 0,.int .u8 0,.int .u8 0,.int .u8 0,.int .u8 0,.int .u8 0,.int .u8 0,.int .u8 0,.int .u8 0,.int .u8 0,.int .u8 0,.int .u8 0,.int .u8 0,.int .u8 0,.int .u8 0,.int .u8 0,.int .u8 0,.int .u8 0,.int .u8 0,.int .u8 0,.int .u8 0,.int .u8 0,.int .u8 0,.int .u8 0,.int .u8 0,.int .u8 0] [(0,9,(.tmp 13)),(9,9,(.tmp 14)),(18,9,(.tmp 15))]),
  oO 17 (.build [.int .u8 0,.int .u8 0,.int .u8 0,.int .u8 0,.int .u8 0,.int .u8 0,.int .u8 0,.int .u8 0,.int .u8 0] [(0,1,(.const (.int .u8 0))),(1,1,(.const (.int .u8 0))),(2,1,(.const (.int .u8 1))),(3,1,(.const (.int .u8 1)))]),
  oO 18 (.build [.int .u8 0,.int .u8 0,.int .u8 0,.int .u8 0,.int .u8 0,.int .u8 0,.int .u8 0,.int .u8 0,.int .u8 0] [(0,1,(.const (.int .u8 1)))]),
  oM 19 4,
  oO 20 (.build [.int .u8 0,.int .u8 0,.int .u8 0,.int .u8 0,.int .u8 0,.int .u8 0,.int .u8 0,.int .u8 0,.int .u8 0] [(0,1,(.const (.int .u8 0))),(1,1,(.const (.int .u8 0))),(2,1,(.const (.int .u8 1))),(3,1,(.tmp 19))]),
  oO 21 (.build [.int .u8 0,.int .u8 0,.int .u8 0,.int .u8 0,.int .u8 0,.int .u8 0,.int .u8 0,.int .u8 0,.int .u8 0,.int .u8 0,.int .u8 0,.int .u8 0,.int .u8 0,.int .u8 0,.int .u8 0,.int .u8 0,.int .u8 0,.int .u8 0,.int .u8 0,.int .u8 0,.int .u8 0,.int .u8 0,.int .u8 0,.int .u8 0,.int .u8 0,.int .u8 0,.int .u8 0] [(0,9,(.tmp 17)),(9,9,(.tmp 18)),(18,9,(.tmp 20))]),
  oO 22 (.build [.int .u8 0,.int .u8 0,.int .u8 0,.int .u8 0,.int .u8 0,.int .u8 0,.int .u8 0,.int .u8 0,.int .u8 0] [(0,1,(.const (.int .u8 1)))]),
  oM 23 4,
  oO 24 (.build [.int .u8 0,.int .u8 0,.int .u8 0,.int .u8 0,.int .u8 0,.int .u8 0,.int .u8 0,.int .u8 0,.int .u8 0] [(0,1,(.const (.int .u8 0))),(1,1,(.const (.int .u8 1))),(2,1,(.const (.int .u8 0))),(3,1,(.tmp 23))]),
  oO 25 (.build [.int .u8 0,.int .u8 0,.int .u8 0,.int .u8 0,.int .u8 0,.int .u8 0,.int .u8 0,.int .u8 0,.int .u8 0] [(0,1,(.const (.int .u8 0))),(1,1,(.const (.int .u8 1))),(2,1,(.const (.int .u8 0))),(3,1,(.const (.int .u8 1)))]),
  oO 26 (.build [.int .u8 0,.int .u8 0,.int .u8 0,.int .u8 0,.int .u8 0,.int .u8 0,.int .u8 0,.int .u8 0,.int .u8 0,.int .u8 0,.int .u8 0,.int .u8 0,.int .u8 0,.int .u8 0,.int .u8 0,.int .u8 0,.int .u8 0,.int .u8 0,.int .u8 0,.int .u8 0,.int .u8 0,.int .u8 0,.int .u8 0,.int .u8 0,.int .u8 0,.int .u8 0,.int .u8 0] [(0,9,(.tmp 22)),(9,9,(.tmp 24)),(18,9,(.tmp 25))]),
  oO 27 (.build [.int .u8 0,.int .u8 0,.int .u8 0,.int .u8 0,.int .u8 0,.int .u8 0,.int .u8 0,.int .u8 0,.int .u8 0] [(0,1,(.const (.int .u8 0))),(1,1,(.const (.int .u8 0))),(2,1,(.const (.int .u8 0))),(3,1,(.const (.int .u8 1)))]),
  oM 28 4,
  oO 29 (.build [.int .u8 0,.int .u8 0,.int .u8 0,.int .u8 0,.int .u8 0,.int .u8 0,.int .u8 0,.int .u8 0,.int .u8 0] [(0,1,(.tmp 28)),(1,1,(.const (.int .u8 0))),(2,1,(.const (.int .u8 1)))]),
  oO 30 (.build [.int .u8 0,.int .u8 0,.int .u8 0,.int .u8 0,.int .u8 0,.int .u8 0,.int .u8 0,.int .u8 0,.int .u8 0] [(0,1,(.const (.int .u8 1))),(1,1,(.const (.int .u8 0))),(2,1,(.const (.int .u8 1)))]),
  oO 31 (.build [.int .u8 0,.int .u8 0,.int .u8 0,.int .u8 0,.int .u8 0,.int .u8 0,.int .u8 0,.int .u8 0,.int .u8 0,.int .u8 0,.int .u8 0,.int .u8 0,.int .u8 0,.int .u8 0,.int .u8 0,.int .u8 0,.int .u8 0,.int .u8 0,.int .u8 0,.int .u8 0,.int .u8 0,.int .u8 0,.int .u8 0,.int .u8 0,.int .u8 0,.int .u8 0,.int .u8 0] [(0,9,(.tmp 27)),(9,9,(.tmp 29)),(18,9,(.tmp 30))]),
  oO 32 (.build [.int .u8 0,.int .u8 0,.int .u8 0,.int .u8 0,.int .u8 0,.int .u8 0,.int .u8 0,.int .u8 0,.int .u8 0] [(0,1,(.const (.int .u8 1))),(1,1,(.const (.int .u8 1)))]),
  oO 33 (.build [.int .u8 0,.int .u8 0,.int .u8 0,.int .u8 0,.int .u8 0,.int .u8 0,.int .u8 0,.int .u8 0,.int .u8 0] [(0,1,(.const (.int .u8 0))),(1,1,(.const (.int .u8 0))),(2,1,(.const (.int .u8 0))),(3,1,(.const (.int .u8 1)))]),
  oM 34 4,
  oO 35 (.build [.int .u8 0,.int .u8 0,.int .u8 0,.int .u8 0,.int .u8 0,.int .u8 0,.int .u8 0,.int .u8 0,.int .u8 0] [(0,1,(.tmp 34)),(1,1,(.const (.int .u8 1)))]),
  oO 36 (.build [.int .u8 0,.int .u8 0,.int .u8 0,.int .u8 0,.int .u8 0,.int .u8 0,.int .u8 0,.int .u8 0,.int .u8 0,.int .u8 0,.int .u8 0,.int .u8 0,.int .u8 0,.int .u8 0,.int .u8 0,.int .u8 0,.int .u8 0,.int .u8 0,.int .u8 0,.int .u8 0,.int .u8 0,.int .u8 0,.int .u8 0,.int .u8 0,.int .u8 0,.int .u8 0,.int .u8 0] [(0,9,(.tmp 32)),(9,9,(.tmp 33)),(18,9,(.tmp 35))]),
  oM 37 4,
  oO 38 (.build [.int .u8 0,.int .u8 0,.int .u8 0,.int .u8 0,.int .u8 0,.int .u8 0,.int .u8 0,.int .u8 0,.int .u8 0] [(0,1,(.tmp 37)),(1,1,(.const (.int .u8 0))),(2,1,(.const (.int .u8 1)))]),
  oO 39 (.build [.int .u8 0,.int .u8 0,.int .u8 0,.int .u8 0,.int .u8 0,.int .u8 0,.int .u8 0,.int .u8 0,.int .u8 0] [(0,1,(.const (.int .u8 1))),(1,1,(.const (.int .u8 1)))]),
  oO 40 (.build [.int .u8 0,.int .u8 0,.int .u8 0,.int .u8 0,.int .u8 0,.int .u8 0,.int .u8 0,.int .u8 0,.int .u8 0] [(0,1,(.const (.int .u8 0))),(1,1,(.const (.int .u8 0))),(2,1,(.const (.int .u8 0))),(3,1,(.const (.int .u8 1)))]),
  oO 41 (.build [.int .u8 0,.int .u8 0,.int .u8 0,.int .u8 0,.int .u8 0,.int .u8 0,.int .u8 0,.int .u8 0,.int .u8 0,.int .u8 0,.int .u8 0,.int .u8 0,.int .u8 0,.int .u8 0,.int .u8 0,.int .u8 0,.int .u8 0,.int .u8 0,.int .u8 0,.int .u8 0,.int .u8 0,.int .u8 0,.int .u8 0,.int .u8 0,.int .u8 0,.int .u8 0,.int .u8 0] [(0,9,(.tmp 38)),(9,9,(.tmp 39)),(18,9,(.tmp 40))]),
  oM 42 4,
  oO 43 (.build [.int .u8 0,.int .u8 0,.int .u8 0,.int .u8 0,.int .u8 0,.int .u8 0,.int .u8 0,.int .u8 0,.int .u8 0] [(0,1,(.const (.int .u8 0))),(1,1,(.const (.int .u8 1))),(2,1,(.const (.int .u8 0))),(3,1,(.tmp 42))]),
  oO 44 (.build [.int .u8 0,.int .u8 0,.int .u8 0,.int .u8 0,.int .u8 0,.int .u8 0,.int .u8 0,.int .u8 0,.int .u8 0] [(0,1,(.const (.int .u8 0))),(1,1,(.const (.int .u8 0))),(2,1,(.const (.int .u8 1))),(3,1,(.const (.int .u8 1)))]),
  oO 45 (.build [.int .u8 0,.int .u8 0,.int .u8 0,.int .u8 0,.int .u8 0,.int .u8 0,.int .u8 0,.int .u8 0,.int .u8 0] [(0,1,(.const (.int .u8 1)))]),
  oO 46 (.build [.int .u8 0,.int .u8 0,.int .u8 0,.int .u8 0,.int .u8 0,.int .u8 0,.int .u8 0,.int .u8 0,.int .u8 0,.int .u8 0,.int .u8 0,.int .u8 0,.int .u8 0,.int .u8 0,.int .u8 0,.int .u8 0,.int .u8 0,.int .u8 0,.int .u8 0,.int .u8 0,.int .u8 0,.int .u8 0,.int .u8 0,.int .u8 0,.int .u8 0,.int .u8 0,.int .u8 0] [(0,9,(.tmp 43)),(9,9,(.tmp 44)),(18,9,(.tmp 45))]),
  oO 47 (.bslice 53 27 7 [.int .u8 0,.int .u8 0,.int .u8 0,.int .u8 0,.int .u8 0,.int .u8 0,.int .u8 0,.int .u8 0,.int .u8 0,.int .u8 0,.int .u8 0,.int .u8 0,.int .u8 0,.int .u8 0,.int .u8 0,.int .u8 0,.int .u8 0,.int .u8 0,.int .u8 0,.int .u8 0,.int .u8 0,.int .u8 0,.int .u8 0,.int .u8 0,.int .u8 0,.int .u8 0,.int .u8 0] [(0,27,(.tmp 16)),(27,27,(.tmp 21)),(54,27,(.tmp 26)),(81,27,(.tmp 31)),(108,27,(.tmp 36)),(135,27,(.tmp 41)),(162,27,(.tmp 46))]),
  oO 48 (.app 53 27 27 (.tmp 12) (.tmp 47)),
  oF 49 4 3,
  oS (.store 1 (.tmp 49) (.tmp 48))])
 (.seq (.reg [oO 50 (.loadn 5 (.tmp 3)),
  oS (.store 5 (.tmp 2) (.tmp 50))])
 .ret)))))⟩
theorem s92:compFn Tryz.prog Tryz.f92=some c92:=by kernel_rfl
def c93:XFn:=
 ⟨[.celln 8 5],
 (.seq (.reg [oO 8 (.alloc 26 [.int .i64 0,.int .i64 0,.int .i64 0,.int .i64 0,.slice none 0 0])])
 (.seq (.reg [oM 14 0,
  oM 15 1,
  oM 16 2,
  oM 17 3,
  oO 18 (.bslice 53 27 0 [.int .u8 0,.int .u8 0,.int .u8 0,.int .u8 0,.int .u8 0,.int .u8 0,.int .u8 0,.int .u8 0,.int .u8 0,.int .u8 0,.int .u8 0,.int .u8 0,.int .u8 0,.int .u8 0,.int .u8 0,.int .u8 0,.int .u8 0,.int .u8 0,.int .u8 0,.int .u8 0,.int .u8 0,.int .u8 0,.int .u8 0,.int .u8 0,.int .u8 0,.int .u8 0,.int .u8 0] []),
  oO 19 (.build [.int .i64 0,.int .i64 0,.int .i64 0,.int .i64 0,.slice none 0 0] [(0,1,(.tmp 14)),(1,1,(.tmp 15)),(2,1,(.tmp 16)),(3,1,(.tmp 17)),(4,1,(.tmp 18))]),
  oO 9 (.alloc 26 [.int .i64 0,.int .i64 0,.int .i64 0,.int .i64 0,.slice none 0 0]),
  oS (.store 5 (.tmp 9) (.tmp 19))])
 (.seq (.seq (.reg [oO 10 (.mv (oK 0))])
 (.blk 0 (.loop (.seq (.seq (.reg [oM 20 10,
  oM 21 1,
  oO 22 (.bin .lss (.tmp 20) (.tmp 21))])
 (.cond (.tmp 22) .skip (.exit 0)))
 (.seq (.blk 1 (.seq (.reg [oO 11 (.mv (oK 0))])
 (.blk 2 (.loop (.seq (.seq (.reg [oM 25 11,
  oM 26 2,
  oO 27 (.bin .lss (.tmp 25) (.tmp 26))])
 (.cond (.tmp 27) .skip (.exit 2)))
 (.seq (.blk 3 (.seq (.reg [oO 12 (.mv (oK 0))])
 (.blk 4 (.loop (.seq (.seq (.reg [oM 30 12,
  oM 31 3,
  oO 32 (.bin .lss (.tmp 30) (.tmp 31))])
 (.cond (.tmp 32) .skip (.exit 4)))
 (.seq (.blk 5 (.seq (.reg [oO 35 (.build [.int .u8 0,.int .u8 0,.int .u8 0,.int .u8 0,.int .u8 0,.int .u8 0,.int .u8 0,.int .u8 0,.int .u8 0,.int .u8 0,.int .u8 0,.int .u8 0,.int .u8 0,.int .u8 0,.int .u8 0,.int .u8 0,.int .u8 0,.int .u8 0,.int .u8 0,.int .u8 0,.int .u8 0,.int .u8 0,.int .u8 0,.int .u8 0,.int .u8 0,.int .u8 0,.int .u8 0] []),
  oO 13 (.alloc 53 [.int .u8 0,.int .u8 0,.int .u8 0,.int .u8 0,.int .u8 0,.int .u8 0,.int .u8 0,.int .u8 0,.int .u8 0,.int .u8 0,.int .u8 0,.int .u8 0,.int .u8 0,.int .u8 0,.int .u8 0,.int .u8 0,.int .u8 0,.int .u8 0,.int .u8 0,.int .u8 0,.int .u8 0,.int .u8 0,.int .u8 0,.int .u8 0,.int .u8 0,.int .u8 0,.int .u8 0]),
  oS (.store 27 (.tmp 13) (.tmp 35))])
 (.seq (.reg [oM 36 10,
  oM 37 2,
  oO 38 (.bin .mul (.tmp 36) (.tmp 37)),
  oM 39 11,
  oO 40 (.bin .add (.tmp 38) (.tmp 39)),
  oF 41 0 13,
  oO 42 (.ixa 9 1 (.tmp 41) (.tmp 40)),
  oS (.store 1 (.tmp 42) (.const (.int .u8 1)))])
 (.seq (.reg [oM 43 11,
  oM 44 3,
  oO 45 (.bin .mul (.tmp 43) (.tmp 44)),
  oM 46 12,
  oO 47 (.bin .add (.tmp 45) (.tmp 46)),
  oF 48 9 13,
  oO 49 (.ixa 9 1 (.tmp 48) (.tmp 47)),
  oS (.store 1 (.tmp 49) (.const (.int .u8 1)))])
 (.seq (.reg [oM 50 10,
  oM 51 3,
  oO 52 (.bin .mul (.tmp 50) (.tmp 51)),
  oM 53 12,
  oO 54 (.bin .add (.tmp 52) (.tmp 53)),
  oF 55 18 13,
  oO 56 (.ixa 9 1 (.tmp 55) (.tmp 54)),
  oS (.store 1 (.tmp 56) (.const (.int .u8 1)))])
 (.reg [oF 57 4 9,
  oL 58 57,
  oO 59 (.loadn 27 (.tmp 13)),
  oO 60 (.bslice 53 27 1 [.int .u8 0,.int .u8 0,.int .u8 0,.int .u8 0,.int .u8 0,.int .u8 0,.int .u8 0,.int .u8 0,.int .u8 0,.int .u8 0,.int .u8 0,.int .u8 0,.int .u8 0,.int .u8 0,.int .u8 0,.int .u8 0,.int .u8 0,.int .u8 0,.int .u8 0,.int .u8 0,.int .u8 0,.int .u8 0,.int .u8 0,.int .u8 0,.int .u8 0,.int .u8 0,.int .u8 0] [(0,27,(.tmp 59))]),
  oO 61 (.app 53 27 27 (.tmp 58) (.tmp 60)),
  oF 62 4 9,
  oS (.store 1 (.tmp 62) (.tmp 61))]))))))
 (.reg [oM 33 12,
  oO 34 (.bin .add (.tmp 33) (oK 1)),
  oM 12 34])))))))
 (.reg [oM 28 11,
  oO 29 (.bin .add (.tmp 28) (oK 1)),
  oM 11 29])))))))
 (.reg [oM 23 10,
  oO 24 (.bin .add (.tmp 23) (oK 1)),
  oM 10 24]))))))
 (.seq (.reg [oO 63 (.loadn 5 (.tmp 9)),
  oS (.store 5 (.tmp 8) (.tmp 63))])
 .ret))))⟩
theorem s93:compFn Tryz.prog Tryz.f93=some c93:=by kernel_rfl
def c94:XFn:=
 ⟨[.tmp 2],
 (.seq (.reg [oO 2 (.mv (.const (.bool false)))])
 (.seq (.reg [oM 3 0,
  oO 4 (.bin .eql (.tmp 3) (oK 2)),
  oM 5 4,
  oG 6 (.mv (.tmp 0)) 5 false,
  oG 7 (.bin .eql (.tmp 6) (oK 3)) 5 false,
  oO 8 (.pick (.tmp 5) (.const (.bool true)) (.tmp 7)),
  oM 9 8,
  oG 10 (.mv (.tmp 0)) 9 false,
  oG 11 (.bin .eql (.tmp 10) (oK 5)) 9 false,
  oO 12 (.pick (.tmp 9) (.const (.bool true)) (.tmp 11)),
  oM 2 12])
 .ret))⟩
theorem s94:compFn Tryz.prog Tryz.f94=some c94:=by kernel_rfl
def c95:XFn:=
 ⟨[.tmp 2],
 (.seq (.reg [oO 1 (.box 34 (.tmp 0)),
  oO 2 (.mv (oK 0))])
 (.seq (.seq (.reg [oO 5 (.loadn 9 (.tmp 1)),
  oO 6 (.mv (oK 0))])
 (.blk 0 (.loop (.seq (.reg [oO 7 (.bin .lss (.tmp 6) (oK 9))])
 (.seq (.cond (.tmp 7) .skip (.exit 0))
 (.seq (.blk 1 (.seq (.reg [oO 8 (.idx1 9 (.tmp 5) (.tmp 6)),
  oM 4 8])
 (.seq (.reg [oM 9 4,
  oO 10 (.bin .neq (.tmp 9) (.const (.int .u8 0)))])
 (.cond (.tmp 10) (.seq (.reg [oM 11 4,
  oO 12 (.conv .i64 (.tmp 11)),
  oM 2 12])
 .ret) .skip))))
 (.reg [oO 13 (.bin .add (.tmp 6) (oK 1)),
  oM 6 13])))))))
 (.seq (.reg [oO 2 (.mv (oK 0))])
 .ret)))⟩
theorem s95:compFn Tryz.prog Tryz.f95=some c95:=by kernel_rfl
def c96:XFn:=
 ⟨[.celln 6 9],
 (.seq (.reg [oO 4 (.box 34 (.tmp 1)),
  oO 6 (.alloc 34 [.int .u8 0,.int .u8 0,.int .u8 0,.int .u8 0,.int .u8 0,.int .u8 0,.int .u8 0,.int .u8 0,.int .u8 0])])
 (.seq (.reg [oM 7 0,
  oO 8 (.build [.int .u8 0,.int .u8 0,.int .u8 0,.int .u8 0,.int .u8 0,.int .u8 0,.int .u8 0,.int .u8 0,.int .u8 0] []),
  oO 9 (.loadn 9 (.tmp 4)),
  oM 10 2,
  oO 11 (.call (.func 45) [(.tmp 7),(.tmp 8),(.tmp 9),(.tmp 10)]),
  oS (.store 9 (.tmp 6) (.tmp 11))])
 .ret))⟩
theorem s96:compFn Tryz.prog Tryz.f96=some c96:=by kernel_rfl
def c97:XFn:=
 ⟨[.tmp 4],
 (.seq (.reg [oO 4 (.mv (oK 0))])
 (.seq (.reg [oO 5 (.mv (oK 1))])
 (.blk 0 (.loop (.seq (.blk 1 (.seq (.reg [oM 8 5,
  oM 9 1,
  oO 10 (.bin .mul (.tmp 8) (.tmp 9)),
  oM 11 0,
  oO 12 (.bin .rem (.tmp 10) (.tmp 11)),
  oO 13 (.bin .eql (.tmp 12) (oK 1))])
 (.cond (.tmp 13) (.seq (.reg [oM 14 5,
  oM 4 14])
 .ret) .skip)))
 (.reg [oM 6 5,
  oO 7 (.bin .add (.tmp 6) (oK 1)),
  oM 5 7]))))))⟩
theorem s97:compFn Tryz.prog Tryz.f97=some c97:=by kernel_rfl
def c98:XFn:=
 ⟨[.tmp 6],
 (.seq (.reg [oO 4 (.box 34 (.tmp 1)),
  oO 5 (.box 34 (.tmp 2)),
  oO 6 (.mv (oK 0))])
 (.seq (.seq (.reg [oO 7 (.mv (oK 1))])
 (.blk 0 (.loop (.seq (.seq (.reg [oM 8 7,
  oM 9 0,
  oO 10 (.bin .lss (.tmp 8) (.tmp 9))])
 (.cond (.tmp 10) .skip (.exit 0)))
 (.seq (.blk 1 (.seq (.reg [oM 13 0,
  oO 14 (.loadn 9 (.tmp 4)),
  oM 15 7,
  ⟨some 16,.call (.func 96) [(.tmp 13),(.tmp 14),(.tmp 15)],none,.t⟩,
  oO 17 (.loadn 9 (.tmp 5)),
  oO 18 (.eqa false 9 (.tmp 16) (.tmp 17))])
 (.cond (.tmp 18) (.seq (.reg [oM 19 7,
  oM 6 19])
 .ret) .skip)))
 (.reg [oM 11 7,
  oO 12 (.bin .add (.tmp 11) (oK 1)),
  oM 7 12]))))))
 (.seq (.reg [oO 6 (.mv (oK 0))])
 .ret)))⟩
theorem s98:compFn Tryz.prog Tryz.f98=some c98:=by kernel_rfl
def c99:XFn:=
 ⟨[.tmp 2],
 (.seq (.reg [oO 2 (.mv (.const (.slice none 0 0)))])
 (.seq (.reg [oO 3 (.mv (oK 0))])
 (.seq (.seq (.reg [oM 9 0,
  oN 10 9,
  oO 11 (.mv (oK 0))])
 (.blk 0 (.loop (.seq (.reg [oO 12 (.bin .lss (.tmp 11) (.tmp 10))])
 (.seq (.cond (.tmp 12) .skip (.exit 0))
 (.seq (.blk 1 (.seq (.reg [oX 13 1 9 11,
  oL 14 13,
  oM 5 14])
 (.seq (.reg [oM 15 3,
  oM 16 5,
  oN 17 16,
  oO 18 (.bin .add (.tmp 15) (.tmp 17)),
  oM 3 18])
 (.seq (.reg [oM 19 3,
  oO 20 (.bin .lss (.tmp 19) (oK 0))])
 (.cond (.tmp 20) (.reg [oO 21 (.fail),
  oS (.fail)]) .skip)))))
 (.reg [oO 22 (.bin .add (.tmp 11) (oK 1)),
  oM 11 22])))))))
 (.seq (.reg [oM 23 3,
  oO 24 (.call (.func 108) [(.const (.slice none 0 0)),(.tmp 23)]),
  oM 6 24])
 (.seq (.seq (.reg [oM 25 0,
  oN 26 25,
  oO 27 (.mv (oK 0))])
 (.blk 2 (.loop (.seq (.reg [oO 28 (.bin .lss (.tmp 27) (.tmp 26))])
 (.seq (.cond (.tmp 28) .skip (.exit 2))
 (.seq (.blk 3 (.seq (.reg [oX 29 1 25 27,
  oL 30 29,
  oM 8 30])
 (.reg [oM 31 6,
  oM 32 8,
  oO 33 (.app 53 27 27 (.tmp 31) (.tmp 32)),
  oM 6 33])))
 (.reg [oO 34 (.bin .add (.tmp 27) (oK 1)),
  oM 27 34])))))))
 (.seq (.reg [oM 35 6,
  oM 2 35])
 .ret))))))⟩
theorem s99:compFn Tryz.prog Tryz.f99=some c99:=by kernel_rfl
def c100:XFn:=
 ⟨[.celln 6 27,.tmp 7],
 (.seq (.reg [oO 4 (.box 53 (.tmp 1)),
  oO 5 (.box 53 (.tmp 2)),
  oO 6 (.alloc 53 [.int .u8 0,.int .u8 0,.int .u8 0,.int .u8 0,.int .u8 0,.int .u8 0,.int .u8 0,.int .u8 0,.int .u8 0,.int .u8 0,.int .u8 0,.int .u8 0,.int .u8 0,.int .u8 0,.int .u8 0,.int .u8 0,.int .u8 0,.int .u8 0,.int .u8 0,.int .u8 0,.int .u8 0,.int .u8 0,.int .u8 0,.int .u8 0,.int .u8 0,.int .u8 0,.int .u8 0]),
  oO 7 (.mv (.const (.bool false)))])
 (.seq (.reg [oM 9 0,
  oF 10 18 4,
  oO 11 (.loadn 9 (.tmp 10)),
  oF 12 18 5,
  oO 13 (.loadn 9 (.tmp 12)),
  oO 14 (.call (.func 109) [(.tmp 9),(.tmp 11),(.tmp 13)]),
  oM 8 14])
 (.seq (.blk 0 (.seq (.reg [oF 17 0 4,
  oO 18 (.loadn 9 (.tmp 17)),
  oF 19 0 5,
  oO 20 (.loadn 9 (.tmp 19)),
  oO 21 (.eqa false 9 (.tmp 18) (.tmp 20)),
  oM 22 21,
  oG 23 (.fadr 9 (.tmp 4)) 22 true,
  oG 24 (.loadn 9 (.tmp 23)) 22 true,
  oG 25 (.fadr 9 (.tmp 5)) 22 true,
  oG 26 (.loadn 9 (.tmp 25)) 22 true,
  oG 27 (.eqa false 9 (.tmp 24) (.tmp 26)) 22 true,
  oO 28 (.pick (.tmp 22) (.tmp 27) (.const (.bool false))),
  oM 16 28])
 (.cond (.tmp 16) (.reg [oM 29 0,
  oF 30 18 4,
  oO 31 (.loadn 9 (.tmp 30)),
  oF 32 18 5,
  oO 33 (.loadn 9 (.tmp 32)),
  oO 34 (.call (.func 51) [(.tmp 29),(.tmp 31),(.tmp 33),(oK 1)]),
  oF 35 18 4,
  oS (.store 9 (.tmp 35) (.tmp 34))]) (.seq (.reg [oF 37 0 4,
  oO 38 (.loadn 9 (.tmp 37)),
  oF 39 0 5,
  oO 40 (.loadn 9 (.tmp 39)),
  oO 41 (.eqa false 9 (.tmp 38) (.tmp 40)),
  oM 42 41,
  oG 43 (.mv (.tmp 8)) 42 true,
  oG 44 (.bin .neq (.tmp 43) (oK 0)) 42 true,
  oO 45 (.pick (.tmp 42) (.tmp 44) (.const (.bool false))),
  oM 36 45])
 (.cond (.tmp 36) (.reg [oM 46 0,
  oF 47 9 4,
  oO 48 (.loadn 9 (.tmp 47)),
  oF 49 9 5,
  oO 50 (.loadn 9 (.tmp 49)),
  oM 51 8,
  oO 52 (.call (.func 51) [(.tmp 46),(.tmp 48),(.tmp 50),(.tmp 51)]),
  oF 53 9 4,
  oS (.store 9 (.tmp 53) (.tmp 52))]) (.seq (.reg [oF 55 9 4,
  oO 56 (.loadn 9 (.tmp 55)),
  oF 57 9 5,
  oO 58 (.loadn 9 (.tmp 57)),
  oO 59 (.eqa false 9 (.tmp 56) (.tmp 58)),
  oM 60 59,
  oG 61 (.mv (.tmp 8)) 60 true,
  oG 62 (.bin .neq (.tmp 61) (oK 0)) 60 true,
  oO 63 (.pick (.tmp 60) (.tmp 62) (.const (.bool false))),
  oM 54 63])
 (.cond (.tmp 54) (.reg [oM 64 0,
  oF 65 0 4,
  oO 66 (.loadn 9 (.tmp 65)),
  oF 67 0 5,
  oO 68 (.loadn 9 (.tmp 67)),
  oM 69 8,
  oO 70 (.call (.func 51) [(.tmp 64),(.tmp 66),(.tmp 68),(.tmp 69)]),
  oF 71 0 4,
  oS (.store 9 (.tmp 71) (.tmp 70))]) (.seq (.reg [oO 15 (.build [.int .u8 0,.int .u8 0,.int .u8 0,.int .u8 0,.int .u8 0,.int .u8 0,.int .u8 0,.int .u8 0,.int .u8 0,.int .u8 0,.int .u8 0,.int .u8 0,.int .u8 0,.int .u8 0,.int .u8 0,.int .u8 0,.int .u8 0,.int .u8 0,.int .u8 0,.int .u8 0,.int .u8 0,.int .u8 0,.int .u8 0,.int .u8 0,.int .u8 0,.int .u8 0,.int .u8 0] []),
  oS (.store 27 (.tmp 6) (.tmp 15)),
  oO 7 (.mv (.const (.bool false)))])
 .ret))))))))
 (.seq (.reg [oO 72 (.loadn 27 (.tmp 4)),
  oS (.store 27 (.tmp 6) (.tmp 72)),
  oO 7 (.mv (.const (.bool true)))])
 .ret))))⟩
theorem s100:compFn Tryz.prog Tryz.f100=some c100:=by kernel_rfl
def c101:XFn:=
 ⟨[.tmp 4],
 (.seq (.reg [oO 4 (.mv (oK 0))])
 (.seq (.seq (.reg [oM 6 0,
  oN 7 6,
  oO 8 (.mv (oK 0))])
 (.blk 0 (.loop (.seq (.reg [oO 9 (.bin .lss (.tmp 8) (.tmp 7))])
 (.seq (.cond (.tmp 9) .skip (.exit 0))
 (.seq (.blk 1 (.seq (.reg [oM 10 8,
  oM 5 10])
 (.seq (.reg [oM 11 1,
  oM 12 0,
  oM 13 5,
  oX 14 27 12 13,
  oO 15 (.loadn 27 (.tmp 14)),
  oO 16 (.call (.tmp 11) [(.tmp 15)])])
 (.cond (.tmp 16) (.seq (.reg [oM 17 5,
  oM 4 17])
 .ret) .skip))))
 (.reg [oO 18 (.bin .add (.tmp 8) (oK 1)),
  oM 8 18])))))))
 (.seq (.reg [oO 4 (.mv (.const (.int .i64 (-1))))])
 .ret)))⟩
theorem s101:compFn Tryz.prog Tryz.f101=some c101:=by kernel_rfl
def c104:XFn:=
 ⟨[.tmp 2],
 (.seq (.reg [oO 2 (.mv (oK 0))])
 (.seq (.reg [oO 3 (.mv (oK 0))])
 (.seq (.seq (.reg [oM 6 0,
  oN 7 6,
  oO 8 (.mv (oK 0))])
 (.blk 0 (.loop (.seq (.reg [oO 9 (.bin .lss (.tmp 8) (.tmp 7))])
 (.seq (.cond (.tmp 9) .skip (.exit 0))
 (.seq (.blk 1 (.seq (.reg [oX 10 1 6 8,
  oL 11 10,
  oM 5 11])
 (.seq (.reg [oM 12 5,
  oM 13 3,
  oO 14 (.bin .neq (.tmp 12) (.tmp 13))])
 (.cond (.tmp 14) (.seq (.reg [oM 15 5,
  oM 2 15])
 .ret) .skip))))
 (.reg [oO 16 (.bin .add (.tmp 8) (oK 1)),
  oM 8 16])))))))
 (.seq (.reg [oM 17 3,
  oM 2 17])
 .ret))))⟩
theorem s104:compFn Tryz.prog Tryz.f104=some c104:=by kernel_rfl
def c105:XFn:=
 ⟨[.tmp 4],
 (.seq (.reg [oO 4 (.mv (oK 0))])
 (.seq (.seq (.reg [oM 9 0,
  oN 10 9,
  oO 11 (.mv (oK 0))])
 (.blk 0 (.loop (.seq (.reg [oO 12 (.bin .lss (.tmp 11) (.tmp 10))])
 (.seq (.cond (.tmp 12) .skip (.exit 0))
 (.seq (.blk 1 (.seq (.reg [oM 13 11,
  oX 14 1 9 11,
  oL 15 14,
  oM 5 13,
  oM 6 15])
 (.seq (.seq (.reg [oM 16 5,
  oM 17 1,
  oN 18 17,
  oO 19 (.bin .geq (.tmp 16) (.tmp 18))])
 (.cond (.tmp 19) (.seq (.reg [oO 4 (.mv (oK 1))])
 .ret) .skip))
 (.seq (.reg [oM 20 1,
  oM 21 5,
  oX 22 1 20 21,
  oL 23 22,
  oM 7 23])
 (.seq (.reg [oM 24 6,
  oM 25 7,
  oO 26 (.call (.func 120) [(.tmp 24),(.tmp 25)]),
  oM 8 26])
 (.seq (.reg [oM 27 8,
  oO 28 (.bin .neq (.tmp 27) (oK 0))])
 (.cond (.tmp 28) (.seq (.reg [oM 29 8,
  oM 4 29])
 .ret) .skip)))))))
 (.reg [oO 30 (.bin .add (.tmp 11) (oK 1)),
  oM 11 30])))))))
 (.seq (.seq (.reg [oM 31 0,
  oN 32 31,
  oM 33 1,
  oN 34 33,
  oO 35 (.bin .lss (.tmp 32) (.tmp 34))])
 (.cond (.tmp 35) (.seq (.reg [oO 4 (.mv (.const (.int .i64 (-1))))])
 .ret) .skip))
 (.seq (.reg [oO 4 (.mv (oK 0))])
 .ret))))⟩
theorem s105:compFn Tryz.prog Tryz.f105=some c105:=by kernel_rfl
def c106:XFn:=
 ⟨[.tmp 2],
 (.seq (.reg [oO 1 (.box 34 (.tmp 0)),
  oO 2 (.mv (oK 0))])
 (.seq (.seq (.reg [oO 3 (.mv (oK 0))])
 (.blk 0 (.loop (.seq (.seq (.reg [oM 4 3,
  oO 5 (.bin .lss (.tmp 4) (oK 9))])
 (.cond (.tmp 5) .skip (.exit 0)))
 (.seq (.blk 1 (.seq (.reg [oM 8 3,
  oO 9 (.ixa 9 1 (.tmp 1) (.tmp 8)),
  oL 10 9,
  oO 11 (.bin .neq (.tmp 10) (.const (.int .u8 0)))])
 (.cond (.tmp 11) (.seq (.reg [oM 12 3,
  oO 13 (.ixa 9 1 (.tmp 1) (.tmp 12)),
  oL 14 13,
  oO 15 (.conv .i64 (.tmp 14)),
  oM 2 15])
 .ret) .skip)))
 (.reg [oM 6 3,
  oO 7 (.bin .add (.tmp 6) (oK 1)),
  oM 3 7]))))))
 (.seq (.reg [oO 2 (.mv (oK 0))])
 .ret)))⟩
theorem s106:compFn Tryz.prog Tryz.f106=some c106:=by kernel_rfl
def c107:XFn:=
 ⟨[.tmp 4],
 (.seq (.reg [oO 4 (.mv (oK 0))])
 (.seq (.seq (.reg [oO 5 (.mv (oK 1))])
 (.blk 0 (.loop (.seq (.seq (.reg [oM 6 5,
  oM 7 0,
  oO 8 (.bin .lss (.tmp 6) (.tmp 7))])
 (.cond (.tmp 8) .skip (.exit 0)))
 (.seq (.blk 1 (.seq (.reg [oM 11 5,
  oM 12 0,
  oM 13 1,
  oO 14 (.call (.func 81) [(.tmp 12),(.tmp 13)]),
  oO 15 (.bin .mul (.tmp 11) (.tmp 14)),
  oM 16 0,
  oO 17 (.bin .rem (.tmp 15) (.tmp 16)),
  oO 18 (.bin .eql (.tmp 17) (oK 1))])
 (.cond (.tmp 18) (.seq (.reg [oM 19 5,
  oM 4 19])
 .ret) .skip)))
 (.reg [oM 9 5,
  oO 10 (.bin .add (.tmp 9) (oK 1)),
  oM 5 10]))))))
 (.seq (.reg [oO 4 (.mv (oK 0))])
 .ret)))⟩
theorem s107:compFn Tryz.prog Tryz.f107=some c107:=by kernel_rfl
def c108:XFn:=
 ⟨[.tmp 4],
 (.seq (.reg [oO 4 (.mv (.const (.slice none 0 0)))])
 (.seq (.seq (.reg [oM 5 1,
  oO 6 (.bin .lss (.tmp 5) (oK 0))])
 (.cond (.tmp 6) (.reg [oO 7 (.fail),
  oS (.fail)]) .skip))
 (.seq (.seq (.reg [oM 8 1,
  oM 9 0,
  oO 10 (.cap (.tmp 9)),
  oM 11 0,
  oN 12 11,
  oO 13 (.bin .sub (.tmp 10) (.tmp 12)),
  oO 14 (.bin .sub (.tmp 8) (.tmp 13)),
  oM 1 14])
 (.seq (.reg [oM 15 1,
  oO 16 (.bin .gtr (.tmp 15) (oK 0))])
 (.cond (.tmp 16) (.reg [oM 17 0,
  oM 18 0,
  oO 19 (.cap (.tmp 18)),
  oO 20 (.slc 27 (.tmp 17) none (some (.tmp 19))),
  oM 21 1,
  oO 22 (.appz 53 27 27 (.tmp 20) (.tmp 21)),
  oM 23 0,
  oN 24 23,
  oO 25 (.slc 27 (.tmp 22) none (some (.tmp 24))),
  oM 0 25]) .skip)))
 (.seq (.reg [oM 26 0,
  oM 4 26])
 .ret))))⟩
theorem s108:compFn Tryz.prog Tryz.f108=some c108:=by kernel_rfl
def c109:XFn:=
 ⟨[.tmp 6],
 (.seq (.reg [oO 4 (.box 34 (.tmp 1)),
  oO 5 (.box 34 (.tmp 2)),
  oO 6 (.mv (oK 0))])
 (.seq (.reg [oO 8 (.loadn 9 (.tmp 5)),
  ⟨some 9,.call (.func 106) [(.tmp 8)],none,.t⟩,
  oM 10 0,
  oO 11 (.loadn 9 (.tmp 4)),
  oO 12 (.call (.func 106) [(.tmp 11)]),
  oO 13 (.call (.func 107) [(.tmp 10),(.tmp 12)]),
  oO 14 (.bin .mul (.tmp 9) (.tmp 13)),
  oM 15 0,
  oO 16 (.bin .rem (.tmp 14) (.tmp 15)),
  oM 7 16])
 (.seq (.seq (.reg [oM 17 0,
  oO 18 (.loadn 9 (.tmp 4)),
  oM 19 7,
  ⟨some 20,.call (.func 64) [(.tmp 17),(.tmp 18),(.tmp 19)],none,.t⟩,
  oO 21 (.loadn 9 (.tmp 5)),
  oO 22 (.eqa true 9 (.tmp 20) (.tmp 21))])
 (.cond (.tmp 22) (.seq (.reg [oO 6 (.mv (oK 0))])
 .ret) .skip))
 (.seq (.reg [oM 23 7,
  oM 6 23])
 .ret))))⟩
theorem s109:compFn Tryz.prog Tryz.f109=some c109:=by kernel_rfl
def c120:XFn:=
 ⟨[.tmp 4],
 (.seq (.reg [oO 4 (.mv (oK 0))])
 (.seq (.reg [oM 7 0,
  oO 8 (.call (.func 126) [(.tmp 7)]),
  oM 5 8])
 (.seq (.reg [oM 9 1,
  oO 10 (.call (.func 126) [(.tmp 9)]),
  oM 6 10])
 (.seq (.seq (.reg [oM 11 5])
 (.cond (.tmp 11) (.seq (.seq (.reg [oM 12 6])
 (.cond (.tmp 12) (.seq (.reg [oO 4 (.mv (oK 0))])
 .ret) .skip))
 (.seq (.reg [oO 4 (.mv (.const (.int .i64 (-1))))])
 .ret)) .skip))
 (.seq (.seq (.reg [oM 13 6])
 (.cond (.tmp 13) (.seq (.reg [oO 4 (.mv (oK 1))])
 .ret) .skip))
 (.seq (.seq (.reg [oM 14 0,
  oM 15 1,
  oO 16 (.bin .lss (.tmp 14) (.tmp 15))])
 (.cond (.tmp 16) (.seq (.reg [oO 4 (.mv (.const (.int .i64 (-1))))])
 .ret) .skip))
 (.seq (.seq (.reg [oM 17 0,
  oM 18 1,
  oO 19 (.bin .gtr (.tmp 17) (.tmp 18))])
 (.cond (.tmp 19) (.seq (.reg [oO 4 (.mv (oK 1))])
 .ret) .skip))
 (.seq (.reg [oO 4 (.mv (oK 0))])
 .ret))))))))⟩
theorem s120:compFn Tryz.prog Tryz.f120=some c120:=by kernel_rfl
def c126:XFn:=
 ⟨[.tmp 2],
 (.seq (.reg [oO 2 (.mv (.const (.bool false)))])
 (.seq (.reg [oM 3 0,
  oM 4 0,
  oO 5 (.bin .neq (.tmp 3) (.tmp 4)),
  oM 2 5])
 .ret))⟩
theorem s126:compFn Tryz.prog Tryz.f126=some c126:=by kernel_rfl
def tab3:List (Nat×XFn):=[(78,c78),(79,c79),(80,c80),(81,c81),(82,c82),(83,c83),(84,c84),(85,c85),(86,c86),(88,c88),(89,c89),(90,c90),(91,c91),(92,c92),(93,c93),(94,c94),(95,c95),(96,c96),(97,c97),(98,c98),(99,c99),(100,c100),(101,c101),(104,c104),(105,c105),(106,c106),(107,c107),(108,c108),(109,c109),(120,c120),(126,c126)]
theorem ts3:TSound Tryz.prog (fun g=>tab3.lookup g):=by
 refine tsound_of_all (P:=Tryz.prog) (tab:=tab3) ?_
 intro p hp
 simp only[tab3,List.mem_cons,List.not_mem_nil,or_false] at hp
 rcases hp with rfl|rfl|rfl|rfl|rfl|rfl|rfl|rfl|rfl|rfl|rfl|rfl|rfl|rfl|rfl|rfl|rfl|rfl|rfl|rfl|rfl|rfl|rfl|rfl|rfl|rfl|rfl|rfl|rfl|rfl|rfl
 ·exact⟨_,Tryz.func78,s78⟩
 ·exact⟨_,Tryz.func79,s79⟩
 ·exact⟨_,Tryz.func80,s80⟩
 ·exact⟨_,Tryz.func81,s81⟩
 ·exact⟨_,Tryz.func82,s82⟩
 ·exact⟨_,Tryz.func83,s83⟩
 ·exact⟨_,Tryz.func84,s84⟩
 ·exact⟨_,Tryz.func85,s85⟩
 ·exact⟨_,Tryz.func86,s86⟩
 ·exact⟨_,Tryz.func88,s88⟩
 ·exact⟨_,Tryz.func89,s89⟩
 ·exact⟨_,Tryz.func90,s90⟩
 ·exact⟨_,Tryz.func91,s91⟩
 ·exact⟨_,Tryz.func92,s92⟩
 ·exact⟨_,Tryz.func93,s93⟩
 ·exact⟨_,Tryz.func94,s94⟩
 ·exact⟨_,Tryz.func95,s95⟩
 ·exact⟨_,Tryz.func96,s96⟩
 ·exact⟨_,Tryz.func97,s97⟩
 ·exact⟨_,Tryz.func98,s98⟩
 ·exact⟨_,Tryz.func99,s99⟩
 ·exact⟨_,Tryz.func100,s100⟩
 ·exact⟨_,Tryz.func101,s101⟩
 ·exact⟨_,Tryz.func104,s104⟩
 ·exact⟨_,Tryz.func105,s105⟩
 ·exact⟨_,Tryz.func106,s106⟩
 ·exact⟨_,Tryz.func107,s107⟩
 ·exact⟨_,Tryz.func108,s108⟩
 ·exact⟨_,Tryz.func109,s109⟩
 ·exact⟨_,Tryz.func120,s120⟩
 ·exact⟨_,Tryz.func126,s126⟩
end Go.Proofs.YtigpfopobpoamaaGreat.X
