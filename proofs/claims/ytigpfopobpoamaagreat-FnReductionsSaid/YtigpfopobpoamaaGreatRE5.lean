/- Texts of one claim, put together by merge.py: XCode2. -/
import Derived.Test.YtigpfopobpoamaaGreatRE3
import Derived.Test.YtigpfopobpoamaaGreatProg
set_option linter.unusedVariables false
set_option maxRecDepth 4000
namespace Go.Proofs.YtigpfopobpoamaaGreat.X
open Go Go.RowKit
def c38:XFn:=
 ⟨[.tmp 4],
 (.seq (.reg [oO 2 (.box 26 (.tmp 0)),
  oO 4 (.mv (oK 0))])
 (.seq (.reg [oO 9 (.loadn 5 (.tmp 2)),
  oO 10 (.call (.func 60) [(.tmp 9)]),
  oM 8 10,
  oE 11 8 0,
  oE 12 8 1,
  oE 13 8 2,
  oM 5 11,
  oM 6 12,
  oM 7 13])
 (.seq (.seq (.reg [oM 14 1])
 (.blk 0 (.seq (.reg [oO 16 (.bin .eql (.tmp 14) (oK 0)),
  oM 15 16])
 (.cond (.tmp 15) (.seq (.reg [oM 17 5,
  oM 4 17])
 .ret) (.seq (.reg [oO 19 (.bin .eql (.tmp 14) (oK 1)),
  oM 18 19])
 (.cond (.tmp 18) (.seq (.reg [oM 20 6,
  oM 4 20])
 .ret) .skip))))))
 (.seq (.reg [oM 21 7,
  oM 4 21])
 .ret))))⟩
theorem s38:compFn Tryz.prog Tryz.f38=some c38:=by kernel_rfl
def c39:XFn:=
 ⟨[.tmp 4],
 (.seq (.reg [oO 2 (.box 26 (.tmp 0)),
  oO 4 (.mv (.const (.bool false)))])
 (.seq (.seq (.reg [oO 5 (.mv (oK 0))])
 (.blk 0 (.loop (.seq (.seq (.reg [oM 6 5,
  oM 7 1,
  oN 8 7,
  oO 9 (.bin .lss (.tmp 6) (.tmp 8))])
 (.cond (.tmp 9) .skip (.exit 0)))
 (.seq (.blk 1 (.seq (.reg [oM 12 1,
  oM 13 5,
  oX 14 1 12 13,
  oL 15 14,
  oF 16 4 2,
  oL 17 16,
  oN 18 17,
  oO 19 (.bin .sub (.tmp 18) (oK 1)),
  oO 20 (.call (.func 36) [(.tmp 15),(oK 0),(.tmp 19)]),
  oO 21 (.un .not (.tmp 20))])
 (.cond (.tmp 21) (.seq (.reg [oO 4 (.mv (.const (.bool false)))])
 .ret) .skip)))
 (.reg [oM 10 5,
  oO 11 (.bin .add (.tmp 10) (oK 1)),
  oM 5 11]))))))
 (.seq (.reg [oO 4 (.mv (.const (.bool true)))])
 .ret)))⟩
theorem s39:compFn Tryz.prog Tryz.f39=some c39:=by kernel_rfl
def c40:XFn:=
 ⟨[.celln 4 9],
 (.seq (.reg [oO 2 (.box 53 (.tmp 0)),
  oO 4 (.alloc 34 [.int .u8 0,.int .u8 0,.int .u8 0,.int .u8 0,.int .u8 0,.int .u8 0,.int .u8 0,.int .u8 0,.int .u8 0])])
 (.seq (.seq (.reg [oM 5 1])
 (.blk 0 (.seq (.reg [oO 7 (.bin .eql (.tmp 5) (oK 0)),
  oM 6 7])
 (.cond (.tmp 6) (.seq (.reg [oF 8 0 2,
  oO 9 (.loadn 9 (.tmp 8)),
  oS (.store 9 (.tmp 4) (.tmp 9))])
 .ret) (.seq (.reg [oO 11 (.bin .eql (.tmp 5) (oK 1)),
  oM 10 11])
 (.cond (.tmp 10) (.seq (.reg [oF 12 9 2,
  oO 13 (.loadn 9 (.tmp 12)),
  oS (.store 9 (.tmp 4) (.tmp 13))])
 .ret) .skip))))))
 (.seq (.reg [oF 14 18 2,
  oO 15 (.loadn 9 (.tmp 14)),
  oS (.store 9 (.tmp 4) (.tmp 15))])
 .ret)))⟩
theorem s40:compFn Tryz.prog Tryz.f40=some c40:=by kernel_rfl
def c41:XFn:=
 ⟨[.tmp 4],
 (.seq (.reg [oO 2 (.box 26 (.tmp 0)),
  oO 4 (.mv (.const (.bool false)))])
 (.seq (.seq (.reg [oM 7 1,
  oN 8 7,
  oO 9 (.mv (oK 0))])
 (.blk 0 (.loop (.seq (.reg [oO 10 (.bin .lss (.tmp 9) (.tmp 8))])
 (.seq (.cond (.tmp 10) .skip (.exit 0))
 (.seq (.blk 1 (.seq (.reg [oX 11 1 7 9,
  oL 12 11,
  oM 6 12])
 (.seq (.reg [oM 13 6,
  oO 14 (.bin .lss (.tmp 13) (oK 0)),
  oM 15 14,
  oG 16 (.mv (.tmp 6)) 15 false,
  oG 17 (.fadr 4 (.tmp 2)) 15 false,
  oG 18 (.load1 (.tmp 17)) 15 false,
  oG 19 (.len (.tmp 18)) 15 false,
  oG 20 (.bin .geq (.tmp 16) (.tmp 19)) 15 false,
  oO 21 (.pick (.tmp 15) (.const (.bool true)) (.tmp 20))])
 (.cond (.tmp 21) (.seq (.reg [oO 4 (.mv (.const (.bool false)))])
 .ret) .skip))))
 (.reg [oO 22 (.bin .add (.tmp 9) (oK 1)),
  oM 9 22])))))))
 (.seq (.reg [oO 4 (.mv (.const (.bool true)))])
 .ret)))⟩
theorem s41:compFn Tryz.prog Tryz.f41=some c41:=by kernel_rfl
def c42:XFn:=
 ⟨[.tmp 6],
 (.seq (.reg [oO 5 (.box 34 (.tmp 2)),
  oO 6 (.mv (.const (.bool false)))])
 (.seq (.seq (.reg [oO 9 (.loadn 9 (.tmp 5)),
  oO 10 (.mv (oK 0))])
 (.blk 0 (.loop (.seq (.reg [oO 11 (.bin .lss (.tmp 10) (oK 9))])
 (.seq (.cond (.tmp 11) .skip (.exit 0))
 (.seq (.blk 1 (.seq (.reg [oM 12 10,
  oO 13 (.idx1 9 (.tmp 9) (.tmp 10)),
  oM 7 12,
  oM 8 13])
 (.seq (.reg [oM 14 8,
  oO 15 (.conv .i64 (.tmp 14)),
  oM 16 0,
  oO 17 (.bin .geq (.tmp 15) (.tmp 16)),
  oM 18 17,
  oG 19 (.mv (.tmp 8)) 18 false,
  oG 20 (.bin .neq (.tmp 19) (.const (.int .u8 0))) 18 false,
  oG 21 (.mv (.tmp 20)) 18 false,
  oG 22 (.mv (.tmp 7)) 21 true,
  oG 23 (.mv (.tmp 1)) 21 true,
  oG 24 (.bin .geq (.tmp 22) (.tmp 23)) 21 true,
  oG 25 (.pick (.tmp 21) (.tmp 24) (.const (.bool false))) 18 false,
  oO 26 (.pick (.tmp 18) (.const (.bool true)) (.tmp 25))])
 (.cond (.tmp 26) (.seq (.reg [oO 6 (.mv (.const (.bool false)))])
 .ret) .skip))))
 (.reg [oO 27 (.bin .add (.tmp 10) (oK 1)),
  oM 10 27])))))))
 (.seq (.reg [oO 6 (.mv (.const (.bool true)))])
 .ret)))⟩
theorem s42:compFn Tryz.prog Tryz.f42=some c42:=by kernel_rfl
def c43:XFn:=
 ⟨[.celln 2 3],
 (.seq (.reg [oO 1 (.box 26 (.tmp 0)),
  oO 2 (.alloc 66 [.int .i64 0,.int .i64 0,.int .i64 0])])
 (.seq (.reg [oF 3 1 1,
  oL 4 3,
  oF 5 2 1,
  oL 6 5,
  oO 7 (.bin .mul (.tmp 4) (.tmp 6)),
  oF 8 2 1,
  oL 9 8,
  oF 10 3 1,
  oL 11 10,
  oO 12 (.bin .mul (.tmp 9) (.tmp 11)),
  oF 13 1 1,
  oL 14 13,
  oF 15 3 1,
  oL 16 15,
  oO 17 (.bin .mul (.tmp 14) (.tmp 16)),
  oO 18 (.build [.int .i64 0,.int .i64 0,.int .i64 0] [(0,1,(.tmp 7)),(1,1,(.tmp 12)),(2,1,(.tmp 17))]),
  oS (.store 3 (.tmp 2) (.tmp 18))])
 .ret))⟩
theorem s43:compFn Tryz.prog Tryz.f43=some c43:=by kernel_rfl
def c44:XFn:=
 ⟨[.celln 2 27],
 (.seq (.reg [oO 1 (.box 53 (.tmp 0)),
  oO 2 (.alloc 68 [.int .u8 0,.int .u8 0,.int .u8 0,.int .u8 0,.int .u8 0,.int .u8 0,.int .u8 0,.int .u8 0,.int .u8 0,.int .u8 0,.int .u8 0,.int .u8 0,.int .u8 0,.int .u8 0,.int .u8 0,.int .u8 0,.int .u8 0,.int .u8 0,.int .u8 0,.int .u8 0,.int .u8 0,.int .u8 0,.int .u8 0,.int .u8 0,.int .u8 0,.int .u8 0,.int .u8 0])])
 (.seq (.reg [oF 3 0 1,
  oO 4 (.loadn 9 (.tmp 3)),
  oF 5 9 1,
  oO 6 (.loadn 9 (.tmp 5)),
  oF 7 18 1,
  oO 8 (.loadn 9 (.tmp 7)),
  oO 9 (.build [.int .u8 0,.int .u8 0,.int .u8 0,.int .u8 0,.int .u8 0,.int .u8 0,.int .u8 0,.int .u8 0,.int .u8 0,.int .u8 0,.int .u8 0,.int .u8 0,.int .u8 0,.int .u8 0,.int .u8 0,.int .u8 0,.int .u8 0,.int .u8 0,.int .u8 0,.int .u8 0,.int .u8 0,.int .u8 0,.int .u8 0,.int .u8 0,.int .u8 0,.int .u8 0,.int .u8 0] [(0,9,(.tmp 4)),(9,9,(.tmp 6)),(18,9,(.tmp 8))]),
  oS (.store 27 (.tmp 2) (.tmp 9))])
 .ret))⟩
theorem s44:compFn Tryz.prog Tryz.f44=some c44:=by kernel_rfl
def c45:XFn:=
 ⟨[.celln 8 9],
 (.seq (.reg [oO 5 (.box 34 (.tmp 1)),
  oO 6 (.box 34 (.tmp 2)),
  oO 8 (.alloc 34 [.int .u8 0,.int .u8 0,.int .u8 0,.int .u8 0,.int .u8 0,.int .u8 0,.int .u8 0,.int .u8 0,.int .u8 0])])
 (.seq (.seq (.reg [oO 10 (.mv (oK 0))])
 (.blk 0 (.loop (.seq (.reg [oO 11 (.bin .lss (.tmp 10) (oK 9))])
 (.seq (.cond (.tmp 11) .skip (.exit 0))
 (.seq (.blk 1 (.seq (.reg [oM 12 10,
  oM 9 12])
 (.reg [oM 13 9,
  oM 14 9,
  oO 15 (.ixa 9 1 (.tmp 5) (.tmp 14)),
  oL 16 15,
  oO 17 (.conv .i64 (.tmp 16)),
  oM 18 3,
  oM 19 9,
  oO 20 (.ixa 9 1 (.tmp 6) (.tmp 19)),
  oL 21 20,
  oO 22 (.conv .i64 (.tmp 21)),
  oO 23 (.bin .mul (.tmp 18) (.tmp 22)),
  oO 24 (.bin .add (.tmp 17) (.tmp 23)),
  oM 25 0,
  oO 26 (.bin .rem (.tmp 24) (.tmp 25)),
  oO 27 (.conv .u8 (.tmp 26)),
  oO 28 (.ixa 9 1 (.tmp 5) (.tmp 13)),
  oS (.store 1 (.tmp 28) (.tmp 27))])))
 (.reg [oO 29 (.bin .add (.tmp 10) (oK 1)),
  oM 10 29])))))))
 (.seq (.reg [oO 30 (.loadn 9 (.tmp 5)),
  oS (.store 9 (.tmp 8) (.tmp 30))])
 .ret)))⟩
theorem s45:compFn Tryz.prog Tryz.f45=some c45:=by kernel_rfl
def c46:XFn:=
 ⟨[.tmp 2],
 (.seq (.reg [oO 2 (.mv (.const (.slice none 0 0)))])
 (.seq (.seq (.reg [oM 3 0,
  oO 4 (.isnil false (.tmp 3))])
 (.cond (.tmp 4) (.seq (.reg [oO 2 (.mv (.const (.slice none 0 0)))])
 .ret) .skip))
 (.seq (.reg [oO 5 (.bslice 53 27 0 [.int .u8 0,.int .u8 0,.int .u8 0,.int .u8 0,.int .u8 0,.int .u8 0,.int .u8 0,.int .u8 0,.int .u8 0,.int .u8 0,.int .u8 0,.int .u8 0,.int .u8 0,.int .u8 0,.int .u8 0,.int .u8 0,.int .u8 0,.int .u8 0,.int .u8 0,.int .u8 0,.int .u8 0,.int .u8 0,.int .u8 0,.int .u8 0,.int .u8 0,.int .u8 0,.int .u8 0] []),
  oM 6 0,
  oO 7 (.app 53 27 27 (.tmp 5) (.tmp 6)),
  oM 2 7])
 .ret)))⟩
theorem s46:compFn Tryz.prog Tryz.f46=some c46:=by kernel_rfl
def c47:XFn:=
 ⟨[.celln 2 27],
 (.seq (.reg [oO 1 (.box 68 (.tmp 0)),
  oO 2 (.alloc 53 [.int .u8 0,.int .u8 0,.int .u8 0,.int .u8 0,.int .u8 0,.int .u8 0,.int .u8 0,.int .u8 0,.int .u8 0,.int .u8 0,.int .u8 0,.int .u8 0,.int .u8 0,.int .u8 0,.int .u8 0,.int .u8 0,.int .u8 0,.int .u8 0,.int .u8 0,.int .u8 0,.int .u8 0,.int .u8 0,.int .u8 0,.int .u8 0,.int .u8 0,.int .u8 0,.int .u8 0])])
 (.seq (.reg [oO 3 (.ixa 3 9 (.tmp 1) (oK 0)),
  oO 4 (.loadn 9 (.tmp 3)),
  oO 5 (.ixa 3 9 (.tmp 1) (oK 1)),
  oO 6 (.loadn 9 (.tmp 5)),
  oO 7 (.ixa 3 9 (.tmp 1) (oK 2)),
  oO 8 (.loadn 9 (.tmp 7)),
  oO 9 (.build [.int .u8 0,.int .u8 0,.int .u8 0,.int .u8 0,.int .u8 0,.int .u8 0,.int .u8 0,.int .u8 0,.int .u8 0,.int .u8 0,.int .u8 0,.int .u8 0,.int .u8 0,.int .u8 0,.int .u8 0,.int .u8 0,.int .u8 0,.int .u8 0,.int .u8 0,.int .u8 0,.int .u8 0,.int .u8 0,.int .u8 0,.int .u8 0,.int .u8 0,.int .u8 0,.int .u8 0] [(0,9,(.tmp 4)),(9,9,(.tmp 6)),(18,9,(.tmp 8))]),
  oS (.store 27 (.tmp 2) (.tmp 9))])
 .ret))⟩
theorem s47:compFn Tryz.prog Tryz.f47=some c47:=by kernel_rfl
def c48:XFn:=
 ⟨[.tmp 6],
 (.seq (.reg [oO 4 (.box 34 (.tmp 1)),
  oO 6 (.mv (.const (.bool false)))])
 (.seq (.seq (.reg [oO 7 (.mv (oK 0))])
 (.blk 0 (.loop (.seq (.seq (.reg [oM 8 7,
  oO 9 (.bin .lss (.tmp 8) (oK 9))])
 (.cond (.tmp 9) .skip (.exit 0)))
 (.seq (.blk 1 (.seq (.reg [oM 12 7,
  oO 13 (.ixa 9 1 (.tmp 4) (.tmp 12)),
  oL 14 13,
  oO 15 (.conv .i64 (.tmp 14)),
  oM 16 0,
  oO 17 (.bin .geq (.tmp 15) (.tmp 16)),
  oM 18 17,
  oG 19 (.mv (.tmp 7)) 18 false,
  oG 20 (.mv (.tmp 2)) 18 false,
  oG 21 (.bin .geq (.tmp 19) (.tmp 20)) 18 false,
  oG 22 (.mv (.tmp 21)) 18 false,
  oG 23 (.mv (.tmp 7)) 22 true,
  oG 24 (.ixa 9 1 (.tmp 4) (.tmp 23)) 22 true,
  oG 25 (.load1 (.tmp 24)) 22 true,
  oG 26 (.bin .neq (.tmp 25) (.const (.int .u8 0))) 22 true,
  oG 27 (.pick (.tmp 22) (.tmp 26) (.const (.bool false))) 18 false,
  oO 28 (.pick (.tmp 18) (.const (.bool true)) (.tmp 27))])
 (.cond (.tmp 28) (.seq (.reg [oO 6 (.mv (.const (.bool false)))])
 .ret) .skip)))
 (.reg [oM 10 7,
  oO 11 (.bin .add (.tmp 10) (oK 1)),
  oM 7 11]))))))
 (.seq (.reg [oO 6 (.mv (.const (.bool true)))])
 .ret)))⟩
theorem s48:compFn Tryz.prog Tryz.f48=some c48:=by kernel_rfl
def c49:XFn:=
 ⟨[.tmp 2],
 (.seq (.reg [oO 1 (.box 34 (.tmp 0)),
  oO 2 (.mv (.const (.bool false)))])
 (.seq (.reg [oO 3 (.loadn 9 (.tmp 1)),
  oO 4 (.build [.int .u8 0,.int .u8 0,.int .u8 0,.int .u8 0,.int .u8 0,.int .u8 0,.int .u8 0,.int .u8 0,.int .u8 0] []),
  oO 5 (.eqa false 9 (.tmp 3) (.tmp 4)),
  oM 2 5])
 .ret))⟩
theorem s49:compFn Tryz.prog Tryz.f49=some c49:=by kernel_rfl
def c50:XFn:=
 ⟨[.celln 6 27],
 (.seq (.reg [oO 3 (.box 53 (.tmp 0)),
  oO 5 (.box 34 (.tmp 2)),
  oO 6 (.alloc 53 [.int .u8 0,.int .u8 0,.int .u8 0,.int .u8 0,.int .u8 0,.int .u8 0,.int .u8 0,.int .u8 0,.int .u8 0,.int .u8 0,.int .u8 0,.int .u8 0,.int .u8 0,.int .u8 0,.int .u8 0,.int .u8 0,.int .u8 0,.int .u8 0,.int .u8 0,.int .u8 0,.int .u8 0,.int .u8 0,.int .u8 0,.int .u8 0,.int .u8 0,.int .u8 0,.int .u8 0])])
 (.seq (.seq (.reg [oM 7 1])
 (.blk 0 (.seq (.reg [oO 11 (.bin .eql (.tmp 7) (oK 0)),
  oM 10 11])
 (.cond (.tmp 10) (.reg [oO 12 (.loadn 9 (.tmp 5)),
  oF 13 0 3,
  oS (.store 9 (.tmp 13) (.tmp 12))]) (.seq (.reg [oO 15 (.bin .eql (.tmp 7) (oK 1)),
  oM 14 15])
 (.cond (.tmp 14) (.reg [oO 16 (.loadn 9 (.tmp 5)),
  oF 17 9 3,
  oS (.store 9 (.tmp 17) (.tmp 16))]) (.reg [oO 8 (.loadn 9 (.tmp 5)),
  oF 9 18 3,
  oS (.store 9 (.tmp 9) (.tmp 8))])))))))
 (.seq (.reg [oO 18 (.loadn 27 (.tmp 3)),
  oS (.store 27 (.tmp 6) (.tmp 18))])
 .ret)))⟩
theorem s50:compFn Tryz.prog Tryz.f50=some c50:=by kernel_rfl
def c51:XFn:=
 ⟨[.celln 8 9],
 (.seq (.reg [oO 5 (.box 34 (.tmp 1)),
  oO 6 (.box 34 (.tmp 2)),
  oO 8 (.alloc 34 [.int .u8 0,.int .u8 0,.int .u8 0,.int .u8 0,.int .u8 0,.int .u8 0,.int .u8 0,.int .u8 0,.int .u8 0])])
 (.seq (.seq (.reg [oO 9 (.mv (oK 0))])
 (.blk 0 (.loop (.seq (.seq (.reg [oM 10 9,
  oO 11 (.bin .lss (.tmp 10) (oK 9))])
 (.cond (.tmp 11) .skip (.exit 0)))
 (.seq (.blk 1 (.reg [oM 14 9,
  oM 15 0,
  oM 16 9,
  oO 17 (.ixa 9 1 (.tmp 5) (.tmp 16)),
  oL 18 17,
  oO 19 (.conv .i64 (.tmp 18)),
  oM 20 3,
  oM 21 9,
  oO 22 (.ixa 9 1 (.tmp 6) (.tmp 21)),
  oL 23 22,
  oO 24 (.conv .i64 (.tmp 23)),
  oO 25 (.bin .mul (.tmp 20) (.tmp 24)),
  oO 26 (.bin .add (.tmp 19) (.tmp 25)),
  oO 27 (.call (.func 81) [(.tmp 15),(.tmp 26)]),
  oO 28 (.conv .u8 (.tmp 27)),
  oO 29 (.ixa 9 1 (.tmp 5) (.tmp 14)),
  oS (.store 1 (.tmp 29) (.tmp 28))]))
 (.reg [oM 12 9,
  oO 13 (.bin .add (.tmp 12) (oK 1)),
  oM 9 13]))))))
 (.seq (.reg [oO 30 (.loadn 9 (.tmp 5)),
  oS (.store 9 (.tmp 8) (.tmp 30))])
 .ret)))⟩
theorem s51:compFn Tryz.prog Tryz.f51=some c51:=by kernel_rfl
def c52:XFn:=
 ⟨[.celln 4 5],
 (.seq (.reg [oO 2 (.box 26 (.tmp 0)),
  oO 4 (.alloc 26 [.int .i64 0,.int .i64 0,.int .i64 0,.int .i64 0,.slice none 0 0])])
 (.seq (.reg [oO 8 (.loadn 5 (.tmp 2)),
  oO 9 (.call (.func 82) [(.tmp 8)]),
  oO 5 (.alloc 26 [.int .i64 0,.int .i64 0,.int .i64 0,.int .i64 0,.slice none 0 0]),
  oS (.store 5 (.tmp 5) (.tmp 9))])
 (.seq (.seq (.reg [oO 6 (.mv (oK 0))])
 (.blk 0 (.loop (.seq (.seq (.reg [oM 10 6,
  oM 11 1,
  oN 12 11,
  oO 13 (.bin .lss (.tmp 10) (.tmp 12))])
 (.cond (.tmp 13) .skip (.exit 0)))
 (.seq (.blk 1 (.seq (.reg [oM 16 1,
  oM 17 6,
  oX 18 27 16 17,
  oO 19 (.loadn 27 (.tmp 18)),
  oO 7 (.alloc 53 [.int .u8 0,.int .u8 0,.int .u8 0,.int .u8 0,.int .u8 0,.int .u8 0,.int .u8 0,.int .u8 0,.int .u8 0,.int .u8 0,.int .u8 0,.int .u8 0,.int .u8 0,.int .u8 0,.int .u8 0,.int .u8 0,.int .u8 0,.int .u8 0,.int .u8 0,.int .u8 0,.int .u8 0,.int .u8 0,.int .u8 0,.int .u8 0,.int .u8 0,.int .u8 0,.int .u8 0]),
  oS (.store 27 (.tmp 7) (.tmp 19))])
 (.seq (.reg [oF 20 0 7,
  oO 21 (.loadn 9 (.tmp 20)),
  oO 22 (.call (.func 49) [(.tmp 21)]),
  oO 23 (.un .not (.tmp 22)),
  oM 24 23,
  oG 25 (.fadr 9 (.tmp 7)) 24 true,
  oG 26 (.loadn 9 (.tmp 25)) 24 true,
  oG 27 (.call (.func 49) [(.tmp 26)]) 24 true,
  oG 28 (.un .not (.tmp 27)) 24 true,
  oO 29 (.pick (.tmp 24) (.tmp 28) (.const (.bool false))),
  oM 30 29,
  oG 31 (.fadr 18 (.tmp 7)) 30 true,
  oG 32 (.loadn 9 (.tmp 31)) 30 true,
  oG 33 (.call (.func 49) [(.tmp 32)]) 30 true,
  oG 34 (.un .not (.tmp 33)) 30 true,
  oO 35 (.pick (.tmp 30) (.tmp 34) (.const (.bool false)))])
 (.cond (.tmp 35) (.reg [oF 36 4 5,
  oL 37 36,
  oO 38 (.loadn 27 (.tmp 7)),
  oO 39 (.bslice 53 27 1 [.int .u8 0,.int .u8 0,.int .u8 0,.int .u8 0,.int .u8 0,.int .u8 0,.int .u8 0,.int .u8 0,.int .u8 0,.int .u8 0,.int .u8 0,.int .u8 0,.int .u8 0,.int .u8 0,.int .u8 0,.int .u8 0,.int .u8 0,.int .u8 0,.int .u8 0,.int .u8 0,.int .u8 0,.int .u8 0,.int .u8 0,.int .u8 0,.int .u8 0,.int .u8 0,.int .u8 0] [(0,27,(.tmp 38))]),
  oO 40 (.app 53 27 27 (.tmp 37) (.tmp 39)),
  oF 41 4 5,
  oS (.store 1 (.tmp 41) (.tmp 40))]) .skip))))
 (.reg [oM 14 6,
  oO 15 (.bin .add (.tmp 14) (oK 1)),
  oM 6 15]))))))
 (.seq (.reg [oO 42 (.loadn 5 (.tmp 5)),
  oS (.store 5 (.tmp 4) (.tmp 42))])
 .ret))))⟩
theorem s52:compFn Tryz.prog Tryz.f52=some c52:=by kernel_rfl
def c53:XFn:=
 ⟨[.tmp 2],
 (.seq (.reg [oO 2 (.mv (.const (.slice none 0 0)))])
 (.seq (.reg [oM 3 0,
  oO 4 (.call (.func 83) [(.tmp 3),(.func 74)]),
  oM 2 4])
 .ret))⟩
theorem s53:compFn Tryz.prog Tryz.f53=some c53:=by kernel_rfl
def c54:XFn:=
 ⟨[.celln 2 5,.celln 3 5],
 (.seq (.reg [oO 2 (.alloc 26 [.int .i64 0,.int .i64 0,.int .i64 0,.int .i64 0,.slice none 0 0]),
  oO 3 (.alloc 26 [.int .i64 0,.int .i64 0,.int .i64 0,.int .i64 0,.slice none 0 0])])
 (.seq (.reg [oM 9 0,
  oO 10 (.call (.func 23) [(.tmp 9)]),
  oM 4 10])
 (.seq (.reg [oM 11 4,
  oO 12 (.call (.func 24) [(.tmp 11)]),
  oO 5 (.alloc 26 [.int .i64 0,.int .i64 0,.int .i64 0,.int .i64 0,.slice none 0 0]),
  oS (.store 5 (.tmp 5) (.tmp 12))])
 (.seq (.seq (.reg [oO 13 (.loadn 5 (.tmp 5)),
  oO 14 (.call (.func 25) [(.tmp 13)]),
  oO 15 (.un .not (.tmp 14)),
  oM 16 15,
  oG 17 (.mv (.tmp 4)) 16 false,
  oG 18 (.call (.func 26) [(.tmp 17),(oK 14)]) 16 false,
  oG 19 (.bin .eql (.tmp 18) (oK 0)) 16 false,
  oO 20 (.pick (.tmp 16) (.const (.bool true)) (.tmp 19))])
 (.cond (.tmp 20) (.seq (.reg [oO 21 (.loadn 5 (.tmp 5)),
  oM 22 4,
  ⟨some 23,.call (.func 62) [(.tmp 22)],none,(.s true [(.tmp 5)])⟩,
  oS (.store 5 (.tmp 2) (.tmp 21)),
  oS (.store 5 (.tmp 3) (.tmp 23))])
 .ret) .skip))
 (.seq (.reg [oO 24 (.loadn 5 (.tmp 5)),
  oO 25 (.call (.func 82) [(.tmp 24)]),
  oO 6 (.alloc 26 [.int .i64 0,.int .i64 0,.int .i64 0,.int .i64 0,.slice none 0 0]),
  oS (.store 5 (.tmp 6) (.tmp 25))])
 (.seq (.reg [oF 26 4 6,
  oL 27 26,
  oF 28 4 5,
  oL 29 28,
  oO 30 (.app 53 27 27 (.tmp 27) (.tmp 29)),
  oF 31 4 6,
  oS (.store 1 (.tmp 31) (.tmp 30))])
 (.seq (.seq (.reg [oM 32 4,
  oO 33 (.call (.func 26) [(.tmp 32),(oK 4)])])
 (.blk 0 (.seq (.reg [oO 35 (.bin .eql (.tmp 33) (oK 0)),
  oM 34 35])
 (.cond (.tmp 34) (.seq (.reg [oO 36 (.loadn 5 (.tmp 5)),
  oO 37 (.loadn 5 (.tmp 6)),
  ⟨some 38,.call (.func 59) [(.tmp 37)],none,.t⟩,
  ⟨some 39,.call (.func 58) [(.tmp 38)],none,.t⟩,
  oS (.store 5 (.tmp 2) (.tmp 36)),
  oS (.store 5 (.tmp 3) (.tmp 39))])
 .ret) (.seq (.reg [oO 41 (.bin .eql (.tmp 33) (oK 1)),
  oM 40 41])
 (.cond (.tmp 40) (.seq (.reg [oO 42 (.loadn 5 (.tmp 5)),
  oO 43 (.loadn 5 (.tmp 6)),
  ⟨some 44,.call (.func 31) [(.tmp 43)],none,.t⟩,
  oS (.store 5 (.tmp 2) (.tmp 42)),
  oS (.store 5 (.tmp 3) (.tmp 44))])
 .ret) (.seq (.reg [oO 46 (.bin .eql (.tmp 33) (oK 2)),
  oM 45 46])
 (.cond (.tmp 45) (.seq (.reg [oO 47 (.loadn 5 (.tmp 6)),
  oO 48 (.call (.func 84) [(.tmp 47)]),
  oM 7 48])
 (.seq (.reg [oM 49 7,
  oN 50 49,
  oO 51 (.bin .gtr (.tmp 50) (oK 0))])
 (.cond (.tmp 51) (.seq (.reg [oM 52 7,
  oM 53 4,
  oM 54 7,
  oN 55 54,
  oO 56 (.call (.func 26) [(.tmp 53),(.tmp 55)]),
  oX 57 1 52 56,
  oL 58 57,
  oM 8 58])
 (.seq (.reg [oO 59 (.loadn 5 (.tmp 5)),
  oO 60 (.loadn 5 (.tmp 6)),
  oM 61 8,
  oO 62 (.ixs 1 (.tmp 61) (oK 0)),
  oL 63 62,
  oM 64 8,
  oO 65 (.ixs 1 (.tmp 64) (oK 1)),
  oL 66 65,
  oM 67 8,
  oO 68 (.ixs 1 (.tmp 67) (oK 2)),
  oL 69 68,
  ⟨some 70,.call (.func 85) [(.tmp 60),(.tmp 63),(.tmp 66),(.tmp 69),(oK 1)],none,.t⟩,
  oS (.store 5 (.tmp 2) (.tmp 59)),
  oS (.store 5 (.tmp 3) (.tmp 70))])
 .ret)) .skip))) .skip))))))))
 (.seq (.seq (.reg [oF 71 4 6,
  oL 72 71,
  oN 73 72,
  oO 74 (.bin .gtr (.tmp 73) (oK 0))])
 (.cond (.tmp 74) (.reg [oF 75 4 6,
  oL 76 75,
  oM 77 4,
  oF 78 4 6,
  oL 79 78,
  oN 80 79,
  ⟨some 81,.call (.func 26) [(.tmp 77),(.tmp 80)],none,(.s true [(.tmp 75)])⟩,
  oM 82 4,
  ⟨some 83,.loadn 5 (.tmp 5),none,(.s false [(.tmp 77)])⟩,
  ⟨some 84,.call (.func 86) [(.tmp 82),(.tmp 83)],none,(.s true [(.tmp 75)])⟩,
  oX 85 27 76 81,
  oS (.store 27 (.tmp 85) (.tmp 84))]) .skip))
 (.seq (.reg [oO 86 (.loadn 5 (.tmp 5)),
  oO 87 (.loadn 5 (.tmp 6)),
  ⟨none,.store 5 (.tmp 2) (.tmp 86),none,(.s false [(.tmp 6)])⟩,
  oS (.store 5 (.tmp 3) (.tmp 87))])
 .ret)))))))))⟩
theorem s54:compFn Tryz.prog Tryz.f54=some c54:=by kernel_rfl
def c55:XFn:=
 ⟨[.tmp 4],
 (.seq (.reg [oO 4 (.mv (.const (.bool false)))])
 (.seq (.seq (.reg [oM 6 0,
  oN 7 6,
  oM 8 1,
  oN 9 8,
  oO 10 (.bin .neq (.tmp 7) (.tmp 9))])
 (.cond (.tmp 10) (.seq (.reg [oO 4 (.mv (.const (.bool false)))])
 .ret) .skip))
 (.seq (.seq (.reg [oM 11 0,
  oN 12 11,
  oO 13 (.mv (oK 0))])
 (.blk 0 (.loop (.seq (.reg [oO 14 (.bin .lss (.tmp 13) (.tmp 12))])
 (.seq (.cond (.tmp 14) .skip (.exit 0))
 (.seq (.blk 1 (.seq (.reg [oM 15 13,
  oM 5 15])
 (.seq (.reg [oM 16 0,
  oM 17 5,
  oX 18 27 16 17,
  oO 19 (.loadn 27 (.tmp 18)),
  oM 20 1,
  oM 21 5,
  oX 22 27 20 21,
  oO 23 (.loadn 27 (.tmp 22)),
  oO 24 (.eqa true 27 (.tmp 19) (.tmp 23))])
 (.cond (.tmp 24) (.seq (.reg [oO 4 (.mv (.const (.bool false)))])
 .ret) .skip))))
 (.reg [oO 25 (.bin .add (.tmp 13) (oK 1)),
  oM 13 25])))))))
 (.seq (.reg [oO 4 (.mv (.const (.bool true)))])
 .ret))))⟩
theorem s55:compFn Tryz.prog Tryz.f55=some c55:=by kernel_rfl
def c56:XFn:=
 ⟨[.celln 2 5],
 (.seq (.reg [oO 1 (.box 26 (.tmp 0)),
  oO 2 (.alloc 26 [.int .i64 0,.int .i64 0,.int .i64 0,.int .i64 0,.slice none 0 0])])
 (.seq (.reg [oF 4 4 1,
  oL 5 4,
  oO 6 (.call (.func 46) [(.tmp 5)]),
  oM 3 6])
 (.seq (.reg [oM 7 3,
  oO 8 (.call (.func 87) [(.tmp 7),(.func 88)])])
 (.seq (.reg [oO 9 (.loadn 5 (.tmp 1)),
  oM 10 3,
  oO 11 (.call (.func 30) [(.tmp 9),(.tmp 10)]),
  oS (.store 5 (.tmp 2) (.tmp 11))])
 .ret))))⟩
theorem s56:compFn Tryz.prog Tryz.f56=some c56:=by kernel_rfl
def c57:XFn:=
 ⟨[.tmp 4],
 (.seq (.reg [oO 2 (.box 26 (.tmp 0)),
  oO 3 (.box 26 (.tmp 1)),
  oO 4 (.mv (oK 0))])
 (.seq (.blk 0 (.seq (.reg [oO 6 (.loadn 5 (.tmp 2)),
  oO 7 (.call (.func 25) [(.tmp 6)]),
  oO 8 (.un .not (.tmp 7)),
  oM 9 8,
  oG 10 (.loadn 5 (.tmp 3)) 9 false,
  oG 11 (.call (.func 25) [(.tmp 10)]) 9 false,
  oG 12 (.un .not (.tmp 11)) 9 false,
  oO 13 (.pick (.tmp 9) (.const (.bool true)) (.tmp 12)),
  oM 5 13])
 (.cond (.tmp 5) (.seq (.reg [oO 4 (.mv (oK 1))])
 .ret) (.seq (.reg [oF 15 0 2,
  oL 16 15,
  oF 17 0 3,
  oL 18 17,
  oO 19 (.bin .neq (.tmp 16) (.tmp 18)),
  oM 20 19,
  oG 21 (.fadr 1 (.tmp 2)) 20 false,
  oG 22 (.load1 (.tmp 21)) 20 false,
  oG 23 (.fadr 1 (.tmp 3)) 20 false,
  oG 24 (.load1 (.tmp 23)) 20 false,
  oG 25 (.bin .neq (.tmp 22) (.tmp 24)) 20 false,
  oO 26 (.pick (.tmp 20) (.const (.bool true)) (.tmp 25)),
  oM 27 26,
  oG 28 (.fadr 2 (.tmp 2)) 27 false,
  oG 29 (.load1 (.tmp 28)) 27 false,
  oG 30 (.fadr 2 (.tmp 3)) 27 false,
  oG 31 (.load1 (.tmp 30)) 27 false,
  oG 32 (.bin .neq (.tmp 29) (.tmp 31)) 27 false,
  oO 33 (.pick (.tmp 27) (.const (.bool true)) (.tmp 32)),
  oM 34 33,
  oG 35 (.fadr 3 (.tmp 2)) 34 false,
  oG 36 (.load1 (.tmp 35)) 34 false,
  oG 37 (.fadr 3 (.tmp 3)) 34 false,
  oG 38 (.load1 (.tmp 37)) 34 false,
  oG 39 (.bin .neq (.tmp 36) (.tmp 38)) 34 false,
  oO 40 (.pick (.tmp 34) (.const (.bool true)) (.tmp 39)),
  oM 14 40])
 (.cond (.tmp 14) (.seq (.reg [oO 4 (.mv (oK 2))])
 .ret) .skip)))))
 (.seq (.reg [oO 4 (.mv (oK 0))])
 .ret)))⟩
theorem s57:compFn Tryz.prog Tryz.f57=some c57:=by kernel_rfl
def c58:XFn:=
 ⟨[.celln 2 5],
 (.seq (.reg [oO 1 (.box 26 (.tmp 0)),
  oO 2 (.alloc 26 [.int .i64 0,.int .i64 0,.int .i64 0,.int .i64 0,.slice none 0 0])])
 (.seq (.reg [oO 7 (.loadn 5 (.tmp 1)),
  oO 8 (.call (.func 82) [(.tmp 7)]),
  oO 3 (.alloc 26 [.int .i64 0,.int .i64 0,.int .i64 0,.int .i64 0,.slice none 0 0]),
  oS (.store 5 (.tmp 3) (.tmp 8))])
 (.seq (.seq (.reg [oO 4 (.mv (oK 0))])
 (.blk 0 (.loop (.seq (.seq (.reg [oM 9 4,
  oF 10 4 1,
  oL 11 10,
  oN 12 11,
  oO 13 (.bin .lss (.tmp 9) (.tmp 12))])
 (.cond (.tmp 13) .skip (.exit 0)))
 (.seq (.blk 1 (.seq (.reg [oO 5 (.mv (oK 0))])
 (.seq (.blk 2 (.loop (.seq (.seq (.reg [oM 16 5,
  oF 17 4 3,
  oL 18 17,
  oN 19 18,
  oO 20 (.bin .lss (.tmp 16) (.tmp 19)),
  oM 21 20,
  oG 22 (.fadr 4 (.tmp 1)) 21 true,
  oG 23 (.load1 (.tmp 22)) 21 true,
  oG 24 (.mv (.tmp 4)) 21 true,
  oG 25 (.ixs 27 (.tmp 23) (.tmp 24)) 21 true,
  oG 26 (.loadn 27 (.tmp 25)) 21 true,
  oG 27 (.fadr 4 (.tmp 3)) 21 true,
  oG 28 (.load1 (.tmp 27)) 21 true,
  oG 29 (.mv (.tmp 5)) 21 true,
  oG 30 (.ixs 27 (.tmp 28) (.tmp 29)) 21 true,
  oG 31 (.loadn 27 (.tmp 30)) 21 true,
  oG 32 (.call (.func 89) [(.tmp 26),(.tmp 31)]) 21 true,
  oG 33 (.un .not (.tmp 32)) 21 true,
  oO 34 (.pick (.tmp 21) (.tmp 33) (.const (.bool false)))])
 (.cond (.tmp 34) .skip (.exit 2)))
 (.blk 3 (.reg [oM 35 5,
  oO 36 (.bin .add (.tmp 35) (oK 1)),
  oM 5 36])))))
 (.seq (.reg [oF 37 4 1,
  oL 38 37,
  oM 39 4,
  oX 40 27 38 39,
  oO 41 (.loadn 27 (.tmp 40)),
  oO 42 (.bslice 53 27 1 [.int .u8 0,.int .u8 0,.int .u8 0,.int .u8 0,.int .u8 0,.int .u8 0,.int .u8 0,.int .u8 0,.int .u8 0,.int .u8 0,.int .u8 0,.int .u8 0,.int .u8 0,.int .u8 0,.int .u8 0,.int .u8 0,.int .u8 0,.int .u8 0,.int .u8 0,.int .u8 0,.int .u8 0,.int .u8 0,.int .u8 0,.int .u8 0,.int .u8 0,.int .u8 0,.int .u8 0] [(0,27,(.tmp 41))]),
  oF 43 4 3,
  oL 44 43,
  oM 45 5,
  oO 46 (.slc 27 (.tmp 44) (some (.tmp 45)) none),
  oO 47 (.app 53 27 27 (.tmp 42) (.tmp 46)),
  oM 6 47])
 (.reg [oO 48 (.bslice 53 27 0 [.int .u8 0,.int .u8 0,.int .u8 0,.int .u8 0,.int .u8 0,.int .u8 0,.int .u8 0,.int .u8 0,.int .u8 0,.int .u8 0,.int .u8 0,.int .u8 0,.int .u8 0,.int .u8 0,.int .u8 0,.int .u8 0,.int .u8 0,.int .u8 0,.int .u8 0,.int .u8 0,.int .u8 0,.int .u8 0,.int .u8 0,.int .u8 0,.int .u8 0,.int .u8 0,.int .u8 0] []),
  oF 49 4 3,
  oL 50 49,
  oM 51 5,
  oO 52 (.slc 27 (.tmp 50) none (some (.tmp 51))),
  oO 53 (.app 53 27 27 (.tmp 48) (.tmp 52)),
  oM 54 6,
  oO 55 (.app 53 27 27 (.tmp 53) (.tmp 54)),
  oF 56 4 3,
  oS (.store 1 (.tmp 56) (.tmp 55))])))))
 (.reg [oM 14 4,
  oO 15 (.bin .add (.tmp 14) (oK 1)),
  oM 4 15]))))))
 (.seq (.reg [oO 57 (.loadn 5 (.tmp 3)),
  oS (.store 5 (.tmp 2) (.tmp 57))])
 .ret))))⟩
theorem s58:compFn Tryz.prog Tryz.f58=some c58:=by kernel_rfl
def c59:XFn:=
 ⟨[.celln 2 5],
 (.seq (.reg [oO 1 (.box 26 (.tmp 0)),
  oO 2 (.alloc 26 [.int .i64 0,.int .i64 0,.int .i64 0,.int .i64 0,.slice none 0 0])])
 (.seq (.reg [oO 5 (.loadn 5 (.tmp 1)),
  oO 6 (.call (.func 82) [(.tmp 5)]),
  oO 3 (.alloc 26 [.int .i64 0,.int .i64 0,.int .i64 0,.int .i64 0,.slice none 0 0]),
  oS (.store 5 (.tmp 3) (.tmp 6))])
 (.seq (.seq (.reg [oO 4 (.mv (oK 0))])
 (.blk 0 (.loop (.seq (.seq (.reg [oM 7 4,
  oF 8 4 1,
  oL 9 8,
  oN 10 9,
  oO 11 (.bin .lss (.tmp 7) (.tmp 10))])
 (.cond (.tmp 11) .skip (.exit 0)))
 (.seq (.blk 1 (.reg [oF 14 4 3,
  oL 15 14,
  oF 16 0 1,
  oL 17 16,
  oF 18 4 1,
  oL 19 18,
  oM 20 4,
  oX 21 27 19 20,
  oO 22 (.loadn 27 (.tmp 21)),
  ⟨some 23,.call (.func 90) [(.tmp 17),(.tmp 22)],none,.t⟩,
  oO 24 (.bslice 53 27 1 [.int .u8 0,.int .u8 0,.int .u8 0,.int .u8 0,.int .u8 0,.int .u8 0,.int .u8 0,.int .u8 0,.int .u8 0,.int .u8 0,.int .u8 0,.int .u8 0,.int .u8 0,.int .u8 0,.int .u8 0,.int .u8 0,.int .u8 0,.int .u8 0,.int .u8 0,.int .u8 0,.int .u8 0,.int .u8 0,.int .u8 0,.int .u8 0,.int .u8 0,.int .u8 0,.int .u8 0] [(0,27,(.tmp 23))]),
  oO 25 (.app 53 27 27 (.tmp 15) (.tmp 24)),
  oF 26 4 3,
  oS (.store 1 (.tmp 26) (.tmp 25))]))
 (.reg [oM 12 4,
  oO 13 (.bin .add (.tmp 12) (oK 1)),
  oM 4 13]))))))
 (.seq (.reg [oO 27 (.loadn 5 (.tmp 3)),
  oS (.store 5 (.tmp 2) (.tmp 27))])
 .ret))))⟩
theorem s59:compFn Tryz.prog Tryz.f59=some c59:=by kernel_rfl
def c60:XFn:=
 ⟨[.tmp 2,.tmp 3,.tmp 4],
 (.seq (.reg [oO 1 (.box 26 (.tmp 0)),
  oO 2 (.mv (oK 0)),
  oO 3 (.mv (oK 0)),
  oO 4 (.mv (oK 0))])
 (.seq (.reg [oF 5 1 1,
  oL 6 5,
  oF 7 2 1,
  oL 8 7,
  oO 9 (.bin .mul (.tmp 6) (.tmp 8)),
  oF 10 2 1,
  oL 11 10,
  oF 12 3 1,
  oL 13 12,
  oO 14 (.bin .mul (.tmp 11) (.tmp 13)),
  oF 15 1 1,
  oL 16 15,
  oF 17 3 1,
  oL 18 17,
  oO 19 (.bin .mul (.tmp 16) (.tmp 18)),
  oM 2 9,
  oM 3 14,
  oM 4 19])
 .ret))⟩
theorem s60:compFn Tryz.prog Tryz.f60=some c60:=by kernel_rfl
def c61:XFn:=
 ⟨[.tmp 8],
 (.seq (.reg [oO 4 (.box 26 (.tmp 0)),
  oO 8 (.mv (oK 0))])
 (.seq (.reg [oO 9 (.mv (oK 0))])
 (.seq (.seq (.reg [oO 10 (.mv (oK 0))])
 (.blk 0 (.loop (.seq (.seq (.reg [oM 12 10,
  oF 13 4 4,
  oL 14 13,
  oN 15 14,
  oO 16 (.bin .lss (.tmp 12) (.tmp 15))])
 (.cond (.tmp 16) .skip (.exit 0)))
 (.seq (.blk 1 (.seq (.reg [oF 19 4 4,
  oL 20 19,
  oM 21 10,
  oX 22 27 20 21,
  oO 23 (.loadn 27 (.tmp 22)),
  oO 11 (.alloc 53 [.int .u8 0,.int .u8 0,.int .u8 0,.int .u8 0,.int .u8 0,.int .u8 0,.int .u8 0,.int .u8 0,.int .u8 0,.int .u8 0,.int .u8 0,.int .u8 0,.int .u8 0,.int .u8 0,.int .u8 0,.int .u8 0,.int .u8 0,.int .u8 0,.int .u8 0,.int .u8 0,.int .u8 0,.int .u8 0,.int .u8 0,.int .u8 0,.int .u8 0,.int .u8 0,.int .u8 0]),
  oS (.store 27 (.tmp 11) (.tmp 23))])
 (.reg [oM 24 9,
  oM 25 1,
  oF 26 0 11,
  oO 27 (.ixa 9 1 (.tmp 26) (.tmp 25)),
  oL 28 27,
  oO 29 (.conv .i64 (.tmp 28)),
  oM 30 2,
  oF 31 9 11,
  oO 32 (.ixa 9 1 (.tmp 31) (.tmp 30)),
  oL 33 32,
  oO 34 (.conv .i64 (.tmp 33)),
  oO 35 (.bin .mul (.tmp 29) (.tmp 34)),
  oM 36 3,
  oF 37 18 11,
  oO 38 (.ixa 9 1 (.tmp 37) (.tmp 36)),
  oL 39 38,
  oO 40 (.conv .i64 (.tmp 39)),
  oO 41 (.bin .mul (.tmp 35) (.tmp 40)),
  oO 42 (.bin .add (.tmp 24) (.tmp 41)),
  oM 9 42])))
 (.reg [oM 17 10,
  oO 18 (.bin .add (.tmp 17) (oK 1)),
  oM 10 18]))))))
 (.seq (.reg [oM 43 9,
  oF 44 0 4,
  oL 45 44,
  oO 46 (.bin .rem (.tmp 43) (.tmp 45)),
  oM 8 46])
 .ret))))⟩
theorem s61:compFn Tryz.prog Tryz.f61=some c61:=by kernel_rfl
def c62:XFn:=
 ⟨[.celln 2 5],
 (.seq (.reg [oO 2 (.alloc 26 [.int .i64 0,.int .i64 0,.int .i64 0,.int .i64 0,.slice none 0 0])])
 (.seq (.reg [oM 3 0,
  oM 4 0,
  oO 5 (.call (.func 63) [(.tmp 4)]),
  oO 6 (.call (.func 65) [(.tmp 3),(.tmp 5)]),
  oS (.store 5 (.tmp 2) (.tmp 6))])
 .ret))⟩
theorem s62:compFn Tryz.prog Tryz.f62=some c62:=by kernel_rfl
def c63:XFn:=
 ⟨[.celln 2 5],
 (.seq (.reg [oO 2 (.alloc 26 [.int .i64 0,.int .i64 0,.int .i64 0,.int .i64 0,.slice none 0 0])])
 (.seq (.reg [oM 5 0,
  oO 6 (.call (.func 91) [(.tmp 5)]),
  oO 3 (.alloc 26 [.int .i64 0,.int .i64 0,.int .i64 0,.int .i64 0,.slice none 0 0]),
  oS (.store 5 (.tmp 3) (.tmp 6))])
 (.seq (.seq (.reg [oM 7 0,
  oO 8 (.call (.func 26) [(.tmp 7),(oK 4)])])
 (.blk 0 (.seq (.reg [oO 10 (.bin .eql (.tmp 8) (oK 0)),
  oM 9 10])
 (.cond (.tmp 9) (.seq (.reg [oF 11 0 3,
  oL 12 11,
  oO 13 (.call (.func 92) [(.tmp 12)]),
  oS (.store 5 (.tmp 2) (.tmp 13))])
 .ret) (.seq (.reg [oO 15 (.bin .eql (.tmp 8) (oK 1)),
  oM 14 15])
 (.cond (.tmp 14) (.seq (.reg [oF 16 0 3,
  oL 17 16,
  oF 18 1 3,
  oL 19 18,
  oF 20 2 3,
  oL 21 20,
  oF 22 3 3,
  oL 23 22,
  oO 24 (.call (.func 93) [(.tmp 17),(.tmp 19),(.tmp 21),(.tmp 23)]),
  oS (.store 5 (.tmp 2) (.tmp 24))])
 .ret) .skip))))))
 (.seq (.seq (.reg [oM 25 0,
  oO 26 (.call (.func 26) [(.tmp 25),(oK 6)]),
  oM 4 26])
 (.blk 1 (.loop (.seq (.seq (.reg [oM 27 4,
  oO 28 (.bin .gtr (.tmp 27) (oK 0))])
 (.cond (.tmp 28) .skip (.exit 1)))
 (.seq (.blk 2 (.reg [oF 31 4 3,
  oL 32 31,
  oM 33 0,
  oO 34 (.loadn 5 (.tmp 3)),
  ⟨some 35,.call (.func 86) [(.tmp 33),(.tmp 34)],none,(.s true [(.tmp 31)])⟩,
  oO 36 (.bslice 53 27 1 [.int .u8 0,.int .u8 0,.int .u8 0,.int .u8 0,.int .u8 0,.int .u8 0,.int .u8 0,.int .u8 0,.int .u8 0,.int .u8 0,.int .u8 0,.int .u8 0,.int .u8 0,.int .u8 0,.int .u8 0,.int .u8 0,.int .u8 0,.int .u8 0,.int .u8 0,.int .u8 0,.int .u8 0,.int .u8 0,.int .u8 0,.int .u8 0,.int .u8 0,.int .u8 0,.int .u8 0] [(0,27,(.tmp 35))]),
  oO 37 (.app 53 27 27 (.tmp 32) (.tmp 36)),
  oF 38 4 3,
  oS (.store 1 (.tmp 38) (.tmp 37))]))
 (.reg [oM 29 4,
  oO 30 (.bin .sub (.tmp 29) (oK 1)),
  oM 4 30]))))))
 (.seq (.reg [oO 39 (.loadn 5 (.tmp 3)),
  oS (.store 5 (.tmp 2) (.tmp 39))])
 .ret)))))⟩
theorem s63:compFn Tryz.prog Tryz.f63=some c63:=by kernel_rfl
def c64:XFn:=
 ⟨[.celln 6 9],
 (.seq (.reg [oO 4 (.box 34 (.tmp 1)),
  oO 6 (.alloc 34 [.int .u8 0,.int .u8 0,.int .u8 0,.int .u8 0,.int .u8 0,.int .u8 0,.int .u8 0,.int .u8 0,.int .u8 0])])
 (.seq (.reg [oM 7 0,
  oO 8 (.build [.int .u8 0,.int .u8 0,.int .u8 0,.int .u8 0,.int .u8 0,.int .u8 0,.int .u8 0,.int .u8 0,.int .u8 0] []),
  oO 9 (.loadn 9 (.tmp 4)),
  oM 10 2,
  oO 11 (.call (.func 51) [(.tmp 7),(.tmp 8),(.tmp 9),(.tmp 10)]),
  oS (.store 9 (.tmp 6) (.tmp 11))])
 .ret))⟩
theorem s64:compFn Tryz.prog Tryz.f64=some c64:=by kernel_rfl
def c65:XFn:=
 ⟨[.celln 4 5],
 (.seq (.reg [oO 3 (.box 26 (.tmp 1)),
  oO 4 (.alloc 26 [.int .i64 0,.int .i64 0,.int .i64 0,.int .i64 0,.slice none 0 0])])
 (.seq (.seq (.reg [oM 8 0,
  oO 9 (.call (.func 26) [(.tmp 8),(oK 40)])])
 (.blk 0 (.seq (.reg [oO 11 (.bin .eql (.tmp 9) (oK 0)),
  oM 10 11])
 (.cond (.tmp 10) (.reg [oM 12 0,
  oO 13 (.bslice 2 1 4 [.int .i64 0] [(0,1,(oK 0)),(1,1,(oK 4)),(2,1,(oK 7)),(3,1,(oK 3))]),
  oO 14 (.call (.func 80) [(.tmp 12),(.tmp 13)]),
  oF 15 0 3,
  oS (.store 1 (.tmp 15) (.tmp 14))]) (.seq (.reg [oO 17 (.bin .eql (.tmp 9) (oK 1)),
  oM 16 17])
 (.cond (.tmp 16) (.reg [oM 18 0,
  oO 19 (.bslice 2 1 3 [.int .i64 0] [(0,1,(oK 0)),(1,1,(oK 4)),(2,1,(.const (.int .i64 (-1))))]),
  oO 20 (.call (.func 80) [(.tmp 18),(.tmp 19)]),
  oF 21 1 3,
  oS (.store 1 (.tmp 21) (.tmp 20))]) (.seq (.reg [oO 23 (.bin .eql (.tmp 9) (oK 2)),
  oM 22 23])
 (.cond (.tmp 22) (.reg [oM 24 0,
  oF 25 3 3,
  oL 26 25,
  oO 27 (.bin .sub (.tmp 26) (oK 1)),
  oO 28 (.bslice 2 1 3 [.int .i64 0] [(0,1,(oK 0)),(1,1,(oK 4)),(2,1,(.tmp 27))]),
  oO 29 (.call (.func 80) [(.tmp 24),(.tmp 28)]),
  oF 30 3 3,
  oS (.store 1 (.tmp 30) (.tmp 29))]) (.seq (.seq (.reg [oO 32 (.bin .eql (.tmp 9) (oK 3)),
  oM 31 32])
 (.cond (.tmp 31) .skip (.seq (.reg [oO 33 (.bin .eql (.tmp 9) (oK 4)),
  oM 31 33])
 (.cond (.tmp 31) .skip (.reg [oO 34 (.bin .eql (.tmp 9) (oK 5)),
  oM 31 34])))))
 (.cond (.tmp 31) (.seq (.reg [oF 35 4 3,
  oL 36 35,
  oN 37 36,
  oM 5 37])
 (.seq (.reg [oM 38 5,
  oO 39 (.bin .gtr (.tmp 38) (oK 0))])
 (.cond (.tmp 39) (.seq (.reg [oO 40 (.bslice 53 27 0 [.int .u8 0,.int .u8 0,.int .u8 0,.int .u8 0,.int .u8 0,.int .u8 0,.int .u8 0,.int .u8 0,.int .u8 0,.int .u8 0,.int .u8 0,.int .u8 0,.int .u8 0,.int .u8 0,.int .u8 0,.int .u8 0,.int .u8 0,.int .u8 0,.int .u8 0,.int .u8 0,.int .u8 0,.int .u8 0,.int .u8 0,.int .u8 0,.int .u8 0,.int .u8 0,.int .u8 0] []),
  oF 41 4 3,
  oL 42 41,
  oO 43 (.app 53 27 27 (.tmp 40) (.tmp 42)),
  oM 6 43])
 (.seq (.reg [oM 44 6,
  oM 45 0,
  oM 46 5,
  oO 47 (.call (.func 26) [(.tmp 45),(.tmp 46)]),
  oX 48 27 44 47,
  oO 49 (.loadn 27 (.tmp 48)),
  oO 7 (.alloc 53 [.int .u8 0,.int .u8 0,.int .u8 0,.int .u8 0,.int .u8 0,.int .u8 0,.int .u8 0,.int .u8 0,.int .u8 0,.int .u8 0,.int .u8 0,.int .u8 0,.int .u8 0,.int .u8 0,.int .u8 0,.int .u8 0,.int .u8 0,.int .u8 0,.int .u8 0,.int .u8 0,.int .u8 0,.int .u8 0,.int .u8 0,.int .u8 0,.int .u8 0,.int .u8 0,.int .u8 0]),
  oS (.store 27 (.tmp 7) (.tmp 49))])
 (.seq (.reg [oM 50 0,
  oO 51 (.call (.func 26) [(.tmp 50),(oK 9)]),
  oM 52 0,
  oO 53 (.call (.func 26) [(.tmp 52),(oK 4)]),
  oO 54 (.conv .u8 (.tmp 53)),
  oF 55 9 7,
  oO 56 (.ixa 9 1 (.tmp 55) (.tmp 51)),
  oS (.store 1 (.tmp 56) (.tmp 54))])
 (.seq (.reg [oM 57 6,
  oM 58 0,
  oM 59 5,
  ⟨some 60,.call (.func 26) [(.tmp 58),(.tmp 59)],none,(.s true [])⟩,
  ⟨some 61,.loadn 27 (.tmp 7),none,(.s false [(.tmp 58)])⟩,
  oX 62 27 57 60,
  oS (.store 27 (.tmp 62) (.tmp 61))])
 (.reg [oM 63 6,
  oF 64 4 3,
  oS (.store 1 (.tmp 64) (.tmp 63))]))))) .skip))) .skip))))))))))
 (.seq (.reg [oO 65 (.loadn 5 (.tmp 3)),
  oS (.store 5 (.tmp 4) (.tmp 65))])
 .ret)))⟩
theorem s65:compFn Tryz.prog Tryz.f65=some c65:=by kernel_rfl
def c66:XFn:=
 ⟨[.tmp 8],
 (.seq (.reg [oO 8 (.mv (.const (.bool false)))])
 (.seq (.reg [oM 9 0,
  oO 10 (.call (.func 94) [(.tmp 9)]),
  oM 11 10,
  oG 12 (.mv (.tmp 1)) 11 true,
  oG 13 (.call (.func 36) [(.tmp 12),(oK 1),(oK 3)]) 11 true,
  oO 14 (.pick (.tmp 11) (.tmp 13) (.const (.bool false))),
  oM 15 14,
  oG 16 (.mv (.tmp 2)) 15 true,
  oG 17 (.call (.func 36) [(.tmp 16),(oK 1),(oK 3)]) 15 true,
  oO 18 (.pick (.tmp 15) (.tmp 17) (.const (.bool false))),
  oM 19 18,
  oG 20 (.mv (.tmp 3)) 19 true,
  oG 21 (.call (.func 36) [(.tmp 20),(oK 1),(oK 3)]) 19 true,
  oO 22 (.pick (.tmp 19) (.tmp 21) (.const (.bool false))),
  oM 8 22])
 .ret))⟩
theorem s66:compFn Tryz.prog Tryz.f66=some c66:=by kernel_rfl
def c67:XFn:=
 ⟨[.tmp 4],
 (.seq (.reg [oO 2 (.box 26 (.tmp 0)),
  oO 3 (.box 53 (.tmp 1)),
  oO 4 (.mv (.const (.bool false)))])
 (.seq (.reg [oO 9 (.loadn 5 (.tmp 2)),
  oO 10 (.call (.func 60) [(.tmp 9)]),
  oM 8 10,
  oE 11 8 0,
  oE 12 8 1,
  oE 13 8 2,
  oM 5 11,
  oM 6 12,
  oM 7 13])
 (.seq (.seq (.reg [oF 14 0 2,
  oL 15 14,
  oF 16 0 3,
  oO 17 (.loadn 9 (.tmp 16)),
  oM 18 5,
  oO 19 (.call (.func 48) [(.tmp 15),(.tmp 17),(.tmp 18)]),
  oO 20 (.un .not (.tmp 19)),
  oM 21 20,
  oG 22 (.fadr 0 (.tmp 2)) 21 false,
  oG 23 (.load1 (.tmp 22)) 21 false,
  oG 24 (.fadr 9 (.tmp 3)) 21 false,
  oG 25 (.loadn 9 (.tmp 24)) 21 false,
  oG 26 (.mv (.tmp 6)) 21 false,
  oG 27 (.call (.func 48) [(.tmp 23),(.tmp 25),(.tmp 26)]) 21 false,
  oG 28 (.un .not (.tmp 27)) 21 false,
  oO 29 (.pick (.tmp 21) (.const (.bool true)) (.tmp 28)),
  oM 30 29,
  oG 31 (.fadr 0 (.tmp 2)) 30 false,
  oG 32 (.load1 (.tmp 31)) 30 false,
  oG 33 (.fadr 18 (.tmp 3)) 30 false,
  oG 34 (.loadn 9 (.tmp 33)) 30 false,
  oG 35 (.mv (.tmp 7)) 30 false,
  oG 36 (.call (.func 48) [(.tmp 32),(.tmp 34),(.tmp 35)]) 30 false,
  oG 37 (.un .not (.tmp 36)) 30 false,
  oO 38 (.pick (.tmp 30) (.const (.bool true)) (.tmp 37))])
 (.cond (.tmp 38) (.seq (.reg [oO 4 (.mv (.const (.bool false)))])
 .ret) .skip))
 (.seq (.reg [oF 39 0 3,
  oO 40 (.loadn 9 (.tmp 39)),
  oO 41 (.call (.func 49) [(.tmp 40)]),
  oO 42 (.un .not (.tmp 41)),
  oM 43 42,
  oG 44 (.fadr 9 (.tmp 3)) 43 true,
  oG 45 (.loadn 9 (.tmp 44)) 43 true,
  oG 46 (.call (.func 49) [(.tmp 45)]) 43 true,
  oG 47 (.un .not (.tmp 46)) 43 true,
  oO 48 (.pick (.tmp 43) (.tmp 47) (.const (.bool false))),
  oM 49 48,
  oG 50 (.fadr 18 (.tmp 3)) 49 true,
  oG 51 (.loadn 9 (.tmp 50)) 49 true,
  oG 52 (.call (.func 49) [(.tmp 51)]) 49 true,
  oG 53 (.un .not (.tmp 52)) 49 true,
  oO 54 (.pick (.tmp 49) (.tmp 53) (.const (.bool false))),
  oM 4 54])
 .ret))))⟩
theorem s67:compFn Tryz.prog Tryz.f67=some c67:=by kernel_rfl
def c68:XFn:=
 ⟨[.tmp 2],
 (.seq (.reg [oO 2 (.mv (.const (.bool false)))])
 (.seq (.reg [oM 3 0,
  oO 4 (.bin .eql (.tmp 3) (oK 2)),
  oM 5 4,
  oG 6 (.mv (.tmp 0)) 5 false,
  oG 7 (.bin .eql (.tmp 6) (oK 3)) 5 false,
  oO 8 (.pick (.tmp 5) (.const (.bool true)) (.tmp 7)),
  oM 9 8,
  oG 10 (.mv (.tmp 0)) 9 false,
  oG 11 (.bin .eql (.tmp 10) (oK 5)) 9 false,
  oO 12 (.pick (.tmp 9) (.const (.bool true)) (.tmp 11)),
  oM 2 12])
 .ret))⟩
theorem s68:compFn Tryz.prog Tryz.f68=some c68:=by kernel_rfl
def c69:XFn:=
 ⟨[.tmp 2],
 (.seq (.reg [oO 2 (.mv (.const (.bool false)))])
 (.seq (.seq (.reg [oM 5 0,
  oN 6 5,
  oO 7 (.mv (oK 0))])
 (.blk 0 (.loop (.seq (.reg [oO 8 (.bin .lss (.tmp 7) (.tmp 6))])
 (.seq (.cond (.tmp 8) .skip (.exit 0))
 (.seq (.blk 1 (.seq (.reg [oX 9 1 5 7,
  oL 10 9,
  oM 4 10])
 (.seq (.reg [oM 11 4,
  oO 12 (.bin .lss (.tmp 11) (oK 1)),
  oM 13 12,
  oG 14 (.mv (.tmp 4)) 13 false,
  oG 15 (.bin .gtr (.tmp 14) (oK 3)) 13 false,
  oO 16 (.pick (.tmp 13) (.const (.bool true)) (.tmp 15))])
 (.cond (.tmp 16) (.seq (.reg [oO 2 (.mv (.const (.bool false)))])
 .ret) .skip))))
 (.reg [oO 17 (.bin .add (.tmp 7) (oK 1)),
  oM 7 17])))))))
 (.seq (.reg [oO 2 (.mv (.const (.bool true)))])
 .ret)))⟩
theorem s69:compFn Tryz.prog Tryz.f69=some c69:=by kernel_rfl
def c70:XFn:=
 ⟨[.tmp 6],
 (.seq (.reg [oO 4 (.box 66 (.tmp 1)),
  oO 5 (.box 53 (.tmp 2)),
  oO 6 (.mv (.const (.bool false)))])
 (.seq (.seq (.reg [oO 9 (.loadn 27 (.tmp 5)),
  oO 10 (.call (.func 44) [(.tmp 9)]),
  oO 11 (.mv (oK 0))])
 (.blk 0 (.loop (.seq (.reg [oO 12 (.bin .lss (.tmp 11) (oK 3))])
 (.seq (.cond (.tmp 12) .skip (.exit 0))
 (.seq (.blk 1 (.seq (.reg [oM 13 11,
  oO 14 (.idxn 3 9 (.tmp 10) (.tmp 11)),
  oO 8 (.alloc 34 [.int .u8 0,.int .u8 0,.int .u8 0,.int .u8 0,.int .u8 0,.int .u8 0,.int .u8 0,.int .u8 0,.int .u8 0]),
  oM 7 13,
  oS (.store 9 (.tmp 8) (.tmp 14))])
 (.seq (.reg [oM 15 0,
  oM 16 7,
  oO 17 (.ixa 3 1 (.tmp 4) (.tmp 16)),
  oL 18 17,
  oO 19 (.loadn 9 (.tmp 8)),
  oO 20 (.call (.func 42) [(.tmp 15),(.tmp 18),(.tmp 19)]),
  oO 21 (.un .not (.tmp 20))])
 (.cond (.tmp 21) (.seq (.reg [oO 6 (.mv (.const (.bool false)))])
 .ret) .skip))))
 (.reg [oO 22 (.bin .add (.tmp 11) (oK 1)),
  oM 11 22])))))))
 (.seq (.reg [oO 23 (.loadn 27 (.tmp 5)),
  oO 24 (.call (.func 74) [(.tmp 23)]),
  oO 25 (.un .not (.tmp 24)),
  oM 6 25])
 .ret)))⟩
theorem s70:compFn Tryz.prog Tryz.f70=some c70:=by kernel_rfl
def c71:XFn:=
 ⟨[.celln 4 27],
 (.seq (.reg [oO 3 (.box 53 (.tmp 1)),
  oO 4 (.alloc 53 [.int .u8 0,.int .u8 0,.int .u8 0,.int .u8 0,.int .u8 0,.int .u8 0,.int .u8 0,.int .u8 0,.int .u8 0,.int .u8 0,.int .u8 0,.int .u8 0,.int .u8 0,.int .u8 0,.int .u8 0,.int .u8 0,.int .u8 0,.int .u8 0,.int .u8 0,.int .u8 0,.int .u8 0,.int .u8 0,.int .u8 0,.int .u8 0,.int .u8 0,.int .u8 0,.int .u8 0])])
 (.seq (.reg [oF 7 0 3,
  oO 8 (.loadn 9 (.tmp 7)),
  ⟨some 9,.call (.func 95) [(.tmp 8)],none,.t⟩,
  oF 10 9 3,
  oO 11 (.loadn 9 (.tmp 10)),
  oO 12 (.call (.func 95) [(.tmp 11)]),
  oM 5 9,
  oM 6 12])
 (.seq (.reg [oM 13 0,
  oF 14 0 3,
  oO 15 (.loadn 9 (.tmp 14)),
  oM 16 0,
  oM 17 5,
  ⟨some 18,.call (.func 97) [(.tmp 16),(.tmp 17)],none,.t⟩,
  ⟨some 19,.call (.func 96) [(.tmp 13),(.tmp 15),(.tmp 18)],none,.t⟩,
  oM 20 0,
  oF 21 9 3,
  oO 22 (.loadn 9 (.tmp 21)),
  oM 23 0,
  oM 24 6,
  ⟨some 25,.call (.func 97) [(.tmp 23),(.tmp 24)],none,.t⟩,
  ⟨some 26,.call (.func 96) [(.tmp 20),(.tmp 22),(.tmp 25)],none,.t⟩,
  oM 27 0,
  oF 28 18 3,
  oO 29 (.loadn 9 (.tmp 28)),
  oM 30 5,
  oM 31 6,
  oO 32 (.bin .mul (.tmp 30) (.tmp 31)),
  oM 33 0,
  oO 34 (.bin .rem (.tmp 32) (.tmp 33)),
  oO 35 (.call (.func 96) [(.tmp 27),(.tmp 29),(.tmp 34)]),
  oO 36 (.build [.int .u8 0,.int .u8 0,.int .u8 0,.int .u8 0,.int .u8 0,.int .u8 0,.int .u8 0,.int .u8 0,.int .u8 0,.int .u8 0,.int .u8 0,.int .u8 0,.int .u8 0,.int .u8 0,.int .u8 0,.int .u8 0,.int .u8 0,.int .u8 0,.int .u8 0,.int .u8 0,.int .u8 0,.int .u8 0,.int .u8 0,.int .u8 0,.int .u8 0,.int .u8 0,.int .u8 0] [(0,9,(.tmp 19)),(9,9,(.tmp 26)),(18,9,(.tmp 35))]),
  oS (.store 27 (.tmp 4) (.tmp 36))])
 .ret)))⟩
theorem s71:compFn Tryz.prog Tryz.f71=some c71:=by kernel_rfl
def c72:XFn:=
 ⟨[.celln 6 27,.tmp 7],
 (.seq (.reg [oO 4 (.box 53 (.tmp 1)),
  oO 5 (.box 53 (.tmp 2)),
  oO 6 (.alloc 53 [.int .u8 0,.int .u8 0,.int .u8 0,.int .u8 0,.int .u8 0,.int .u8 0,.int .u8 0,.int .u8 0,.int .u8 0,.int .u8 0,.int .u8 0,.int .u8 0,.int .u8 0,.int .u8 0,.int .u8 0,.int .u8 0,.int .u8 0,.int .u8 0,.int .u8 0,.int .u8 0,.int .u8 0,.int .u8 0,.int .u8 0,.int .u8 0,.int .u8 0,.int .u8 0,.int .u8 0]),
  oO 7 (.mv (.const (.bool false)))])
 (.seq (.seq (.reg [oM 9 0,
  oF 10 18 4,
  oO 11 (.loadn 9 (.tmp 10)),
  oF 12 18 5,
  oO 13 (.loadn 9 (.tmp 12)),
  oO 14 (.call (.func 98) [(.tmp 9),(.tmp 11),(.tmp 13)]),
  oM 8 14])
 (.blk 0 (.seq (.reg [oF 17 0 4,
  oO 18 (.loadn 9 (.tmp 17)),
  oF 19 0 5,
  oO 20 (.loadn 9 (.tmp 19)),
  oO 21 (.eqa false 9 (.tmp 18) (.tmp 20)),
  oM 22 21,
  oG 23 (.fadr 9 (.tmp 4)) 22 true,
  oG 24 (.loadn 9 (.tmp 23)) 22 true,
  oG 25 (.fadr 9 (.tmp 5)) 22 true,
  oG 26 (.loadn 9 (.tmp 25)) 22 true,
  oG 27 (.eqa false 9 (.tmp 24) (.tmp 26)) 22 true,
  oO 28 (.pick (.tmp 22) (.tmp 27) (.const (.bool false))),
  oM 16 28])
 (.cond (.tmp 16) (.reg [oM 29 0,
  oF 30 18 4,
  oO 31 (.loadn 9 (.tmp 30)),
  oF 32 18 5,
  oO 33 (.loadn 9 (.tmp 32)),
  oO 34 (.call (.func 45) [(.tmp 29),(.tmp 31),(.tmp 33),(oK 1)]),
  oF 35 18 4,
  oS (.store 9 (.tmp 35) (.tmp 34))]) (.seq (.reg [oF 37 0 4,
  oO 38 (.loadn 9 (.tmp 37)),
  oF 39 0 5,
  oO 40 (.loadn 9 (.tmp 39)),
  oO 41 (.eqa false 9 (.tmp 38) (.tmp 40)),
  oM 42 41,
  oG 43 (.mv (.tmp 8)) 42 true,
  oG 44 (.bin .gtr (.tmp 43) (oK 0)) 42 true,
  oO 45 (.pick (.tmp 42) (.tmp 44) (.const (.bool false))),
  oM 36 45])
 (.cond (.tmp 36) (.reg [oM 46 0,
  oF 47 9 4,
  oO 48 (.loadn 9 (.tmp 47)),
  oF 49 9 5,
  oO 50 (.loadn 9 (.tmp 49)),
  oM 51 8,
  oO 52 (.call (.func 45) [(.tmp 46),(.tmp 48),(.tmp 50),(.tmp 51)]),
  oF 53 9 4,
  oS (.store 9 (.tmp 53) (.tmp 52))]) (.seq (.reg [oF 55 9 4,
  oO 56 (.loadn 9 (.tmp 55)),
  oF 57 9 5,
  oO 58 (.loadn 9 (.tmp 57)),
  oO 59 (.eqa false 9 (.tmp 56) (.tmp 58)),
  oM 60 59,
  oG 61 (.mv (.tmp 8)) 60 true,
  oG 62 (.bin .gtr (.tmp 61) (oK 0)) 60 true,
  oO 63 (.pick (.tmp 60) (.tmp 62) (.const (.bool false))),
  oM 54 63])
 (.cond (.tmp 54) (.reg [oM 64 0,
  oF 65 0 4,
  oO 66 (.loadn 9 (.tmp 65)),
  oF 67 0 5,
  oO 68 (.loadn 9 (.tmp 67)),
  oM 69 8,
  oO 70 (.call (.func 45) [(.tmp 64),(.tmp 66),(.tmp 68),(.tmp 69)]),
  oF 71 0 4,
  oS (.store 9 (.tmp 71) (.tmp 70))]) (.seq (.reg [oO 15 (.build [.int .u8 0,.int .u8 0,.int .u8 0,.int .u8 0,.int .u8 0,.int .u8 0,.int .u8 0,.int .u8 0,.int .u8 0,.int .u8 0,.int .u8 0,.int .u8 0,.int .u8 0,.int .u8 0,.int .u8 0,.int .u8 0,.int .u8 0,.int .u8 0,.int .u8 0,.int .u8 0,.int .u8 0,.int .u8 0,.int .u8 0,.int .u8 0,.int .u8 0,.int .u8 0,.int .u8 0] []),
  oS (.store 27 (.tmp 6) (.tmp 15)),
  oO 7 (.mv (.const (.bool false)))])
 .ret)))))))))
 (.seq (.reg [oO 72 (.loadn 27 (.tmp 4)),
  oS (.store 27 (.tmp 6) (.tmp 72)),
  oO 7 (.mv (.const (.bool true)))])
 .ret)))⟩
theorem s72:compFn Tryz.prog Tryz.f72=some c72:=by kernel_rfl
def c73:XFn:=
 ⟨[.tmp 4],
 (.seq (.reg [oO 4 (.mv (.const (.slice none 0 0)))])
 (.seq (.reg [oM 5 0,
  oM 6 1,
  oO 7 (.slc 27 (.tmp 5) none (some (.tmp 6))),
  oM 8 0,
  oM 9 1,
  oO 10 (.bin .add (.tmp 9) (oK 1)),
  oO 11 (.slc 27 (.tmp 8) (some (.tmp 10)) none),
  oO 12 (.bslice 24 1 2 [.slice none 0 0] [(0,1,(.tmp 7)),(1,1,(.tmp 11))]),
  oO 13 (.call (.func 99) [(.tmp 12)]),
  oM 4 13])
 .ret))⟩
theorem s73:compFn Tryz.prog Tryz.f73=some c73:=by kernel_rfl
def c74:XFn:=
 ⟨[.tmp 2],
 (.seq (.reg [oO 1 (.box 53 (.tmp 0)),
  oO 2 (.mv (.const (.bool false)))])
 (.seq (.reg [oF 3 0 1,
  oO 4 (.loadn 9 (.tmp 3)),
  oO 5 (.build [.int .u8 0,.int .u8 0,.int .u8 0,.int .u8 0,.int .u8 0,.int .u8 0,.int .u8 0,.int .u8 0,.int .u8 0] []),
  oO 6 (.eqa false 9 (.tmp 4) (.tmp 5)),
  oM 7 6,
  oG 8 (.fadr 9 (.tmp 1)) 7 false,
  oG 9 (.loadn 9 (.tmp 8)) 7 false,
  oG 10 (.build [.int .u8 0,.int .u8 0,.int .u8 0,.int .u8 0,.int .u8 0,.int .u8 0,.int .u8 0,.int .u8 0,.int .u8 0] []) 7 false,
  oG 11 (.eqa false 9 (.tmp 9) (.tmp 10)) 7 false,
  oO 12 (.pick (.tmp 7) (.const (.bool true)) (.tmp 11)),
  oM 13 12,
  oG 14 (.fadr 18 (.tmp 1)) 13 false,
  oG 15 (.loadn 9 (.tmp 14)) 13 false,
  oG 16 (.build [.int .u8 0,.int .u8 0,.int .u8 0,.int .u8 0,.int .u8 0,.int .u8 0,.int .u8 0,.int .u8 0,.int .u8 0] []) 13 false,
  oG 17 (.eqa false 9 (.tmp 15) (.tmp 16)) 13 false,
  oO 18 (.pick (.tmp 13) (.const (.bool true)) (.tmp 17)),
  oM 2 18])
 .ret))⟩
theorem s74:compFn Tryz.prog Tryz.f74=some c74:=by kernel_rfl
def c75:XFn:=
 ⟨[.celln 2 5,.tmp 3],
 (.seq (.reg [oO 1 (.box 26 (.tmp 0)),
  oO 2 (.alloc 26 [.int .i64 0,.int .i64 0,.int .i64 0,.int .i64 0,.slice none 0 0]),
  oO 3 (.mv (.const (.bool false)))])
 (.seq (.seq (.reg [oO 4 (.mv (oK 0))])
 (.blk 0 (.loop (.seq (.seq (.reg [oM 9 4,
  oF 10 4 1,
  oL 11 10,
  oN 12 11,
  oO 13 (.bin .lss (.tmp 9) (.tmp 12))])
 (.cond (.tmp 13) .skip (.exit 0)))
 (.seq (.blk 1 (.seq (.reg [oM 16 4,
  oO 17 (.bin .add (.tmp 16) (oK 1)),
  oM 5 17])
 (.blk 2 (.loop (.seq (.seq (.reg [oM 18 5,
  oF 19 4 1,
  oL 20 19,
  oN 21 20,
  oO 22 (.bin .lss (.tmp 18) (.tmp 21))])
 (.cond (.tmp 22) .skip (.exit 2)))
 (.seq (.blk 3 (.seq (.reg [oF 26 0 1,
  oL 27 26,
  oF 28 4 1,
  oL 29 28,
  oM 30 4,
  oX 31 27 29 30,
  oO 32 (.loadn 27 (.tmp 31)),
  oF 33 4 1,
  oL 34 33,
  oM 35 5,
  oX 36 27 34 35,
  oO 37 (.loadn 27 (.tmp 36)),
  oO 38 (.call (.func 100) [(.tmp 27),(.tmp 32),(.tmp 37)]),
  oM 25 38,
  oE 39 25 0,
  oE 40 25 1,
  oM 7 40,
  oO 6 (.boxn 53 27 (.tmp 39))])
 (.seq (.seq (.reg [oM 41 7,
  oO 42 (.un .not (.tmp 41))])
 (.cond (.tmp 42) (.exit 3) .skip))
 (.seq (.reg [oO 43 (.bslice 53 27 0 [.int .u8 0,.int .u8 0,.int .u8 0,.int .u8 0,.int .u8 0,.int .u8 0,.int .u8 0,.int .u8 0,.int .u8 0,.int .u8 0,.int .u8 0,.int .u8 0,.int .u8 0,.int .u8 0,.int .u8 0,.int .u8 0,.int .u8 0,.int .u8 0,.int .u8 0,.int .u8 0,.int .u8 0,.int .u8 0,.int .u8 0,.int .u8 0,.int .u8 0,.int .u8 0,.int .u8 0] []),
  oF 44 4 1,
  oL 45 44,
  oM 46 5,
  oO 47 (.slc 27 (.tmp 45) none (some (.tmp 46))),
  oO 48 (.app 53 27 27 (.tmp 43) (.tmp 47)),
  oM 8 48])
 (.seq (.reg [oM 49 8,
  oF 50 4 1,
  oL 51 50,
  oM 52 5,
  oO 53 (.bin .add (.tmp 52) (oK 1)),
  oO 54 (.slc 27 (.tmp 51) (some (.tmp 53)) none),
  oO 55 (.app 53 27 27 (.tmp 49) (.tmp 54)),
  oM 8 55])
 (.seq (.reg [oM 56 8,
  oM 57 4,
  oO 58 (.loadn 27 (.tmp 6)),
  oX 59 27 56 57,
  oS (.store 27 (.tmp 59) (.tmp 58))])
 (.seq (.reg [oO 60 (.loadn 5 (.tmp 1)),
  oM 61 8,
  oO 62 (.call (.func 52) [(.tmp 60),(.tmp 61)]),
  oO 63 (.call (.func 59) [(.tmp 62)]),
  oS (.store 5 (.tmp 2) (.tmp 63)),
  oO 3 (.mv (.const (.bool true)))])
 .ret)))))))
 (.reg [oM 23 5,
  oO 24 (.bin .add (.tmp 23) (oK 1)),
  oM 5 24])))))))
 (.reg [oM 14 4,
  oO 15 (.bin .add (.tmp 14) (oK 1)),
  oM 4 15]))))))
 (.seq (.reg [oO 64 (.loadn 5 (.tmp 1)),
  oS (.store 5 (.tmp 2) (.tmp 64)),
  oO 3 (.mv (.const (.bool false)))])
 .ret)))⟩
theorem s75:compFn Tryz.prog Tryz.f75=some c75:=by kernel_rfl
def c76:XFn:=
 ⟨[.tmp 2],
 (.seq (.reg [oO 2 (.mv (.const (.bool false)))])
 (.seq (.seq (.reg [oM 5 0,
  oN 6 5,
  oO 7 (.mv (oK 0))])
 (.blk 0 (.loop (.seq (.reg [oO 8 (.bin .lss (.tmp 7) (.tmp 6))])
 (.seq (.cond (.tmp 8) .skip (.exit 0))
 (.seq (.blk 1 (.seq (.reg [oX 9 5 5 7,
  oO 10 (.loadn 5 (.tmp 9)),
  oO 4 (.alloc 26 [.int .i64 0,.int .i64 0,.int .i64 0,.int .i64 0,.slice none 0 0]),
  oS (.store 5 (.tmp 4) (.tmp 10))])
 (.seq (.reg [oO 11 (.loadn 5 (.tmp 4)),
  oO 12 (.call (.func 27) [(.tmp 11)]),
  oO 13 (.un .not (.tmp 12))])
 (.cond (.tmp 13) (.seq (.reg [oO 2 (.mv (.const (.bool false)))])
 .ret) .skip))))
 (.reg [oO 14 (.bin .add (.tmp 7) (oK 1)),
  oM 7 14])))))))
 (.seq (.reg [oO 2 (.mv (.const (.bool true)))])
 .ret)))⟩
theorem s76:compFn Tryz.prog Tryz.f76=some c76:=by kernel_rfl
def c77:XFn:=
 ⟨[.celln 10 5],
 (.seq (.reg [oO 10 (.alloc 58 [.int .i64 0,.int .i64 0,.int .i64 0,.int .i64 0,.slice none 0 0])])
 (.seq (.reg [oM 15 0,
  oM 16 1,
  oM 17 2,
  oM 18 3,
  oO 19 (.build [.int .i64 0,.int .i64 0,.int .i64 0,.int .i64 0,.slice none 0 0] [(0,1,(.tmp 15)),(1,1,(.tmp 16)),(2,1,(.tmp 17)),(3,1,(.tmp 18))]),
  oO 11 (.alloc 58 [.int .i64 0,.int .i64 0,.int .i64 0,.int .i64 0,.slice none 0 0]),
  oS (.store 5 (.tmp 11) (.tmp 19))])
 (.seq (.seq (.reg [oM 20 1,
  oO 21 (.mv (oK 0))])
 (.blk 0 (.loop (.seq (.reg [oO 22 (.bin .lss (.tmp 21) (.tmp 20))])
 (.seq (.cond (.tmp 22) .skip (.exit 0))
 (.seq (.blk 1 (.seq (.reg [oM 23 21,
  oM 12 23])
 (.seq (.reg [oM 24 2,
  oO 25 (.mv (oK 0))])
 (.blk 2 (.loop (.seq (.reg [oO 26 (.bin .lss (.tmp 25) (.tmp 24))])
 (.seq (.cond (.tmp 26) .skip (.exit 2))
 (.seq (.blk 3 (.seq (.reg [oM 27 25,
  oM 13 27])
 (.seq (.reg [oM 28 3,
  oO 29 (.mv (oK 0))])
 (.blk 4 (.loop (.seq (.reg [oO 30 (.bin .lss (.tmp 29) (.tmp 28))])
 (.seq (.cond (.tmp 30) .skip (.exit 4))
 (.seq (.blk 5 (.seq (.reg [oM 31 29,
  oM 14 31])
 (.reg [oF 32 4 11,
  oL 33 32,
  oM 34 4,
  oM 35 12,
  oM 36 13,
  oM 37 14,
  ⟨some 38,.call (.tmp 34) [(.tmp 35),(.tmp 36),(.tmp 37)],none,.t⟩,
  oM 39 0,
  oO 40 (.bin .rem (.tmp 38) (.tmp 39)),
  oO 41 (.bslice 2 1 1 [.int .i64 0] [(0,1,(.tmp 40))]),
  oO 42 (.app 2 1 8 (.tmp 33) (.tmp 41)),
  oF 43 4 11,
  oS (.store 1 (.tmp 43) (.tmp 42))])))
 (.reg [oO 44 (.bin .add (.tmp 29) (oK 1)),
  oM 29 44])))))))))
 (.reg [oO 45 (.bin .add (.tmp 25) (oK 1)),
  oM 25 45])))))))))
 (.reg [oO 46 (.bin .add (.tmp 21) (oK 1)),
  oM 21 46])))))))
 (.seq (.reg [oO 47 (.loadn 5 (.tmp 11)),
  oS (.store 5 (.tmp 10) (.tmp 47))])
 .ret))))⟩
theorem s77:compFn Tryz.prog Tryz.f77=some c77:=by kernel_rfl
def tab2:List (Nat×XFn):=[(38,c38),(39,c39),(40,c40),(41,c41),(42,c42),(43,c43),(44,c44),(45,c45),(46,c46),(47,c47),(48,c48),(49,c49),(50,c50),(51,c51),(52,c52),(53,c53),(54,c54),(55,c55),(56,c56),(57,c57),(58,c58),(59,c59),(60,c60),(61,c61),(62,c62),(63,c63),(64,c64),(65,c65),(66,c66),(67,c67),(68,c68),(69,c69),(70,c70),(71,c71),(72,c72),(73,c73),(74,c74),(75,c75),(76,c76),(77,c77)]
theorem ts2:TSound Tryz.prog (fun g=>tab2.lookup g):=by
 refine tsound_of_all (P:=Tryz.prog) (tab:=tab2) ?_
 intro p hp
 simp only[tab2,List.mem_cons,List.not_mem_nil,or_false] at hp
 rcases hp with rfl|rfl|rfl|rfl|rfl|rfl|rfl|rfl|rfl|rfl|rfl|rfl|rfl|rfl|rfl|rfl|rfl|rfl|rfl|rfl|rfl|rfl|rfl|rfl|rfl|rfl|rfl|rfl|rfl|rfl|rfl|rfl|rfl|rfl|rfl|rfl|rfl|rfl|rfl|rfl
 ·exact⟨_,Tryz.func38,s38⟩
 ·exact⟨_,Tryz.func39,s39⟩
 ·exact⟨_,Tryz.func40,s40⟩
 ·exact⟨_,Tryz.func41,s41⟩
 ·exact⟨_,Tryz.func42,s42⟩
 ·exact⟨_,Tryz.func43,s43⟩
 ·exact⟨_,Tryz.func44,s44⟩
 ·exact⟨_,Tryz.func45,s45⟩
 ·exact⟨_,Tryz.func46,s46⟩
 ·exact⟨_,Tryz.func47,s47⟩
 ·exact⟨_,Tryz.func48,s48⟩
 ·exact⟨_,Tryz.func49,s49⟩
 ·exact⟨_,Tryz.func50,s50⟩
 ·exact⟨_,Tryz.func51,s51⟩
 ·exact⟨_,Tryz.func52,s52⟩
 ·exact⟨_,Tryz.func53,s53⟩
 ·exact⟨_,Tryz.func54,s54⟩
 ·exact⟨_,Tryz.func55,s55⟩
 ·exact⟨_,Tryz.func56,s56⟩
 ·exact⟨_,Tryz.func57,s57⟩
 ·exact⟨_,Tryz.func58,s58⟩
 ·exact⟨_,Tryz.func59,s59⟩
 ·exact⟨_,Tryz.func60,s60⟩
 ·exact⟨_,Tryz.func61,s61⟩
 ·exact⟨_,Tryz.func62,s62⟩
 ·exact⟨_,Tryz.func63,s63⟩
 ·exact⟨_,Tryz.func64,s64⟩
 ·exact⟨_,Tryz.func65,s65⟩
 ·exact⟨_,Tryz.func66,s66⟩
 ·exact⟨_,Tryz.func67,s67⟩
 ·exact⟨_,Tryz.func68,s68⟩
 ·exact⟨_,Tryz.func69,s69⟩
 ·exact⟨_,Tryz.func70,s70⟩
 ·exact⟨_,Tryz.func71,s71⟩
 ·exact⟨_,Tryz.func72,s72⟩
 ·exact⟨_,Tryz.func73,s73⟩
 ·exact⟨_,Tryz.func74,s74⟩
 ·exact⟨_,Tryz.func75,s75⟩
 ·exact⟨_,Tryz.func76,s76⟩
 ·exact⟨_,Tryz.func77,s77⟩
end Go.Proofs.YtigpfopobpoamaaGreat.X
