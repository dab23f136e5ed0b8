/- Texts of one claim, put together by merge.py: XCode3. -/
import Derived.Test.YtapafdpnmakekaaPA3
import Derived.Test.YtapafdpnmakekaaProg
set_option linter.unusedVariables false
set_option maxRecDepth 4000
namespace Go.Proofs.Ytapafdpnmakekaa.X
open Go Go.RowKit
def c311:XFn:=
 ⟨[.tmp 4],
 (.seq (.reg [oO 4 (.mv (oK 0))])
 (.seq (.seq (.reg [oO 5 (.mv (oK 1))])
 (.blk 0 (.loop (.seq (.seq (.reg [oM 6 5,
  oM 7 0,
  oO 8 (.bin .lss (.tmp 6) (.tmp 7))])
 (.cond (.tmp 8) .skip (.exit 0)))
 (.seq (.blk 1 (.seq (.reg [oM 11 5,
  oM 12 0,
  oM 13 1,
  oO 14 (.call (.func 314) [(.tmp 12),(.tmp 13)]),
  oO 15 (.bin .mul (.tmp 11) (.tmp 14)),
  oM 16 0,
  oO 17 (.bin .rem (.tmp 15) (.tmp 16)),
  oO 18 (.bin .eql (.tmp 17) (oK 1))])
 (.cond (.tmp 18) (.seq (.reg [oM 19 5,
  oM 4 19])
 .ret) .skip)))
 (.reg [oM 9 5,
  oO 10 (.bin .add (.tmp 9) (oK 1)),
  oM 5 10]))))))
 (.seq (.reg [oO 4 (.mv (oK 0))])
 .ret)))⟩
theorem s311:compFn Try.prog Try.f311=some c311:=by kernel_rfl
def c314:XFn:=
 ⟨[.tmp 4],
 (.seq (.reg [oO 4 (.mv (oK 0))])
 (.seq (.reg [oM 5 1,
  oM 6 0,
  oO 7 (.bin .rem (.tmp 5) (.tmp 6)),
  oM 8 0,
  oO 9 (.bin .add (.tmp 7) (.tmp 8)),
  oM 10 0,
  oO 11 (.bin .rem (.tmp 9) (.tmp 10)),
  oM 4 11])
 .ret))⟩
theorem s314:compFn Try.prog Try.f314=some c314:=by kernel_rfl
def c317:XFn:=
 ⟨[.celln 2 5],
 (.seq (.reg [oO 1 (.box 26 (.tmp 0)),
  oO 2 (.alloc 26 [.int .i64 0,.int .i64 0,.int .i64 0,.int .i64 0,.slice none 0 0])])
 (.seq (.reg [oO 5 (.loadn 5 (.tmp 1)),
  oO 6 (.call (.func 277) [(.tmp 5)]),
  oO 3 (.alloc 26 [.int .i64 0,.int .i64 0,.int .i64 0,.int .i64 0,.slice none 0 0]),
  oS (.store 5 (.tmp 3) (.tmp 6))])
 (.seq (.seq (.reg [oO 4 (.mv (oK 0))])
 (.blk 0 (.loop (.seq (.seq (.reg [oM 7 4,
  oF 8 4 1,
  oL 9 8,
  oN 10 9,
  oO 11 (.bin .lss (.tmp 7) (.tmp 10))])
 (.cond (.tmp 11) .skip (.exit 0)))
 (.seq (.blk 1 (.reg [oF 14 4 3,
  oL 15 14,
  oF 16 0 1,
  oL 17 16,
  oF 18 4 1,
  oL 19 18,
  oM 20 4,
  oX 21 27 19 20,
  oO 22 (.loadn 27 (.tmp 21)),
  ⟨some 23,.call (.func 335) [(.tmp 17),(.tmp 22)],none,.t⟩,
  oO 24 (.bslice 138 27 1 [.int .u8 0,.int .u8 0,.int .u8 0,.int .u8 0,.int .u8 0,.int .u8 0,.int .u8 0,.int .u8 0,.int .u8 0,.int .u8 0,.int .u8 0,.int .u8 0,.int .u8 0,.int .u8 0,.int .u8 0,.int .u8 0,.int .u8 0,.int .u8 0,.int .u8 0,.int .u8 0,.int .u8 0,.int .u8 0,.int .u8 0,.int .u8 0,.int .u8 0,.int .u8 0,.int .u8 0] [(0,27,(.tmp 23))]),
  oO 25 (.app 138 27 27 (.tmp 15) (.tmp 24)),
  oF 26 4 3,
  oS (.store 1 (.tmp 26) (.tmp 25))]))
 (.reg [oM 12 4,
  oO 13 (.bin .add (.tmp 12) (oK 1)),
  oM 4 13]))))))
 (.seq (.reg [oO 27 (.loadn 5 (.tmp 3)),
  oS (.store 5 (.tmp 2) (.tmp 27))])
 .ret))))⟩
theorem s317:compFn Try.prog Try.f317=some c317:=by kernel_rfl
def c318:XFn:=
 ⟨[.celln 2 5,.tmp 3],
 (.seq (.reg [oO 1 (.box 26 (.tmp 0)),
  oO 2 (.alloc 26 [.int .i64 0,.int .i64 0,.int .i64 0,.int .i64 0,.slice none 0 0]),
  oO 3 (.mv (.const (.bool false)))])
 (.seq (.seq (.reg [oO 4 (.mv (oK 0))])
 (.blk 0 (.loop (.seq (.seq (.reg [oM 9 4,
  oF 10 4 1,
  oL 11 10,
  oN 12 11,
  oO 13 (.bin .lss (.tmp 9) (.tmp 12))])
 (.cond (.tmp 13) .skip (.exit 0)))
 (.seq (.blk 1 (.seq (.reg [oM 16 4,
  oO 17 (.bin .add (.tmp 16) (oK 1)),
  oM 5 17])
 (.blk 2 (.loop (.seq (.seq (.reg [oM 18 5,
  oF 19 4 1,
  oL 20 19,
  oN 21 20,
  oO 22 (.bin .lss (.tmp 18) (.tmp 21))])
 (.cond (.tmp 22) .skip (.exit 2)))
 (.seq (.blk 3 (.seq (.reg [oF 26 0 1,
  oL 27 26,
  oF 28 4 1,
  oL 29 28,
  oM 30 4,
  oX 31 27 29 30,
  oO 32 (.loadn 27 (.tmp 31)),
  oF 33 4 1,
  oL 34 33,
  oM 35 5,
  oX 36 27 34 35,
  oO 37 (.loadn 27 (.tmp 36)),
  oO 38 (.call (.func 336) [(.tmp 27),(.tmp 32),(.tmp 37)]),
  oM 25 38,
  oE 39 25 0,
  oE 40 25 1,
  oM 7 40,
  oO 6 (.boxn 138 27 (.tmp 39))])
 (.seq (.seq (.reg [oM 41 7,
  oO 42 (.un .not (.tmp 41))])
 (.cond (.tmp 42) (.exit 3) .skip))
 (.seq (.reg [oO 43 (.bslice 138 27 0 [.int .u8 0,.int .u8 0,.int .u8 0,.int .u8 0,.int .u8 0,.int .u8 0,.int .u8 0,.int .u8 0,.int .u8 0,.int .u8 0,.int .u8 0,.int .u8 0,.int .u8 0,.int .u8 0,.int .u8 0,.int .u8 0,.int .u8 0,.int .u8 0,.int .u8 0,.int .u8 0,.int .u8 0,.int .u8 0,.int .u8 0,.int .u8 0,.int .u8 0,.int .u8 0,.int .u8 0] []),
  oF 44 4 1,
  oL 45 44,
  oM 46 5,
  oO 47 (.slc 27 (.tmp 45) none (some (.tmp 46))),
  oO 48 (.app 138 27 27 (.tmp 43) (.tmp 47)),
  oM 8 48])
 (.seq (.reg [oM 49 8,
  oF 50 4 1,
  oL 51 50,
  oM 52 5,
  oO 53 (.bin .add (.tmp 52) (oK 1)),
  oO 54 (.slc 27 (.tmp 51) (some (.tmp 53)) none),
  oO 55 (.app 138 27 27 (.tmp 49) (.tmp 54)),
  oM 8 55])
 (.seq (.reg [oM 56 8,
  oM 57 4,
  oO 58 (.loadn 27 (.tmp 6)),
  oX 59 27 56 57,
  oS (.store 27 (.tmp 59) (.tmp 58))])
 (.seq (.reg [oO 60 (.loadn 5 (.tmp 1)),
  oM 61 8,
  oO 62 (.call (.func 155) [(.tmp 60),(.tmp 61)]),
  oO 63 (.call (.func 317) [(.tmp 62)]),
  oS (.store 5 (.tmp 2) (.tmp 63)),
  oO 3 (.mv (.const (.bool true)))])
 .ret)))))))
 (.reg [oM 23 5,
  oO 24 (.bin .add (.tmp 23) (oK 1)),
  oM 5 24])))))))
 (.reg [oM 14 4,
  oO 15 (.bin .add (.tmp 14) (oK 1)),
  oM 4 15]))))))
 (.seq (.reg [oO 64 (.loadn 5 (.tmp 1)),
  oS (.store 5 (.tmp 2) (.tmp 64)),
  oO 3 (.mv (.const (.bool false)))])
 .ret)))⟩
theorem s318:compFn Try.prog Try.f318=some c318:=by kernel_rfl
def c322:XFn:=
 ⟨[.tmp 6],
 (.seq (.reg [oO 5 (.box 136 (.tmp 2)),
  oO 6 (.mv (.const (.bool false)))])
 (.seq (.seq (.reg [oO 9 (.loadn 9 (.tmp 5)),
  oO 10 (.mv (oK 0))])
 (.blk 0 (.loop (.seq (.reg [oO 11 (.bin .lss (.tmp 10) (oK 9))])
 (.seq (.cond (.tmp 11) .skip (.exit 0))
 (.seq (.blk 1 (.seq (.reg [oM 12 10,
  oO 13 (.idx1 9 (.tmp 9) (.tmp 10)),
  oM 7 12,
  oM 8 13])
 (.seq (.reg [oM 14 8,
  oO 15 (.conv .i64 (.tmp 14)),
  oM 16 0,
  oO 17 (.bin .geq (.tmp 15) (.tmp 16)),
  oM 18 17,
  oG 19 (.mv (.tmp 8)) 18 false,
  oG 20 (.bin .neq (.tmp 19) (.const (.int .u8 0))) 18 false,
  oG 21 (.mv (.tmp 20)) 18 false,
  oG 22 (.mv (.tmp 7)) 21 true,
  oG 23 (.mv (.tmp 1)) 21 true,
  oG 24 (.bin .geq (.tmp 22) (.tmp 23)) 21 true,
  oG 25 (.pick (.tmp 21) (.tmp 24) (.const (.bool false))) 18 false,
  oO 26 (.pick (.tmp 18) (.const (.bool true)) (.tmp 25))])
 (.cond (.tmp 26) (.seq (.reg [oO 6 (.mv (.const (.bool false)))])
 .ret) .skip))))
 (.reg [oO 27 (.bin .add (.tmp 10) (oK 1)),
  oM 10 27])))))))
 (.seq (.reg [oO 6 (.mv (.const (.bool true)))])
 .ret)))⟩
theorem s322:compFn Try.prog Try.f322=some c322:=by kernel_rfl
def c323:XFn:=
 ⟨[.tmp 4],
 (.seq (.reg [oO 4 (.mv (.const (.slice none 0 0)))])
 (.seq (.reg [oM 8 0,
  oM 9 1,
  oO 10 (.call (.func 337) [(.tmp 8),(.tmp 9)]),
  oM 5 10])
 (.seq (.seq (.reg [oM 11 5,
  oO 12 (.bin .eql (.tmp 11) (.const (.int .i64 (-1))))])
 (.cond (.tmp 12) (.seq (.reg [oM 13 0,
  oM 4 13])
 .ret) .skip))
 (.seq (.seq (.reg [oM 14 5,
  oO 15 (.bin .add (.tmp 14) (oK 1)),
  oM 6 15])
 (.blk 0 (.loop (.seq (.seq (.reg [oM 16 6,
  oM 17 0,
  oN 18 17,
  oO 19 (.bin .lss (.tmp 16) (.tmp 18))])
 (.cond (.tmp 19) .skip (.exit 0)))
 (.seq (.blk 1 (.seq (.reg [oM 22 0,
  oM 23 6,
  oX 24 27 22 23,
  oO 25 (.loadn 27 (.tmp 24)),
  oO 7 (.alloc 138 [.int .u8 0,.int .u8 0,.int .u8 0,.int .u8 0,.int .u8 0,.int .u8 0,.int .u8 0,.int .u8 0,.int .u8 0,.int .u8 0,.int .u8 0,.int .u8 0,.int .u8 0,.int .u8 0,.int .u8 0,.int .u8 0,.int .u8 0,.int .u8 0,.int .u8 0,.int .u8 0,.int .u8 0,.int .u8 0,.int .u8 0,.int .u8 0,.int .u8 0,.int .u8 0,.int .u8 0]),
  oS (.store 27 (.tmp 7) (.tmp 25))])
 (.seq (.reg [oM 26 1,
  oO 27 (.loadn 27 (.tmp 7)),
  oO 28 (.call (.tmp 26) [(.tmp 27)]),
  oO 29 (.un .not (.tmp 28))])
 (.cond (.tmp 29) (.seq (.reg [oM 30 0,
  oM 31 5,
  oO 32 (.loadn 27 (.tmp 7)),
  oX 33 27 30 31,
  oS (.store 27 (.tmp 33) (.tmp 32))])
 (.reg [oM 34 5,
  oO 35 (.bin .add (.tmp 34) (oK 1)),
  oM 5 35])) .skip))))
 (.reg [oM 20 6,
  oO 21 (.bin .add (.tmp 20) (oK 1)),
  oM 6 21]))))))
 (.seq (.reg [oM 36 0,
  oM 37 5,
  oO 38 (.slc 27 (.tmp 36) (some (.tmp 37)) none),
  oS (.clr 27 [.int .u8 0,.int .u8 0,.int .u8 0,.int .u8 0,.int .u8 0,.int .u8 0,.int .u8 0,.int .u8 0,.int .u8 0,.int .u8 0,.int .u8 0,.int .u8 0,.int .u8 0,.int .u8 0,.int .u8 0,.int .u8 0,.int .u8 0,.int .u8 0,.int .u8 0,.int .u8 0,.int .u8 0,.int .u8 0,.int .u8 0,.int .u8 0,.int .u8 0,.int .u8 0,.int .u8 0] (.tmp 38))])
 (.seq (.reg [oM 39 0,
  oM 40 5,
  oO 41 (.slc 27 (.tmp 39) none (some (.tmp 40))),
  oM 4 41])
 .ret))))))⟩
theorem s323:compFn Try.prog Try.f323=some c323:=by kernel_rfl
def c324:XFn:=
 ⟨[.tmp 6],
 (.seq (.reg [oO 4 (.box 136 (.tmp 1)),
  oO 6 (.mv (.const (.bool false)))])
 (.seq (.seq (.reg [oO 7 (.mv (oK 0))])
 (.blk 0 (.loop (.seq (.seq (.reg [oM 8 7,
  oO 9 (.bin .lss (.tmp 8) (oK 9))])
 (.cond (.tmp 9) .skip (.exit 0)))
 (.seq (.blk 1 (.seq (.reg [oM 12 7,
  oO 13 (.ixa 9 1 (.tmp 4) (.tmp 12)),
  oL 14 13,
  oO 15 (.conv .i64 (.tmp 14)),
  oM 16 0,
  oO 17 (.bin .geq (.tmp 15) (.tmp 16)),
  oM 18 17,
  oG 19 (.mv (.tmp 7)) 18 false,
  oG 20 (.mv (.tmp 2)) 18 false,
  oG 21 (.bin .geq (.tmp 19) (.tmp 20)) 18 false,
  oG 22 (.mv (.tmp 21)) 18 false,
  oG 23 (.mv (.tmp 7)) 22 true,
  oG 24 (.ixa 9 1 (.tmp 4) (.tmp 23)) 22 true,
  oG 25 (.load1 (.tmp 24)) 22 true,
  oG 26 (.bin .neq (.tmp 25) (.const (.int .u8 0))) 22 true,
  oG 27 (.pick (.tmp 22) (.tmp 26) (.const (.bool false))) 18 false,
  oO 28 (.pick (.tmp 18) (.const (.bool true)) (.tmp 27))])
 (.cond (.tmp 28) (.seq (.reg [oO 6 (.mv (.const (.bool false)))])
 .ret) .skip)))
 (.reg [oM 10 7,
  oO 11 (.bin .add (.tmp 10) (oK 1)),
  oM 7 11]))))))
 (.seq (.reg [oO 6 (.mv (.const (.bool true)))])
 .ret)))⟩
theorem s324:compFn Try.prog Try.f324=some c324:=by kernel_rfl
def c325:XFn:=
 ⟨[.tmp 2],
 (.seq (.reg [oO 1 (.box 136 (.tmp 0)),
  oO 2 (.mv (oK 0))])
 (.seq (.seq (.reg [oO 5 (.loadn 9 (.tmp 1)),
  oO 6 (.mv (oK 0))])
 (.blk 0 (.loop (.seq (.reg [oO 7 (.bin .lss (.tmp 6) (oK 9))])
 (.seq (.cond (.tmp 7) .skip (.exit 0))
 (.seq (.blk 1 (.seq (.reg [oO 8 (.idx1 9 (.tmp 5) (.tmp 6)),
  oM 4 8])
 (.seq (.reg [oM 9 4,
  oO 10 (.bin .neq (.tmp 9) (.const (.int .u8 0)))])
 (.cond (.tmp 10) (.seq (.reg [oM 11 4,
  oO 12 (.conv .i64 (.tmp 11)),
  oM 2 12])
 .ret) .skip))))
 (.reg [oO 13 (.bin .add (.tmp 6) (oK 1)),
  oM 6 13])))))))
 (.seq (.reg [oO 2 (.mv (oK 0))])
 .ret)))⟩
theorem s325:compFn Try.prog Try.f325=some c325:=by kernel_rfl
def c326:XFn:=
 ⟨[.celln 6 9],
 (.seq (.reg [oO 4 (.box 136 (.tmp 1)),
  oO 6 (.alloc 136 [.int .u8 0,.int .u8 0,.int .u8 0,.int .u8 0,.int .u8 0,.int .u8 0,.int .u8 0,.int .u8 0,.int .u8 0])])
 (.seq (.reg [oM 7 0,
  oO 8 (.build [.int .u8 0,.int .u8 0,.int .u8 0,.int .u8 0,.int .u8 0,.int .u8 0,.int .u8 0,.int .u8 0,.int .u8 0] []),
  oO 9 (.loadn 9 (.tmp 4)),
  oM 10 2,
  oO 11 (.call (.func 272) [(.tmp 7),(.tmp 8),(.tmp 9),(.tmp 10)]),
  oS (.store 9 (.tmp 6) (.tmp 11))])
 .ret))⟩
theorem s326:compFn Try.prog Try.f326=some c326:=by kernel_rfl
def c327:XFn:=
 ⟨[.tmp 6],
 (.seq (.reg [oO 4 (.box 136 (.tmp 1)),
  oO 5 (.box 136 (.tmp 2)),
  oO 6 (.mv (oK 0))])
 (.seq (.seq (.reg [oO 7 (.mv (oK 1))])
 (.blk 0 (.loop (.seq (.seq (.reg [oM 8 7,
  oM 9 0,
  oO 10 (.bin .lss (.tmp 8) (.tmp 9))])
 (.cond (.tmp 10) .skip (.exit 0)))
 (.seq (.blk 1 (.seq (.reg [oM 13 0,
  oO 14 (.loadn 9 (.tmp 4)),
  oM 15 7,
  ⟨some 16,.call (.func 326) [(.tmp 13),(.tmp 14),(.tmp 15)],none,.t⟩,
  oO 17 (.loadn 9 (.tmp 5)),
  oO 18 (.eqa false 9 (.tmp 16) (.tmp 17))])
 (.cond (.tmp 18) (.seq (.reg [oM 19 7,
  oM 6 19])
 .ret) .skip)))
 (.reg [oM 11 7,
  oO 12 (.bin .add (.tmp 11) (oK 1)),
  oM 7 12]))))))
 (.seq (.reg [oO 6 (.mv (oK 0))])
 .ret)))⟩
theorem s327:compFn Try.prog Try.f327=some c327:=by kernel_rfl
def c328:XFn:=
 ⟨[.tmp 2],
 (.seq (.reg [oO 2 (.mv (.const (.slice none 0 0)))])
 (.seq (.reg [oO 3 (.mv (oK 0))])
 (.seq (.seq (.reg [oM 9 0,
  oN 10 9,
  oO 11 (.mv (oK 0))])
 (.blk 0 (.loop (.seq (.reg [oO 12 (.bin .lss (.tmp 11) (.tmp 10))])
 (.seq (.cond (.tmp 12) .skip (.exit 0))
 (.seq (.blk 1 (.seq (.reg [oX 13 1 9 11,
  oL 14 13,
  oM 5 14])
 (.seq (.reg [oM 15 3,
  oM 16 5,
  oN 17 16,
  oO 18 (.bin .add (.tmp 15) (.tmp 17)),
  oM 3 18])
 (.seq (.reg [oM 19 3,
  oO 20 (.bin .lss (.tmp 19) (oK 0))])
 (.cond (.tmp 20) (.reg [oO 21 (.fail),
  oS (.fail)]) .skip)))))
 (.reg [oO 22 (.bin .add (.tmp 11) (oK 1)),
  oM 11 22])))))))
 (.seq (.reg [oM 23 3,
  oO 24 (.call (.func 338) [(.const (.slice none 0 0)),(.tmp 23)]),
  oM 6 24])
 (.seq (.seq (.reg [oM 25 0,
  oN 26 25,
  oO 27 (.mv (oK 0))])
 (.blk 2 (.loop (.seq (.reg [oO 28 (.bin .lss (.tmp 27) (.tmp 26))])
 (.seq (.cond (.tmp 28) .skip (.exit 2))
 (.seq (.blk 3 (.seq (.reg [oX 29 1 25 27,
  oL 30 29,
  oM 8 30])
 (.reg [oM 31 6,
  oM 32 8,
  oO 33 (.app 138 27 27 (.tmp 31) (.tmp 32)),
  oM 6 33])))
 (.reg [oO 34 (.bin .add (.tmp 27) (oK 1)),
  oM 27 34])))))))
 (.seq (.reg [oM 35 6,
  oM 2 35])
 .ret))))))⟩
theorem s328:compFn Try.prog Try.f328=some c328:=by kernel_rfl
def c329:XFn:=
 ⟨[.tmp 2],
 (.seq (.reg [oO 2 (.mv (oK 0))])
 (.seq (.reg [oM 3 0,
  oO 4 (.bin .shr (.tmp 3) (.const (.int .u64 24))),
  oO 5 (.idxs [0,1,1,2,1,2,2,3,1,2,2,3,2,3,3,4,1,2,2,3,2,3,3,4,2,3,3,4,3,4,4,5,1,2,2,3,2,3,3,4,2,3,3,4,3,4,4,5,2,3,3,4,3,4,4,5,3,4,4,5,4,5,5,6,1,2,2,3,2,3,3,4,2,3,3,4,3,4,4,5,2,3,3,4,3,4,4,5,3,4,4,5,4,5,5,6,2,3,3,4,3,4,4,5,3,4,4,5,4,5,5,6,3,4,4,5,4,5,5,6,4,5,5,6,5,6,6,7,1,2,2,3,2,3,3,4,2,3,3,4,3,4,4,5,2,3,3,4,3,4,4,5,3,4,4,5,4,5,5,6,2,3,3,4,3,4,4,5,3,4,4,5,4,5,5,6,3,4,4,5,4,5,5,6,4,5,5,6,5,6,6,7,2,3,3,4,3,4,4,5,3,4,4,5,4,5,5,6,3,4,4,5,4,5,5,6,4,5,5,6,5,6,6,7,3,4,4,5,4,5,5,6,4,5,5,6,5,6,6,7,4,5,5,6,5,6,6,7,5,6,6,7,6,7,7,8] (.tmp 4)),
  oM 6 0,
  oO 7 (.bin .shr (.tmp 6) (.const (.int .u64 16))),
  oO 8 (.bin .and (.tmp 7) (.const (.int .u32 255))),
  oO 9 (.idxs [0,1,1,2,1,2,2,3,1,2,2,3,2,3,3,4,1,2,2,3,2,3,3,4,2,3,3,4,3,4,4,5,1,2,2,3,2,3,3,4,2,3,3,4,3,4,4,5,2,3,3,4,3,4,4,5,3,4,4,5,4,5,5,6,1,2,2,3,2,3,3,4,2,3,3,4,3,4,4,5,2,3,3,4,3,4,4,5,3,4,4,5,4,5,5,6,2,3,3,4,3,4,4,5,3,4,4,5,4,5,5,6,3,4,4,5,4,5,5,6,4,5,5,6,5,6,6,7,1,2,2,3,2,3,3,4,2,3,3,4,3,4,4,5,2,3,3,4,3,4,4,5,3,4,4,5,4,5,5,6,2,3,3,4,3,4,4,5,3,4,4,5,4,5,5,6,3,4,4,5,4,5,5,6,4,5,5,6,5,6,6,7,2,3,3,4,3,4,4,5,3,4,4,5,4,5,5,6,3,4,4,5,4,5,5,6,4,5,5,6,5,6,6,7,3,4,4,5,4,5,5,6,4,5,5,6,5,6,6,7,4,5,5,6,5,6,6,7,5,6,6,7,6,7,7,8] (.tmp 8)),
  oO 10 (.bin .add (.tmp 5) (.tmp 9)),
  oM 11 0,
  oO 12 (.bin .shr (.tmp 11) (.const (.int .u64 8))),
  oO 13 (.bin .and (.tmp 12) (.const (.int .u32 255))),
  oO 14 (.idxs [0,1,1,2,1,2,2,3,1,2,2,3,2,3,3,4,1,2,2,3,2,3,3,4,2,3,3,4,3,4,4,5,1,2,2,3,2,3,3,4,2,3,3,4,3,4,4,5,2,3,3,4,3,4,4,5,3,4,4,5,4,5,5,6,1,2,2,3,2,3,3,4,2,3,3,4,3,4,4,5,2,3,3,4,3,4,4,5,3,4,4,5,4,5,5,6,2,3,3,4,3,4,4,5,3,4,4,5,4,5,5,6,3,4,4,5,4,5,5,6,4,5,5,6,5,6,6,7,1,2,2,3,2,3,3,4,2,3,3,4,3,4,4,5,2,3,3,4,3,4,4,5,3,4,4,5,4,5,5,6,2,3,3,4,3,4,4,5,3,4,4,5,4,5,5,6,3,4,4,5,4,5,5,6,4,5,5,6,5,6,6,7,2,3,3,4,3,4,4,5,3,4,4,5,4,5,5,6,3,4,4,5,4,5,5,6,4,5,5,6,5,6,6,7,3,4,4,5,4,5,5,6,4,5,5,6,5,6,6,7,4,5,5,6,5,6,6,7,5,6,6,7,6,7,7,8] (.tmp 13)),
  oO 15 (.bin .add (.tmp 10) (.tmp 14)),
  oM 16 0,
  oO 17 (.bin .and (.tmp 16) (.const (.int .u32 255))),
  oO 18 (.idxs [0,1,1,2,1,2,2,3,1,2,2,3,2,3,3,4,1,2,2,3,2,3,3,4,2,3,3,4,3,4,4,5,1,2,2,3,2,3,3,4,2,3,3,4,3,4,4,5,2,3,3,4,3,4,4,5,3,4,4,5,4,5,5,6,1,2,2,3,2,3,3,4,2,3,3,4,3,4,4,5,2,3,3,4,3,4,4,5,3,4,4,5,4,5,5,6,2,3,3,4,3,4,4,5,3,4,4,5,4,5,5,6,3,4,4,5,4,5,5,6,4,5,5,6,5,6,6,7,1,2,2,3,2,3,3,4,2,3,3,4,3,4,4,5,2,3,3,4,3,4,4,5,3,4,4,5,4,5,5,6,2,3,3,4,3,4,4,5,3,4,4,5,4,5,5,6,3,4,4,5,4,5,5,6,4,5,5,6,5,6,6,7,2,3,3,4,3,4,4,5,3,4,4,5,4,5,5,6,3,4,4,5,4,5,5,6,4,5,5,6,5,6,6,7,3,4,4,5,4,5,5,6,4,5,5,6,5,6,6,7,4,5,5,6,5,6,6,7,5,6,6,7,6,7,7,8] (.tmp 17)),
  oO 19 (.bin .add (.tmp 15) (.tmp 18)),
  oO 20 (.conv .i64 (.tmp 19)),
  oM 2 20])
 .ret))⟩
theorem s329:compFn Try.prog Try.f329=some c329:=by kernel_rfl
def c335:XFn:=
 ⟨[.celln 4 27],
 (.seq (.reg [oO 3 (.box 138 (.tmp 1)),
  oO 4 (.alloc 138 [.int .u8 0,.int .u8 0,.int .u8 0,.int .u8 0,.int .u8 0,.int .u8 0,.int .u8 0,.int .u8 0,.int .u8 0,.int .u8 0,.int .u8 0,.int .u8 0,.int .u8 0,.int .u8 0,.int .u8 0,.int .u8 0,.int .u8 0,.int .u8 0,.int .u8 0,.int .u8 0,.int .u8 0,.int .u8 0,.int .u8 0,.int .u8 0,.int .u8 0,.int .u8 0,.int .u8 0])])
 (.seq (.reg [oF 7 0 3,
  oO 8 (.loadn 9 (.tmp 7)),
  ⟨some 9,.call (.func 341) [(.tmp 8)],none,.t⟩,
  oF 10 9 3,
  oO 11 (.loadn 9 (.tmp 10)),
  oO 12 (.call (.func 341) [(.tmp 11)]),
  oM 5 9,
  oM 6 12])
 (.seq (.reg [oM 13 0,
  oF 14 0 3,
  oO 15 (.loadn 9 (.tmp 14)),
  oM 16 0,
  oM 17 5,
  ⟨some 18,.call (.func 311) [(.tmp 16),(.tmp 17)],none,.t⟩,
  oO 19 (.call (.func 267) [(.tmp 13),(.tmp 15),(.tmp 18)]),
  oF 20 0 3,
  oS (.store 9 (.tmp 20) (.tmp 19))])
 (.seq (.reg [oM 21 0,
  oF 22 9 3,
  oO 23 (.loadn 9 (.tmp 22)),
  oM 24 0,
  oM 25 6,
  ⟨some 26,.call (.func 311) [(.tmp 24),(.tmp 25)],none,.t⟩,
  oO 27 (.call (.func 267) [(.tmp 21),(.tmp 23),(.tmp 26)]),
  oF 28 9 3,
  oS (.store 9 (.tmp 28) (.tmp 27))])
 (.seq (.reg [oM 29 0,
  oF 30 18 3,
  oO 31 (.loadn 9 (.tmp 30)),
  oM 32 5,
  oM 33 6,
  oO 34 (.bin .mul (.tmp 32) (.tmp 33)),
  oO 35 (.call (.func 267) [(.tmp 29),(.tmp 31),(.tmp 34)]),
  oF 36 18 3,
  oS (.store 9 (.tmp 36) (.tmp 35))])
 (.seq (.reg [oO 37 (.loadn 27 (.tmp 3)),
  oS (.store 27 (.tmp 4) (.tmp 37))])
 .ret))))))⟩
theorem s335:compFn Try.prog Try.f335=some c335:=by kernel_rfl
def c336:XFn:=
 ⟨[.celln 6 27,.tmp 7],
 (.seq (.reg [oO 4 (.box 138 (.tmp 1)),
  oO 5 (.box 138 (.tmp 2)),
  oO 6 (.alloc 138 [.int .u8 0,.int .u8 0,.int .u8 0,.int .u8 0,.int .u8 0,.int .u8 0,.int .u8 0,.int .u8 0,.int .u8 0,.int .u8 0,.int .u8 0,.int .u8 0,.int .u8 0,.int .u8 0,.int .u8 0,.int .u8 0,.int .u8 0,.int .u8 0,.int .u8 0,.int .u8 0,.int .u8 0,.int .u8 0,.int .u8 0,.int .u8 0,.int .u8 0,.int .u8 0,.int .u8 0]),
  oO 7 (.mv (.const (.bool false)))])
 (.seq (.reg [oM 9 0,
  oF 10 18 4,
  oO 11 (.loadn 9 (.tmp 10)),
  oF 12 18 5,
  oO 13 (.loadn 9 (.tmp 12)),
  oO 14 (.call (.func 342) [(.tmp 9),(.tmp 11),(.tmp 13)]),
  oM 8 14])
 (.seq (.blk 0 (.seq (.reg [oF 17 0 4,
  oO 18 (.loadn 9 (.tmp 17)),
  oF 19 0 5,
  oO 20 (.loadn 9 (.tmp 19)),
  oO 21 (.eqa false 9 (.tmp 18) (.tmp 20)),
  oM 22 21,
  oG 23 (.fadr 9 (.tmp 4)) 22 true,
  oG 24 (.loadn 9 (.tmp 23)) 22 true,
  oG 25 (.fadr 9 (.tmp 5)) 22 true,
  oG 26 (.loadn 9 (.tmp 25)) 22 true,
  oG 27 (.eqa false 9 (.tmp 24) (.tmp 26)) 22 true,
  oO 28 (.pick (.tmp 22) (.tmp 27) (.const (.bool false))),
  oM 16 28])
 (.cond (.tmp 16) (.reg [oM 29 0,
  oF 30 18 4,
  oO 31 (.loadn 9 (.tmp 30)),
  oF 32 18 5,
  oO 33 (.loadn 9 (.tmp 32)),
  oO 34 (.call (.func 279) [(.tmp 29),(.tmp 31),(.tmp 33),(oK 1)]),
  oF 35 18 4,
  oS (.store 9 (.tmp 35) (.tmp 34))]) (.seq (.reg [oF 37 0 4,
  oO 38 (.loadn 9 (.tmp 37)),
  oF 39 0 5,
  oO 40 (.loadn 9 (.tmp 39)),
  oO 41 (.eqa false 9 (.tmp 38) (.tmp 40)),
  oM 42 41,
  oG 43 (.mv (.tmp 8)) 42 true,
  oG 44 (.bin .neq (.tmp 43) (oK 0)) 42 true,
  oO 45 (.pick (.tmp 42) (.tmp 44) (.const (.bool false))),
  oM 36 45])
 (.cond (.tmp 36) (.reg [oM 46 0,
  oF 47 9 4,
  oO 48 (.loadn 9 (.tmp 47)),
  oF 49 9 5,
  oO 50 (.loadn 9 (.tmp 49)),
  oM 51 8,
  oO 52 (.call (.func 279) [(.tmp 46),(.tmp 48),(.tmp 50),(.tmp 51)]),
  oF 53 9 4,
  oS (.store 9 (.tmp 53) (.tmp 52))]) (.seq (.reg [oF 55 9 4,
  oO 56 (.loadn 9 (.tmp 55)),
  oF 57 9 5,
  oO 58 (.loadn 9 (.tmp 57)),
  oO 59 (.eqa false 9 (.tmp 56) (.tmp 58)),
  oM 60 59,
  oG 61 (.mv (.tmp 8)) 60 true,
  oG 62 (.bin .neq (.tmp 61) (oK 0)) 60 true,
  oO 63 (.pick (.tmp 60) (.tmp 62) (.const (.bool false))),
  oM 54 63])
 (.cond (.tmp 54) (.reg [oM 64 0,
  oF 65 0 4,
  oO 66 (.loadn 9 (.tmp 65)),
  oF 67 0 5,
  oO 68 (.loadn 9 (.tmp 67)),
  oM 69 8,
  oO 70 (.call (.func 279) [(.tmp 64),(.tmp 66),(.tmp 68),(.tmp 69)]),
  oF 71 0 4,
  oS (.store 9 (.tmp 71) (.tmp 70))]) (.seq (.reg [oO 15 (.build [.int .u8 0,.int .u8 0,.int .u8 0,.int .u8 0,.int .u8 0,.int .u8 0,.int .u8 0,.int .u8 0,.int .u8 0,.int .u8 0,.int .u8 0,.int .u8 0,.int .u8 0,.int .u8 0,.int .u8 0,.int .u8 0,.int .u8 0,.int .u8 0,.int .u8 0,.int .u8 0,.int .u8 0,.int .u8 0,.int .u8 0,.int .u8 0,.int .u8 0,.int .u8 0,.int .u8 0] []),
  oS (.store 27 (.tmp 6) (.tmp 15)),
  oO 7 (.mv (.const (.bool false)))])
 .ret))))))))
 (.seq (.reg [oO 72 (.loadn 27 (.tmp 4)),
  oS (.store 27 (.tmp 6) (.tmp 72)),
  oO 7 (.mv (.const (.bool true)))])
 .ret))))⟩
theorem s336:compFn Try.prog Try.f336=some c336:=by kernel_rfl
def c337:XFn:=
 ⟨[.tmp 4],
 (.seq (.reg [oO 4 (.mv (oK 0))])
 (.seq (.seq (.reg [oM 6 0,
  oN 7 6,
  oO 8 (.mv (oK 0))])
 (.blk 0 (.loop (.seq (.reg [oO 9 (.bin .lss (.tmp 8) (.tmp 7))])
 (.seq (.cond (.tmp 9) .skip (.exit 0))
 (.seq (.blk 1 (.seq (.reg [oM 10 8,
  oM 5 10])
 (.seq (.reg [oM 11 1,
  oM 12 0,
  oM 13 5,
  oX 14 27 12 13,
  oO 15 (.loadn 27 (.tmp 14)),
  oO 16 (.call (.tmp 11) [(.tmp 15)])])
 (.cond (.tmp 16) (.seq (.reg [oM 17 5,
  oM 4 17])
 .ret) .skip))))
 (.reg [oO 18 (.bin .add (.tmp 8) (oK 1)),
  oM 8 18])))))))
 (.seq (.reg [oO 4 (.mv (.const (.int .i64 (-1))))])
 .ret)))⟩
theorem s337:compFn Try.prog Try.f337=some c337:=by kernel_rfl
def c338:XFn:=
 ⟨[.tmp 4],
 (.seq (.reg [oO 4 (.mv (.const (.slice none 0 0)))])
 (.seq (.seq (.reg [oM 5 1,
  oO 6 (.bin .lss (.tmp 5) (oK 0))])
 (.cond (.tmp 6) (.reg [oO 7 (.fail),
  oS (.fail)]) .skip))
 (.seq (.seq (.reg [oM 8 1,
  oM 9 0,
  oO 10 (.cap (.tmp 9)),
  oM 11 0,
  oN 12 11,
  oO 13 (.bin .sub (.tmp 10) (.tmp 12)),
  oO 14 (.bin .sub (.tmp 8) (.tmp 13)),
  oM 1 14])
 (.seq (.reg [oM 15 1,
  oO 16 (.bin .gtr (.tmp 15) (oK 0))])
 (.cond (.tmp 16) (.reg [oM 17 0,
  oM 18 0,
  oO 19 (.cap (.tmp 18)),
  oO 20 (.slc 27 (.tmp 17) none (some (.tmp 19))),
  oM 21 1,
  oO 22 (.appz 138 27 27 (.tmp 20) (.tmp 21)),
  oM 23 0,
  oN 24 23,
  oO 25 (.slc 27 (.tmp 22) none (some (.tmp 24))),
  oM 0 25]) .skip)))
 (.seq (.reg [oM 26 0,
  oM 4 26])
 .ret))))⟩
theorem s338:compFn Try.prog Try.f338=some c338:=by kernel_rfl
def c341:XFn:=
 ⟨[.tmp 2],
 (.seq (.reg [oO 1 (.box 136 (.tmp 0)),
  oO 2 (.mv (oK 0))])
 (.seq (.seq (.reg [oO 3 (.mv (oK 0))])
 (.blk 0 (.loop (.seq (.seq (.reg [oM 4 3,
  oO 5 (.bin .lss (.tmp 4) (oK 9))])
 (.cond (.tmp 5) .skip (.exit 0)))
 (.seq (.blk 1 (.seq (.reg [oM 8 3,
  oO 9 (.ixa 9 1 (.tmp 1) (.tmp 8)),
  oL 10 9,
  oO 11 (.bin .neq (.tmp 10) (.const (.int .u8 0)))])
 (.cond (.tmp 11) (.seq (.reg [oM 12 3,
  oO 13 (.ixa 9 1 (.tmp 1) (.tmp 12)),
  oL 14 13,
  oO 15 (.conv .i64 (.tmp 14)),
  oM 2 15])
 .ret) .skip)))
 (.reg [oM 6 3,
  oO 7 (.bin .add (.tmp 6) (oK 1)),
  oM 3 7]))))))
 (.seq (.reg [oO 2 (.mv (oK 0))])
 .ret)))⟩
theorem s341:compFn Try.prog Try.f341=some c341:=by kernel_rfl
def c342:XFn:=
 ⟨[.tmp 6],
 (.seq (.reg [oO 4 (.box 136 (.tmp 1)),
  oO 5 (.box 136 (.tmp 2)),
  oO 6 (.mv (oK 0))])
 (.seq (.reg [oO 8 (.loadn 9 (.tmp 5)),
  ⟨some 9,.call (.func 341) [(.tmp 8)],none,.t⟩,
  oM 10 0,
  oO 11 (.loadn 9 (.tmp 4)),
  oO 12 (.call (.func 341) [(.tmp 11)]),
  oO 13 (.call (.func 311) [(.tmp 10),(.tmp 12)]),
  oO 14 (.bin .mul (.tmp 9) (.tmp 13)),
  oM 15 0,
  oO 16 (.bin .rem (.tmp 14) (.tmp 15)),
  oM 7 16])
 (.seq (.seq (.reg [oM 17 0,
  oO 18 (.loadn 9 (.tmp 4)),
  oM 19 7,
  ⟨some 20,.call (.func 267) [(.tmp 17),(.tmp 18),(.tmp 19)],none,.t⟩,
  oO 21 (.loadn 9 (.tmp 5)),
  oO 22 (.eqa true 9 (.tmp 20) (.tmp 21))])
 (.cond (.tmp 22) (.seq (.reg [oO 6 (.mv (oK 0))])
 .ret) .skip))
 (.seq (.reg [oM 23 7,
  oM 6 23])
 .ret))))⟩
theorem s342:compFn Try.prog Try.f342=some c342:=by kernel_rfl
def tab3:List (Nat×XFn):=[(311,c311),(314,c314),(317,c317),(318,c318),(322,c322),(323,c323),(324,c324),(325,c325),(326,c326),(327,c327),(328,c328),(329,c329),(335,c335),(336,c336),(337,c337),(338,c338),(341,c341),(342,c342)]
theorem ts3:TSound Try.prog (fun g=>tab3.lookup g):=by
 refine tsound_of_all (P:=Try.prog) (tab:=tab3) ?_
 intro p hp
 simp only[tab3,List.mem_cons,List.not_mem_nil,or_false] at hp
 rcases hp with rfl|rfl|rfl|rfl|rfl|rfl|rfl|rfl|rfl|rfl|rfl|rfl|rfl|rfl|rfl|rfl|rfl|rfl
 ·exact⟨_,Try.func311,s311⟩
 ·exact⟨_,Try.func314,s314⟩
 ·exact⟨_,Try.func317,s317⟩
 ·exact⟨_,Try.func318,s318⟩
 ·exact⟨_,Try.func322,s322⟩
 ·exact⟨_,Try.func323,s323⟩
 ·exact⟨_,Try.func324,s324⟩
 ·exact⟨_,Try.func325,s325⟩
 ·exact⟨_,Try.func326,s326⟩
 ·exact⟨_,Try.func327,s327⟩
 ·exact⟨_,Try.func328,s328⟩
 ·exact⟨_,Try.func329,s329⟩
 ·exact⟨_,Try.func335,s335⟩
 ·exact⟨_,Try.func336,s336⟩
 ·exact⟨_,Try.func337,s337⟩
 ·exact⟨_,Try.func338,s338⟩
 ·exact⟨_,Try.func341,s341⟩
 ·exact⟨_,Try.func342,s342⟩
end Go.Proofs.Ytapafdpnmakekaa.X
