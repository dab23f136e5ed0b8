/- Texts of one claim, put together by merge.py: XCode2. -/
import Derived.Test.YtapafdpnmakekaaEQ3
import Derived.Test.YtapafdpnmakekaaProg
set_option linter.unusedVariables false
set_option maxRecDepth 4000
namespace Go.Proofs.Ytapafdpnmakekaa.X
open Go Go.RowKit
def c175:XFn:=
 ⟨[.tmp 4],
 (.seq (.reg [oO 4 (.mv (oK 0))])
 (.seq (.seq (.reg [oM 5 0,
  oO 6 (.call (.func 148) [(.tmp 5),(oK 14)]),
  oO 7 (.bin .eql (.tmp 6) (oK 0))])
 (.cond (.tmp 7) (.seq (.reg [oM 8 0,
  oM 9 1,
  oO 10 (.bin .add (.tmp 9) (oK 1)),
  oO 11 (.bslice 2 1 4 [.int .i64 0] [(0,1,(.const (.int .i64 (-1)))),(1,1,(.tmp 10)),(2,1,(oK 1099511627776)),(3,1,(.const (.int .i64 (-4611686018427387904))))]),
  oO 12 (.call (.func 147) [(.tmp 8),(.tmp 11)]),
  oM 4 12])
 .ret) .skip))
 (.seq (.reg [oM 13 0,
  oM 14 1,
  oO 15 (.bin .add (.tmp 14) (oK 1)),
  oO 16 (.call (.func 148) [(.tmp 13),(.tmp 15)]),
  oM 4 16])
 .ret)))⟩
theorem s175:compFn Try.prog Try.f175=some c175:=by kernel_rfl
def c181:XFn:=
 ⟨[.tmp 6],
 (.seq (.reg [oO 6 (.mv (.const (.bool false)))])
 (.seq (.reg [oM 7 0,
  oM 8 1,
  oO 9 (.bin .geq (.tmp 7) (.tmp 8)),
  oM 10 9,
  oG 11 (.mv (.tmp 0)) 10 true,
  oG 12 (.mv (.tmp 2)) 10 true,
  oG 13 (.bin .leq (.tmp 11) (.tmp 12)) 10 true,
  oO 14 (.pick (.tmp 10) (.tmp 13) (.const (.bool false))),
  oM 6 14])
 .ret))⟩
theorem s181:compFn Try.prog Try.f181=some c181:=by kernel_rfl
def c184:XFn:=
 ⟨[.tmp 4],
 (.seq (.reg [oO 4 (.mv (.const (.bool false)))])
 (.seq (.seq (.reg [oM 7 1,
  oN 8 7,
  oO 9 (.mv (oK 0))])
 (.blk 0 (.loop (.seq (.reg [oO 10 (.bin .lss (.tmp 9) (.tmp 8))])
 (.seq (.cond (.tmp 10) .skip (.exit 0))
 (.seq (.blk 1 (.seq (.reg [oX 11 1 7 9,
  oL 12 11,
  oM 6 12])
 (.seq (.reg [oM 13 6,
  oO 14 (.bin .lss (.tmp 13) (oK 0)),
  oM 15 14,
  oG 16 (.mv (.tmp 6)) 15 false,
  oG 17 (.mv (.tmp 0)) 15 false,
  oG 18 (.bin .geq (.tmp 16) (.tmp 17)) 15 false,
  oO 19 (.pick (.tmp 15) (.const (.bool true)) (.tmp 18))])
 (.cond (.tmp 19) (.seq (.reg [oO 4 (.mv (.const (.bool false)))])
 .ret) .skip))))
 (.reg [oO 20 (.bin .add (.tmp 9) (oK 1)),
  oM 9 20])))))))
 (.seq (.reg [oO 4 (.mv (.const (.bool true)))])
 .ret)))⟩
theorem s184:compFn Try.prog Try.f184=some c184:=by kernel_rfl
def c196:XFn:=
 ⟨[.celln 2 27],
 (.seq (.reg [oO 1 (.box 138 (.tmp 0)),
  oO 2 (.alloc 172 [.int .u8 0,.int .u8 0,.int .u8 0,.int .u8 0,.int .u8 0,.int .u8 0,.int .u8 0,.int .u8 0,.int .u8 0,.int .u8 0,.int .u8 0,.int .u8 0,.int .u8 0,.int .u8 0,.int .u8 0,.int .u8 0,.int .u8 0,.int .u8 0,.int .u8 0,.int .u8 0,.int .u8 0,.int .u8 0,.int .u8 0,.int .u8 0,.int .u8 0,.int .u8 0,.int .u8 0])])
 (.seq (.reg [oF 3 0 1,
  oO 4 (.loadn 9 (.tmp 3)),
  oF 5 9 1,
  oO 6 (.loadn 9 (.tmp 5)),
  oF 7 18 1,
  oO 8 (.loadn 9 (.tmp 7)),
  oO 9 (.build [.int .u8 0,.int .u8 0,.int .u8 0,.int .u8 0,.int .u8 0,.int .u8 0,.int .u8 0,.int .u8 0,.int .u8 0,.int .u8 0,.int .u8 0,.int .u8 0,.int .u8 0,.int .u8 0,.int .u8 0,.int .u8 0,.int .u8 0,.int .u8 0,.int .u8 0,.int .u8 0,.int .u8 0,.int .u8 0,.int .u8 0,.int .u8 0,.int .u8 0,.int .u8 0,.int .u8 0] [(0,9,(.tmp 4)),(9,9,(.tmp 6)),(18,9,(.tmp 8))]),
  oS (.store 27 (.tmp 2) (.tmp 9))])
 .ret))⟩
theorem s196:compFn Try.prog Try.f196=some c196:=by kernel_rfl
def c212:XFn:=
 ⟨[.celln 2 5],
 (.seq (.reg [oO 2 (.alloc 26 [.int .i64 0,.int .i64 0,.int .i64 0,.int .i64 0,.slice none 0 0])])
 (.seq (.reg [oM 3 0,
  oM 4 0,
  oO 5 (.call (.func 266) [(.tmp 4)]),
  oO 6 (.call (.func 269) [(.tmp 3),(.tmp 5)]),
  oS (.store 5 (.tmp 2) (.tmp 6))])
 .ret))⟩
theorem s212:compFn Try.prog Try.f212=some c212:=by kernel_rfl
def c213:XFn:=
 ⟨[.tmp 8],
 (.seq (.reg [oO 8 (.mv (.const (.slice none 0 0)))])
 (.seq (.reg [oO 14 (.bslice 27 1 0 [.slice none 0 0] []),
  oM 9 14])
 (.seq (.blk 0 (.loop (.seq (.seq (.reg [oM 15 2,
  oO 16 (.bin .gtr (.tmp 15) (oK 0)),
  oM 17 16,
  oG 18 (.mv (.tmp 9)) 17 true,
  oG 19 (.len (.tmp 18)) 17 true,
  oG 20 (.bin .lss (.tmp 19) (oK 4)) 17 true,
  oO 21 (.pick (.tmp 17) (.tmp 20) (.const (.bool false)))])
 (.cond (.tmp 21) .skip (.exit 0)))
 (.seq (.blk 1 (.seq (.reg [oO 24 (.bslice 2 1 0 [.int .i64 0] []),
  oM 10 24])
 (.seq (.seq (.reg [oO 11 (.mv (oK 0))])
 (.blk 2 (.loop (.seq (.seq (.reg [oM 25 11,
  oM 26 3,
  oO 27 (.bin .lss (.tmp 25) (.tmp 26)),
  oM 28 27,
  oG 29 (.mv (.tmp 11)) 28 true,
  oG 30 (.bin .lss (.tmp 29) (oK 4)) 28 true,
  oO 31 (.pick (.tmp 28) (.tmp 30) (.const (.bool false)))])
 (.cond (.tmp 31) .skip (.exit 2)))
 (.seq (.blk 3 (.reg [oM 34 10,
  oM 35 0,
  oM 36 1,
  oO 37 (.call (.func 148) [(.tmp 35),(.tmp 36)]),
  oO 38 (.bslice 2 1 1 [.int .i64 0] [(0,1,(.tmp 37))]),
  oO 39 (.app 2 1 8 (.tmp 34) (.tmp 38)),
  oM 10 39]))
 (.reg [oM 32 11,
  oO 33 (.bin .add (.tmp 32) (oK 1)),
  oM 11 33]))))))
 (.reg [oM 40 9,
  oM 41 10,
  oO 42 (.bslice 27 1 1 [.slice none 0 0] [(0,1,(.tmp 41))]),
  oO 43 (.app 27 1 24 (.tmp 40) (.tmp 42)),
  oM 9 43]))))
 (.reg [oM 22 2,
  oO 23 (.bin .sub (.tmp 22) (oK 1)),
  oM 2 23])))))
 (.seq (.seq (.reg [oM 44 9,
  oN 45 44,
  oM 12 45])
 (.seq (.reg [oM 46 12,
  oO 47 (.bin .gtr (.tmp 46) (oK 0)),
  oM 48 47,
  oG 49 (.mv (.tmp 0)) 48 true,
  oG 50 (.call (.func 148) [(.tmp 49),(oK 40)]) 48 true,
  oG 51 (.bin .eql (.tmp 50) (oK 0)) 48 true,
  oO 52 (.pick (.tmp 48) (.tmp 51) (.const (.bool false)))])
 (.cond (.tmp 52) (.seq (.reg [oM 53 0,
  oO 54 (.call (.func 148) [(.tmp 53),(oK 2)]),
  oO 55 (.bin .eql (.tmp 54) (oK 0))])
 (.cond (.tmp 55) (.reg [oM 56 9,
  oO 57 (.slc 1 (.tmp 56) (some (oK 1)) none),
  oM 9 57]) (.seq (.reg [oM 58 9,
  oO 59 (.ixs 1 (.tmp 58) (oK 0)),
  oL 60 59,
  oN 61 60,
  oO 62 (.bin .gtr (.tmp 61) (oK 0))])
 (.cond (.tmp 62) (.seq (.reg [oM 63 9,
  oO 64 (.ixs 1 (.tmp 63) (oK 0)),
  oL 65 64,
  oM 13 65])
 (.reg [oM 66 13,
  oM 67 0,
  oM 68 1,
  oO 69 (.bslice 2 1 2 [.int .i64 0] [(0,1,(.tmp 68)),(1,1,(.const (.int .i64 (-1))))]),
  oO 70 (.call (.func 147) [(.tmp 67),(.tmp 69)]),
  oO 71 (.ixs 1 (.tmp 66) (oK 0)),
  oS (.store 1 (.tmp 71) (.tmp 70))])) .skip)))) .skip)))
 (.seq (.reg [oM 72 9,
  oM 8 72])
 .ret)))))⟩
theorem s213:compFn Try.prog Try.f213=some c213:=by kernel_rfl
def c214:XFn:=
 ⟨[.tmp 8],
 (.seq (.reg [oO 8 (.mv (.const (.bool false)))])
 (.seq (.seq (.reg [oM 11 1,
  oN 12 11,
  oM 13 2,
  oO 14 (.bin .neq (.tmp 12) (.tmp 13))])
 (.cond (.tmp 14) (.seq (.reg [oO 8 (.mv (.const (.bool false)))])
 .ret) .skip))
 (.seq (.seq (.reg [oO 9 (.mv (oK 0))])
 (.blk 0 (.loop (.seq (.seq (.reg [oM 15 9,
  oM 16 1,
  oN 17 16,
  oO 18 (.bin .lss (.tmp 15) (.tmp 17))])
 (.cond (.tmp 18) .skip (.exit 0)))
 (.seq (.blk 1 (.seq (.seq (.reg [oM 21 1,
  oM 22 9,
  oX 23 1 21 22,
  oL 24 23,
  oN 25 24,
  oM 26 3,
  oO 27 (.bin .neq (.tmp 25) (.tmp 26))])
 (.cond (.tmp 27) (.seq (.reg [oO 8 (.mv (.const (.bool false)))])
 .ret) .skip))
 (.seq (.reg [oO 10 (.mv (oK 0))])
 (.blk 2 (.loop (.seq (.seq (.reg [oM 28 10,
  oM 29 1,
  oM 30 9,
  oX 31 1 29 30,
  oL 32 31,
  oN 33 32,
  oO 34 (.bin .lss (.tmp 28) (.tmp 33))])
 (.cond (.tmp 34) .skip (.exit 2)))
 (.seq (.blk 3 (.seq (.reg [oM 37 1,
  oM 38 9,
  oX 39 1 37 38,
  oL 40 39,
  oM 41 10,
  oX 42 1 40 41,
  oL 43 42,
  oM 44 0,
  oO 45 (.bin .sub (.tmp 44) (oK 1)),
  oO 46 (.call (.func 181) [(.tmp 43),(oK 0),(.tmp 45)]),
  oO 47 (.un .not (.tmp 46))])
 (.cond (.tmp 47) (.seq (.reg [oO 8 (.mv (.const (.bool false)))])
 .ret) .skip)))
 (.reg [oM 35 10,
  oO 36 (.bin .add (.tmp 35) (oK 1)),
  oM 10 36]))))))))
 (.reg [oM 19 9,
  oO 20 (.bin .add (.tmp 19) (oK 1)),
  oM 9 20]))))))
 (.seq (.reg [oO 8 (.mv (.const (.bool true)))])
 .ret))))⟩
theorem s214:compFn Try.prog Try.f214=some c214:=by kernel_rfl
def c215:XFn:=
 ⟨[.tmp 6],
 (.seq (.reg [oO 3 (.box 26 (.tmp 0)),
  oO 6 (.mv (.const (.slice none 0 0)))])
 (.seq (.reg [oO 15 (.bslice 27 1 0 [.slice none 0 0] []),
  oM 7 15])
 (.seq (.seq (.reg [oO 8 (.mv (oK 0))])
 (.blk 0 (.loop (.seq (.seq (.reg [oM 16 8,
  oF 17 1 3,
  oL 18 17,
  oO 19 (.bin .lss (.tmp 16) (.tmp 18))])
 (.cond (.tmp 19) .skip (.exit 0)))
 (.seq (.blk 1 (.reg [oM 22 7,
  oF 23 3 3,
  oL 24 23,
  oO 25 (.mks 2 1 8 [.int .i64 0] (.tmp 24)),
  oO 26 (.bslice 27 1 1 [.slice none 0 0] [(0,1,(.tmp 25))]),
  oO 27 (.app 27 1 24 (.tmp 22) (.tmp 26)),
  oM 7 27]))
 (.reg [oM 20 8,
  oO 21 (.bin .add (.tmp 20) (oK 1)),
  oM 8 21]))))))
 (.seq (.seq (.reg [oO 9 (.mv (oK 0))])
 (.blk 2 (.loop (.seq (.seq (.reg [oM 28 9,
  oF 29 4 3,
  oL 30 29,
  oN 31 30,
  oO 32 (.bin .lss (.tmp 28) (.tmp 31))])
 (.cond (.tmp 32) .skip (.exit 2)))
 (.seq (.blk 3 (.seq (.reg [oF 35 4 3,
  oL 36 35,
  oM 37 9,
  oX 38 27 36 37,
  oO 39 (.loadn 27 (.tmp 38)),
  oO 10 (.alloc 138 [.int .u8 0,.int .u8 0,.int .u8 0,.int .u8 0,.int .u8 0,.int .u8 0,.int .u8 0,.int .u8 0,.int .u8 0,.int .u8 0,.int .u8 0,.int .u8 0,.int .u8 0,.int .u8 0,.int .u8 0,.int .u8 0,.int .u8 0,.int .u8 0,.int .u8 0,.int .u8 0,.int .u8 0,.int .u8 0,.int .u8 0,.int .u8 0,.int .u8 0,.int .u8 0,.int .u8 0]),
  oS (.store 27 (.tmp 10) (.tmp 39))])
 (.seq (.reg [oF 40 0 10,
  oO 41 (.loadn 9 (.tmp 40)),
  oM 42 1,
  ⟨some 43,.call (.func 299) [(.tmp 41),(.tmp 42)],none,.t⟩,
  oF 44 0 3,
  oL 45 44,
  oO 46 (.bin .rem (.tmp 43) (.tmp 45)),
  oF 47 9 10,
  oO 48 (.loadn 9 (.tmp 47)),
  oM 49 2,
  ⟨some 50,.call (.func 299) [(.tmp 48),(.tmp 49)],none,.t⟩,
  oF 51 0 3,
  oL 52 51,
  oO 53 (.bin .rem (.tmp 50) (.tmp 52)),
  oO 54 (.bin .mul (.tmp 46) (.tmp 53)),
  oF 55 0 3,
  oL 56 55,
  oO 57 (.bin .rem (.tmp 54) (.tmp 56)),
  oM 11 57])
 (.seq (.reg [oO 12 (.mv (oK 0))])
 (.blk 4 (.loop (.seq (.seq (.reg [oM 58 12,
  oF 59 1 3,
  oL 60 59,
  oO 61 (.bin .lss (.tmp 58) (.tmp 60))])
 (.cond (.tmp 61) .skip (.exit 4)))
 (.seq (.blk 5 (.seq (.reg [oM 64 7,
  oM 65 12,
  oX 66 1 64 65,
  oL 67 66,
  oM 13 67])
 (.seq (.reg [oO 14 (.mv (oK 0))])
 (.blk 6 (.loop (.seq (.seq (.reg [oM 68 14,
  oF 69 3 3,
  oL 70 69,
  oO 71 (.bin .lss (.tmp 68) (.tmp 70))])
 (.cond (.tmp 71) .skip (.exit 6)))
 (.seq (.blk 7 (.reg [oM 74 13,
  oM 75 14,
  oM 76 13,
  oM 77 14,
  oX 78 1 76 77,
  oL 79 78,
  oM 80 12,
  oF 81 3 3,
  oL 82 81,
  oO 83 (.bin .mul (.tmp 80) (.tmp 82)),
  oM 84 14,
  oO 85 (.bin .add (.tmp 83) (.tmp 84)),
  oF 86 18 10,
  oO 87 (.ixa 9 1 (.tmp 86) (.tmp 85)),
  oL 88 87,
  oO 89 (.conv .i64 (.tmp 88)),
  oM 90 11,
  oO 91 (.bin .mul (.tmp 89) (.tmp 90)),
  oO 92 (.bin .add (.tmp 79) (.tmp 91)),
  oF 93 0 3,
  oL 94 93,
  oO 95 (.bin .rem (.tmp 92) (.tmp 94)),
  oX 96 1 74 75,
  oS (.store 1 (.tmp 96) (.tmp 95))]))
 (.reg [oM 72 14,
  oO 73 (.bin .add (.tmp 72) (oK 1)),
  oM 14 73]))))))))
 (.reg [oM 62 12,
  oO 63 (.bin .add (.tmp 62) (oK 1)),
  oM 12 63])))))))))
 (.reg [oM 33 9,
  oO 34 (.bin .add (.tmp 33) (oK 1)),
  oM 9 34]))))))
 (.seq (.reg [oM 97 7,
  oM 6 97])
 .ret)))))⟩
theorem s215:compFn Try.prog Try.f215=some c215:=by kernel_rfl
def c216:XFn:=
 ⟨[.tmp 2,.tmp 3],
 (.seq (.reg [oO 1 (.box 26 (.tmp 0)),
  oO 2 (.mv (.const (.slice none 0 0))),
  oO 3 (.mv (oK 0))])
 (.seq (.reg [oO 13 (.loadn 5 (.tmp 1)),
  oO 14 (.call (.func 300) [(.tmp 13)]),
  oM 12 14,
  oE 15 12 0,
  oE 16 12 1,
  oE 17 12 2,
  oM 4 15,
  oM 5 16,
  oM 6 17])
 (.seq (.reg [oO 18 (.bslice 2 1 0 [.int .i64 0] []),
  oM 7 18,
  oO 8 (.mv (oK 0))])
 (.seq (.seq (.reg [oO 9 (.mv (oK 0))])
 (.blk 0 (.loop (.seq (.seq (.reg [oM 19 9,
  oM 20 4,
  oO 21 (.bin .lss (.tmp 19) (.tmp 20))])
 (.cond (.tmp 21) .skip (.exit 0)))
 (.seq (.blk 1 (.seq (.reg [oO 10 (.mv (oK 0))])
 (.blk 2 (.loop (.seq (.seq (.reg [oM 24 10,
  oM 25 5,
  oO 26 (.bin .lss (.tmp 24) (.tmp 25))])
 (.cond (.tmp 26) .skip (.exit 2)))
 (.seq (.blk 3 (.seq (.reg [oO 11 (.mv (oK 0))])
 (.blk 4 (.loop (.seq (.seq (.reg [oM 29 11,
  oM 30 6,
  oO 31 (.bin .lss (.tmp 29) (.tmp 30))])
 (.cond (.tmp 31) .skip (.exit 4)))
 (.seq (.blk 5 (.seq (.seq (.reg [oO 34 (.loadn 5 (.tmp 1)),
  oM 35 9,
  oM 36 10,
  oM 37 11,
  ⟨some 38,.call (.func 222) [(.tmp 34),(.tmp 35),(.tmp 36),(.tmp 37)],none,.t⟩,
  oO 39 (.loadn 5 (.tmp 1)),
  oM 40 9,
  oM 41 10,
  oM 42 11,
  oO 43 (.call (.func 223) [(.tmp 39),(.tmp 40),(.tmp 41),(.tmp 42)]),
  oO 44 (.bin .eql (.tmp 38) (.tmp 43))])
 (.cond (.tmp 44) (.exit 5) .skip))
 (.seq (.seq (.reg [oM 45 8,
  oO 46 (.bin .eql (.tmp 45) (oK 0))])
 (.cond (.tmp 46) (.reg [oM 47 7,
  oM 48 9,
  oM 49 10,
  oM 50 11,
  oO 51 (.bslice 2 1 3 [.int .i64 0] [(0,1,(.tmp 48)),(1,1,(.tmp 49)),(2,1,(.tmp 50))]),
  oO 52 (.app 2 1 8 (.tmp 47) (.tmp 51)),
  oM 7 52]) .skip))
 (.reg [oM 53 8,
  oO 54 (.bin .add (.tmp 53) (oK 1)),
  oM 8 54]))))
 (.reg [oM 32 11,
  oO 33 (.bin .add (.tmp 32) (oK 1)),
  oM 11 33])))))))
 (.reg [oM 27 10,
  oO 28 (.bin .add (.tmp 27) (oK 1)),
  oM 10 28])))))))
 (.reg [oM 22 9,
  oO 23 (.bin .add (.tmp 22) (oK 1)),
  oM 9 23]))))))
 (.seq (.reg [oM 55 7,
  oM 56 8,
  oM 2 55,
  oM 3 56])
 .ret)))))⟩
theorem s216:compFn Try.prog Try.f216=some c216:=by kernel_rfl
def c217:XFn:=
 ⟨[.tmp 4],
 (.seq (.reg [oO 2 (.box 26 (.tmp 0)),
  oO 4 (.mv (oK 0))])
 (.seq (.seq (.reg [oO 7 (.loadn 5 (.tmp 2)),
  oO 8 (.call (.func 149) [(.tmp 7)]),
  oO 9 (.un .not (.tmp 8))])
 (.cond (.tmp 9) (.seq (.reg [oO 4 (.mv (oK 1))])
 .ret) .skip))
 (.seq (.seq (.reg [oO 10 (.loadn 5 (.tmp 2)),
  oO 11 (.call (.func 271) [(.tmp 10)]),
  oO 12 (.mv (oK 0))])
 (.blk 0 (.loop (.seq (.reg [oO 13 (.bin .lss (.tmp 12) (oK 3))])
 (.seq (.cond (.tmp 13) .skip (.exit 0))
 (.seq (.blk 1 (.seq (.reg [oM 14 12,
  oO 15 (.idx1 3 (.tmp 11) (.tmp 12)),
  oM 5 14,
  oM 6 15])
 (.seq (.reg [oM 16 1,
  oM 17 5,
  oX 18 1 16 17,
  oL 19 18,
  oO 20 (.bin .lss (.tmp 19) (oK 0)),
  oM 21 20,
  oG 22 (.mv (.tmp 1)) 21 false,
  oG 23 (.mv (.tmp 5)) 21 false,
  oG 24 (.ixs 1 (.tmp 22) (.tmp 23)) 21 false,
  oG 25 (.load1 (.tmp 24)) 21 false,
  oG 26 (.mv (.tmp 6)) 21 false,
  oG 27 (.bin .geq (.tmp 25) (.tmp 26)) 21 false,
  oO 28 (.pick (.tmp 21) (.const (.bool true)) (.tmp 27))])
 (.cond (.tmp 28) (.seq (.reg [oO 4 (.mv (oK 2))])
 .ret) .skip))))
 (.reg [oO 29 (.bin .add (.tmp 12) (oK 1)),
  oM 12 29])))))))
 (.seq (.reg [oO 4 (.mv (oK 0))])
 .ret))))⟩
theorem s217:compFn Try.prog Try.f217=some c217:=by kernel_rfl
def c218:XFn:=
 ⟨[.tmp 8],
 (.seq (.reg [oO 4 (.box 26 (.tmp 0)),
  oO 8 (.mv (oK 0))])
 (.seq (.reg [oO 9 (.mv (oK 0))])
 (.seq (.seq (.reg [oF 12 4 4,
  oL 13 12,
  oN 14 13,
  oO 15 (.mv (oK 0))])
 (.blk 0 (.loop (.seq (.reg [oO 16 (.bin .lss (.tmp 15) (.tmp 14))])
 (.seq (.cond (.tmp 16) .skip (.exit 0))
 (.seq (.blk 1 (.seq (.reg [oX 17 27 13 15,
  oO 18 (.loadn 27 (.tmp 17)),
  oO 11 (.alloc 138 [.int .u8 0,.int .u8 0,.int .u8 0,.int .u8 0,.int .u8 0,.int .u8 0,.int .u8 0,.int .u8 0,.int .u8 0,.int .u8 0,.int .u8 0,.int .u8 0,.int .u8 0,.int .u8 0,.int .u8 0,.int .u8 0,.int .u8 0,.int .u8 0,.int .u8 0,.int .u8 0,.int .u8 0,.int .u8 0,.int .u8 0,.int .u8 0,.int .u8 0,.int .u8 0,.int .u8 0]),
  oS (.store 27 (.tmp 11) (.tmp 18))])
 (.reg [oM 19 9,
  oM 20 1,
  oF 21 0 11,
  oO 22 (.ixa 9 1 (.tmp 21) (.tmp 20)),
  oL 23 22,
  oO 24 (.conv .i64 (.tmp 23)),
  oM 25 2,
  oF 26 9 11,
  oO 27 (.ixa 9 1 (.tmp 26) (.tmp 25)),
  oL 28 27,
  oO 29 (.conv .i64 (.tmp 28)),
  oO 30 (.bin .mul (.tmp 24) (.tmp 29)),
  oM 31 3,
  oF 32 18 11,
  oO 33 (.ixa 9 1 (.tmp 32) (.tmp 31)),
  oL 34 33,
  oO 35 (.conv .i64 (.tmp 34)),
  oO 36 (.bin .mul (.tmp 30) (.tmp 35)),
  oO 37 (.bin .add (.tmp 19) (.tmp 36)),
  oM 9 37])))
 (.reg [oO 38 (.bin .add (.tmp 15) (oK 1)),
  oM 15 38])))))))
 (.seq (.reg [oM 39 9,
  oF 40 0 4,
  oL 41 40,
  oO 42 (.bin .rem (.tmp 39) (.tmp 41)),
  oM 8 42])
 .ret))))⟩
theorem s218:compFn Try.prog Try.f218=some c218:=by kernel_rfl
def c219:XFn:=
 ⟨[.tmp 8],
 (.seq (.reg [oO 4 (.box 26 (.tmp 0)),
  oO 8 (.mv (oK 0))])
 (.seq (.seq (.reg [oM 9 1,
  oF 10 2 4,
  oL 11 10,
  oO 12 (.bin .rem (.tmp 9) (.tmp 11)),
  oM 13 2,
  oF 14 3 4,
  oL 15 14,
  oO 16 (.bin .quo (.tmp 13) (.tmp 15)),
  oO 17 (.bin .eql (.tmp 12) (.tmp 16)),
  oM 18 17,
  oG 19 (.mv (.tmp 1)) 18 true,
  oG 20 (.fadr 2 (.tmp 4)) 18 true,
  oG 21 (.load1 (.tmp 20)) 18 true,
  oG 22 (.bin .quo (.tmp 19) (.tmp 21)) 18 true,
  oG 23 (.mv (.tmp 3)) 18 true,
  oG 24 (.fadr 3 (.tmp 4)) 18 true,
  oG 25 (.load1 (.tmp 24)) 18 true,
  oG 26 (.bin .quo (.tmp 23) (.tmp 25)) 18 true,
  oG 27 (.bin .eql (.tmp 22) (.tmp 26)) 18 true,
  oO 28 (.pick (.tmp 18) (.tmp 27) (.const (.bool false))),
  oM 29 28,
  oG 30 (.mv (.tmp 2)) 29 true,
  oG 31 (.fadr 3 (.tmp 4)) 29 true,
  oG 32 (.load1 (.tmp 31)) 29 true,
  oG 33 (.bin .rem (.tmp 30) (.tmp 32)) 29 true,
  oG 34 (.mv (.tmp 3)) 29 true,
  oG 35 (.fadr 3 (.tmp 4)) 29 true,
  oG 36 (.load1 (.tmp 35)) 29 true,
  oG 37 (.bin .rem (.tmp 34) (.tmp 36)) 29 true,
  oG 38 (.bin .eql (.tmp 33) (.tmp 37)) 29 true,
  oO 39 (.pick (.tmp 29) (.tmp 38) (.const (.bool false)))])
 (.cond (.tmp 39) (.seq (.reg [oO 8 (.mv (oK 1))])
 .ret) .skip))
 (.seq (.reg [oO 8 (.mv (oK 0))])
 .ret)))⟩
theorem s219:compFn Try.prog Try.f219=some c219:=by kernel_rfl
def c220:XFn:=
 ⟨[.celln 2 5,.tmp 3,.tmp 4,.tmp 5],
 (.seq (.reg [oO 2 (.alloc 26 [.int .i64 0,.int .i64 0,.int .i64 0,.int .i64 0,.slice none 0 0]),
  oO 3 (.mv (oK 0)),
  oO 4 (.mv (oK 0)),
  oO 5 (.mv (oK 0))])
 (.seq (.reg [oM 11 0,
  oO 12 (.call (.func 145) [(.tmp 11)]),
  oM 6 12])
 (.seq (.reg [oM 13 6,
  oO 14 (.call (.func 212) [(.tmp 13)]),
  oO 7 (.alloc 26 [.int .i64 0,.int .i64 0,.int .i64 0,.int .i64 0,.slice none 0 0]),
  oS (.store 5 (.tmp 7) (.tmp 14))])
 (.seq (.seq (.reg [oO 15 (.loadn 5 (.tmp 7)),
  oO 16 (.call (.func 154) [(.tmp 15)]),
  oO 17 (.un .not (.tmp 16))])
 (.cond (.tmp 17) (.seq (.reg [oO 18 (.loadn 5 (.tmp 7)),
  oS (.store 5 (.tmp 2) (.tmp 18)),
  oO 3 (.mv (oK 0)),
  oO 4 (.mv (oK 0)),
  oO 5 (.mv (oK 0))])
 .ret) .skip))
 (.seq (.reg [oO 20 (.loadn 5 (.tmp 7)),
  oO 21 (.call (.func 300) [(.tmp 20)]),
  oM 19 21,
  oE 22 19 0,
  oE 23 19 1,
  oE 24 19 2,
  oM 8 22,
  oM 9 23,
  oM 10 24])
 (.seq (.reg [oO 25 (.loadn 5 (.tmp 7)),
  oM 26 6,
  oM 27 8,
  oO 28 (.bin .sub (.tmp 27) (oK 1)),
  ⟨some 29,.call (.func 175) [(.tmp 26),(.tmp 28)],none,(.s true [(.tmp 7)])⟩,
  oM 30 6,
  oM 31 9,
  oO 32 (.bin .sub (.tmp 31) (oK 1)),
  ⟨some 33,.call (.func 175) [(.tmp 30),(.tmp 32)],none,(.s true [(.tmp 7)])⟩,
  oM 34 6,
  oM 35 10,
  oO 36 (.bin .sub (.tmp 35) (oK 1)),
  ⟨some 37,.call (.func 175) [(.tmp 34),(.tmp 36)],none,(.s true [(.tmp 7)])⟩,
  oS (.store 5 (.tmp 2) (.tmp 25)),
  oM 3 29,
  oM 4 33,
  oM 5 37])
 .ret))))))⟩
theorem s220:compFn Try.prog Try.f220=some c220:=by kernel_rfl
def c221:XFn:=
 ⟨[.tmp 8],
 (.seq (.reg [oO 4 (.box 26 (.tmp 0)),
  oO 8 (.mv (oK 0))])
 (.seq (.seq (.reg [oO 12 (.loadn 5 (.tmp 4)),
  oO 13 (.call (.func 154) [(.tmp 12)]),
  oO 14 (.un .not (.tmp 13))])
 (.cond (.tmp 14) (.seq (.reg [oO 8 (.mv (oK 1))])
 .ret) .skip))
 (.seq (.reg [oO 16 (.loadn 5 (.tmp 4)),
  oO 17 (.call (.func 300) [(.tmp 16)]),
  oM 15 17,
  oE 18 15 0,
  oE 19 15 1,
  oE 20 15 2,
  oM 9 18,
  oM 10 19,
  oM 11 20])
 (.seq (.seq (.reg [oM 21 1,
  oM 22 9,
  oO 23 (.bin .sub (.tmp 22) (oK 1)),
  oO 24 (.call (.func 181) [(.tmp 21),(oK 0),(.tmp 23)]),
  oO 25 (.un .not (.tmp 24)),
  oM 26 25,
  oG 27 (.mv (.tmp 2)) 26 false,
  oG 28 (.mv (.tmp 10)) 26 false,
  oG 29 (.bin .sub (.tmp 28) (oK 1)) 26 false,
  oG 30 (.call (.func 181) [(.tmp 27),(oK 0),(.tmp 29)]) 26 false,
  oG 31 (.un .not (.tmp 30)) 26 false,
  oO 32 (.pick (.tmp 26) (.const (.bool true)) (.tmp 31)),
  oM 33 32,
  oG 34 (.mv (.tmp 3)) 33 false,
  oG 35 (.mv (.tmp 11)) 33 false,
  oG 36 (.bin .sub (.tmp 35) (oK 1)) 33 false,
  oG 37 (.call (.func 181) [(.tmp 34),(oK 0),(.tmp 36)]) 33 false,
  oG 38 (.un .not (.tmp 37)) 33 false,
  oO 39 (.pick (.tmp 33) (.const (.bool true)) (.tmp 38))])
 (.cond (.tmp 39) (.seq (.reg [oO 8 (.mv (oK 2))])
 .ret) .skip))
 (.seq (.reg [oO 8 (.mv (oK 0))])
 .ret)))))⟩
theorem s221:compFn Try.prog Try.f221=some c221:=by kernel_rfl
def c222:XFn:=
 ⟨[.tmp 8],
 (.seq (.reg [oO 4 (.box 26 (.tmp 0)),
  oO 8 (.mv (oK 0))])
 (.seq (.reg [oO 9 (.mv (oK 0))])
 (.seq (.seq (.reg [oO 10 (.mv (oK 0))])
 (.blk 0 (.loop (.seq (.seq (.reg [oM 12 10,
  oF 13 4 4,
  oL 14 13,
  oN 15 14,
  oO 16 (.bin .lss (.tmp 12) (.tmp 15))])
 (.cond (.tmp 16) .skip (.exit 0)))
 (.seq (.blk 1 (.seq (.reg [oF 19 4 4,
  oL 20 19,
  oM 21 10,
  oX 22 27 20 21,
  oO 23 (.loadn 27 (.tmp 22)),
  oO 11 (.alloc 138 [.int .u8 0,.int .u8 0,.int .u8 0,.int .u8 0,.int .u8 0,.int .u8 0,.int .u8 0,.int .u8 0,.int .u8 0,.int .u8 0,.int .u8 0,.int .u8 0,.int .u8 0,.int .u8 0,.int .u8 0,.int .u8 0,.int .u8 0,.int .u8 0,.int .u8 0,.int .u8 0,.int .u8 0,.int .u8 0,.int .u8 0,.int .u8 0,.int .u8 0,.int .u8 0,.int .u8 0]),
  oS (.store 27 (.tmp 11) (.tmp 23))])
 (.reg [oM 24 9,
  oM 25 1,
  oF 26 0 11,
  oO 27 (.ixa 9 1 (.tmp 26) (.tmp 25)),
  oL 28 27,
  oO 29 (.conv .i64 (.tmp 28)),
  oM 30 2,
  oF 31 9 11,
  oO 32 (.ixa 9 1 (.tmp 31) (.tmp 30)),
  oL 33 32,
  oO 34 (.conv .i64 (.tmp 33)),
  oO 35 (.bin .mul (.tmp 29) (.tmp 34)),
  oM 36 3,
  oF 37 18 11,
  oO 38 (.ixa 9 1 (.tmp 37) (.tmp 36)),
  oL 39 38,
  oO 40 (.conv .i64 (.tmp 39)),
  oO 41 (.bin .mul (.tmp 35) (.tmp 40)),
  oO 42 (.bin .add (.tmp 24) (.tmp 41)),
  oM 9 42])))
 (.reg [oM 17 10,
  oO 18 (.bin .add (.tmp 17) (oK 1)),
  oM 10 18]))))))
 (.seq (.reg [oM 43 9,
  oF 44 0 4,
  oL 45 44,
  oO 46 (.bin .rem (.tmp 43) (.tmp 45)),
  oM 8 46])
 .ret))))⟩
theorem s222:compFn Try.prog Try.f222=some c222:=by kernel_rfl
def c223:XFn:=
 ⟨[.tmp 8],
 (.seq (.reg [oO 4 (.box 26 (.tmp 0)),
  oO 8 (.mv (oK 0))])
 (.seq (.seq (.reg [oM 9 1,
  oF 10 2 4,
  oL 11 10,
  oO 12 (.bin .rem (.tmp 9) (.tmp 11)),
  oM 13 2,
  oF 14 3 4,
  oL 15 14,
  oO 16 (.bin .quo (.tmp 13) (.tmp 15)),
  oO 17 (.bin .eql (.tmp 12) (.tmp 16)),
  oM 18 17,
  oG 19 (.mv (.tmp 1)) 18 true,
  oG 20 (.fadr 2 (.tmp 4)) 18 true,
  oG 21 (.load1 (.tmp 20)) 18 true,
  oG 22 (.bin .quo (.tmp 19) (.tmp 21)) 18 true,
  oG 23 (.mv (.tmp 3)) 18 true,
  oG 24 (.fadr 3 (.tmp 4)) 18 true,
  oG 25 (.load1 (.tmp 24)) 18 true,
  oG 26 (.bin .quo (.tmp 23) (.tmp 25)) 18 true,
  oG 27 (.bin .eql (.tmp 22) (.tmp 26)) 18 true,
  oO 28 (.pick (.tmp 18) (.tmp 27) (.const (.bool false))),
  oM 29 28,
  oG 30 (.mv (.tmp 2)) 29 true,
  oG 31 (.fadr 3 (.tmp 4)) 29 true,
  oG 32 (.load1 (.tmp 31)) 29 true,
  oG 33 (.bin .rem (.tmp 30) (.tmp 32)) 29 true,
  oG 34 (.mv (.tmp 3)) 29 true,
  oG 35 (.fadr 3 (.tmp 4)) 29 true,
  oG 36 (.load1 (.tmp 35)) 29 true,
  oG 37 (.bin .rem (.tmp 34) (.tmp 36)) 29 true,
  oG 38 (.bin .eql (.tmp 33) (.tmp 37)) 29 true,
  oO 39 (.pick (.tmp 29) (.tmp 38) (.const (.bool false)))])
 (.cond (.tmp 39) (.seq (.reg [oO 8 (.mv (oK 1))])
 .ret) .skip))
 (.seq (.reg [oO 8 (.mv (oK 0))])
 .ret)))⟩
theorem s223:compFn Try.prog Try.f223=some c223:=by kernel_rfl
def c224:XFn:=
 ⟨[.tmp 2],
 (.seq (.reg [oO 2 (.mv (.const (.bool false)))])
 (.seq (.reg [oM 3 0,
  oO 4 (.bin .eql (.tmp 3) (oK 2)),
  oM 5 4,
  oG 6 (.mv (.tmp 0)) 5 false,
  oG 7 (.bin .eql (.tmp 6) (oK 3)) 5 false,
  oO 8 (.pick (.tmp 5) (.const (.bool true)) (.tmp 7)),
  oM 9 8,
  oG 10 (.mv (.tmp 0)) 9 false,
  oG 11 (.bin .eql (.tmp 10) (oK 5)) 9 false,
  oO 12 (.pick (.tmp 9) (.const (.bool true)) (.tmp 11)),
  oM 2 12])
 .ret))⟩
theorem s224:compFn Try.prog Try.f224=some c224:=by kernel_rfl
def c225:XFn:=
 ⟨[.tmp 6],
 (.seq (.reg [oO 6 (.mv (.const (.slice none 0 0)))])
 (.seq (.reg [oO 12 (.bslice 27 1 0 [.slice none 0 0] []),
  oM 7 12])
 (.seq (.seq (.reg [oO 8 (.mv (oK 0))])
 (.blk 0 (.loop (.seq (.seq (.reg [oM 13 8,
  oM 14 1,
  oN 15 14,
  oO 16 (.bin .lss (.tmp 13) (.tmp 15))])
 (.cond (.tmp 16) .skip (.exit 0)))
 (.seq (.blk 1 (.seq (.reg [oM 19 2,
  oO 20 (.ixs 1 (.tmp 19) (oK 0)),
  oL 21 20,
  oN 22 21,
  oO 23 (.mks 2 1 8 [.int .i64 0] (.tmp 22)),
  oM 9 23])
 (.seq (.seq (.reg [oO 10 (.mv (oK 0))])
 (.blk 2 (.loop (.seq (.seq (.reg [oM 24 10,
  oM 25 2,
  oN 26 25,
  oO 27 (.bin .lss (.tmp 24) (.tmp 26))])
 (.cond (.tmp 27) .skip (.exit 2)))
 (.seq (.blk 3 (.seq (.reg [oO 11 (.mv (oK 0))])
 (.blk 4 (.loop (.seq (.seq (.reg [oM 30 11,
  oM 31 9,
  oN 32 31,
  oO 33 (.bin .lss (.tmp 30) (.tmp 32))])
 (.cond (.tmp 33) .skip (.exit 4)))
 (.seq (.blk 5 (.reg [oM 36 9,
  oM 37 11,
  oM 38 9,
  oM 39 11,
  oX 40 1 38 39,
  oL 41 40,
  oM 42 1,
  oM 43 8,
  oX 44 1 42 43,
  oL 45 44,
  oM 46 10,
  oX 47 1 45 46,
  oL 48 47,
  oM 49 2,
  oM 50 10,
  oX 51 1 49 50,
  oL 52 51,
  oM 53 11,
  oX 54 1 52 53,
  oL 55 54,
  oO 56 (.bin .mul (.tmp 48) (.tmp 55)),
  oO 57 (.bin .add (.tmp 41) (.tmp 56)),
  oM 58 0,
  oO 59 (.bin .rem (.tmp 57) (.tmp 58)),
  oX 60 1 36 37,
  oS (.store 1 (.tmp 60) (.tmp 59))]))
 (.reg [oM 34 11,
  oO 35 (.bin .add (.tmp 34) (oK 1)),
  oM 11 35])))))))
 (.reg [oM 28 10,
  oO 29 (.bin .add (.tmp 28) (oK 1)),
  oM 10 29]))))))
 (.reg [oM 61 7,
  oM 62 9,
  oO 63 (.bslice 27 1 1 [.slice none 0 0] [(0,1,(.tmp 62))]),
  oO 64 (.app 27 1 24 (.tmp 61) (.tmp 63)),
  oM 7 64]))))
 (.reg [oM 17 8,
  oO 18 (.bin .add (.tmp 17) (oK 1)),
  oM 8 18]))))))
 (.seq (.reg [oM 65 7,
  oM 6 65])
 .ret))))⟩
theorem s225:compFn Try.prog Try.f225=some c225:=by kernel_rfl
def c226:XFn:=
 ⟨[.tmp 2],
 (.seq (.reg [oO 1 (.box 26 (.tmp 0)),
  oO 2 (.mv (.const (.bool false)))])
 (.seq (.reg [oO 6 (.loadn 5 (.tmp 1)),
  oO 7 (.call (.func 216) [(.tmp 6)]),
  oM 5 7,
  oE 8 5 0,
  oE 9 5 1,
  oM 3 8,
  oM 4 9])
 (.seq (.reg [oM 10 4,
  oO 11 (.bin .eql (.tmp 10) (oK 0)),
  oM 2 11])
 .ret)))⟩
theorem s226:compFn Try.prog Try.f226=some c226:=by kernel_rfl
def c266:XFn:=
 ⟨[.celln 2 5],
 (.seq (.reg [oO 2 (.alloc 26 [.int .i64 0,.int .i64 0,.int .i64 0,.int .i64 0,.slice none 0 0])])
 (.seq (.reg [oM 5 0,
  oO 6 (.call (.func 320) [(.tmp 5)]),
  oO 3 (.alloc 26 [.int .i64 0,.int .i64 0,.int .i64 0,.int .i64 0,.slice none 0 0]),
  oS (.store 5 (.tmp 3) (.tmp 6))])
 (.seq (.seq (.reg [oM 7 0,
  oO 8 (.call (.func 148) [(.tmp 7),(oK 4)])])
 (.blk 0 (.seq (.reg [oO 10 (.bin .eql (.tmp 8) (oK 0)),
  oM 9 10])
 (.cond (.tmp 9) (.seq (.reg [oF 11 0 3,
  oL 12 11,
  oO 13 (.call (.func 321) [(.tmp 12)]),
  oS (.store 5 (.tmp 2) (.tmp 13))])
 .ret) (.seq (.reg [oO 15 (.bin .eql (.tmp 8) (oK 1)),
  oM 14 15])
 (.cond (.tmp 14) (.seq (.reg [oF 16 0 3,
  oL 17 16,
  oF 18 1 3,
  oL 19 18,
  oF 20 2 3,
  oL 21 20,
  oF 22 3 3,
  oL 23 22,
  oO 24 (.call (.func 303) [(.tmp 17),(.tmp 19),(.tmp 21),(.tmp 23)]),
  oS (.store 5 (.tmp 2) (.tmp 24))])
 .ret) .skip))))))
 (.seq (.seq (.reg [oM 25 0,
  oO 26 (.call (.func 148) [(.tmp 25),(oK 6)]),
  oM 4 26])
 (.blk 1 (.loop (.seq (.seq (.reg [oM 27 4,
  oO 28 (.bin .gtr (.tmp 27) (oK 0))])
 (.cond (.tmp 28) .skip (.exit 1)))
 (.seq (.blk 2 (.reg [oF 31 4 3,
  oL 32 31,
  oM 33 0,
  oO 34 (.loadn 5 (.tmp 3)),
  ⟨some 35,.call (.func 305) [(.tmp 33),(.tmp 34)],none,(.s true [(.tmp 31)])⟩,
  oO 36 (.bslice 138 27 1 [.int .u8 0,.int .u8 0,.int .u8 0,.int .u8 0,.int .u8 0,.int .u8 0,.int .u8 0,.int .u8 0,.int .u8 0,.int .u8 0,.int .u8 0,.int .u8 0,.int .u8 0,.int .u8 0,.int .u8 0,.int .u8 0,.int .u8 0,.int .u8 0,.int .u8 0,.int .u8 0,.int .u8 0,.int .u8 0,.int .u8 0,.int .u8 0,.int .u8 0,.int .u8 0,.int .u8 0] [(0,27,(.tmp 35))]),
  oO 37 (.app 138 27 27 (.tmp 32) (.tmp 36)),
  oF 38 4 3,
  oS (.store 1 (.tmp 38) (.tmp 37))]))
 (.reg [oM 29 4,
  oO 30 (.bin .sub (.tmp 29) (oK 1)),
  oM 4 30]))))))
 (.seq (.reg [oO 39 (.loadn 5 (.tmp 3)),
  oS (.store 5 (.tmp 2) (.tmp 39))])
 .ret)))))⟩
theorem s266:compFn Try.prog Try.f266=some c266:=by kernel_rfl
def c269:XFn:=
 ⟨[.celln 4 5],
 (.seq (.reg [oO 3 (.box 26 (.tmp 1)),
  oO 4 (.alloc 26 [.int .i64 0,.int .i64 0,.int .i64 0,.int .i64 0,.slice none 0 0])])
 (.seq (.seq (.reg [oM 8 0,
  oO 9 (.call (.func 148) [(.tmp 8),(oK 40)])])
 (.blk 0 (.seq (.reg [oO 11 (.bin .eql (.tmp 9) (oK 0)),
  oM 10 11])
 (.cond (.tmp 10) (.reg [oM 12 0,
  oO 13 (.bslice 2 1 4 [.int .i64 0] [(0,1,(oK 0)),(1,1,(oK 4)),(2,1,(oK 7)),(3,1,(oK 3))]),
  oO 14 (.call (.func 147) [(.tmp 12),(.tmp 13)]),
  oF 15 0 3,
  oS (.store 1 (.tmp 15) (.tmp 14))]) (.seq (.reg [oO 17 (.bin .eql (.tmp 9) (oK 1)),
  oM 16 17])
 (.cond (.tmp 16) (.reg [oM 18 0,
  oO 19 (.bslice 2 1 3 [.int .i64 0] [(0,1,(oK 0)),(1,1,(oK 4)),(2,1,(.const (.int .i64 (-1))))]),
  oO 20 (.call (.func 147) [(.tmp 18),(.tmp 19)]),
  oF 21 1 3,
  oS (.store 1 (.tmp 21) (.tmp 20))]) (.seq (.reg [oO 23 (.bin .eql (.tmp 9) (oK 2)),
  oM 22 23])
 (.cond (.tmp 22) (.reg [oM 24 0,
  oF 25 3 3,
  oL 26 25,
  oO 27 (.bin .sub (.tmp 26) (oK 1)),
  oO 28 (.bslice 2 1 3 [.int .i64 0] [(0,1,(oK 0)),(1,1,(oK 4)),(2,1,(.tmp 27))]),
  oO 29 (.call (.func 147) [(.tmp 24),(.tmp 28)]),
  oF 30 3 3,
  oS (.store 1 (.tmp 30) (.tmp 29))]) (.seq (.seq (.reg [oO 32 (.bin .eql (.tmp 9) (oK 3)),
  oM 31 32])
 (.cond (.tmp 31) .skip (.seq (.reg [oO 33 (.bin .eql (.tmp 9) (oK 4)),
  oM 31 33])
 (.cond (.tmp 31) .skip (.reg [oO 34 (.bin .eql (.tmp 9) (oK 5)),
  oM 31 34])))))
 (.cond (.tmp 31) (.seq (.reg [oF 35 4 3,
  oL 36 35,
  oN 37 36,
  oM 5 37])
 (.seq (.reg [oM 38 5,
  oO 39 (.bin .gtr (.tmp 38) (oK 0))])
 (.cond (.tmp 39) (.seq (.reg [oO 40 (.bslice 138 27 0 [.int .u8 0,.int .u8 0,.int .u8 0,.int .u8 0,.int .u8 0,.int .u8 0,.int .u8 0,.int .u8 0,.int .u8 0,.int .u8 0,.int .u8 0,.int .u8 0,.int .u8 0,.int .u8 0,.int .u8 0,.int .u8 0,.int .u8 0,.int .u8 0,.int .u8 0,.int .u8 0,.int .u8 0,.int .u8 0,.int .u8 0,.int .u8 0,.int .u8 0,.int .u8 0,.int .u8 0] []),
  oF 41 4 3,
  oL 42 41,
  oO 43 (.app 138 27 27 (.tmp 40) (.tmp 42)),
  oM 6 43])
 (.seq (.reg [oM 44 6,
  oM 45 0,
  oM 46 5,
  oO 47 (.call (.func 148) [(.tmp 45),(.tmp 46)]),
  oX 48 27 44 47,
  oO 49 (.loadn 27 (.tmp 48)),
  oO 7 (.alloc 138 [.int .u8 0,.int .u8 0,.int .u8 0,.int .u8 0,.int .u8 0,.int .u8 0,.int .u8 0,.int .u8 0,.int .u8 0,.int .u8 0,.int .u8 0,.int .u8 0,.int .u8 0,.int .u8 0,.int .u8 0,.int .u8 0,.int .u8 0,.int .u8 0,.int .u8 0,.int .u8 0,.int .u8 0,.int .u8 0,.int .u8 0,.int .u8 0,.int .u8 0,.int .u8 0,.int .u8 0]),
  oS (.store 27 (.tmp 7) (.tmp 49))])
 (.seq (.reg [oM 50 0,
  oO 51 (.call (.func 148) [(.tmp 50),(oK 9)]),
  oM 52 0,
  oO 53 (.call (.func 148) [(.tmp 52),(oK 4)]),
  oO 54 (.conv .u8 (.tmp 53)),
  oF 55 9 7,
  oO 56 (.ixa 9 1 (.tmp 55) (.tmp 51)),
  oS (.store 1 (.tmp 56) (.tmp 54))])
 (.seq (.reg [oM 57 6,
  oM 58 0,
  oM 59 5,
  ⟨some 60,.call (.func 148) [(.tmp 58),(.tmp 59)],none,(.s true [])⟩,
  ⟨some 61,.loadn 27 (.tmp 7),none,(.s false [(.tmp 58)])⟩,
  oX 62 27 57 60,
  oS (.store 27 (.tmp 62) (.tmp 61))])
 (.reg [oM 63 6,
  oF 64 4 3,
  oS (.store 1 (.tmp 64) (.tmp 63))]))))) .skip))) .skip))))))))))
 (.seq (.reg [oO 65 (.loadn 5 (.tmp 3)),
  oS (.store 5 (.tmp 4) (.tmp 65))])
 .ret)))⟩
theorem s269:compFn Try.prog Try.f269=some c269:=by kernel_rfl
def c270:XFn:=
 ⟨[.tmp 6],
 (.seq (.reg [oO 4 (.box 158 (.tmp 1)),
  oO 5 (.box 138 (.tmp 2)),
  oO 6 (.mv (.const (.bool false)))])
 (.seq (.seq (.reg [oO 9 (.loadn 27 (.tmp 5)),
  oO 10 (.call (.func 196) [(.tmp 9)]),
  oO 11 (.mv (oK 0))])
 (.blk 0 (.loop (.seq (.reg [oO 12 (.bin .lss (.tmp 11) (oK 3))])
 (.seq (.cond (.tmp 12) .skip (.exit 0))
 (.seq (.blk 1 (.seq (.reg [oM 13 11,
  oO 14 (.idxn 3 9 (.tmp 10) (.tmp 11)),
  oO 8 (.alloc 136 [.int .u8 0,.int .u8 0,.int .u8 0,.int .u8 0,.int .u8 0,.int .u8 0,.int .u8 0,.int .u8 0,.int .u8 0]),
  oM 7 13,
  oS (.store 9 (.tmp 8) (.tmp 14))])
 (.seq (.reg [oM 15 0,
  oM 16 7,
  oO 17 (.ixa 3 1 (.tmp 4) (.tmp 16)),
  oL 18 17,
  oO 19 (.loadn 9 (.tmp 8)),
  oO 20 (.call (.func 322) [(.tmp 15),(.tmp 18),(.tmp 19)]),
  oO 21 (.un .not (.tmp 20))])
 (.cond (.tmp 21) (.seq (.reg [oO 6 (.mv (.const (.bool false)))])
 .ret) .skip))))
 (.reg [oO 22 (.bin .add (.tmp 11) (oK 1)),
  oM 11 22])))))))
 (.seq (.reg [oO 23 (.loadn 27 (.tmp 5)),
  oO 24 (.call (.func 283) [(.tmp 23)]),
  oO 25 (.un .not (.tmp 24)),
  oM 6 25])
 .ret)))⟩
theorem s270:compFn Try.prog Try.f270=some c270:=by kernel_rfl
def c271:XFn:=
 ⟨[.celln 2 3],
 (.seq (.reg [oO 1 (.box 26 (.tmp 0)),
  oO 2 (.alloc 158 [.int .i64 0,.int .i64 0,.int .i64 0])])
 (.seq (.reg [oF 3 1 1,
  oL 4 3,
  oF 5 2 1,
  oL 6 5,
  oO 7 (.bin .mul (.tmp 4) (.tmp 6)),
  oF 8 2 1,
  oL 9 8,
  oF 10 3 1,
  oL 11 10,
  oO 12 (.bin .mul (.tmp 9) (.tmp 11)),
  oF 13 1 1,
  oL 14 13,
  oF 15 3 1,
  oL 16 15,
  oO 17 (.bin .mul (.tmp 14) (.tmp 16)),
  oO 18 (.build [.int .i64 0,.int .i64 0,.int .i64 0] [(0,1,(.tmp 7)),(1,1,(.tmp 12)),(2,1,(.tmp 17))]),
  oS (.store 3 (.tmp 2) (.tmp 18))])
 .ret))⟩
theorem s271:compFn Try.prog Try.f271=some c271:=by kernel_rfl
def c275:XFn:=
 ⟨[.tmp 8],
 (.seq (.reg [oO 8 (.mv (.const (.bool false)))])
 (.seq (.reg [oM 9 0,
  oO 10 (.call (.func 224) [(.tmp 9)]),
  oM 11 10,
  oG 12 (.mv (.tmp 1)) 11 true,
  oG 13 (.call (.func 181) [(.tmp 12),(oK 1),(oK 3)]) 11 true,
  oO 14 (.pick (.tmp 11) (.tmp 13) (.const (.bool false))),
  oM 15 14,
  oG 16 (.mv (.tmp 2)) 15 true,
  oG 17 (.call (.func 181) [(.tmp 16),(oK 1),(oK 3)]) 15 true,
  oO 18 (.pick (.tmp 15) (.tmp 17) (.const (.bool false))),
  oM 19 18,
  oG 20 (.mv (.tmp 3)) 19 true,
  oG 21 (.call (.func 181) [(.tmp 20),(oK 1),(oK 3)]) 19 true,
  oO 22 (.pick (.tmp 19) (.tmp 21) (.const (.bool false))),
  oM 8 22])
 .ret))⟩
theorem s275:compFn Try.prog Try.f275=some c275:=by kernel_rfl
def c276:XFn:=
 ⟨[.tmp 4],
 (.seq (.reg [oO 2 (.box 26 (.tmp 0)),
  oO 3 (.box 138 (.tmp 1)),
  oO 4 (.mv (.const (.bool false)))])
 (.seq (.reg [oO 9 (.loadn 5 (.tmp 2)),
  oO 10 (.call (.func 300) [(.tmp 9)]),
  oM 8 10,
  oE 11 8 0,
  oE 12 8 1,
  oE 13 8 2,
  oM 5 11,
  oM 6 12,
  oM 7 13])
 (.seq (.seq (.reg [oF 14 0 2,
  oL 15 14,
  oF 16 0 3,
  oO 17 (.loadn 9 (.tmp 16)),
  oM 18 5,
  oO 19 (.call (.func 324) [(.tmp 15),(.tmp 17),(.tmp 18)]),
  oO 20 (.un .not (.tmp 19)),
  oM 21 20,
  oG 22 (.fadr 0 (.tmp 2)) 21 false,
  oG 23 (.load1 (.tmp 22)) 21 false,
  oG 24 (.fadr 9 (.tmp 3)) 21 false,
  oG 25 (.loadn 9 (.tmp 24)) 21 false,
  oG 26 (.mv (.tmp 6)) 21 false,
  oG 27 (.call (.func 324) [(.tmp 23),(.tmp 25),(.tmp 26)]) 21 false,
  oG 28 (.un .not (.tmp 27)) 21 false,
  oO 29 (.pick (.tmp 21) (.const (.bool true)) (.tmp 28)),
  oM 30 29,
  oG 31 (.fadr 0 (.tmp 2)) 30 false,
  oG 32 (.load1 (.tmp 31)) 30 false,
  oG 33 (.fadr 18 (.tmp 3)) 30 false,
  oG 34 (.loadn 9 (.tmp 33)) 30 false,
  oG 35 (.mv (.tmp 7)) 30 false,
  oG 36 (.call (.func 324) [(.tmp 32),(.tmp 34),(.tmp 35)]) 30 false,
  oG 37 (.un .not (.tmp 36)) 30 false,
  oO 38 (.pick (.tmp 30) (.const (.bool true)) (.tmp 37))])
 (.cond (.tmp 38) (.seq (.reg [oO 4 (.mv (.const (.bool false)))])
 .ret) .skip))
 (.seq (.reg [oF 39 0 3,
  oO 40 (.loadn 9 (.tmp 39)),
  oO 41 (.call (.func 278) [(.tmp 40)]),
  oO 42 (.un .not (.tmp 41)),
  oM 43 42,
  oG 44 (.fadr 9 (.tmp 3)) 43 true,
  oG 45 (.loadn 9 (.tmp 44)) 43 true,
  oG 46 (.call (.func 278) [(.tmp 45)]) 43 true,
  oG 47 (.un .not (.tmp 46)) 43 true,
  oO 48 (.pick (.tmp 43) (.tmp 47) (.const (.bool false))),
  oM 49 48,
  oG 50 (.fadr 18 (.tmp 3)) 49 true,
  oG 51 (.loadn 9 (.tmp 50)) 49 true,
  oG 52 (.call (.func 278) [(.tmp 51)]) 49 true,
  oG 53 (.un .not (.tmp 52)) 49 true,
  oO 54 (.pick (.tmp 49) (.tmp 53) (.const (.bool false))),
  oM 4 54])
 .ret))))⟩
theorem s276:compFn Try.prog Try.f276=some c276:=by kernel_rfl
def c278:XFn:=
 ⟨[.tmp 2],
 (.seq (.reg [oO 1 (.box 136 (.tmp 0)),
  oO 2 (.mv (.const (.bool false)))])
 (.seq (.reg [oO 3 (.loadn 9 (.tmp 1)),
  oO 4 (.build [.int .u8 0,.int .u8 0,.int .u8 0,.int .u8 0,.int .u8 0,.int .u8 0,.int .u8 0,.int .u8 0,.int .u8 0] []),
  oO 5 (.eqa false 9 (.tmp 3) (.tmp 4)),
  oM 2 5])
 .ret))⟩
theorem s278:compFn Try.prog Try.f278=some c278:=by kernel_rfl
def c283:XFn:=
 ⟨[.tmp 2],
 (.seq (.reg [oO 1 (.box 138 (.tmp 0)),
  oO 2 (.mv (.const (.bool false)))])
 (.seq (.reg [oF 3 0 1,
  oO 4 (.loadn 9 (.tmp 3)),
  oO 5 (.build [.int .u8 0,.int .u8 0,.int .u8 0,.int .u8 0,.int .u8 0,.int .u8 0,.int .u8 0,.int .u8 0,.int .u8 0] []),
  oO 6 (.eqa false 9 (.tmp 4) (.tmp 5)),
  oM 7 6,
  oG 8 (.fadr 9 (.tmp 1)) 7 false,
  oG 9 (.loadn 9 (.tmp 8)) 7 false,
  oG 10 (.build [.int .u8 0,.int .u8 0,.int .u8 0,.int .u8 0,.int .u8 0,.int .u8 0,.int .u8 0,.int .u8 0,.int .u8 0] []) 7 false,
  oG 11 (.eqa false 9 (.tmp 9) (.tmp 10)) 7 false,
  oO 12 (.pick (.tmp 7) (.const (.bool true)) (.tmp 11)),
  oM 13 12,
  oG 14 (.fadr 18 (.tmp 1)) 13 false,
  oG 15 (.loadn 9 (.tmp 14)) 13 false,
  oG 16 (.build [.int .u8 0,.int .u8 0,.int .u8 0,.int .u8 0,.int .u8 0,.int .u8 0,.int .u8 0,.int .u8 0,.int .u8 0] []) 13 false,
  oG 17 (.eqa false 9 (.tmp 15) (.tmp 16)) 13 false,
  oO 18 (.pick (.tmp 13) (.const (.bool true)) (.tmp 17)),
  oM 2 18])
 .ret))⟩
theorem s283:compFn Try.prog Try.f283=some c283:=by kernel_rfl
def c285:XFn:=
 ⟨[.tmp 2],
 (.seq (.reg [oO 2 (.mv (.const (.slice none 0 0)))])
 (.seq (.seq (.reg [oM 3 0,
  oO 4 (.isnil false (.tmp 3))])
 (.cond (.tmp 4) (.seq (.reg [oO 2 (.mv (.const (.slice none 0 0)))])
 .ret) .skip))
 (.seq (.reg [oO 5 (.bslice 2 1 0 [.int .i64 0] []),
  oM 6 0,
  oO 7 (.app 2 1 8 (.tmp 5) (.tmp 6)),
  oM 2 7])
 .ret)))⟩
theorem s285:compFn Try.prog Try.f285=some c285:=by kernel_rfl
def c286:XFn:=
 ⟨[.tmp 6],
 (.seq (.reg [oO 4 (.box 136 (.tmp 1)),
  oO 6 (.mv (oK 0))])
 (.seq (.reg [oO 7 (.mv (oK 0))])
 (.seq (.seq (.reg [oM 10 2,
  oN 11 10,
  oO 12 (.mv (oK 0))])
 (.blk 0 (.loop (.seq (.reg [oO 13 (.bin .lss (.tmp 12) (.tmp 11))])
 (.seq (.cond (.tmp 13) .skip (.exit 0))
 (.seq (.blk 1 (.seq (.reg [oM 14 12,
  oX 15 1 10 12,
  oL 16 15,
  oM 8 14,
  oM 9 16])
 (.reg [oM 17 7,
  oM 18 8,
  oO 19 (.ixa 9 1 (.tmp 4) (.tmp 18)),
  oL 20 19,
  oO 21 (.conv .i64 (.tmp 20)),
  oM 22 9,
  oO 23 (.bin .mul (.tmp 21) (.tmp 22)),
  oO 24 (.bin .add (.tmp 17) (.tmp 23)),
  oM 7 24])))
 (.reg [oO 25 (.bin .add (.tmp 12) (oK 1)),
  oM 12 25])))))))
 (.seq (.reg [oM 26 7,
  oM 27 0,
  oO 28 (.bin .rem (.tmp 26) (.tmp 27)),
  oM 6 28])
 .ret))))⟩
theorem s286:compFn Try.prog Try.f286=some c286:=by kernel_rfl
def c287:XFn:=
 ⟨[.tmp 4],
 (.seq (.reg [oO 4 (.mv (.const (.slice none 0 0)))])
 (.seq (.seq (.reg [oM 5 1,
  oO 6 (.bin .lss (.tmp 5) (oK 0))])
 (.cond (.tmp 6) (.reg [oO 7 (.fail),
  oS (.fail)]) .skip))
 (.seq (.seq (.reg [oM 8 1,
  oM 9 0,
  oO 10 (.cap (.tmp 9)),
  oM 11 0,
  oN 12 11,
  oO 13 (.bin .sub (.tmp 10) (.tmp 12)),
  oO 14 (.bin .sub (.tmp 8) (.tmp 13)),
  oM 1 14])
 (.seq (.reg [oM 15 1,
  oO 16 (.bin .gtr (.tmp 15) (oK 0))])
 (.cond (.tmp 16) (.reg [oM 17 0,
  oM 18 0,
  oO 19 (.cap (.tmp 18)),
  oO 20 (.slc 1 (.tmp 17) none (some (.tmp 19))),
  oM 21 1,
  oO 22 (.appz 2 1 8 (.tmp 20) (.tmp 21)),
  oM 23 0,
  oN 24 23,
  oO 25 (.slc 1 (.tmp 22) none (some (.tmp 24))),
  oM 0 25]) .skip)))
 (.seq (.reg [oM 26 0,
  oM 4 26])
 .ret))))⟩
theorem s287:compFn Try.prog Try.f287=some c287:=by kernel_rfl
def c299:XFn:=
 ⟨[.tmp 4],
 (.seq (.reg [oO 2 (.box 136 (.tmp 0)),
  oO 4 (.mv (oK 0))])
 (.seq (.reg [oO 5 (.mv (oK 0)),
  oO 6 (.mv (oK 0))])
 (.seq (.seq (.reg [oO 7 (.mv (oK 0))])
 (.blk 0 (.loop (.seq (.seq (.reg [oM 9 7,
  oM 10 1,
  oN 11 10,
  oO 12 (.bin .lss (.tmp 9) (.tmp 11))])
 (.cond (.tmp 12) .skip (.exit 0)))
 (.seq (.blk 1 (.seq (.reg [oO 8 (.mv (oK 0))])
 (.blk 2 (.loop (.seq (.seq (.reg [oM 15 8,
  oM 16 1,
  oM 17 7,
  oX 18 1 16 17,
  oL 19 18,
  oN 20 19,
  oO 21 (.bin .lss (.tmp 15) (.tmp 20))])
 (.cond (.tmp 21) .skip (.exit 2)))
 (.seq (.blk 3 (.seq (.reg [oM 24 5,
  oM 25 6,
  oO 26 (.ixa 9 1 (.tmp 2) (.tmp 25)),
  oL 27 26,
  oO 28 (.conv .i64 (.tmp 27)),
  oM 29 1,
  oM 30 7,
  oX 31 1 29 30,
  oL 32 31,
  oM 33 8,
  oX 34 1 32 33,
  oL 35 34,
  oO 36 (.bin .mul (.tmp 28) (.tmp 35)),
  oO 37 (.bin .add (.tmp 24) (.tmp 36)),
  oM 5 37])
 (.reg [oM 38 6,
  oO 39 (.bin .add (.tmp 38) (oK 1)),
  oM 6 39])))
 (.reg [oM 22 8,
  oO 23 (.bin .add (.tmp 22) (oK 1)),
  oM 8 23])))))))
 (.reg [oM 13 7,
  oO 14 (.bin .add (.tmp 13) (oK 1)),
  oM 7 14]))))))
 (.seq (.reg [oM 40 5,
  oM 4 40])
 .ret))))⟩
theorem s299:compFn Try.prog Try.f299=some c299:=by kernel_rfl
def c300:XFn:=
 ⟨[.tmp 2,.tmp 3,.tmp 4],
 (.seq (.reg [oO 1 (.box 26 (.tmp 0)),
  oO 2 (.mv (oK 0)),
  oO 3 (.mv (oK 0)),
  oO 4 (.mv (oK 0))])
 (.seq (.reg [oF 5 1 1,
  oL 6 5,
  oF 7 2 1,
  oL 8 7,
  oO 9 (.bin .mul (.tmp 6) (.tmp 8)),
  oF 10 2 1,
  oL 11 10,
  oF 12 3 1,
  oL 13 12,
  oO 14 (.bin .mul (.tmp 11) (.tmp 13)),
  oF 15 1 1,
  oL 16 15,
  oF 17 3 1,
  oL 18 17,
  oO 19 (.bin .mul (.tmp 16) (.tmp 18)),
  oM 2 9,
  oM 3 14,
  oM 4 19])
 .ret))⟩
theorem s300:compFn Try.prog Try.f300=some c300:=by kernel_rfl
def c303:XFn:=
 ⟨[.celln 8 5],
 (.seq (.reg [oO 8 (.alloc 26 [.int .i64 0,.int .i64 0,.int .i64 0,.int .i64 0,.slice none 0 0])])
 (.seq (.reg [oM 14 0,
  oM 15 1,
  oM 16 2,
  oM 17 3,
  oO 18 (.bslice 138 27 0 [.int .u8 0,.int .u8 0,.int .u8 0,.int .u8 0,.int .u8 0,.int .u8 0,.int .u8 0,.int .u8 0,.int .u8 0,.int .u8 0,.int .u8 0,.int .u8 0,.int .u8 0,.int .u8 0,.int .u8 0,.int .u8 0,.int .u8 0,.int .u8 0,.int .u8 0,.int .u8 0,.int .u8 0,.int .u8 0,.int .u8 0,.int .u8 0,.int .u8 0,.int .u8 0,.int .u8 0] []),
  oO 19 (.build [.int .i64 0,.int .i64 0,.int .i64 0,.int .i64 0,.slice none 0 0] [(0,1,(.tmp 14)),(1,1,(.tmp 15)),(2,1,(.tmp 16)),(3,1,(.tmp 17)),(4,1,(.tmp 18))]),
  oO 9 (.alloc 26 [.int .i64 0,.int .i64 0,.int .i64 0,.int .i64 0,.slice none 0 0]),
  oS (.store 5 (.tmp 9) (.tmp 19))])
 (.seq (.seq (.reg [oO 10 (.mv (oK 0))])
 (.blk 0 (.loop (.seq (.seq (.reg [oM 20 10,
  oM 21 1,
  oO 22 (.bin .lss (.tmp 20) (.tmp 21))])
 (.cond (.tmp 22) .skip (.exit 0)))
 (.seq (.blk 1 (.seq (.reg [oO 11 (.mv (oK 0))])
 (.blk 2 (.loop (.seq (.seq (.reg [oM 25 11,
  oM 26 2,
  oO 27 (.bin .lss (.tmp 25) (.tmp 26))])
 (.cond (.tmp 27) .skip (.exit 2)))
 (.seq (.blk 3 (.seq (.reg [oO 12 (.mv (oK 0))])
 (.blk 4 (.loop (.seq (.seq (.reg [oM 30 12,
  oM 31 3,
  oO 32 (.bin .lss (.tmp 30) (.tmp 31))])
 (.cond (.tmp 32) .skip (.exit 4)))
 (.seq (.blk 5 (.seq (.reg [oO 35 (.build [.int .u8 0,.int .u8 0,.int .u8 0,.int .u8 0,.int .u8 0,.int .u8 0,.int .u8 0,.int .u8 0,.int .u8 0,.int .u8 0,.int .u8 0,.int .u8 0,.int .u8 0,.int .u8 0,.int .u8 0,.int .u8 0,.int .u8 0,.int .u8 0,.int .u8 0,.int .u8 0,.int .u8 0,.int .u8 0,.int .u8 0,.int .u8 0,.int .u8 0,.int .u8 0,.int .u8 0] []),
  oO 13 (.alloc 138 [.int .u8 0,.int .u8 0,.int .u8 0,.int .u8 0,.int .u8 0,.int .u8 0,.int .u8 0,.int .u8 0,.int .u8 0,.int .u8 0,.int .u8 0,.int .u8 0,.int .u8 0,.int .u8 0,.int .u8 0,.int .u8 0,.int .u8 0,.int .u8 0,.int .u8 0,.int .u8 0,.int .u8 0,.int .u8 0,.int .u8 0,.int .u8 0,.int .u8 0,.int .u8 0,.int .u8 0]),
  oS (.store 27 (.tmp 13) (.tmp 35))])
 (.seq (.reg [oM 36 10,
  oM 37 2,
  oO 38 (.bin .mul (.tmp 36) (.tmp 37)),
  oM 39 11,
  oO 40 (.bin .add (.tmp 38) (.tmp 39)),
  oF 41 0 13,
  oO 42 (.ixa 9 1 (.tmp 41) (.tmp 40)),
  oS (.store 1 (.tmp 42) (.const (.int .u8 1)))])
 (.seq (.reg [oM 43 11,
  oM 44 3,
  oO 45 (.bin .mul (.tmp 43) (.tmp 44)),
  oM 46 12,
  oO 47 (.bin .add (.tmp 45) (.tmp 46)),
  oF 48 9 13,
  oO 49 (.ixa 9 1 (.tmp 48) (.tmp 47)),
  oS (.store 1 (.tmp 49) (.const (.int .u8 1)))])
 (.seq (.reg [oM 50 10,
  oM 51 3,
  oO 52 (.bin .mul (.tmp 50) (.tmp 51)),
  oM 53 12,
  oO 54 (.bin .add (.tmp 52) (.tmp 53)),
  oF 55 18 13,
  oO 56 (.ixa 9 1 (.tmp 55) (.tmp 54)),
  oS (.store 1 (.tmp 56) (.const (.int .u8 1)))])
 (.reg [oF 57 4 9,
  oL 58 57,
  oO 59 (.loadn 27 (.tmp 13)),
  oO 60 (.bslice 138 27 1 [.int .u8 0,.int .u8 0,.int .u8 0,.int .u8 0,.int .u8 0,.int .u8 0,.int .u8 0,.int .u8 0,.int .u8 0,.int .u8 0,.int .u8 0,.int .u8 0,.int .u8 0,.int .u8 0,.int .u8 0,.int .u8 0,.int .u8 0,.int .u8 0,.int .u8 0,.int .u8 0,.int .u8 0,.int .u8 0,.int .u8 0,.int .u8 0,.int .u8 0,.int .u8 0,.int .u8 0] [(0,27,(.tmp 59))]),
  oO 61 (.app 138 27 27 (.tmp 58) (.tmp 60)),
  oF 62 4 9,
  oS (.store 1 (.tmp 62) (.tmp 61))]))))))
 (.reg [oM 33 12,
  oO 34 (.bin .add (.tmp 33) (oK 1)),
  oM 12 34])))))))
 (.reg [oM 28 11,
  oO 29 (.bin .add (.tmp 28) (oK 1)),
  oM 11 29])))))))
 (.reg [oM 23 10,
  oO 24 (.bin .add (.tmp 23) (oK 1)),
  oM 10 24]))))))
 (.seq (.reg [oO 63 (.loadn 5 (.tmp 9)),
  oS (.store 5 (.tmp 8) (.tmp 63))])
 .ret))))⟩
theorem s303:compFn Try.prog Try.f303=some c303:=by kernel_rfl
def c305:XFn:=
 ⟨[.celln 4 27],
 (.seq (.reg [oO 3 (.box 26 (.tmp 1)),
  oO 4 (.alloc 138 [.int .u8 0,.int .u8 0,.int .u8 0,.int .u8 0,.int .u8 0,.int .u8 0,.int .u8 0,.int .u8 0,.int .u8 0,.int .u8 0,.int .u8 0,.int .u8 0,.int .u8 0,.int .u8 0,.int .u8 0,.int .u8 0,.int .u8 0,.int .u8 0,.int .u8 0,.int .u8 0,.int .u8 0,.int .u8 0,.int .u8 0,.int .u8 0,.int .u8 0,.int .u8 0,.int .u8 0])])
 (.seq (.reg [oO 9 (.loadn 5 (.tmp 3)),
  oO 10 (.call (.func 300) [(.tmp 9)]),
  oM 8 10,
  oE 11 8 0,
  oE 12 8 1,
  oE 13 8 2,
  oM 5 11,
  oM 6 12,
  oM 7 13])
 (.seq (.reg [oM 14 0,
  oF 15 0 3,
  oL 16 15,
  oM 17 5,
  ⟨some 18,.call (.func 334) [(.tmp 14),(.tmp 16),(.tmp 17)],none,(.s true [])⟩,
  oM 19 0,
  oF 20 0 3,
  ⟨some 21,.load1 (.tmp 20),none,(.s false [(.tmp 14)])⟩,
  oM 22 6,
  ⟨some 23,.call (.func 334) [(.tmp 19),(.tmp 21),(.tmp 22)],none,(.s true [])⟩,
  oM 24 0,
  oF 25 0 3,
  ⟨some 26,.load1 (.tmp 25),none,(.s false [(.tmp 14),(.tmp 19)])⟩,
  oM 27 7,
  oO 28 (.call (.func 334) [(.tmp 24),(.tmp 26),(.tmp 27)]),
  oO 29 (.build [.int .u8 0,.int .u8 0,.int .u8 0,.int .u8 0,.int .u8 0,.int .u8 0,.int .u8 0,.int .u8 0,.int .u8 0,.int .u8 0,.int .u8 0,.int .u8 0,.int .u8 0,.int .u8 0,.int .u8 0,.int .u8 0,.int .u8 0,.int .u8 0,.int .u8 0,.int .u8 0,.int .u8 0,.int .u8 0,.int .u8 0,.int .u8 0,.int .u8 0,.int .u8 0,.int .u8 0] [(0,9,(.tmp 18)),(9,9,(.tmp 23)),(18,9,(.tmp 28))]),
  oS (.store 27 (.tmp 4) (.tmp 29))])
 .ret)))⟩
theorem s305:compFn Try.prog Try.f305=some c305:=by kernel_rfl
def c320:XFn:=
 ⟨[.celln 2 5],
 (.seq (.reg [oO 2 (.alloc 26 [.int .i64 0,.int .i64 0,.int .i64 0,.int .i64 0,.slice none 0 0])])
 (.seq (.reg [oM 4 0,
  oO 5 (.bslice 2 1 5 [.int .i64 0] [(0,1,(oK 2)),(1,1,(oK 2)),(2,1,(oK 2)),(3,1,(oK 3)),(4,1,(oK 5))]),
  oO 6 (.call (.func 147) [(.tmp 4),(.tmp 5)]),
  oO 7 (.bslice 138 27 0 [.int .u8 0,.int .u8 0,.int .u8 0,.int .u8 0,.int .u8 0,.int .u8 0,.int .u8 0,.int .u8 0,.int .u8 0,.int .u8 0,.int .u8 0,.int .u8 0,.int .u8 0,.int .u8 0,.int .u8 0,.int .u8 0,.int .u8 0,.int .u8 0,.int .u8 0,.int .u8 0,.int .u8 0,.int .u8 0,.int .u8 0,.int .u8 0,.int .u8 0,.int .u8 0,.int .u8 0] []),
  oO 8 (.build [.int .i64 0,.int .i64 0,.int .i64 0,.int .i64 0,.slice none 0 0] [(0,1,(.tmp 6)),(1,1,(oK 2)),(2,1,(oK 2)),(3,1,(oK 2)),(4,1,(.tmp 7))]),
  oO 3 (.alloc 26 [.int .i64 0,.int .i64 0,.int .i64 0,.int .i64 0,.slice none 0 0]),
  oS (.store 5 (.tmp 3) (.tmp 8))])
 (.seq (.seq (.reg [oM 9 0,
  oO 10 (.call (.func 148) [(.tmp 9),(oK 2)]),
  oO 11 (.bin .eql (.tmp 10) (oK 0))])
 (.cond (.tmp 11) (.seq (.reg [oM 12 0,
  oO 13 (.bslice 2 1 3 [.int .i64 0] [(0,1,(oK 1)),(1,1,(oK 2)),(2,1,(oK 3))]),
  oO 14 (.call (.func 147) [(.tmp 12),(.tmp 13)]),
  oF 15 1 3,
  oS (.store 1 (.tmp 15) (.tmp 14))])
 (.seq (.reg [oM 16 0,
  oO 17 (.bslice 2 1 3 [.int .i64 0] [(0,1,(oK 1)),(1,1,(oK 2)),(2,1,(oK 3))]),
  oO 18 (.call (.func 147) [(.tmp 16),(.tmp 17)]),
  oF 19 2 3,
  oS (.store 1 (.tmp 19) (.tmp 18))])
 (.reg [oM 20 0,
  oO 21 (.bslice 2 1 3 [.int .i64 0] [(0,1,(oK 1)),(1,1,(oK 2)),(2,1,(oK 3))]),
  oO 22 (.call (.func 147) [(.tmp 20),(.tmp 21)]),
  oF 23 3 3,
  oS (.store 1 (.tmp 23) (.tmp 22))]))) .skip))
 (.seq (.reg [oO 24 (.loadn 5 (.tmp 3)),
  oS (.store 5 (.tmp 2) (.tmp 24))])
 .ret))))⟩
theorem s320:compFn Try.prog Try.f320=some c320:=by kernel_rfl
def c321:XFn:=
 ⟨[.celln 2 5],
 (.seq (.reg [oO 2 (.alloc 26 [.int .i64 0,.int .i64 0,.int .i64 0,.int .i64 0,.slice none 0 0])])
 (.seq (.reg [oM 5 0,
  oO 6 (.bslice 138 27 0 [.int .u8 0,.int .u8 0,.int .u8 0,.int .u8 0,.int .u8 0,.int .u8 0,.int .u8 0,.int .u8 0,.int .u8 0,.int .u8 0,.int .u8 0,.int .u8 0,.int .u8 0,.int .u8 0,.int .u8 0,.int .u8 0,.int .u8 0,.int .u8 0,.int .u8 0,.int .u8 0,.int .u8 0,.int .u8 0,.int .u8 0,.int .u8 0,.int .u8 0,.int .u8 0,.int .u8 0] []),
  oO 7 (.build [.int .i64 0,.int .i64 0,.int .i64 0,.int .i64 0,.slice none 0 0] [(0,1,(.tmp 5)),(1,1,(oK 2)),(2,1,(oK 2)),(3,1,(oK 2)),(4,1,(.tmp 6))]),
  oO 3 (.alloc 26 [.int .i64 0,.int .i64 0,.int .i64 0,.int .i64 0,.slice none 0 0]),
  oS (.store 5 (.tmp 3) (.tmp 7))])
 (.seq (.reg [oM 8 0,
  oO 9 (.bin .sub (.tmp 8) (oK 1)),
  oO 10 (.conv .u8 (.tmp 9)),
  oM 4 10])
 (.seq (.reg [oF 11 4 3,
  oL 12 11,
  oO 13 (.build [.int .u8 0,.int .u8 0,.int .u8 0,.int .u8 0,.int .u8 0,.int .u8 0,.int .u8 0,.int .u8 0,.int .u8 0] [(0,1,(.const (.int .u8 1))),(1,1,(.const (.int .u8 0))),(2,1,(.const (.int .u8 0))),(3,1,(.const (.int .u8 1)))]),
  oO 14 (.build [.int .u8 0,.int .u8 0,.int .u8 0,.int .u8 0,.int .u8 0,.int .u8 0,.int .u8 0,.int .u8 0,.int .u8 0] [(0,1,(.const (.int .u8 1))),(1,1,(.const (.int .u8 0))),(2,1,(.const (.int .u8 0))),(3,1,(.const (.int .u8 1)))]),
  oO 15 (.build [.int .u8 0,.int .u8 0,.int .u8 0,.int .u8 0,.int .u8 0,.int .u8 0,.int .u8 0,.int .u8 0,.int .u8 0] [(0,1,(.const (.int .u8 1))),(1,1,(.const (.int .u8 0))),(2,1,(.const (.int .u8 0))),(3,1,(.const (.int .u8 1)))]),
  oO 16 (.build [.int .u8 0,.int .u8 0,.int .u8 0,.int .u8 0,.int .u8 0,.int .u8 0,.int .u8 0,.int .u8 0,.int .u8 0,.int .u8 0,.int .u8 0,.int .u8 0,.int .u8 0,.int .u8 0,.int .u8 0,.int .u8 0,.int .u8 0,.int .u8 0,.int .u8 0,.int .u8 0,.int .u8 0,.int .u8 0,.int .u8 0,.int .u8 0,.int .u8 0,.int .u8 0,.int .u8 0] [(0,9,(.tmp 13)),(9,9,(.tmp 14)),(18,9,(.tmp 15))]),
  oO 17 (.build [.int .u8 0,.int .u8 0,.int .u8 0,.int .u8 0,.int .u8 0,.int .u8 0,.int .u8 0,.int .u8 0,.int .u8 0] [(0,1,(.const (.int .u8 0))),(1,1,(.const (.int .u8 0))),(2,1,(.const (.int .u8 1))),(3,1,(.const (.int .u8 1)))]),
  oO 18 (.build [.int .u8 0,.int .u8 0,.int .u8 0,.int .u8 0,.int .u8 0,.int .u8 0,.int .u8 0,.int .u8 0,.int .u8 0] [(0,1,(.const (.int .u8 1)))]),
  oM 19 4,
  oO 20 (.build [.int .u8 0,.int .u8 0,.int .u8 0,.int .u8 0,.int .u8 0,.int .u8 0,.int .u8 0,.int .u8 0,.int .u8 0] [(0,1,(.const (.int .u8 0))),(1,1,(.const (.int .u8 0))),(2,1,(.const (.int .u8 1))),(3,1,(.tmp 19))]),
  oO 21 (.build [.int .u8 0,.int .u8 0,.int .u8 0,.int .u8 0,.int .u8 0,.int .u8 0,.int .u8 0,.int .u8 0,.int .u8 0,.int .u8 0,.int .u8 0,.int .u8 0,.int .u8 0,.int .u8 0,.int .u8 0,.int .u8 0,.int .u8 0,.int .u8 0,.int .u8 0,.int .u8 0,.int .u8 0,.int .u8 0,.int .u8 0,.int .u8 0,.int .u8 0,.int .u8 0,.int .u8 0] [(0,9,(.tmp 17)),(9,9,(.tmp 18)),(18,9,(.tmp 20))]),
  oO 22 (.build [.int .u8 0,.int .u8 0,.int .u8 0,.int .u8 0,.int .u8 0,.int .u8 0,.int .u8 0,.int .u8 0,.int .u8 0] [(0,1,(.const (.int .u8 1)))]),
  oM 23 4,
  oO 24 (.build [.int .u8 0,.int .u8 0,.int .u8 0,.int .u8 0,.int .u8 0,.int .u8 0,.int .u8 0,.int .u8 0,.int .u8 0] [(0,1,(.const (.int .u8 0))),(1,1,(.const (.int .u8 1))),(2,1,(.const (.int .u8 0))),(3,1,(.tmp 23))]),
  oO 25 (.build [.int .u8 0,.int .u8 0,.int .u8 0,.int .u8 0,.int .u8 0,.int .u8 0,.int .u8 0,.int .u8 0,.int .u8 0] [(0,1,(.const (.int .u8 0))),(1,1,(.const (.int .u8 1))),(2,1,(.const (.int .u8 0))),(3,1,(.const (.int .u8 1)))]),
  oO 26 (.build [.int .u8 0,.int .u8 0,.int .u8 0,.int .u8 0,.int .u8 0,.int .u8 0,.int .u8 0,.int .u8 0,.int .u8 0,.int .u8 0,.int .u8 0,.int .u8 0,.int .u8 0,.int .u8 0,.int .u8 0,.int .u8 0,.int .u8 0,.int .u8 0,.int .u8 0,.int .u8 0,.int .u8 0,.int .u8 0,.int .u8 0,.int .u8 0,.int .u8 0,.int .u8 0,.int .u8 0] [(0,9,(.tmp 22)),(9,9,(.tmp 24)),(18,9,(.tmp 25))]),
  oO 27 (.build [.int .u8 0,.int .u8 0,.int .u8 0,.int .u8 0,.int .u8 0,.int .u8 0,.int .u8 0,.int .u8 0,.int .u8 0] [(0,1,(.const (.int .u8 0))),(1,1,(.const (.int .u8 0))),(2,1,(.const (.int .u8 0))),(3,1,(.const (.int .u8 1)))]),
  oM 28 4,
  oO 29 (.build [.int .u8 0,.int .u8 0,.int .u8 0,.int .u8 0,.int .u8 0,.int .u8 0,.int .u8 0,.int .u8 0,.int .u8 0] [(0,1,(.tmp 28)),(1,1,(.const (.int .u8 0))),(2,1,(.const (.int .u8 1)))]),
  oO 30 (.build [.int .u8 0,.int .u8 0,.int .u8 0,.int .u8 0,.int .u8 0,.int .u8 0,.int .u8 0,.int .u8 0,.int .u8 0] [(0,1,(.const (.int .u8 1))),(1,1,(.const (.int .u8 0))),(2,1,(.const (.int .u8 1)))]),
  oO 31 (.build [.int .u8 0,.int .u8 0,.int .u8 0,.int .u8 0,.int .u8 0,.int .u8 0,.int .u8 0,.int .u8 0,.int .u8 0,.int .u8 0,.int .u8 0,.int .u8 0,.int .u8 0,.int .u8 0,.int .u8 0,.int .u8 0,.int .u8 0,.int .u8 0,.int .u8 0,.int .u8 0,.int .u8 0,.int .u8 0,.int .u8 0,.int .u8 0,.int .u8 0,.int .u8 0,.int .u8 0] [(0,9,(.tmp 27)),(9,9,(.tmp 29)),(18,9,(.tmp 30))]),
  oO 32 (.build [.int .u8 0,.int .u8 0,.int .u8 0,.int .u8 0,.int .u8 0,.int .u8 0,.int .u8 0,.int .u8 0,.int .u8 0] [(0,1,(.const (.int .u8 1))),(1,1,(.const (.int .u8 1)))]),
  oO 33 (.build [.int .u8 0,.int .u8 0,.int .u8 0,.int .u8 0,.int .u8 0,.int .u8 0,.int .u8 0,.int .u8 0,.int .u8 0] [(0,1,(.const (.int .u8 0))),(1,1,(.const (.int .u8 0))),(2,1,(.const (.int .u8 0))),(3,1,(.const (.int .u8 1)))]),
  oM 34 4,
  oO 35 (.build [.int .u8 0,.int .u8 0,.int .u8 0,.int .u8 0,.int .u8 0,.int .u8 0,.int .u8 0,.int .u8 0,.int .u8 0] [(0,1,(.tmp 34)),(1,1,(.const (.int .u8 1)))]),
  oO 36 (.build [.int .u8 0,.int .u8 0,.int .u8 0,.int .u8 0,.int .u8 0,.int .u8 0,.int .u8 0,.int .u8 0,.int .u8 0,.int .u8 0,.int .u8 0,.int .u8 0,.int .u8 0,.int .u8 0,.int .u8 0,.int .u8 0,.int .u8 0,.int .u8 0,.int .u8 0,.int .u8 0,.int .u8 0,.int .u8 0,.int .u8 0,.int .u8 0,.int .u8 0,.int .u8 0,.int .u8 0] [(0,9,(.tmp 32)),(9,9,(.tmp 33)),(18,9,(.tmp 35))]),
  oM 37 4,
  oO 38 (.build [.int .u8 0,.int .u8 0,.int .u8 0,.int .u8 0,.int .u8 0,.int .u8 0,.int .u8 0,.int .u8 0,.int .u8 0] [(0,1,(.tmp 37)),(1,1,(.const (.int .u8 0))),(2,1,(.const (.int .u8 1)))]),
  oO 39 (.build [.int .u8 0,.int .u8 0,.int .u8 0,.int .u8 0,.int .u8 0,.int .u8 0,.int .u8 0,.int .u8 0,.int .u8 0] [(0,1,(.const (.int .u8 1))),(1,1,(.const (.int .u8 1)))]),
  oO 40 (.build [.int .u8 0,.int .u8 0,.int .u8 0,.int .u8 0,.int .u8 0,.int .u8 0,.int .u8 0,.int .u8 0,.int .u8 0] [(0,1,(.const (.int .u8 0))),(1,1,(.const (.int .u8 0))),(2,1,(.const (.int .u8 0))),(3,1,(.const (.int .u8 1)))]),
  oO 41 (.build [.int .u8 0,.int .u8 0,.int .u8 0,.int .u8 0,.int .u8 0,.int .u8 0,.int .u8 0,.int .u8 0,.int .u8 0,.int .u8 0,.int .u8 0,.int .u8 0,.int .u8 0,.int .u8 0,.int .u8 0,.int .u8 0,.int .u8 0,.int .u8 0,.int .u8 0,.int .u8 0,.int .u8 0,.int .u8 0,.int .u8 0,.int .u8 0,.int .u8 0,.int .u8 0,.int .u8 0] [(0,9,(.tmp 38)),(9,9,(.tmp 39)),(18,9,(.tmp 40))]),
  oM 42 4,
  oO 43 (.build [.int .u8 0,.int .u8 0,.int .u8 0,.int .u8 0,.int .u8 0,.int .u8 0,.int .u8 0,.int .u8 0,.int .u8 0] [(0,1,(.const (.int .u8 0))),(1,1,(.const (.int .u8 1))),(2,1,(.const (.int .u8 0))),(3,1,(.tmp 42))]),
  oO 44 (.build [.int .u8 0,.int .u8 0,.int .u8 0,.int .u8 0,.int .u8 0,.int .u8 0,.int .u8 0,.int .u8 0,.int .u8 0] [(0,1,(.const (.int .u8 0))),(1,1,(.const (.int .u8 0))),(2,1,(.const (.int .u8 1))),(3,1,(.const (.int .u8 1)))]),
  oO 45 (.build [.int .u8 0,.int .u8 0,.int .u8 0,.int .u8 0,.int .u8 0,.int .u8 0,.int .u8 0,.int .u8 0,.int .u8 0] [(0,1,(.const (.int .u8 1)))]),
  oO 46 (.build [.int .u8 0,.int .u8 0,.int .u8 0,.int .u8 0,.int .u8 0,.int .u8 0,.int .u8 0,.int .u8 0,.int .u8 0,.int .u8 0,.int .u8 0,.int .u8 0,.int .u8 0,.int .u8 0,.int .u8 0,.int .u8 0,.int .u8 0,.int .u8 0,.int .u8 0,.int .u8 0,.int .u8 0,.int .u8 0,.int .u8 0,.int .u8 0,.int .u8 0,.int .u8 0,.int .u8 0] [(0,9,(.tmp 43)),(9,9,(.tmp 44)),(18,9,(.tmp 45))]),
  oO 47 (.bslice 138 27 7 [.int .u8 0,.int .u8 0,.int .u8 0,.int .u8 0,.int .u8 0,.int .u8 0,.int .u8 0,.int .u8 0,.int .u8 0,.int .u8 0,.int .u8 0,.int .u8 0,.int .u8 0,.int .u8 0,.int .u8 0,.int .u8 0,.int .u8 0,.int .u8 0,.int .u8 0,.int .u8 0,.int .u8 0,.int .u8 0,.int .u8 0,.int .u8 0,.int .u8 0,.int .u8 0,.int .u8 0] [(0,27,(.tmp 16)),(27,27,(.tmp 21)),(54,27,(.tmp 26)),(81,27,(.tmp 31)),(108,27,(.tmp 36)),(135,27,(.tmp 41)),(162,27,(.tmp 46))]),
  oO 48 (.app 138 27 27 (.tmp 12) (.tmp 47)),
  oF 49 4 3,
  oS (.store 1 (.tmp 49) (.tmp 48))])
 (.seq (.reg [oO 50 (.loadn 5 (.tmp 3)),
  oS (.store 5 (.tmp 2) (.tmp 50))])
 .ret)))))⟩
theorem s321:compFn Try.prog Try.f321=some c321:=by kernel_rfl
def c322:XFn:=
 ⟨[.tmp 6],
 (.seq (.reg [oO 5 (.box 136 (.tmp 2)),
  oO 6 (.mv (.const (.bool false)))])
 (.seq (.seq (.reg [oO 9 (.loadn 9 (.tmp 5)),
  oO 10 (.mv (oK 0))])
 (.blk 0 (.loop (.seq (.reg [oO 11 (.bin .lss (.tmp 10) (oK 9))])
 (.seq (.cond (.tmp 11) .skip (.exit 0))
 (.seq (.blk 1 (.seq (.reg [oM 12 10,
  oO 13 (.idx1 9 (.tmp 9) (.tmp 10)),
  oM 7 12,
  oM 8 13])
 (.seq (.reg [oM 14 8,
  oO 15 (.conv .i64 (.tmp 14)),
  oM 16 0,
  oO 17 (.bin .geq (.tmp 15) (.tmp 16)),
  oM 18 17,
  oG 19 (.mv (.tmp 8)) 18 false,
  oG 20 (.bin .neq (.tmp 19) (.const (.int .u8 0))) 18 false,
  oG 21 (.mv (.tmp 20)) 18 false,
  oG 22 (.mv (.tmp 7)) 21 true,
  oG 23 (.mv (.tmp 1)) 21 true,
  oG 24 (.bin .geq (.tmp 22) (.tmp 23)) 21 true,
  oG 25 (.pick (.tmp 21) (.tmp 24) (.const (.bool false))) 18 false,
  oO 26 (.pick (.tmp 18) (.const (.bool true)) (.tmp 25))])
 (.cond (.tmp 26) (.seq (.reg [oO 6 (.mv (.const (.bool false)))])
 .ret) .skip))))
 (.reg [oO 27 (.bin .add (.tmp 10) (oK 1)),
  oM 10 27])))))))
 (.seq (.reg [oO 6 (.mv (.const (.bool true)))])
 .ret)))⟩
theorem s322:compFn Try.prog Try.f322=some c322:=by kernel_rfl
def c324:XFn:=
 ⟨[.tmp 6],
 (.seq (.reg [oO 4 (.box 136 (.tmp 1)),
  oO 6 (.mv (.const (.bool false)))])
 (.seq (.seq (.reg [oO 7 (.mv (oK 0))])
 (.blk 0 (.loop (.seq (.seq (.reg [oM 8 7,
  oO 9 (.bin .lss (.tmp 8) (oK 9))])
 (.cond (.tmp 9) .skip (.exit 0)))
 (.seq (.blk 1 (.seq (.reg [oM 12 7,
  oO 13 (.ixa 9 1 (.tmp 4) (.tmp 12)),
  oL 14 13,
  oO 15 (.conv .i64 (.tmp 14)),
  oM 16 0,
  oO 17 (.bin .geq (.tmp 15) (.tmp 16)),
  oM 18 17,
  oG 19 (.mv (.tmp 7)) 18 false,
  oG 20 (.mv (.tmp 2)) 18 false,
  oG 21 (.bin .geq (.tmp 19) (.tmp 20)) 18 false,
  oG 22 (.mv (.tmp 21)) 18 false,
  oG 23 (.mv (.tmp 7)) 22 true,
  oG 24 (.ixa 9 1 (.tmp 4) (.tmp 23)) 22 true,
  oG 25 (.load1 (.tmp 24)) 22 true,
  oG 26 (.bin .neq (.tmp 25) (.const (.int .u8 0))) 22 true,
  oG 27 (.pick (.tmp 22) (.tmp 26) (.const (.bool false))) 18 false,
  oO 28 (.pick (.tmp 18) (.const (.bool true)) (.tmp 27))])
 (.cond (.tmp 28) (.seq (.reg [oO 6 (.mv (.const (.bool false)))])
 .ret) .skip)))
 (.reg [oM 10 7,
  oO 11 (.bin .add (.tmp 10) (oK 1)),
  oM 7 11]))))))
 (.seq (.reg [oO 6 (.mv (.const (.bool true)))])
 .ret)))⟩
theorem s324:compFn Try.prog Try.f324=some c324:=by kernel_rfl
def c334:XFn:=
 ⟨[.celln 6 9],
 (.seq (.reg [oO 6 (.alloc 136 [.int .u8 0,.int .u8 0,.int .u8 0,.int .u8 0,.int .u8 0,.int .u8 0,.int .u8 0,.int .u8 0,.int .u8 0])])
 (.seq (.reg [oO 9 (.build [.int .u8 0,.int .u8 0,.int .u8 0,.int .u8 0,.int .u8 0,.int .u8 0,.int .u8 0,.int .u8 0,.int .u8 0] []),
  oO 7 (.alloc 136 [.int .u8 0,.int .u8 0,.int .u8 0,.int .u8 0,.int .u8 0,.int .u8 0,.int .u8 0,.int .u8 0,.int .u8 0]),
  oS (.store 9 (.tmp 7) (.tmp 9))])
 (.seq (.seq (.reg [oO 8 (.mv (oK 0))])
 (.blk 0 (.loop (.seq (.seq (.reg [oM 10 8,
  oM 11 2,
  oO 12 (.bin .lss (.tmp 10) (.tmp 11))])
 (.cond (.tmp 12) .skip (.exit 0)))
 (.seq (.blk 1 (.seq (.reg [oM 15 0,
  oO 16 (.call (.func 148) [(.tmp 15),(oK 2)]),
  oO 17 (.bin .eql (.tmp 16) (oK 0))])
 (.cond (.tmp 17) (.reg [oM 18 8,
  oM 19 0,
  oM 20 1,
  oO 21 (.call (.func 148) [(.tmp 19),(.tmp 20)]),
  oO 22 (.conv .u8 (.tmp 21)),
  oO 23 (.ixa 9 1 (.tmp 7) (.tmp 18)),
  oS (.store 1 (.tmp 23) (.tmp 22))]) .skip)))
 (.reg [oM 13 8,
  oO 14 (.bin .add (.tmp 13) (oK 1)),
  oM 8 14]))))))
 (.seq (.seq (.reg [oO 24 (.loadn 9 (.tmp 7)),
  oO 25 (.call (.func 278) [(.tmp 24)])])
 (.cond (.tmp 25) (.reg [oM 26 0,
  oM 27 2,
  oO 28 (.call (.func 148) [(.tmp 26),(.tmp 27)]),
  oM 29 0,
  oM 30 1,
  oO 31 (.bin .sub (.tmp 30) (oK 1)),
  oO 32 (.call (.func 148) [(.tmp 29),(.tmp 31)]),
  oO 33 (.bin .add (oK 1) (.tmp 32)),
  oO 34 (.conv .u8 (.tmp 33)),
  oO 35 (.ixa 9 1 (.tmp 7) (.tmp 28)),
  oS (.store 1 (.tmp 35) (.tmp 34))]) .skip))
 (.seq (.reg [oO 36 (.loadn 9 (.tmp 7)),
  oS (.store 9 (.tmp 6) (.tmp 36))])
 .ret)))))⟩
theorem s334:compFn Try.prog Try.f334=some c334:=by kernel_rfl
def tab2:List (Nat×XFn):=[(175,c175),(181,c181),(184,c184),(196,c196),(212,c212),(213,c213),(214,c214),(215,c215),(216,c216),(217,c217),(218,c218),(219,c219),(220,c220),(221,c221),(222,c222),(223,c223),(224,c224),(225,c225),(226,c226),(266,c266),(269,c269),(270,c270),(271,c271),(275,c275),(276,c276),(278,c278),(283,c283),(285,c285),(286,c286),(287,c287),(299,c299),(300,c300),(303,c303),(305,c305),(320,c320),(321,c321),(322,c322),(324,c324),(334,c334)]
theorem ts2:TSound Try.prog (fun g=>tab2.lookup g):=by
 refine tsound_of_all (P:=Try.prog) (tab:=tab2) ?_
 intro p hp
 simp only[tab2,List.mem_cons,List.not_mem_nil,or_false] at hp
 rcases hp with rfl|rfl|rfl|rfl|rfl|rfl|rfl|rfl|rfl|rfl|rfl|rfl|rfl|rfl|rfl|rfl|rfl|rfl|rfl|rfl|rfl|rfl|rfl|rfl|rfl|rfl|rfl|rfl|rfl|rfl|rfl|rfl|rfl|rfl|rfl|rfl|rfl|rfl|rfl
 ·exact⟨_,Try.func175,s175⟩
 ·exact⟨_,Try.func181,s181⟩
 ·exact⟨_,Try.func184,s184⟩
 ·exact⟨_,Try.func196,s196⟩
 ·exact⟨_,Try.func212,s212⟩
 ·exact⟨_,Try.func213,s213⟩
 ·exact⟨_,Try.func214,s214⟩
 ·exact⟨_,Try.func215,s215⟩
 ·exact⟨_,Try.func216,s216⟩
 ·exact⟨_,Try.func217,s217⟩
 ·exact⟨_,Try.func218,s218⟩
 ·exact⟨_,Try.func219,s219⟩
 ·exact⟨_,Try.func220,s220⟩
 ·exact⟨_,Try.func221,s221⟩
 ·exact⟨_,Try.func222,s222⟩
 ·exact⟨_,Try.func223,s223⟩
 ·exact⟨_,Try.func224,s224⟩
 ·exact⟨_,Try.func225,s225⟩
 ·exact⟨_,Try.func226,s226⟩
 ·exact⟨_,Try.func266,s266⟩
 ·exact⟨_,Try.func269,s269⟩
 ·exact⟨_,Try.func270,s270⟩
 ·exact⟨_,Try.func271,s271⟩
 ·exact⟨_,Try.func275,s275⟩
 ·exact⟨_,Try.func276,s276⟩
 ·exact⟨_,Try.func278,s278⟩
 ·exact⟨_,Try.func283,s283⟩
 ·exact⟨_,Try.func285,s285⟩
 ·exact⟨_,Try.func286,s286⟩
 ·exact⟨_,Try.func287,s287⟩
 ·exact⟨_,Try.func299,s299⟩
 ·exact⟨_,Try.func300,s300⟩
 ·exact⟨_,Try.func303,s303⟩
 ·exact⟨_,Try.func305,s305⟩
 ·exact⟨_,Try.func320,s320⟩
 ·exact⟨_,Try.func321,s321⟩
 ·exact⟨_,Try.func322,s322⟩
 ·exact⟨_,Try.func324,s324⟩
 ·exact⟨_,Try.func334,s334⟩
end Go.Proofs.Ytapafdpnmakekaa.X
