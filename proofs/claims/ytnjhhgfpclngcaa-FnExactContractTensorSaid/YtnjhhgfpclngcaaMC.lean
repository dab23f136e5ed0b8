/- Texts of one claim, put together by merge.py: XCode. -/
import Derived.Test.YtnjhhgfpclngcaaM2
import Derived.Test.YtnjhhgfpclngcaaProg
/- The abstract code of the seat's functions, printed by a program of this session, and that it is what the compiler of XComp makes. -/
set_option linter.unusedVariables false
set_option maxRecDepth 4000
namespace Go.Proofs.Ytnjhhgfpclngcaa.X
open Go Go.RowKit

/-- loop.example/g01262/spec.l01In -/
def c56 : XFn :=
 ⟨[.tmp 6],
  (.seq (.reg [⟨(some 6), .mv (.const (.bool false)), none, false⟩])
  (.seq (.reg [⟨(some 7), .mv (.tmp 0), none, false⟩,
   ⟨(some 8), .mv (.tmp 1), none, false⟩,
   ⟨(some 9), .bin .geq (.tmp 7) (.tmp 8), none, false⟩,
   ⟨(some 10), .mv (.tmp 9), none, false⟩,
   ⟨(some 11), .mv (.tmp 0), (some (10, true)), false⟩,
   ⟨(some 12), .mv (.tmp 2), (some (10, true)), false⟩,
   ⟨(some 13), .bin .leq (.tmp 11) (.tmp 12), (some (10, true)), false⟩,
   ⟨(some 14), .pick (.tmp 10) (.tmp 13) (.const (.bool false)), none, false⟩,
   ⟨(some 6), .mv (.tmp 14), none, false⟩])
  .ret))⟩

/-- loop.example/g01262/spec.PlainCost -/
def c15 : XFn :=
 ⟨[.tmp 2, .tmp 3],
  (.seq (.reg [⟨(some 2), .mv (.const (.int .i64 0)), none, false⟩,
   ⟨(some 3), .mv (.const (.int .i64 0)), none, false⟩])
  (.seq (.seq (.reg [⟨(some 4), .mv (.tmp 0), none, false⟩,
   ⟨(some 5), .call (.func 56) [(.tmp 4), (.const (.int .i64 1)), (.const (.int .i64 50000))], none, false⟩,
   ⟨(some 6), .un .not (.tmp 5), none, false⟩])
  (.cond (.tmp 6) (.seq (.reg [⟨(some 2), .mv (.const (.int .i64 0)), none, false⟩,
   ⟨(some 3), .mv (.const (.int .i64 2)), none, false⟩])
  .ret) .skip))
  (.seq (.reg [⟨(some 7), .mv (.tmp 0), none, false⟩,
   ⟨(some 8), .bin .mul (.const (.int .i64 2)) (.tmp 7), none, false⟩,
   ⟨(some 9), .mv (.tmp 0), none, false⟩,
   ⟨(some 10), .bin .mul (.tmp 8) (.tmp 9), none, false⟩,
   ⟨(some 11), .mv (.tmp 0), none, false⟩,
   ⟨(some 12), .bin .mul (.tmp 10) (.tmp 11), none, false⟩,
   ⟨(some 13), .mv (.tmp 0), none, false⟩,
   ⟨(some 14), .mv (.tmp 0), none, false⟩,
   ⟨(some 15), .bin .mul (.tmp 13) (.tmp 14), none, false⟩,
   ⟨(some 16), .bin .sub (.tmp 12) (.tmp 15), none, false⟩,
   ⟨(some 2), .mv (.tmp 16), none, false⟩,
   ⟨(some 3), .mv (.const (.int .i64 0)), none, false⟩])
  .ret)))⟩

/-- loop.example/g01262/impl.PlainCost -/
def c16 : XFn :=
 ⟨[.tmp 2, .tmp 3],
  (.seq (.reg [⟨(some 2), .mv (.const (.int .i64 0)), none, false⟩,
   ⟨(some 3), .mv (.const (.int .i64 0)), none, false⟩])
  (.seq (.seq (.reg [⟨(some 4), .mv (.tmp 0), none, false⟩,
   ⟨(some 5), .bin .lss (.tmp 4) (.const (.int .i64 1)), none, false⟩,
   ⟨(some 6), .mv (.tmp 5), none, false⟩,
   ⟨(some 7), .mv (.tmp 0), (some (6, false)), false⟩,
   ⟨(some 8), .bin .gtr (.tmp 7) (.const (.int .i64 50000)), (some (6, false)), false⟩,
   ⟨(some 9), .pick (.tmp 6) (.const (.bool true)) (.tmp 8), none, false⟩])
  (.cond (.tmp 9) (.seq (.reg [⟨(some 2), .mv (.const (.int .i64 0)), none, false⟩,
   ⟨(some 3), .mv (.const (.int .i64 2)), none, false⟩])
  .ret) .skip))
  (.seq (.reg [⟨(some 10), .mv (.tmp 0), none, false⟩,
   ⟨(some 11), .bin .mul (.const (.int .i64 2)) (.tmp 10), none, false⟩,
   ⟨(some 12), .mv (.tmp 0), none, false⟩,
   ⟨(some 13), .bin .mul (.tmp 11) (.tmp 12), none, false⟩,
   ⟨(some 14), .mv (.tmp 0), none, false⟩,
   ⟨(some 15), .bin .mul (.tmp 13) (.tmp 14), none, false⟩,
   ⟨(some 16), .mv (.tmp 0), none, false⟩,
   ⟨(some 17), .mv (.tmp 0), none, false⟩,
   ⟨(some 18), .bin .mul (.tmp 16) (.tmp 17), none, false⟩,
   ⟨(some 19), .bin .sub (.tmp 15) (.tmp 18), none, false⟩,
   ⟨(some 2), .mv (.tmp 19), none, false⟩,
   ⟨(some 3), .mv (.const (.int .i64 0)), none, false⟩])
  .ret)))⟩

/-- loop.example/g01262/laws.FnExactPlainCost -/
def c3 : XFn :=
 ⟨[.tmp 2],
  (.seq (.reg [⟨(some 2), .mv (.const (.bool false)), none, false⟩])
  (.seq (.reg [⟨(some 8), .mv (.tmp 0), none, false⟩,
   ⟨(some 9), .call (.func 15) [(.tmp 8)], none, false⟩,
   ⟨(some 7), .mv (.tmp 9), none, false⟩,
   ⟨(some 10), .ext (.tmp 7) 0, none, false⟩,
   ⟨(some 11), .ext (.tmp 7) 1, none, false⟩,
   ⟨(some 3), .mv (.tmp 10), none, false⟩,
   ⟨(some 4), .mv (.tmp 11), none, false⟩])
  (.seq (.reg [⟨(some 13), .mv (.tmp 0), none, false⟩,
   ⟨(some 14), .call (.func 16) [(.tmp 13)], none, false⟩,
   ⟨(some 12), .mv (.tmp 14), none, false⟩,
   ⟨(some 15), .ext (.tmp 12) 0, none, false⟩,
   ⟨(some 16), .ext (.tmp 12) 1, none, false⟩,
   ⟨(some 5), .mv (.tmp 15), none, false⟩,
   ⟨(some 6), .mv (.tmp 16), none, false⟩])
  (.seq (.seq (.reg [⟨(some 17), .mv (.tmp 5), none, false⟩,
   ⟨(some 18), .mv (.tmp 3), none, false⟩,
   ⟨(some 19), .bin .neq (.tmp 17) (.tmp 18), none, false⟩,
   ⟨(some 20), .mv (.tmp 19), none, false⟩,
   ⟨(some 21), .mv (.tmp 6), (some (20, false)), false⟩,
   ⟨(some 22), .mv (.tmp 4), (some (20, false)), false⟩,
   ⟨(some 23), .bin .neq (.tmp 21) (.tmp 22), (some (20, false)), false⟩,
   ⟨(some 24), .pick (.tmp 20) (.const (.bool true)) (.tmp 23), none, false⟩])
  (.cond (.tmp 24) (.seq (.reg [⟨(some 2), .mv (.const (.bool false)), none, false⟩])
  .ret) .skip))
  (.seq (.reg [⟨(some 2), .mv (.const (.bool true)), none, false⟩])
  .ret)))))⟩

/-- loop.example/g01262/laws.szInt64S -/
def c57 : XFn :=
 ⟨[.tmp 4],
  (.seq (.reg [⟨(some 4), .mv (.const (.int .i64 0)), none, false⟩])
  (.seq (.reg [⟨(some 5), .mv (.tmp 1), none, false⟩,
   ⟨(some 6), .mv (.tmp 0), none, false⟩,
   ⟨(some 7), .len (.tmp 6), none, false⟩,
   ⟨(some 8), .bin .sub (.tmp 5) (.tmp 7), none, false⟩,
   ⟨(some 1), .mv (.tmp 8), none, false⟩])
  (.seq (.seq (.reg [⟨(some 9), .mv (.tmp 1), none, false⟩,
   ⟨(some 10), .bin .lss (.tmp 9) (.const (.int .i64 0)), none, false⟩])
  (.cond (.tmp 10) (.seq (.reg [⟨(some 4), .mv (.const (.int .i64 (-1))), none, false⟩])
  .ret) .skip))
  (.seq (.reg [⟨(some 11), .mv (.tmp 1), none, false⟩,
   ⟨(some 4), .mv (.tmp 11), none, false⟩])
  .ret))))⟩

/-- loop.example/g01262/laws.szTensor -/
def c17 : XFn :=
 ⟨[.tmp 4],
  (.seq (.reg [⟨(some 2), .box 27 (.tmp 0), none, false⟩,
   ⟨(some 4), .mv (.const (.int .i64 0)), none, false⟩])
  (.seq (.reg [⟨(some 5), .fadr 4 (.tmp 2), none, false⟩,
   ⟨(some 6), .load1 (.tmp 5), none, false⟩,
   ⟨(some 7), .mv (.tmp 1), none, false⟩,
   ⟨(some 8), .call (.func 57) [(.tmp 6), (.tmp 7)], none, false⟩,
   ⟨(some 1), .mv (.tmp 8), none, false⟩])
  (.seq (.seq (.reg [⟨(some 9), .mv (.tmp 1), none, false⟩,
   ⟨(some 10), .bin .lss (.tmp 9) (.const (.int .i64 0)), none, false⟩])
  (.cond (.tmp 10) (.seq (.reg [⟨(some 4), .mv (.const (.int .i64 (-1))), none, false⟩])
  .ret) .skip))
  (.seq (.reg [⟨(some 11), .mv (.tmp 1), none, false⟩,
   ⟨(some 4), .mv (.tmp 11), none, false⟩])
  .ret))))⟩

/-- loop.example/g01262/spec.l01Prime -/
def c83 : XFn :=
 ⟨[.tmp 2],
  (.seq (.reg [⟨(some 2), .mv (.const (.bool false)), none, false⟩])
  (.seq (.reg [⟨(some 3), .mv (.tmp 0), none, false⟩,
   ⟨(some 4), .bin .eql (.tmp 3) (.const (.int .i64 2)), none, false⟩,
   ⟨(some 5), .mv (.tmp 4), none, false⟩,
   ⟨(some 6), .mv (.tmp 0), (some (5, false)), false⟩,
   ⟨(some 7), .bin .eql (.tmp 6) (.const (.int .i64 3)), (some (5, false)), false⟩,
   ⟨(some 8), .pick (.tmp 5) (.const (.bool true)) (.tmp 7), none, false⟩,
   ⟨(some 9), .mv (.tmp 8), none, false⟩,
   ⟨(some 10), .mv (.tmp 0), (some (9, false)), false⟩,
   ⟨(some 11), .bin .eql (.tmp 10) (.const (.int .i64 5)), (some (9, false)), false⟩,
   ⟨(some 12), .pick (.tmp 9) (.const (.bool true)) (.tmp 11), none, false⟩,
   ⟨(some 2), .mv (.tmp 12), none, false⟩])
  .ret))⟩

/-- loop.example/g01262/spec.l05Is -/
def c58 : XFn :=
 ⟨[.tmp 2],
  (.seq (.reg [⟨(some 1), .box 30 (.tmp 0), none, false⟩,
   ⟨(some 2), .mv (.const (.bool false)), none, false⟩])
  (.seq (.seq (.reg [⟨(some 4), .fadr 0 (.tmp 1), none, false⟩,
   ⟨(some 5), .load1 (.tmp 4), none, false⟩,
   ⟨(some 6), .call (.func 83) [(.tmp 5)], none, false⟩,
   ⟨(some 7), .un .not (.tmp 6), none, false⟩,
   ⟨(some 8), .mv (.tmp 7), none, false⟩,
   ⟨(some 9), .fadr 1 (.tmp 1), (some (8, false)), false⟩,
   ⟨(some 10), .load1 (.tmp 9), (some (8, false)), false⟩,
   ⟨(some 11), .call (.func 56) [(.tmp 10), (.const (.int .i64 1)), (.const (.int .i64 9))], (some (8, false)), false⟩,
   ⟨(some 12), .un .not (.tmp 11), (some (8, false)), false⟩,
   ⟨(some 13), .pick (.tmp 8) (.const (.bool true)) (.tmp 12), none, false⟩,
   ⟨(some 14), .mv (.tmp 13), none, false⟩,
   ⟨(some 15), .fadr 2 (.tmp 1), (some (14, false)), false⟩,
   ⟨(some 16), .load1 (.tmp 15), (some (14, false)), false⟩,
   ⟨(some 17), .call (.func 56) [(.tmp 16), (.const (.int .i64 1)), (.const (.int .i64 9))], (some (14, false)), false⟩,
   ⟨(some 18), .un .not (.tmp 17), (some (14, false)), false⟩,
   ⟨(some 19), .pick (.tmp 14) (.const (.bool true)) (.tmp 18), none, false⟩,
   ⟨(some 20), .mv (.tmp 19), none, false⟩,
   ⟨(some 21), .fadr 3 (.tmp 1), (some (20, false)), false⟩,
   ⟨(some 22), .load1 (.tmp 21), (some (20, false)), false⟩,
   ⟨(some 23), .call (.func 56) [(.tmp 22), (.const (.int .i64 1)), (.const (.int .i64 9))], (some (20, false)), false⟩,
   ⟨(some 24), .un .not (.tmp 23), (some (20, false)), false⟩,
   ⟨(some 25), .pick (.tmp 20) (.const (.bool true)) (.tmp 24), none, false⟩,
   ⟨(some 26), .mv (.tmp 25), none, false⟩,
   ⟨(some 27), .fadr 4 (.tmp 1), (some (26, false)), false⟩,
   ⟨(some 28), .load1 (.tmp 27), (some (26, false)), false⟩,
   ⟨(some 29), .len (.tmp 28), (some (26, false)), false⟩,
   ⟨(some 30), .fadr 1 (.tmp 1), (some (26, false)), false⟩,
   ⟨(some 31), .load1 (.tmp 30), (some (26, false)), false⟩,
   ⟨(some 32), .fadr 2 (.tmp 1), (some (26, false)), false⟩,
   ⟨(some 33), .load1 (.tmp 32), (some (26, false)), false⟩,
   ⟨(some 34), .bin .mul (.tmp 31) (.tmp 33), (some (26, false)), false⟩,
   ⟨(some 35), .fadr 3 (.tmp 1), (some (26, false)), false⟩,
   ⟨(some 36), .load1 (.tmp 35), (some (26, false)), false⟩,
   ⟨(some 37), .bin .mul (.tmp 34) (.tmp 36), (some (26, false)), false⟩,
   ⟨(some 38), .bin .neq (.tmp 29) (.tmp 37), (some (26, false)), false⟩,
   ⟨(some 39), .pick (.tmp 26) (.const (.bool true)) (.tmp 38), none, false⟩])
  (.cond (.tmp 39) (.seq (.reg [⟨(some 2), .mv (.const (.bool false)), none, false⟩])
  .ret) .skip))
  (.seq (.seq (.reg [⟨(some 3), .mv (.const (.int .i64 0)), none, false⟩])
  (.blk 0 (.loop (.seq (.seq (.reg [⟨(some 40), .mv (.tmp 3), none, false⟩,
   ⟨(some 41), .fadr 4 (.tmp 1), none, false⟩,
   ⟨(some 42), .load1 (.tmp 41), none, false⟩,
   ⟨(some 43), .len (.tmp 42), none, false⟩,
   ⟨(some 44), .bin .lss (.tmp 40) (.tmp 43), none, false⟩])
  (.cond (.tmp 44) .skip (.exit 0)))
  (.seq (.blk 1 (.seq (.reg [⟨(some 47), .fadr 4 (.tmp 1), none, false⟩,
   ⟨(some 48), .load1 (.tmp 47), none, false⟩,
   ⟨(some 49), .mv (.tmp 3), none, false⟩,
   ⟨(some 50), .ixs 1 (.tmp 48) (.tmp 49), none, false⟩,
   ⟨(some 51), .load1 (.tmp 50), none, false⟩,
   ⟨(some 52), .fadr 0 (.tmp 1), none, false⟩,
   ⟨(some 53), .load1 (.tmp 52), none, false⟩,
   ⟨(some 54), .bin .sub (.tmp 53) (.const (.int .i64 1)), none, false⟩,
   ⟨(some 55), .call (.func 56) [(.tmp 51), (.const (.int .i64 0)), (.tmp 54)], none, false⟩,
   ⟨(some 56), .un .not (.tmp 55), none, false⟩])
  (.cond (.tmp 56) (.seq (.reg [⟨(some 2), .mv (.const (.bool false)), none, false⟩])
  .ret) .skip)))
  (.reg [⟨(some 45), .mv (.tmp 3), none, false⟩,
   ⟨(some 46), .bin .add (.tmp 45) (.const (.int .i64 1)), none, false⟩,
   ⟨(some 3), .mv (.tmp 46), none, false⟩]))))))
  (.seq (.reg [⟨(some 2), .mv (.const (.bool true)), none, false⟩])
  .ret))))⟩

/-- loop.example/g01262/spec.IsTensor -/
def c18 : XFn :=
 ⟨[.tmp 2],
  (.seq (.reg [⟨(some 1), .box 30 (.tmp 0), none, false⟩,
   ⟨(some 2), .mv (.const (.bool false)), none, false⟩])
  (.seq (.reg [⟨(some 3), .loadn 5 (.tmp 1), none, false⟩,
   ⟨(some 4), .call (.func 58) [(.tmp 3)], none, false⟩,
   ⟨(some 2), .mv (.tmp 4), none, false⟩])
  .ret))⟩

/-- loop.example/g01262/laws.toInt64S -/
def c49 : XFn :=
 ⟨[.tmp 2],
  (.seq (.reg [⟨(some 2), .mv (.const (.slice none 0 0)), none, false⟩])
  (.seq (.reg [⟨(some 5), .mv (.tmp 0), none, false⟩,
   ⟨(some 6), .len (.tmp 5), none, false⟩,
   ⟨(some 7), .mks 2 1 8 [.int .i64 0] (.tmp 6), none, false⟩,
   ⟨(some 3), .mv (.tmp 7), none, false⟩])
  (.seq (.seq (.reg [⟨(some 4), .mv (.const (.int .i64 0)), none, false⟩])
  (.blk 0 (.loop (.seq (.seq (.reg [⟨(some 8), .mv (.tmp 4), none, false⟩,
   ⟨(some 9), .mv (.tmp 0), none, false⟩,
   ⟨(some 10), .len (.tmp 9), none, false⟩,
   ⟨(some 11), .bin .lss (.tmp 8) (.tmp 10), none, false⟩])
  (.cond (.tmp 11) .skip (.exit 0)))
  (.seq (.blk 1 (.reg [⟨(some 14), .mv (.tmp 3), none, false⟩,
   ⟨(some 15), .mv (.tmp 4), none, false⟩,
   ⟨(some 16), .mv (.tmp 0), none, false⟩,
   ⟨(some 17), .mv (.tmp 4), none, false⟩,
   ⟨(some 18), .ixs 1 (.tmp 16) (.tmp 17), none, false⟩,
   ⟨(some 19), .load1 (.tmp 18), none, false⟩,
   ⟨(some 20), .ixs 1 (.tmp 14) (.tmp 15), none, false⟩,
   ⟨none, .store 1 (.tmp 20) (.tmp 19), none, false⟩]))
  (.reg [⟨(some 12), .mv (.tmp 4), none, false⟩,
   ⟨(some 13), .bin .add (.tmp 12) (.const (.int .i64 1)), none, false⟩,
   ⟨(some 4), .mv (.tmp 13), none, false⟩]))))))
  (.seq (.reg [⟨(some 21), .mv (.tmp 3), none, false⟩,
   ⟨(some 2), .mv (.tmp 21), none, false⟩])
  .ret))))⟩

/-- loop.example/g01262/laws.toTensor -/
def c19 : XFn :=
 ⟨[.celln 2 5],
  (.seq (.reg [⟨(some 1), .box 27 (.tmp 0), none, false⟩,
   ⟨(some 2), .alloc 30 [.int .i64 0, .int .i64 0, .int .i64 0, .int .i64 0, .slice none 0 0], none, false⟩])
  (.seq (.reg [⟨(some 3), .alloc 30 [.int .i64 0, .int .i64 0, .int .i64 0, .int .i64 0, .slice none 0 0], none, false⟩])
  (.seq (.reg [⟨(some 4), .fadr 0 (.tmp 1), none, false⟩,
   ⟨(some 5), .load1 (.tmp 4), none, false⟩,
   ⟨(some 6), .fadr 0 (.tmp 3), none, false⟩,
   ⟨none, .store 1 (.tmp 6) (.tmp 5), none, false⟩])
  (.seq (.reg [⟨(some 7), .fadr 1 (.tmp 1), none, false⟩,
   ⟨(some 8), .load1 (.tmp 7), none, false⟩,
   ⟨(some 9), .fadr 1 (.tmp 3), none, false⟩,
   ⟨none, .store 1 (.tmp 9) (.tmp 8), none, false⟩])
  (.seq (.reg [⟨(some 10), .fadr 2 (.tmp 1), none, false⟩,
   ⟨(some 11), .load1 (.tmp 10), none, false⟩,
   ⟨(some 12), .fadr 2 (.tmp 3), none, false⟩,
   ⟨none, .store 1 (.tmp 12) (.tmp 11), none, false⟩])
  (.seq (.reg [⟨(some 13), .fadr 3 (.tmp 1), none, false⟩,
   ⟨(some 14), .load1 (.tmp 13), none, false⟩,
   ⟨(some 15), .fadr 3 (.tmp 3), none, false⟩,
   ⟨none, .store 1 (.tmp 15) (.tmp 14), none, false⟩])
  (.seq (.reg [⟨(some 16), .fadr 4 (.tmp 1), none, false⟩,
   ⟨(some 17), .load1 (.tmp 16), none, false⟩,
   ⟨(some 18), .call (.func 49) [(.tmp 17)], none, false⟩,
   ⟨(some 19), .fadr 4 (.tmp 3), none, false⟩,
   ⟨none, .store 1 (.tmp 19) (.tmp 18), none, false⟩])
  (.seq (.reg [⟨(some 20), .loadn 5 (.tmp 3), none, false⟩,
   ⟨none, .store 5 (.tmp 2) (.tmp 20), none, false⟩])
  .ret))))))))⟩

/-- loop.example/g01262/impl.isPrime -/
def c59 : XFn :=
 ⟨[.tmp 2],
  (.seq (.reg [⟨(some 2), .mv (.const (.bool false)), none, false⟩])
  (.seq (.reg [⟨(some 3), .mv (.tmp 0), none, false⟩,
   ⟨(some 4), .bin .eql (.tmp 3) (.const (.int .i64 2)), none, false⟩,
   ⟨(some 5), .mv (.tmp 4), none, false⟩,
   ⟨(some 6), .mv (.tmp 0), (some (5, false)), false⟩,
   ⟨(some 7), .bin .eql (.tmp 6) (.const (.int .i64 3)), (some (5, false)), false⟩,
   ⟨(some 8), .pick (.tmp 5) (.const (.bool true)) (.tmp 7), none, false⟩,
   ⟨(some 9), .mv (.tmp 8), none, false⟩,
   ⟨(some 10), .mv (.tmp 0), (some (9, false)), false⟩,
   ⟨(some 11), .bin .eql (.tmp 10) (.const (.int .i64 5)), (some (9, false)), false⟩,
   ⟨(some 12), .pick (.tmp 9) (.const (.bool true)) (.tmp 11), none, false⟩,
   ⟨(some 2), .mv (.tmp 12), none, false⟩])
  .ret))⟩

/-- loop.example/g01262/impl.isSide -/
def c60 : XFn :=
 ⟨[.tmp 2],
  (.seq (.reg [⟨(some 2), .mv (.const (.bool false)), none, false⟩])
  (.seq (.seq (.reg [⟨(some 5), .mv (.tmp 0), none, false⟩,
   ⟨(some 6), .len (.tmp 5), none, false⟩,
   ⟨(some 7), .mv (.const (.int .i64 0)), none, false⟩])
  (.blk 0 (.loop (.seq (.reg [⟨(some 8), .bin .lss (.tmp 7) (.tmp 6), none, false⟩])
  (.seq (.cond (.tmp 8) .skip (.exit 0))
  (.seq (.blk 1 (.seq (.reg [⟨(some 9), .ixs 1 (.tmp 5) (.tmp 7), none, false⟩,
   ⟨(some 10), .load1 (.tmp 9), none, false⟩,
   ⟨(some 4), .mv (.tmp 10), none, false⟩])
  (.seq (.reg [⟨(some 11), .mv (.tmp 4), none, false⟩,
   ⟨(some 12), .bin .lss (.tmp 11) (.const (.int .i64 1)), none, false⟩,
   ⟨(some 13), .mv (.tmp 12), none, false⟩,
   ⟨(some 14), .mv (.tmp 4), (some (13, false)), false⟩,
   ⟨(some 15), .bin .gtr (.tmp 14) (.const (.int .i64 9)), (some (13, false)), false⟩,
   ⟨(some 16), .pick (.tmp 13) (.const (.bool true)) (.tmp 15), none, false⟩])
  (.cond (.tmp 16) (.seq (.reg [⟨(some 2), .mv (.const (.bool false)), none, false⟩])
  .ret) .skip))))
  (.reg [⟨(some 17), .bin .add (.tmp 7) (.const (.int .i64 1)), none, false⟩,
   ⟨(some 7), .mv (.tmp 17), none, false⟩])))))))
  (.seq (.reg [⟨(some 2), .mv (.const (.bool true)), none, false⟩])
  .ret)))⟩

/-- loop.example/g01262/impl.areNumbers -/
def c61 : XFn :=
 ⟨[.tmp 4],
  (.seq (.reg [⟨(some 4), .mv (.const (.bool false)), none, false⟩])
  (.seq (.seq (.reg [⟨(some 7), .mv (.tmp 1), none, false⟩,
   ⟨(some 8), .len (.tmp 7), none, false⟩,
   ⟨(some 9), .mv (.const (.int .i64 0)), none, false⟩])
  (.blk 0 (.loop (.seq (.reg [⟨(some 10), .bin .lss (.tmp 9) (.tmp 8), none, false⟩])
  (.seq (.cond (.tmp 10) .skip (.exit 0))
  (.seq (.blk 1 (.seq (.reg [⟨(some 11), .ixs 1 (.tmp 7) (.tmp 9), none, false⟩,
   ⟨(some 12), .load1 (.tmp 11), none, false⟩,
   ⟨(some 6), .mv (.tmp 12), none, false⟩])
  (.seq (.reg [⟨(some 13), .mv (.tmp 6), none, false⟩,
   ⟨(some 14), .bin .lss (.tmp 13) (.const (.int .i64 0)), none, false⟩,
   ⟨(some 15), .mv (.tmp 14), none, false⟩,
   ⟨(some 16), .mv (.tmp 6), (some (15, false)), false⟩,
   ⟨(some 17), .mv (.tmp 0), (some (15, false)), false⟩,
   ⟨(some 18), .bin .geq (.tmp 16) (.tmp 17), (some (15, false)), false⟩,
   ⟨(some 19), .pick (.tmp 15) (.const (.bool true)) (.tmp 18), none, false⟩])
  (.cond (.tmp 19) (.seq (.reg [⟨(some 4), .mv (.const (.bool false)), none, false⟩])
  .ret) .skip))))
  (.reg [⟨(some 20), .bin .add (.tmp 9) (.const (.int .i64 1)), none, false⟩,
   ⟨(some 9), .mv (.tmp 20), none, false⟩])))))))
  (.seq (.reg [⟨(some 4), .mv (.const (.bool true)), none, false⟩])
  .ret)))⟩

/-- loop.example/g01262/impl.IsTensor -/
def c20 : XFn :=
 ⟨[.tmp 2],
  (.seq (.reg [⟨(some 1), .box 30 (.tmp 0), none, false⟩,
   ⟨(some 2), .mv (.const (.bool false)), none, false⟩])
  (.seq (.reg [⟨(some 3), .fadr 0 (.tmp 1), none, false⟩,
   ⟨(some 4), .load1 (.tmp 3), none, false⟩,
   ⟨(some 5), .call (.func 59) [(.tmp 4)], none, false⟩,
   ⟨(some 6), .mv (.tmp 5), none, false⟩,
   ⟨(some 7), .fadr 1 (.tmp 1), (some (6, true)), false⟩,
   ⟨(some 8), .load1 (.tmp 7), (some (6, true)), false⟩,
   ⟨(some 9), .fadr 2 (.tmp 1), (some (6, true)), false⟩,
   ⟨(some 10), .load1 (.tmp 9), (some (6, true)), false⟩,
   ⟨(some 11), .fadr 3 (.tmp 1), (some (6, true)), false⟩,
   ⟨(some 12), .load1 (.tmp 11), (some (6, true)), false⟩,
   ⟨(some 13), .bslice 2 1 3 [.int .i64 0] [(0, 1, (.tmp 8)), (1, 1, (.tmp 10)), (2, 1, (.tmp 12))], (some (6, true)), false⟩,
   ⟨(some 14), .call (.func 60) [(.tmp 13)], (some (6, true)), false⟩,
   ⟨(some 15), .pick (.tmp 6) (.tmp 14) (.const (.bool false)), none, false⟩,
   ⟨(some 16), .mv (.tmp 15), none, false⟩,
   ⟨(some 17), .fadr 4 (.tmp 1), (some (16, true)), false⟩,
   ⟨(some 18), .load1 (.tmp 17), (some (16, true)), false⟩,
   ⟨(some 19), .len (.tmp 18), (some (16, true)), false⟩,
   ⟨(some 20), .fadr 1 (.tmp 1), (some (16, true)), false⟩,
   ⟨(some 21), .load1 (.tmp 20), (some (16, true)), false⟩,
   ⟨(some 22), .fadr 2 (.tmp 1), (some (16, true)), false⟩,
   ⟨(some 23), .load1 (.tmp 22), (some (16, true)), false⟩,
   ⟨(some 24), .bin .mul (.tmp 21) (.tmp 23), (some (16, true)), false⟩,
   ⟨(some 25), .fadr 3 (.tmp 1), (some (16, true)), false⟩,
   ⟨(some 26), .load1 (.tmp 25), (some (16, true)), false⟩,
   ⟨(some 27), .bin .mul (.tmp 24) (.tmp 26), (some (16, true)), false⟩,
   ⟨(some 28), .bin .eql (.tmp 19) (.tmp 27), (some (16, true)), false⟩,
   ⟨(some 29), .pick (.tmp 16) (.tmp 28) (.const (.bool false)), none, false⟩,
   ⟨(some 30), .mv (.tmp 29), none, false⟩,
   ⟨(some 31), .fadr 0 (.tmp 1), (some (30, true)), false⟩,
   ⟨(some 32), .load1 (.tmp 31), (some (30, true)), false⟩,
   ⟨(some 33), .fadr 4 (.tmp 1), (some (30, true)), false⟩,
   ⟨(some 34), .load1 (.tmp 33), (some (30, true)), false⟩,
   ⟨(some 35), .call (.func 61) [(.tmp 32), (.tmp 34)], (some (30, true)), false⟩,
   ⟨(some 36), .pick (.tmp 30) (.tmp 35) (.const (.bool false)), none, false⟩,
   ⟨(some 2), .mv (.tmp 36), none, false⟩])
  .ret))⟩

/-- loop.example/g01262/laws.eqInt64S -/
def c51 : XFn :=
 ⟨[.tmp 4],
  (.seq (.reg [⟨(some 4), .mv (.const (.bool false)), none, false⟩])
  (.seq (.seq (.reg [⟨(some 6), .mv (.tmp 0), none, false⟩,
   ⟨(some 7), .len (.tmp 6), none, false⟩,
   ⟨(some 8), .mv (.tmp 1), none, false⟩,
   ⟨(some 9), .len (.tmp 8), none, false⟩,
   ⟨(some 10), .bin .neq (.tmp 7) (.tmp 9), none, false⟩])
  (.cond (.tmp 10) (.seq (.reg [⟨(some 4), .mv (.const (.bool false)), none, false⟩])
  .ret) .skip))
  (.seq (.seq (.reg [⟨(some 5), .mv (.const (.int .i64 0)), none, false⟩])
  (.blk 0 (.loop (.seq (.seq (.reg [⟨(some 11), .mv (.tmp 5), none, false⟩,
   ⟨(some 12), .mv (.tmp 0), none, false⟩,
   ⟨(some 13), .len (.tmp 12), none, false⟩,
   ⟨(some 14), .bin .lss (.tmp 11) (.tmp 13), none, false⟩])
  (.cond (.tmp 14) .skip (.exit 0)))
  (.seq (.blk 1 (.seq (.reg [⟨(some 17), .mv (.tmp 0), none, false⟩,
   ⟨(some 18), .mv (.tmp 5), none, false⟩,
   ⟨(some 19), .ixs 1 (.tmp 17) (.tmp 18), none, false⟩,
   ⟨(some 20), .load1 (.tmp 19), none, false⟩,
   ⟨(some 21), .mv (.tmp 1), none, false⟩,
   ⟨(some 22), .mv (.tmp 5), none, false⟩,
   ⟨(some 23), .ixs 1 (.tmp 21) (.tmp 22), none, false⟩,
   ⟨(some 24), .load1 (.tmp 23), none, false⟩,
   ⟨(some 25), .bin .neq (.tmp 20) (.tmp 24), none, false⟩])
  (.cond (.tmp 25) (.seq (.reg [⟨(some 4), .mv (.const (.bool false)), none, false⟩])
  .ret) .skip)))
  (.reg [⟨(some 15), .mv (.tmp 5), none, false⟩,
   ⟨(some 16), .bin .add (.tmp 15) (.const (.int .i64 1)), none, false⟩,
   ⟨(some 5), .mv (.tmp 16), none, false⟩]))))))
  (.seq (.reg [⟨(some 4), .mv (.const (.bool true)), none, false⟩])
  .ret))))⟩

/-- loop.example/g01262/laws.eqTensor -/
def c21 : XFn :=
 ⟨[.tmp 4],
  (.seq (.reg [⟨(some 2), .box 30 (.tmp 0), none, false⟩,
   ⟨(some 3), .box 30 (.tmp 1), none, false⟩,
   ⟨(some 4), .mv (.const (.bool false)), none, false⟩])
  (.seq (.seq (.reg [⟨(some 5), .fadr 0 (.tmp 2), none, false⟩,
   ⟨(some 6), .load1 (.tmp 5), none, false⟩,
   ⟨(some 7), .fadr 0 (.tmp 3), none, false⟩,
   ⟨(some 8), .load1 (.tmp 7), none, false⟩,
   ⟨(some 9), .bin .neq (.tmp 6) (.tmp 8), none, false⟩])
  (.cond (.tmp 9) (.seq (.reg [⟨(some 4), .mv (.const (.bool false)), none, false⟩])
  .ret) .skip))
  (.seq (.seq (.reg [⟨(some 10), .fadr 1 (.tmp 2), none, false⟩,
   ⟨(some 11), .load1 (.tmp 10), none, false⟩,
   ⟨(some 12), .fadr 1 (.tmp 3), none, false⟩,
   ⟨(some 13), .load1 (.tmp 12), none, false⟩,
   ⟨(some 14), .bin .neq (.tmp 11) (.tmp 13), none, false⟩])
  (.cond (.tmp 14) (.seq (.reg [⟨(some 4), .mv (.const (.bool false)), none, false⟩])
  .ret) .skip))
  (.seq (.seq (.reg [⟨(some 15), .fadr 2 (.tmp 2), none, false⟩,
   ⟨(some 16), .load1 (.tmp 15), none, false⟩,
   ⟨(some 17), .fadr 2 (.tmp 3), none, false⟩,
   ⟨(some 18), .load1 (.tmp 17), none, false⟩,
   ⟨(some 19), .bin .neq (.tmp 16) (.tmp 18), none, false⟩])
  (.cond (.tmp 19) (.seq (.reg [⟨(some 4), .mv (.const (.bool false)), none, false⟩])
  .ret) .skip))
  (.seq (.seq (.reg [⟨(some 20), .fadr 3 (.tmp 2), none, false⟩,
   ⟨(some 21), .load1 (.tmp 20), none, false⟩,
   ⟨(some 22), .fadr 3 (.tmp 3), none, false⟩,
   ⟨(some 23), .load1 (.tmp 22), none, false⟩,
   ⟨(some 24), .bin .neq (.tmp 21) (.tmp 23), none, false⟩])
  (.cond (.tmp 24) (.seq (.reg [⟨(some 4), .mv (.const (.bool false)), none, false⟩])
  .ret) .skip))
  (.seq (.seq (.reg [⟨(some 25), .fadr 4 (.tmp 2), none, false⟩,
   ⟨(some 26), .load1 (.tmp 25), none, false⟩,
   ⟨(some 27), .fadr 4 (.tmp 3), none, false⟩,
   ⟨(some 28), .load1 (.tmp 27), none, false⟩,
   ⟨(some 29), .call (.func 51) [(.tmp 26), (.tmp 28)], none, false⟩,
   ⟨(some 30), .un .not (.tmp 29), none, false⟩])
  (.cond (.tmp 30) (.seq (.reg [⟨(some 4), .mv (.const (.bool false)), none, false⟩])
  .ret) .skip))
  (.seq (.reg [⟨(some 4), .mv (.const (.bool true)), none, false⟩])
  .ret)))))))⟩

/-- loop.example/g01262/laws.FnExactIsTensor -/
def c4 : XFn :=
 ⟨[.tmp 2],
  (.seq (.reg [⟨(some 1), .box 27 (.tmp 0), none, false⟩,
   ⟨(some 2), .mv (.const (.bool false)), none, false⟩])
  (.seq (.reg [⟨(some 3), .mv (.const (.int .i64 1048576)), none, false⟩])
  (.seq (.reg [⟨(some 7), .loadn 5 (.tmp 1), none, false⟩,
   ⟨(some 8), .mv (.tmp 3), none, false⟩,
   ⟨(some 9), .call (.func 17) [(.tmp 7), (.tmp 8)], none, false⟩,
   ⟨(some 3), .mv (.tmp 9), none, false⟩])
  (.seq (.seq (.reg [⟨(some 10), .mv (.tmp 3), none, false⟩,
   ⟨(some 11), .bin .lss (.tmp 10) (.const (.int .i64 0)), none, false⟩])
  (.cond (.tmp 11) (.seq (.reg [⟨(some 2), .mv (.const (.bool true)), none, false⟩])
  .ret) .skip))
  (.seq (.reg [⟨(some 12), .loadn 5 (.tmp 1), none, false⟩,
   ⟨(some 13), .call (.func 19) [(.tmp 12)], none, false⟩,
   ⟨(some 14), .call (.func 18) [(.tmp 13)], none, false⟩,
   ⟨(some 4), .mv (.tmp 14), none, false⟩])
  (.seq (.reg [⟨(some 15), .loadn 5 (.tmp 1), none, false⟩,
   ⟨(some 16), .call (.func 19) [(.tmp 15)], none, false⟩,
   ⟨(some 5), .alloc 30 [.int .i64 0, .int .i64 0, .int .i64 0, .int .i64 0, .slice none 0 0], none, false⟩,
   ⟨none, .store 5 (.tmp 5) (.tmp 16), none, false⟩])
  (.seq (.reg [⟨(some 17), .loadn 5 (.tmp 5), none, false⟩,
   ⟨(some 18), .call (.func 20) [(.tmp 17)], none, false⟩,
   ⟨(some 6), .mv (.tmp 18), none, false⟩])
  (.seq (.seq (.reg [⟨(some 19), .mv (.tmp 6), none, false⟩,
   ⟨(some 20), .mv (.tmp 4), none, false⟩,
   ⟨(some 21), .eqb true (.tmp 19) (.tmp 20), none, false⟩])
  (.cond (.tmp 21) (.seq (.reg [⟨(some 2), .mv (.const (.bool false)), none, false⟩])
  .ret) .skip))
  (.seq (.seq (.reg [⟨(some 22), .loadn 5 (.tmp 5), none, false⟩,
   ⟨(some 23), .loadn 5 (.tmp 1), none, false⟩,
   ⟨(some 24), .call (.func 19) [(.tmp 23)], none, true⟩,
   ⟨(some 25), .call (.func 21) [(.tmp 22), (.tmp 24)], none, false⟩,
   ⟨(some 26), .un .not (.tmp 25), none, false⟩])
  (.cond (.tmp 26) (.seq (.reg [⟨(some 2), .mv (.const (.bool false)), none, false⟩])
  .ret) .skip))
  (.seq (.reg [⟨(some 2), .mv (.const (.bool true)), none, false⟩])
  .ret))))))))))⟩

/-- loop.example/g01262/spec.l05At -/
def c62 : XFn :=
 ⟨[.tmp 8],
  (.seq (.reg [⟨(some 4), .box 30 (.tmp 0), none, false⟩,
   ⟨(some 8), .mv (.const (.int .i64 0)), none, false⟩])
  (.seq (.reg [⟨(some 9), .fadr 4 (.tmp 4), none, false⟩,
   ⟨(some 10), .load1 (.tmp 9), none, false⟩,
   ⟨(some 11), .mv (.tmp 1), none, false⟩,
   ⟨(some 12), .fadr 2 (.tmp 4), none, false⟩,
   ⟨(some 13), .load1 (.tmp 12), none, false⟩,
   ⟨(some 14), .bin .mul (.tmp 11) (.tmp 13), none, false⟩,
   ⟨(some 15), .mv (.tmp 2), none, false⟩,
   ⟨(some 16), .bin .add (.tmp 14) (.tmp 15), none, false⟩,
   ⟨(some 17), .fadr 3 (.tmp 4), none, false⟩,
   ⟨(some 18), .load1 (.tmp 17), none, false⟩,
   ⟨(some 19), .bin .mul (.tmp 16) (.tmp 18), none, false⟩,
   ⟨(some 20), .mv (.tmp 3), none, false⟩,
   ⟨(some 21), .bin .add (.tmp 19) (.tmp 20), none, false⟩,
   ⟨(some 22), .ixs 1 (.tmp 10) (.tmp 21), none, false⟩,
   ⟨(some 23), .load1 (.tmp 22), none, false⟩,
   ⟨(some 8), .mv (.tmp 23), none, false⟩])
  .ret))⟩

/-- loop.example/g01262/spec.NumberAt -/
def c22 : XFn :=
 ⟨[.tmp 8, .tmp 9],
  (.seq (.reg [⟨(some 4), .box 30 (.tmp 0), none, false⟩,
   ⟨(some 8), .mv (.const (.int .i64 0)), none, false⟩,
   ⟨(some 9), .mv (.const (.int .i64 0)), none, false⟩])
  (.seq (.blk 0 (.seq (.reg [⟨(some 11), .loadn 5 (.tmp 4), none, false⟩,
   ⟨(some 12), .call (.func 58) [(.tmp 11)], none, false⟩,
   ⟨(some 13), .un .not (.tmp 12), none, false⟩,
   ⟨(some 10), .mv (.tmp 13), none, false⟩])
  (.cond (.tmp 10) (.seq (.reg [⟨(some 8), .mv (.const (.int .i64 0)), none, false⟩,
   ⟨(some 9), .mv (.const (.int .i64 1)), none, false⟩])
  .ret) (.seq (.reg [⟨(some 15), .mv (.tmp 1), none, false⟩,
   ⟨(some 16), .fadr 1 (.tmp 4), none, false⟩,
   ⟨(some 17), .load1 (.tmp 16), none, false⟩,
   ⟨(some 18), .bin .sub (.tmp 17) (.const (.int .i64 1)), none, false⟩,
   ⟨(some 19), .call (.func 56) [(.tmp 15), (.const (.int .i64 0)), (.tmp 18)], none, false⟩,
   ⟨(some 20), .un .not (.tmp 19), none, false⟩,
   ⟨(some 21), .mv (.tmp 20), none, false⟩,
   ⟨(some 22), .mv (.tmp 2), (some (21, false)), false⟩,
   ⟨(some 23), .fadr 2 (.tmp 4), (some (21, false)), false⟩,
   ⟨(some 24), .load1 (.tmp 23), (some (21, false)), false⟩,
   ⟨(some 25), .bin .sub (.tmp 24) (.const (.int .i64 1)), (some (21, false)), false⟩,
   ⟨(some 26), .call (.func 56) [(.tmp 22), (.const (.int .i64 0)), (.tmp 25)], (some (21, false)), false⟩,
   ⟨(some 27), .un .not (.tmp 26), (some (21, false)), false⟩,
   ⟨(some 28), .pick (.tmp 21) (.const (.bool true)) (.tmp 27), none, false⟩,
   ⟨(some 29), .mv (.tmp 28), none, false⟩,
   ⟨(some 30), .mv (.tmp 3), (some (29, false)), false⟩,
   ⟨(some 31), .fadr 3 (.tmp 4), (some (29, false)), false⟩,
   ⟨(some 32), .load1 (.tmp 31), (some (29, false)), false⟩,
   ⟨(some 33), .bin .sub (.tmp 32) (.const (.int .i64 1)), (some (29, false)), false⟩,
   ⟨(some 34), .call (.func 56) [(.tmp 30), (.const (.int .i64 0)), (.tmp 33)], (some (29, false)), false⟩,
   ⟨(some 35), .un .not (.tmp 34), (some (29, false)), false⟩,
   ⟨(some 36), .pick (.tmp 29) (.const (.bool true)) (.tmp 35), none, false⟩,
   ⟨(some 14), .mv (.tmp 36), none, false⟩])
  (.cond (.tmp 14) (.seq (.reg [⟨(some 8), .mv (.const (.int .i64 0)), none, false⟩,
   ⟨(some 9), .mv (.const (.int .i64 2)), none, false⟩])
  .ret) .skip)))))
  (.seq (.reg [⟨(some 37), .loadn 5 (.tmp 4), none, false⟩,
   ⟨(some 38), .mv (.tmp 1), none, false⟩,
   ⟨(some 39), .mv (.tmp 2), none, false⟩,
   ⟨(some 40), .mv (.tmp 3), none, false⟩,
   ⟨(some 41), .call (.func 62) [(.tmp 37), (.tmp 38), (.tmp 39), (.tmp 40)], none, false⟩,
   ⟨(some 8), .mv (.tmp 41), none, false⟩,
   ⟨(some 9), .mv (.const (.int .i64 0)), none, false⟩])
  .ret)))⟩

/-- (loop.example/g01262/impl.Tensor).at -/
def c63 : XFn :=
 ⟨[.tmp 8],
  (.seq (.reg [⟨(some 4), .box 30 (.tmp 0), none, false⟩,
   ⟨(some 8), .mv (.const (.int .i64 0)), none, false⟩])
  (.seq (.reg [⟨(some 9), .fadr 4 (.tmp 4), none, false⟩,
   ⟨(some 10), .load1 (.tmp 9), none, false⟩,
   ⟨(some 11), .mv (.tmp 1), none, false⟩,
   ⟨(some 12), .fadr 2 (.tmp 4), none, false⟩,
   ⟨(some 13), .load1 (.tmp 12), none, false⟩,
   ⟨(some 14), .bin .mul (.tmp 11) (.tmp 13), none, false⟩,
   ⟨(some 15), .mv (.tmp 2), none, false⟩,
   ⟨(some 16), .bin .add (.tmp 14) (.tmp 15), none, false⟩,
   ⟨(some 17), .fadr 3 (.tmp 4), none, false⟩,
   ⟨(some 18), .load1 (.tmp 17), none, false⟩,
   ⟨(some 19), .bin .mul (.tmp 16) (.tmp 18), none, false⟩,
   ⟨(some 20), .mv (.tmp 3), none, false⟩,
   ⟨(some 21), .bin .add (.tmp 19) (.tmp 20), none, false⟩,
   ⟨(some 22), .ixs 1 (.tmp 10) (.tmp 21), none, false⟩,
   ⟨(some 23), .load1 (.tmp 22), none, false⟩,
   ⟨(some 8), .mv (.tmp 23), none, false⟩])
  .ret))⟩

/-- loop.example/g01262/impl.NumberAt -/
def c23 : XFn :=
 ⟨[.tmp 8, .tmp 9],
  (.seq (.reg [⟨(some 4), .box 30 (.tmp 0), none, false⟩,
   ⟨(some 8), .mv (.const (.int .i64 0)), none, false⟩,
   ⟨(some 9), .mv (.const (.int .i64 0)), none, false⟩])
  (.seq (.blk 0 (.seq (.reg [⟨(some 11), .loadn 5 (.tmp 4), none, false⟩,
   ⟨(some 12), .call (.func 20) [(.tmp 11)], none, false⟩,
   ⟨(some 13), .un .not (.tmp 12), none, false⟩,
   ⟨(some 10), .mv (.tmp 13), none, false⟩])
  (.cond (.tmp 10) (.seq (.reg [⟨(some 8), .mv (.const (.int .i64 0)), none, false⟩,
   ⟨(some 9), .mv (.const (.int .i64 1)), none, false⟩])
  .ret) (.seq (.reg [⟨(some 15), .mv (.tmp 1), none, false⟩,
   ⟨(some 16), .bin .lss (.tmp 15) (.const (.int .i64 0)), none, false⟩,
   ⟨(some 17), .mv (.tmp 16), none, false⟩,
   ⟨(some 18), .mv (.tmp 1), (some (17, false)), false⟩,
   ⟨(some 19), .fadr 1 (.tmp 4), (some (17, false)), false⟩,
   ⟨(some 20), .load1 (.tmp 19), (some (17, false)), false⟩,
   ⟨(some 21), .bin .geq (.tmp 18) (.tmp 20), (some (17, false)), false⟩,
   ⟨(some 22), .pick (.tmp 17) (.const (.bool true)) (.tmp 21), none, false⟩,
   ⟨(some 23), .mv (.tmp 22), none, false⟩,
   ⟨(some 24), .mv (.tmp 2), (some (23, false)), false⟩,
   ⟨(some 25), .bin .lss (.tmp 24) (.const (.int .i64 0)), (some (23, false)), false⟩,
   ⟨(some 26), .pick (.tmp 23) (.const (.bool true)) (.tmp 25), none, false⟩,
   ⟨(some 27), .mv (.tmp 26), none, false⟩,
   ⟨(some 28), .mv (.tmp 2), (some (27, false)), false⟩,
   ⟨(some 29), .fadr 2 (.tmp 4), (some (27, false)), false⟩,
   ⟨(some 30), .load1 (.tmp 29), (some (27, false)), false⟩,
   ⟨(some 31), .bin .geq (.tmp 28) (.tmp 30), (some (27, false)), false⟩,
   ⟨(some 32), .pick (.tmp 27) (.const (.bool true)) (.tmp 31), none, false⟩,
   ⟨(some 33), .mv (.tmp 32), none, false⟩,
   ⟨(some 34), .mv (.tmp 3), (some (33, false)), false⟩,
   ⟨(some 35), .bin .lss (.tmp 34) (.const (.int .i64 0)), (some (33, false)), false⟩,
   ⟨(some 36), .pick (.tmp 33) (.const (.bool true)) (.tmp 35), none, false⟩,
   ⟨(some 37), .mv (.tmp 36), none, false⟩,
   ⟨(some 38), .mv (.tmp 3), (some (37, false)), false⟩,
   ⟨(some 39), .fadr 3 (.tmp 4), (some (37, false)), false⟩,
   ⟨(some 40), .load1 (.tmp 39), (some (37, false)), false⟩,
   ⟨(some 41), .bin .geq (.tmp 38) (.tmp 40), (some (37, false)), false⟩,
   ⟨(some 42), .pick (.tmp 37) (.const (.bool true)) (.tmp 41), none, false⟩,
   ⟨(some 14), .mv (.tmp 42), none, false⟩])
  (.cond (.tmp 14) (.seq (.reg [⟨(some 8), .mv (.const (.int .i64 0)), none, false⟩,
   ⟨(some 9), .mv (.const (.int .i64 2)), none, false⟩])
  .ret) .skip)))))
  (.seq (.reg [⟨(some 43), .loadn 5 (.tmp 4), none, false⟩,
   ⟨(some 44), .mv (.tmp 1), none, false⟩,
   ⟨(some 45), .mv (.tmp 2), none, false⟩,
   ⟨(some 46), .mv (.tmp 3), none, false⟩,
   ⟨(some 47), .call (.func 63) [(.tmp 43), (.tmp 44), (.tmp 45), (.tmp 46)], none, false⟩,
   ⟨(some 8), .mv (.tmp 47), none, false⟩,
   ⟨(some 9), .mv (.const (.int .i64 0)), none, false⟩])
  .ret)))⟩

/-- loop.example/g01262/laws.FnExactNumberAt -/
def c5 : XFn :=
 ⟨[.tmp 8],
  (.seq (.reg [⟨(some 4), .box 27 (.tmp 0), none, false⟩,
   ⟨(some 8), .mv (.const (.bool false)), none, false⟩])
  (.seq (.reg [⟨(some 9), .mv (.const (.int .i64 1048576)), none, false⟩])
  (.seq (.reg [⟨(some 15), .loadn 5 (.tmp 4), none, false⟩,
   ⟨(some 16), .mv (.tmp 9), none, false⟩,
   ⟨(some 17), .call (.func 17) [(.tmp 15), (.tmp 16)], none, false⟩,
   ⟨(some 9), .mv (.tmp 17), none, false⟩])
  (.seq (.seq (.reg [⟨(some 18), .mv (.tmp 9), none, false⟩,
   ⟨(some 19), .bin .lss (.tmp 18) (.const (.int .i64 0)), none, false⟩])
  (.cond (.tmp 19) (.seq (.reg [⟨(some 8), .mv (.const (.bool true)), none, false⟩])
  .ret) .skip))
  (.seq (.reg [⟨(some 21), .loadn 5 (.tmp 4), none, false⟩,
   ⟨(some 22), .call (.func 19) [(.tmp 21)], none, false⟩,
   ⟨(some 23), .mv (.tmp 1), none, false⟩,
   ⟨(some 24), .mv (.tmp 2), none, false⟩,
   ⟨(some 25), .mv (.tmp 3), none, false⟩,
   ⟨(some 26), .call (.func 22) [(.tmp 22), (.tmp 23), (.tmp 24), (.tmp 25)], none, false⟩,
   ⟨(some 20), .mv (.tmp 26), none, false⟩,
   ⟨(some 27), .ext (.tmp 20) 0, none, false⟩,
   ⟨(some 28), .ext (.tmp 20) 1, none, false⟩,
   ⟨(some 10), .mv (.tmp 27), none, false⟩,
   ⟨(some 11), .mv (.tmp 28), none, false⟩])
  (.seq (.reg [⟨(some 29), .loadn 5 (.tmp 4), none, false⟩,
   ⟨(some 30), .call (.func 19) [(.tmp 29)], none, false⟩,
   ⟨(some 12), .alloc 30 [.int .i64 0, .int .i64 0, .int .i64 0, .int .i64 0, .slice none 0 0], none, false⟩,
   ⟨none, .store 5 (.tmp 12) (.tmp 30), none, false⟩])
  (.seq (.reg [⟨(some 32), .loadn 5 (.tmp 12), none, false⟩,
   ⟨(some 33), .mv (.tmp 1), none, false⟩,
   ⟨(some 34), .mv (.tmp 2), none, false⟩,
   ⟨(some 35), .mv (.tmp 3), none, false⟩,
   ⟨(some 36), .call (.func 23) [(.tmp 32), (.tmp 33), (.tmp 34), (.tmp 35)], none, false⟩,
   ⟨(some 31), .mv (.tmp 36), none, false⟩,
   ⟨(some 37), .ext (.tmp 31) 0, none, false⟩,
   ⟨(some 38), .ext (.tmp 31) 1, none, false⟩,
   ⟨(some 13), .mv (.tmp 37), none, false⟩,
   ⟨(some 14), .mv (.tmp 38), none, false⟩])
  (.seq (.seq (.reg [⟨(some 39), .mv (.tmp 13), none, false⟩,
   ⟨(some 40), .mv (.tmp 10), none, false⟩,
   ⟨(some 41), .bin .neq (.tmp 39) (.tmp 40), none, false⟩,
   ⟨(some 42), .mv (.tmp 41), none, false⟩,
   ⟨(some 43), .mv (.tmp 14), (some (42, false)), false⟩,
   ⟨(some 44), .mv (.tmp 11), (some (42, false)), false⟩,
   ⟨(some 45), .bin .neq (.tmp 43) (.tmp 44), (some (42, false)), false⟩,
   ⟨(some 46), .pick (.tmp 42) (.const (.bool true)) (.tmp 45), none, false⟩])
  (.cond (.tmp 46) (.seq (.reg [⟨(some 8), .mv (.const (.bool false)), none, false⟩])
  .ret) .skip))
  (.seq (.seq (.reg [⟨(some 47), .loadn 5 (.tmp 12), none, false⟩,
   ⟨(some 48), .loadn 5 (.tmp 4), none, false⟩,
   ⟨(some 49), .call (.func 19) [(.tmp 48)], none, true⟩,
   ⟨(some 50), .call (.func 21) [(.tmp 47), (.tmp 49)], none, false⟩,
   ⟨(some 51), .un .not (.tmp 50), none, false⟩])
  (.cond (.tmp 51) (.seq (.reg [⟨(some 8), .mv (.const (.bool false)), none, false⟩])
  .ret) .skip))
  (.seq (.reg [⟨(some 8), .mv (.const (.bool true)), none, false⟩])
  .ret))))))))))⟩

/-- loop.example/g01262/laws.szStepS -/
def c64 : XFn :=
 ⟨[.tmp 4],
  (.seq (.reg [⟨(some 4), .mv (.const (.int .i64 0)), none, false⟩])
  (.seq (.reg [⟨(some 5), .mv (.tmp 1), none, false⟩,
   ⟨(some 6), .mv (.tmp 0), none, false⟩,
   ⟨(some 7), .len (.tmp 6), none, false⟩,
   ⟨(some 8), .bin .sub (.tmp 5) (.tmp 7), none, false⟩,
   ⟨(some 1), .mv (.tmp 8), none, false⟩])
  (.seq (.seq (.reg [⟨(some 9), .mv (.tmp 1), none, false⟩,
   ⟨(some 10), .bin .lss (.tmp 9) (.const (.int .i64 0)), none, false⟩])
  (.cond (.tmp 10) (.seq (.reg [⟨(some 4), .mv (.const (.int .i64 (-1))), none, false⟩])
  .ret) .skip))
  (.seq (.reg [⟨(some 11), .mv (.tmp 1), none, false⟩,
   ⟨(some 4), .mv (.tmp 11), none, false⟩])
  .ret))))⟩

/-- loop.example/g01262/laws.szOutputS -/
def c65 : XFn :=
 ⟨[.tmp 4],
  (.seq (.reg [⟨(some 4), .mv (.const (.int .i64 0)), none, false⟩])
  (.seq (.reg [⟨(some 5), .mv (.tmp 1), none, false⟩,
   ⟨(some 6), .mv (.tmp 0), none, false⟩,
   ⟨(some 7), .len (.tmp 6), none, false⟩,
   ⟨(some 8), .bin .sub (.tmp 5) (.tmp 7), none, false⟩,
   ⟨(some 1), .mv (.tmp 8), none, false⟩])
  (.seq (.seq (.reg [⟨(some 9), .mv (.tmp 1), none, false⟩,
   ⟨(some 10), .bin .lss (.tmp 9) (.const (.int .i64 0)), none, false⟩])
  (.cond (.tmp 10) (.seq (.reg [⟨(some 4), .mv (.const (.int .i64 (-1))), none, false⟩])
  .ret) .skip))
  (.seq (.reg [⟨(some 11), .mv (.tmp 1), none, false⟩,
   ⟨(some 4), .mv (.tmp 11), none, false⟩])
  .ret))))⟩

/-- loop.example/g01262/laws.szProgram -/
def c24 : XFn :=
 ⟨[.tmp 4],
  (.seq (.reg [⟨(some 2), .box 39 (.tmp 0), none, false⟩,
   ⟨(some 4), .mv (.const (.int .i64 0)), none, false⟩])
  (.seq (.reg [⟨(some 5), .fadr 2 (.tmp 2), none, false⟩,
   ⟨(some 6), .load1 (.tmp 5), none, false⟩,
   ⟨(some 7), .mv (.tmp 1), none, false⟩,
   ⟨(some 8), .call (.func 64) [(.tmp 6), (.tmp 7)], none, false⟩,
   ⟨(some 1), .mv (.tmp 8), none, false⟩])
  (.seq (.seq (.reg [⟨(some 9), .mv (.tmp 1), none, false⟩,
   ⟨(some 10), .bin .lss (.tmp 9) (.const (.int .i64 0)), none, false⟩])
  (.cond (.tmp 10) (.seq (.reg [⟨(some 4), .mv (.const (.int .i64 (-1))), none, false⟩])
  .ret) .skip))
  (.seq (.reg [⟨(some 11), .fadr 3 (.tmp 2), none, false⟩,
   ⟨(some 12), .load1 (.tmp 11), none, false⟩,
   ⟨(some 13), .mv (.tmp 1), none, false⟩,
   ⟨(some 14), .call (.func 65) [(.tmp 12), (.tmp 13)], none, false⟩,
   ⟨(some 1), .mv (.tmp 14), none, false⟩])
  (.seq (.seq (.reg [⟨(some 15), .mv (.tmp 1), none, false⟩,
   ⟨(some 16), .bin .lss (.tmp 15) (.const (.int .i64 0)), none, false⟩])
  (.cond (.tmp 16) (.seq (.reg [⟨(some 4), .mv (.const (.int .i64 (-1))), none, false⟩])
  .ret) .skip))
  (.seq (.reg [⟨(some 17), .mv (.tmp 1), none, false⟩,
   ⟨(some 4), .mv (.tmp 17), none, false⟩])
  .ret))))))⟩

/-- loop.example/g01262/spec.l07Is -/
def c66 : XFn :=
 ⟨[.tmp 2],
  (.seq (.reg [⟨(some 1), .box 45 (.tmp 0), none, false⟩,
   ⟨(some 2), .mv (.const (.bool false)), none, false⟩])
  (.seq (.seq (.reg [⟨(some 8), .fadr 0 (.tmp 1), none, false⟩,
   ⟨(some 9), .load1 (.tmp 8), none, false⟩,
   ⟨(some 10), .call (.func 83) [(.tmp 9)], none, false⟩,
   ⟨(some 11), .un .not (.tmp 10), none, false⟩,
   ⟨(some 12), .mv (.tmp 11), none, false⟩,
   ⟨(some 13), .fadr 1 (.tmp 1), (some (12, false)), false⟩,
   ⟨(some 14), .load1 (.tmp 13), (some (12, false)), false⟩,
   ⟨(some 15), .call (.func 56) [(.tmp 14), (.const (.int .i64 1)), (.const (.int .i64 30))], (some (12, false)), false⟩,
   ⟨(some 16), .un .not (.tmp 15), (some (12, false)), false⟩,
   ⟨(some 17), .pick (.tmp 12) (.const (.bool true)) (.tmp 16), none, false⟩,
   ⟨(some 18), .mv (.tmp 17), none, false⟩,
   ⟨(some 19), .fadr 2 (.tmp 1), (some (18, false)), false⟩,
   ⟨(some 20), .load1 (.tmp 19), (some (18, false)), false⟩,
   ⟨(some 21), .len (.tmp 20), (some (18, false)), false⟩,
   ⟨(some 22), .bin .gtr (.tmp 21) (.const (.int .i64 900)), (some (18, false)), false⟩,
   ⟨(some 23), .pick (.tmp 18) (.const (.bool true)) (.tmp 22), none, false⟩,
   ⟨(some 24), .mv (.tmp 23), none, false⟩,
   ⟨(some 25), .fadr 3 (.tmp 1), (some (24, false)), false⟩,
   ⟨(some 26), .load1 (.tmp 25), (some (24, false)), false⟩,
   ⟨(some 27), .len (.tmp 26), (some (24, false)), false⟩,
   ⟨(some 28), .bin .lss (.tmp 27) (.const (.int .i64 1)), (some (24, false)), false⟩,
   ⟨(some 29), .pick (.tmp 24) (.const (.bool true)) (.tmp 28), none, false⟩,
   ⟨(some 30), .mv (.tmp 29), none, false⟩,
   ⟨(some 31), .fadr 3 (.tmp 1), (some (30, false)), false⟩,
   ⟨(some 32), .load1 (.tmp 31), (some (30, false)), false⟩,
   ⟨(some 33), .len (.tmp 32), (some (30, false)), false⟩,
   ⟨(some 34), .bin .gtr (.tmp 33) (.const (.int .i64 30)), (some (30, false)), false⟩,
   ⟨(some 35), .pick (.tmp 30) (.const (.bool true)) (.tmp 34), none, false⟩])
  (.cond (.tmp 35) (.seq (.reg [⟨(some 2), .mv (.const (.bool false)), none, false⟩])
  .ret) .skip))
  (.seq (.seq (.reg [⟨(some 3), .mv (.const (.int .i64 0)), none, false⟩])
  (.blk 0 (.loop (.seq (.seq (.reg [⟨(some 36), .mv (.tmp 3), none, false⟩,
   ⟨(some 37), .fadr 2 (.tmp 1), none, false⟩,
   ⟨(some 38), .load1 (.tmp 37), none, false⟩,
   ⟨(some 39), .len (.tmp 38), none, false⟩,
   ⟨(some 40), .bin .lss (.tmp 36) (.tmp 39), none, false⟩])
  (.cond (.tmp 40) .skip (.exit 0)))
  (.seq (.blk 1 (.seq (.reg [⟨(some 43), .fadr 2 (.tmp 1), none, false⟩,
   ⟨(some 44), .load1 (.tmp 43), none, false⟩,
   ⟨(some 45), .mv (.tmp 3), none, false⟩,
   ⟨(some 46), .ixs 3 (.tmp 44) (.tmp 45), none, false⟩,
   ⟨(some 47), .loadn 3 (.tmp 46), none, false⟩,
   ⟨(some 48), .fadr 1 (.tmp 1), none, false⟩,
   ⟨(some 49), .load1 (.tmp 48), none, false⟩,
   ⟨(some 50), .mv (.tmp 3), none, false⟩,
   ⟨(some 51), .bin .add (.tmp 49) (.tmp 50), none, false⟩,
   ⟨(some 52), .bin .sub (.tmp 51) (.const (.int .i64 1)), none, false⟩,
   ⟨(some 5), .mv (.tmp 52), none, false⟩,
   ⟨(some 4), .boxn 82 3 (.tmp 47), none, false⟩])
  (.seq (.reg [⟨(some 53), .fadr 0 (.tmp 4), none, false⟩,
   ⟨(some 54), .load1 (.tmp 53), none, false⟩,
   ⟨(some 55), .mv (.tmp 5), none, false⟩,
   ⟨(some 56), .call (.func 56) [(.tmp 54), (.const (.int .i64 0)), (.tmp 55)], none, false⟩,
   ⟨(some 57), .un .not (.tmp 56), none, false⟩,
   ⟨(some 58), .mv (.tmp 57), none, false⟩,
   ⟨(some 59), .fadr 1 (.tmp 4), (some (58, false)), false⟩,
   ⟨(some 60), .load1 (.tmp 59), (some (58, false)), false⟩,
   ⟨(some 61), .mv (.tmp 5), (some (58, false)), false⟩,
   ⟨(some 62), .call (.func 56) [(.tmp 60), (.const (.int .i64 0)), (.tmp 61)], (some (58, false)), false⟩,
   ⟨(some 63), .un .not (.tmp 62), (some (58, false)), false⟩,
   ⟨(some 64), .pick (.tmp 58) (.const (.bool true)) (.tmp 63), none, false⟩,
   ⟨(some 65), .mv (.tmp 64), none, false⟩,
   ⟨(some 66), .fadr 0 (.tmp 4), (some (65, false)), false⟩,
   ⟨(some 67), .load1 (.tmp 66), (some (65, false)), false⟩,
   ⟨(some 68), .fadr 1 (.tmp 4), (some (65, false)), false⟩,
   ⟨(some 69), .load1 (.tmp 68), (some (65, false)), false⟩,
   ⟨(some 70), .bin .eql (.tmp 67) (.tmp 69), (some (65, false)), false⟩,
   ⟨(some 71), .pick (.tmp 65) (.const (.bool true)) (.tmp 70), none, false⟩,
   ⟨(some 72), .mv (.tmp 71), none, false⟩,
   ⟨(some 73), .fadr 2 (.tmp 4), (some (72, false)), false⟩,
   ⟨(some 74), .load1 (.tmp 73), (some (72, false)), false⟩,
   ⟨(some 75), .fadr 0 (.tmp 1), (some (72, false)), false⟩,
   ⟨(some 76), .load1 (.tmp 75), (some (72, false)), false⟩,
   ⟨(some 77), .bin .sub (.tmp 76) (.const (.int .i64 1)), (some (72, false)), false⟩,
   ⟨(some 78), .call (.func 56) [(.tmp 74), (.const (.int .i64 1)), (.tmp 77)], (some (72, false)), false⟩,
   ⟨(some 79), .un .not (.tmp 78), (some (72, false)), false⟩,
   ⟨(some 80), .pick (.tmp 72) (.const (.bool true)) (.tmp 79), none, false⟩])
  (.cond (.tmp 80) (.seq (.reg [⟨(some 2), .mv (.const (.bool false)), none, false⟩])
  .ret) .skip))))
  (.reg [⟨(some 41), .mv (.tmp 3), none, false⟩,
   ⟨(some 42), .bin .add (.tmp 41) (.const (.int .i64 1)), none, false⟩,
   ⟨(some 3), .mv (.tmp 42), none, false⟩]))))))
  (.seq (.seq (.reg [⟨(some 6), .mv (.const (.int .i64 0)), none, false⟩])
  (.blk 2 (.loop (.seq (.seq (.reg [⟨(some 81), .mv (.tmp 6), none, false⟩,
   ⟨(some 82), .fadr 3 (.tmp 1), none, false⟩,
   ⟨(some 83), .load1 (.tmp 82), none, false⟩,
   ⟨(some 84), .len (.tmp 83), none, false⟩,
   ⟨(some 85), .bin .lss (.tmp 81) (.tmp 84), none, false⟩])
  (.cond (.tmp 85) .skip (.exit 2)))
  (.seq (.blk 3 (.seq (.reg [⟨(some 88), .fadr 3 (.tmp 1), none, false⟩,
   ⟨(some 89), .load1 (.tmp 88), none, false⟩,
   ⟨(some 90), .mv (.tmp 6), none, false⟩,
   ⟨(some 91), .ixs 2 (.tmp 89) (.tmp 90), none, false⟩,
   ⟨(some 92), .loadn 2 (.tmp 91), none, false⟩,
   ⟨(some 7), .alloc 84 [.int .i64 0, .int .i64 0], none, false⟩,
   ⟨none, .store 2 (.tmp 7) (.tmp 92), none, false⟩])
  (.seq (.reg [⟨(some 93), .fadr 0 (.tmp 7), none, false⟩,
   ⟨(some 94), .load1 (.tmp 93), none, false⟩,
   ⟨(some 95), .fadr 1 (.tmp 1), none, false⟩,
   ⟨(some 96), .load1 (.tmp 95), none, false⟩,
   ⟨(some 97), .fadr 2 (.tmp 1), none, false⟩,
   ⟨(some 98), .load1 (.tmp 97), none, false⟩,
   ⟨(some 99), .len (.tmp 98), none, false⟩,
   ⟨(some 100), .bin .add (.tmp 96) (.tmp 99), none, false⟩,
   ⟨(some 101), .bin .sub (.tmp 100) (.const (.int .i64 1)), none, false⟩,
   ⟨(some 102), .call (.func 56) [(.tmp 94), (.const (.int .i64 0)), (.tmp 101)], none, false⟩,
   ⟨(some 103), .un .not (.tmp 102), none, false⟩,
   ⟨(some 104), .mv (.tmp 103), none, false⟩,
   ⟨(some 105), .fadr 1 (.tmp 7), (some (104, false)), false⟩,
   ⟨(some 106), .load1 (.tmp 105), (some (104, false)), false⟩,
   ⟨(some 107), .fadr 0 (.tmp 1), (some (104, false)), false⟩,
   ⟨(some 108), .load1 (.tmp 107), (some (104, false)), false⟩,
   ⟨(some 109), .bin .sub (.tmp 108) (.const (.int .i64 1)), (some (104, false)), false⟩,
   ⟨(some 110), .call (.func 56) [(.tmp 106), (.const (.int .i64 0)), (.tmp 109)], (some (104, false)), false⟩,
   ⟨(some 111), .un .not (.tmp 110), (some (104, false)), false⟩,
   ⟨(some 112), .pick (.tmp 104) (.const (.bool true)) (.tmp 111), none, false⟩,
   ⟨(some 113), .mv (.tmp 112), none, false⟩,
   ⟨(some 114), .fadr 1 (.tmp 7), (some (113, false)), false⟩,
   ⟨(some 115), .load1 (.tmp 114), (some (113, false)), false⟩,
   ⟨(some 116), .bin .eql (.tmp 115) (.const (.int .i64 0)), (some (113, false)), false⟩,
   ⟨(some 117), .mv (.tmp 116), (some (113, false)), false⟩,
   ⟨(some 118), .fadr 0 (.tmp 7), (some (117, true)), false⟩,
   ⟨(some 119), .load1 (.tmp 118), (some (117, true)), false⟩,
   ⟨(some 120), .bin .neq (.tmp 119) (.const (.int .i64 0)), (some (117, true)), false⟩,
   ⟨(some 121), .pick (.tmp 117) (.tmp 120) (.const (.bool false)), (some (113, false)), false⟩,
   ⟨(some 122), .pick (.tmp 113) (.const (.bool true)) (.tmp 121), none, false⟩])
  (.cond (.tmp 122) (.seq (.reg [⟨(some 2), .mv (.const (.bool false)), none, false⟩])
  .ret) .skip))))
  (.reg [⟨(some 86), .mv (.tmp 6), none, false⟩,
   ⟨(some 87), .bin .add (.tmp 86) (.const (.int .i64 1)), none, false⟩,
   ⟨(some 6), .mv (.tmp 87), none, false⟩]))))))
  (.seq (.reg [⟨(some 2), .mv (.const (.bool true)), none, false⟩])
  .ret)))))⟩

/-- loop.example/g01262/spec.IsProgram -/
def c25 : XFn :=
 ⟨[.tmp 2],
  (.seq (.reg [⟨(some 1), .box 45 (.tmp 0), none, false⟩,
   ⟨(some 2), .mv (.const (.bool false)), none, false⟩])
  (.seq (.reg [⟨(some 3), .loadn 4 (.tmp 1), none, false⟩,
   ⟨(some 4), .call (.func 66) [(.tmp 3)], none, false⟩,
   ⟨(some 2), .mv (.tmp 4), none, false⟩])
  .ret))⟩

/-- loop.example/g01262/laws.toStep -/
def c95 : XFn :=
 ⟨[.celln 2 3],
  (.seq (.reg [⟨(some 1), .box 105 (.tmp 0), none, false⟩,
   ⟨(some 2), .alloc 82 [.int .i64 0, .int .i64 0, .int .i64 0], none, false⟩])
  (.seq (.reg [⟨(some 3), .alloc 82 [.int .i64 0, .int .i64 0, .int .i64 0], none, false⟩])
  (.seq (.reg [⟨(some 4), .fadr 0 (.tmp 1), none, false⟩,
   ⟨(some 5), .load1 (.tmp 4), none, false⟩,
   ⟨(some 6), .fadr 0 (.tmp 3), none, false⟩,
   ⟨none, .store 1 (.tmp 6) (.tmp 5), none, false⟩])
  (.seq (.reg [⟨(some 7), .fadr 1 (.tmp 1), none, false⟩,
   ⟨(some 8), .load1 (.tmp 7), none, false⟩,
   ⟨(some 9), .fadr 1 (.tmp 3), none, false⟩,
   ⟨none, .store 1 (.tmp 9) (.tmp 8), none, false⟩])
  (.seq (.reg [⟨(some 10), .fadr 2 (.tmp 1), none, false⟩,
   ⟨(some 11), .load1 (.tmp 10), none, false⟩,
   ⟨(some 12), .fadr 2 (.tmp 3), none, false⟩,
   ⟨none, .store 1 (.tmp 12) (.tmp 11), none, false⟩])
  (.seq (.reg [⟨(some 13), .loadn 3 (.tmp 3), none, false⟩,
   ⟨none, .store 3 (.tmp 2) (.tmp 13), none, false⟩])
  .ret))))))⟩

/-- loop.example/g01262/laws.toStepS -/
def c67 : XFn :=
 ⟨[.tmp 2],
  (.seq (.reg [⟨(some 2), .mv (.const (.slice none 0 0)), none, false⟩])
  (.seq (.reg [⟨(some 5), .mv (.tmp 0), none, false⟩,
   ⟨(some 6), .len (.tmp 5), none, false⟩,
   ⟨(some 7), .mks 82 3 24 [.int .i64 0, .int .i64 0, .int .i64 0] (.tmp 6), none, false⟩,
   ⟨(some 3), .mv (.tmp 7), none, false⟩])
  (.seq (.seq (.reg [⟨(some 4), .mv (.const (.int .i64 0)), none, false⟩])
  (.blk 0 (.loop (.seq (.seq (.reg [⟨(some 8), .mv (.tmp 4), none, false⟩,
   ⟨(some 9), .mv (.tmp 0), none, false⟩,
   ⟨(some 10), .len (.tmp 9), none, false⟩,
   ⟨(some 11), .bin .lss (.tmp 8) (.tmp 10), none, false⟩])
  (.cond (.tmp 11) .skip (.exit 0)))
  (.seq (.blk 1 (.reg [⟨(some 14), .mv (.tmp 3), none, false⟩,
   ⟨(some 15), .mv (.tmp 4), none, false⟩,
   ⟨(some 16), .mv (.tmp 0), none, false⟩,
   ⟨(some 17), .mv (.tmp 4), none, false⟩,
   ⟨(some 18), .ixs 3 (.tmp 16) (.tmp 17), none, false⟩,
   ⟨(some 19), .loadn 3 (.tmp 18), none, false⟩,
   ⟨(some 20), .call (.func 95) [(.tmp 19)], none, false⟩,
   ⟨(some 21), .ixs 3 (.tmp 14) (.tmp 15), none, false⟩,
   ⟨none, .store 3 (.tmp 21) (.tmp 20), none, false⟩]))
  (.reg [⟨(some 12), .mv (.tmp 4), none, false⟩,
   ⟨(some 13), .bin .add (.tmp 12) (.const (.int .i64 1)), none, false⟩,
   ⟨(some 4), .mv (.tmp 13), none, false⟩]))))))
  (.seq (.reg [⟨(some 22), .mv (.tmp 3), none, false⟩,
   ⟨(some 2), .mv (.tmp 22), none, false⟩])
  .ret))))⟩

/-- loop.example/g01262/laws.toOutput -/
def c96 : XFn :=
 ⟨[.celln 2 2],
  (.seq (.reg [⟨(some 1), .box 107 (.tmp 0), none, false⟩,
   ⟨(some 2), .alloc 84 [.int .i64 0, .int .i64 0], none, false⟩])
  (.seq (.reg [⟨(some 3), .alloc 84 [.int .i64 0, .int .i64 0], none, false⟩])
  (.seq (.reg [⟨(some 4), .fadr 0 (.tmp 1), none, false⟩,
   ⟨(some 5), .load1 (.tmp 4), none, false⟩,
   ⟨(some 6), .fadr 0 (.tmp 3), none, false⟩,
   ⟨none, .store 1 (.tmp 6) (.tmp 5), none, false⟩])
  (.seq (.reg [⟨(some 7), .fadr 1 (.tmp 1), none, false⟩,
   ⟨(some 8), .load1 (.tmp 7), none, false⟩,
   ⟨(some 9), .fadr 1 (.tmp 3), none, false⟩,
   ⟨none, .store 1 (.tmp 9) (.tmp 8), none, false⟩])
  (.seq (.reg [⟨(some 10), .loadn 2 (.tmp 3), none, false⟩,
   ⟨none, .store 2 (.tmp 2) (.tmp 10), none, false⟩])
  .ret)))))⟩

/-- loop.example/g01262/laws.toOutputS -/
def c68 : XFn :=
 ⟨[.tmp 2],
  (.seq (.reg [⟨(some 2), .mv (.const (.slice none 0 0)), none, false⟩])
  (.seq (.reg [⟨(some 5), .mv (.tmp 0), none, false⟩,
   ⟨(some 6), .len (.tmp 5), none, false⟩,
   ⟨(some 7), .mks 84 2 16 [.int .i64 0, .int .i64 0] (.tmp 6), none, false⟩,
   ⟨(some 3), .mv (.tmp 7), none, false⟩])
  (.seq (.seq (.reg [⟨(some 4), .mv (.const (.int .i64 0)), none, false⟩])
  (.blk 0 (.loop (.seq (.seq (.reg [⟨(some 8), .mv (.tmp 4), none, false⟩,
   ⟨(some 9), .mv (.tmp 0), none, false⟩,
   ⟨(some 10), .len (.tmp 9), none, false⟩,
   ⟨(some 11), .bin .lss (.tmp 8) (.tmp 10), none, false⟩])
  (.cond (.tmp 11) .skip (.exit 0)))
  (.seq (.blk 1 (.reg [⟨(some 14), .mv (.tmp 3), none, false⟩,
   ⟨(some 15), .mv (.tmp 4), none, false⟩,
   ⟨(some 16), .mv (.tmp 0), none, false⟩,
   ⟨(some 17), .mv (.tmp 4), none, false⟩,
   ⟨(some 18), .ixs 2 (.tmp 16) (.tmp 17), none, false⟩,
   ⟨(some 19), .loadn 2 (.tmp 18), none, false⟩,
   ⟨(some 20), .call (.func 96) [(.tmp 19)], none, false⟩,
   ⟨(some 21), .ixs 2 (.tmp 14) (.tmp 15), none, false⟩,
   ⟨none, .store 2 (.tmp 21) (.tmp 20), none, false⟩]))
  (.reg [⟨(some 12), .mv (.tmp 4), none, false⟩,
   ⟨(some 13), .bin .add (.tmp 12) (.const (.int .i64 1)), none, false⟩,
   ⟨(some 4), .mv (.tmp 13), none, false⟩]))))))
  (.seq (.reg [⟨(some 22), .mv (.tmp 3), none, false⟩,
   ⟨(some 2), .mv (.tmp 22), none, false⟩])
  .ret))))⟩

/-- loop.example/g01262/laws.toProgram -/
def c26 : XFn :=
 ⟨[.celln 2 4],
  (.seq (.reg [⟨(some 1), .box 39 (.tmp 0), none, false⟩,
   ⟨(some 2), .alloc 45 [.int .i64 0, .int .i64 0, .slice none 0 0, .slice none 0 0], none, false⟩])
  (.seq (.reg [⟨(some 3), .alloc 45 [.int .i64 0, .int .i64 0, .slice none 0 0, .slice none 0 0], none, false⟩])
  (.seq (.reg [⟨(some 4), .fadr 0 (.tmp 1), none, false⟩,
   ⟨(some 5), .load1 (.tmp 4), none, false⟩,
   ⟨(some 6), .fadr 0 (.tmp 3), none, false⟩,
   ⟨none, .store 1 (.tmp 6) (.tmp 5), none, false⟩])
  (.seq (.reg [⟨(some 7), .fadr 1 (.tmp 1), none, false⟩,
   ⟨(some 8), .load1 (.tmp 7), none, false⟩,
   ⟨(some 9), .fadr 1 (.tmp 3), none, false⟩,
   ⟨none, .store 1 (.tmp 9) (.tmp 8), none, false⟩])
  (.seq (.reg [⟨(some 10), .fadr 2 (.tmp 1), none, false⟩,
   ⟨(some 11), .load1 (.tmp 10), none, false⟩,
   ⟨(some 12), .call (.func 67) [(.tmp 11)], none, false⟩,
   ⟨(some 13), .fadr 2 (.tmp 3), none, false⟩,
   ⟨none, .store 1 (.tmp 13) (.tmp 12), none, false⟩])
  (.seq (.reg [⟨(some 14), .fadr 3 (.tmp 1), none, false⟩,
   ⟨(some 15), .load1 (.tmp 14), none, false⟩,
   ⟨(some 16), .call (.func 68) [(.tmp 15)], none, false⟩,
   ⟨(some 17), .fadr 3 (.tmp 3), none, false⟩,
   ⟨none, .store 1 (.tmp 17) (.tmp 16), none, false⟩])
  (.seq (.reg [⟨(some 18), .loadn 4 (.tmp 3), none, false⟩,
   ⟨none, .store 4 (.tmp 2) (.tmp 18), none, false⟩])
  .ret)))))))⟩

/-- loop.example/g01262/impl.IsProgram -/
def c27 : XFn :=
 ⟨[.tmp 2],
  (.seq (.reg [⟨(some 1), .box 45 (.tmp 0), none, false⟩,
   ⟨(some 2), .mv (.const (.bool false)), none, false⟩])
  (.seq (.seq (.reg [⟨(some 9), .fadr 0 (.tmp 1), none, false⟩,
   ⟨(some 10), .load1 (.tmp 9), none, false⟩,
   ⟨(some 11), .call (.func 59) [(.tmp 10)], none, false⟩,
   ⟨(some 12), .un .not (.tmp 11), none, false⟩,
   ⟨(some 13), .mv (.tmp 12), none, false⟩,
   ⟨(some 14), .fadr 1 (.tmp 1), (some (13, false)), false⟩,
   ⟨(some 15), .load1 (.tmp 14), (some (13, false)), false⟩,
   ⟨(some 16), .bin .lss (.tmp 15) (.const (.int .i64 1)), (some (13, false)), false⟩,
   ⟨(some 17), .pick (.tmp 13) (.const (.bool true)) (.tmp 16), none, false⟩,
   ⟨(some 18), .mv (.tmp 17), none, false⟩,
   ⟨(some 19), .fadr 1 (.tmp 1), (some (18, false)), false⟩,
   ⟨(some 20), .load1 (.tmp 19), (some (18, false)), false⟩,
   ⟨(some 21), .bin .gtr (.tmp 20) (.const (.int .i64 30)), (some (18, false)), false⟩,
   ⟨(some 22), .pick (.tmp 18) (.const (.bool true)) (.tmp 21), none, false⟩,
   ⟨(some 23), .mv (.tmp 22), none, false⟩,
   ⟨(some 24), .fadr 2 (.tmp 1), (some (23, false)), false⟩,
   ⟨(some 25), .load1 (.tmp 24), (some (23, false)), false⟩,
   ⟨(some 26), .len (.tmp 25), (some (23, false)), false⟩,
   ⟨(some 27), .bin .gtr (.tmp 26) (.const (.int .i64 900)), (some (23, false)), false⟩,
   ⟨(some 28), .pick (.tmp 23) (.const (.bool true)) (.tmp 27), none, false⟩,
   ⟨(some 29), .mv (.tmp 28), none, false⟩,
   ⟨(some 30), .fadr 3 (.tmp 1), (some (29, false)), false⟩,
   ⟨(some 31), .load1 (.tmp 30), (some (29, false)), false⟩,
   ⟨(some 32), .len (.tmp 31), (some (29, false)), false⟩,
   ⟨(some 33), .bin .lss (.tmp 32) (.const (.int .i64 1)), (some (29, false)), false⟩,
   ⟨(some 34), .pick (.tmp 29) (.const (.bool true)) (.tmp 33), none, false⟩,
   ⟨(some 35), .mv (.tmp 34), none, false⟩,
   ⟨(some 36), .fadr 3 (.tmp 1), (some (35, false)), false⟩,
   ⟨(some 37), .load1 (.tmp 36), (some (35, false)), false⟩,
   ⟨(some 38), .len (.tmp 37), (some (35, false)), false⟩,
   ⟨(some 39), .bin .gtr (.tmp 38) (.const (.int .i64 30)), (some (35, false)), false⟩,
   ⟨(some 40), .pick (.tmp 35) (.const (.bool true)) (.tmp 39), none, false⟩])
  (.cond (.tmp 40) (.seq (.reg [⟨(some 2), .mv (.const (.bool false)), none, false⟩])
  .ret) .skip))
  (.seq (.seq (.reg [⟨(some 41), .fadr 2 (.tmp 1), none, false⟩,
   ⟨(some 42), .load1 (.tmp 41), none, false⟩,
   ⟨(some 43), .len (.tmp 42), none, false⟩,
   ⟨(some 44), .mv (.const (.int .i64 0)), none, false⟩])
  (.blk 0 (.loop (.seq (.reg [⟨(some 45), .bin .lss (.tmp 44) (.tmp 43), none, false⟩])
  (.seq (.cond (.tmp 45) .skip (.exit 0))
  (.seq (.blk 1 (.seq (.reg [⟨(some 46), .mv (.tmp 44), none, false⟩,
   ⟨(some 47), .ixs 3 (.tmp 42) (.tmp 44), none, false⟩,
   ⟨(some 48), .loadn 3 (.tmp 47), none, false⟩,
   ⟨(some 4), .alloc 82 [.int .i64 0, .int .i64 0, .int .i64 0], none, false⟩,
   ⟨(some 3), .mv (.tmp 46), none, false⟩,
   ⟨none, .store 3 (.tmp 4) (.tmp 48), none, false⟩])
  (.seq (.reg [⟨(some 49), .fadr 1 (.tmp 1), none, false⟩,
   ⟨(some 50), .load1 (.tmp 49), none, false⟩,
   ⟨(some 51), .mv (.tmp 3), none, false⟩,
   ⟨(some 52), .bin .add (.tmp 50) (.tmp 51), none, false⟩,
   ⟨(some 5), .mv (.tmp 52), none, false⟩])
  (.seq (.reg [⟨(some 53), .fadr 0 (.tmp 4), none, false⟩,
   ⟨(some 54), .load1 (.tmp 53), none, false⟩,
   ⟨(some 55), .bin .lss (.tmp 54) (.const (.int .i64 0)), none, false⟩,
   ⟨(some 56), .mv (.tmp 55), none, false⟩,
   ⟨(some 57), .fadr 0 (.tmp 4), (some (56, false)), false⟩,
   ⟨(some 58), .load1 (.tmp 57), (some (56, false)), false⟩,
   ⟨(some 59), .mv (.tmp 5), (some (56, false)), false⟩,
   ⟨(some 60), .bin .geq (.tmp 58) (.tmp 59), (some (56, false)), false⟩,
   ⟨(some 61), .pick (.tmp 56) (.const (.bool true)) (.tmp 60), none, false⟩,
   ⟨(some 62), .mv (.tmp 61), none, false⟩,
   ⟨(some 63), .fadr 1 (.tmp 4), (some (62, false)), false⟩,
   ⟨(some 64), .load1 (.tmp 63), (some (62, false)), false⟩,
   ⟨(some 65), .bin .lss (.tmp 64) (.const (.int .i64 0)), (some (62, false)), false⟩,
   ⟨(some 66), .pick (.tmp 62) (.const (.bool true)) (.tmp 65), none, false⟩,
   ⟨(some 67), .mv (.tmp 66), none, false⟩,
   ⟨(some 68), .fadr 1 (.tmp 4), (some (67, false)), false⟩,
   ⟨(some 69), .load1 (.tmp 68), (some (67, false)), false⟩,
   ⟨(some 70), .mv (.tmp 5), (some (67, false)), false⟩,
   ⟨(some 71), .bin .geq (.tmp 69) (.tmp 70), (some (67, false)), false⟩,
   ⟨(some 72), .pick (.tmp 67) (.const (.bool true)) (.tmp 71), none, false⟩,
   ⟨(some 73), .mv (.tmp 72), none, false⟩,
   ⟨(some 74), .fadr 0 (.tmp 4), (some (73, false)), false⟩,
   ⟨(some 75), .load1 (.tmp 74), (some (73, false)), false⟩,
   ⟨(some 76), .fadr 1 (.tmp 4), (some (73, false)), false⟩,
   ⟨(some 77), .load1 (.tmp 76), (some (73, false)), false⟩,
   ⟨(some 78), .bin .eql (.tmp 75) (.tmp 77), (some (73, false)), false⟩,
   ⟨(some 79), .pick (.tmp 73) (.const (.bool true)) (.tmp 78), none, false⟩,
   ⟨(some 80), .mv (.tmp 79), none, false⟩,
   ⟨(some 81), .fadr 2 (.tmp 4), (some (80, false)), false⟩,
   ⟨(some 82), .load1 (.tmp 81), (some (80, false)), false⟩,
   ⟨(some 83), .bin .lss (.tmp 82) (.const (.int .i64 1)), (some (80, false)), false⟩,
   ⟨(some 84), .pick (.tmp 80) (.const (.bool true)) (.tmp 83), none, false⟩,
   ⟨(some 85), .mv (.tmp 84), none, false⟩,
   ⟨(some 86), .fadr 2 (.tmp 4), (some (85, false)), false⟩,
   ⟨(some 87), .load1 (.tmp 86), (some (85, false)), false⟩,
   ⟨(some 88), .fadr 0 (.tmp 1), (some (85, false)), false⟩,
   ⟨(some 89), .load1 (.tmp 88), (some (85, false)), false⟩,
   ⟨(some 90), .bin .geq (.tmp 87) (.tmp 89), (some (85, false)), false⟩,
   ⟨(some 91), .pick (.tmp 85) (.const (.bool true)) (.tmp 90), none, false⟩])
  (.cond (.tmp 91) (.seq (.reg [⟨(some 2), .mv (.const (.bool false)), none, false⟩])
  .ret) .skip)))))
  (.reg [⟨(some 92), .bin .add (.tmp 44) (.const (.int .i64 1)), none, false⟩,
   ⟨(some 44), .mv (.tmp 92), none, false⟩])))))))
  (.seq (.reg [⟨(some 93), .fadr 1 (.tmp 1), none, false⟩,
   ⟨(some 94), .load1 (.tmp 93), none, false⟩,
   ⟨(some 95), .fadr 2 (.tmp 1), none, false⟩,
   ⟨(some 96), .load1 (.tmp 95), none, false⟩,
   ⟨(some 97), .len (.tmp 96), none, false⟩,
   ⟨(some 98), .bin .add (.tmp 94) (.tmp 97), none, false⟩,
   ⟨(some 6), .mv (.tmp 98), none, false⟩])
  (.seq (.seq (.reg [⟨(some 99), .fadr 3 (.tmp 1), none, false⟩,
   ⟨(some 100), .load1 (.tmp 99), none, false⟩,
   ⟨(some 101), .len (.tmp 100), none, false⟩,
   ⟨(some 102), .mv (.const (.int .i64 0)), none, false⟩])
  (.blk 2 (.loop (.seq (.reg [⟨(some 103), .bin .lss (.tmp 102) (.tmp 101), none, false⟩])
  (.seq (.cond (.tmp 103) .skip (.exit 2))
  (.seq (.blk 3 (.seq (.reg [⟨(some 104), .ixs 2 (.tmp 100) (.tmp 102), none, false⟩,
   ⟨(some 105), .loadn 2 (.tmp 104), none, false⟩,
   ⟨(some 8), .alloc 84 [.int .i64 0, .int .i64 0], none, false⟩,
   ⟨none, .store 2 (.tmp 8) (.tmp 105), none, false⟩])
  (.seq (.reg [⟨(some 106), .fadr 0 (.tmp 8), none, false⟩,
   ⟨(some 107), .load1 (.tmp 106), none, false⟩,
   ⟨(some 108), .bin .lss (.tmp 107) (.const (.int .i64 0)), none, false⟩,
   ⟨(some 109), .mv (.tmp 108), none, false⟩,
   ⟨(some 110), .fadr 0 (.tmp 8), (some (109, false)), false⟩,
   ⟨(some 111), .load1 (.tmp 110), (some (109, false)), false⟩,
   ⟨(some 112), .mv (.tmp 6), (some (109, false)), false⟩,
   ⟨(some 113), .bin .geq (.tmp 111) (.tmp 112), (some (109, false)), false⟩,
   ⟨(some 114), .pick (.tmp 109) (.const (.bool true)) (.tmp 113), none, false⟩,
   ⟨(some 115), .mv (.tmp 114), none, false⟩,
   ⟨(some 116), .fadr 1 (.tmp 8), (some (115, false)), false⟩,
   ⟨(some 117), .load1 (.tmp 116), (some (115, false)), false⟩,
   ⟨(some 118), .bin .lss (.tmp 117) (.const (.int .i64 0)), (some (115, false)), false⟩,
   ⟨(some 119), .pick (.tmp 115) (.const (.bool true)) (.tmp 118), none, false⟩,
   ⟨(some 120), .mv (.tmp 119), none, false⟩,
   ⟨(some 121), .fadr 1 (.tmp 8), (some (120, false)), false⟩,
   ⟨(some 122), .load1 (.tmp 121), (some (120, false)), false⟩,
   ⟨(some 123), .fadr 0 (.tmp 1), (some (120, false)), false⟩,
   ⟨(some 124), .load1 (.tmp 123), (some (120, false)), false⟩,
   ⟨(some 125), .bin .geq (.tmp 122) (.tmp 124), (some (120, false)), false⟩,
   ⟨(some 126), .pick (.tmp 120) (.const (.bool true)) (.tmp 125), none, false⟩,
   ⟨(some 127), .mv (.tmp 126), none, false⟩,
   ⟨(some 128), .fadr 1 (.tmp 8), (some (127, false)), false⟩,
   ⟨(some 129), .load1 (.tmp 128), (some (127, false)), false⟩,
   ⟨(some 130), .bin .eql (.tmp 129) (.const (.int .i64 0)), (some (127, false)), false⟩,
   ⟨(some 131), .mv (.tmp 130), (some (127, false)), false⟩,
   ⟨(some 132), .fadr 0 (.tmp 8), (some (131, true)), false⟩,
   ⟨(some 133), .load1 (.tmp 132), (some (131, true)), false⟩,
   ⟨(some 134), .bin .neq (.tmp 133) (.const (.int .i64 0)), (some (131, true)), false⟩,
   ⟨(some 135), .pick (.tmp 131) (.tmp 134) (.const (.bool false)), (some (127, false)), false⟩,
   ⟨(some 136), .pick (.tmp 127) (.const (.bool true)) (.tmp 135), none, false⟩])
  (.cond (.tmp 136) (.seq (.reg [⟨(some 2), .mv (.const (.bool false)), none, false⟩])
  .ret) .skip))))
  (.reg [⟨(some 137), .bin .add (.tmp 102) (.const (.int .i64 1)), none, false⟩,
   ⟨(some 102), .mv (.tmp 137), none, false⟩])))))))
  (.seq (.reg [⟨(some 2), .mv (.const (.bool true)), none, false⟩])
  .ret))))))⟩

/-- loop.example/g01262/laws.eqStep -/
def c97 : XFn :=
 ⟨[.tmp 4],
  (.seq (.reg [⟨(some 2), .box 82 (.tmp 0), none, false⟩,
   ⟨(some 3), .box 82 (.tmp 1), none, false⟩,
   ⟨(some 4), .mv (.const (.bool false)), none, false⟩])
  (.seq (.seq (.reg [⟨(some 5), .fadr 0 (.tmp 2), none, false⟩,
   ⟨(some 6), .load1 (.tmp 5), none, false⟩,
   ⟨(some 7), .fadr 0 (.tmp 3), none, false⟩,
   ⟨(some 8), .load1 (.tmp 7), none, false⟩,
   ⟨(some 9), .bin .neq (.tmp 6) (.tmp 8), none, false⟩])
  (.cond (.tmp 9) (.seq (.reg [⟨(some 4), .mv (.const (.bool false)), none, false⟩])
  .ret) .skip))
  (.seq (.seq (.reg [⟨(some 10), .fadr 1 (.tmp 2), none, false⟩,
   ⟨(some 11), .load1 (.tmp 10), none, false⟩,
   ⟨(some 12), .fadr 1 (.tmp 3), none, false⟩,
   ⟨(some 13), .load1 (.tmp 12), none, false⟩,
   ⟨(some 14), .bin .neq (.tmp 11) (.tmp 13), none, false⟩])
  (.cond (.tmp 14) (.seq (.reg [⟨(some 4), .mv (.const (.bool false)), none, false⟩])
  .ret) .skip))
  (.seq (.seq (.reg [⟨(some 15), .fadr 2 (.tmp 2), none, false⟩,
   ⟨(some 16), .load1 (.tmp 15), none, false⟩,
   ⟨(some 17), .fadr 2 (.tmp 3), none, false⟩,
   ⟨(some 18), .load1 (.tmp 17), none, false⟩,
   ⟨(some 19), .bin .neq (.tmp 16) (.tmp 18), none, false⟩])
  (.cond (.tmp 19) (.seq (.reg [⟨(some 4), .mv (.const (.bool false)), none, false⟩])
  .ret) .skip))
  (.seq (.reg [⟨(some 4), .mv (.const (.bool true)), none, false⟩])
  .ret)))))⟩

/-- loop.example/g01262/laws.eqStepS -/
def c69 : XFn :=
 ⟨[.tmp 4],
  (.seq (.reg [⟨(some 4), .mv (.const (.bool false)), none, false⟩])
  (.seq (.seq (.reg [⟨(some 6), .mv (.tmp 0), none, false⟩,
   ⟨(some 7), .len (.tmp 6), none, false⟩,
   ⟨(some 8), .mv (.tmp 1), none, false⟩,
   ⟨(some 9), .len (.tmp 8), none, false⟩,
   ⟨(some 10), .bin .neq (.tmp 7) (.tmp 9), none, false⟩])
  (.cond (.tmp 10) (.seq (.reg [⟨(some 4), .mv (.const (.bool false)), none, false⟩])
  .ret) .skip))
  (.seq (.seq (.reg [⟨(some 5), .mv (.const (.int .i64 0)), none, false⟩])
  (.blk 0 (.loop (.seq (.seq (.reg [⟨(some 11), .mv (.tmp 5), none, false⟩,
   ⟨(some 12), .mv (.tmp 0), none, false⟩,
   ⟨(some 13), .len (.tmp 12), none, false⟩,
   ⟨(some 14), .bin .lss (.tmp 11) (.tmp 13), none, false⟩])
  (.cond (.tmp 14) .skip (.exit 0)))
  (.seq (.blk 1 (.seq (.reg [⟨(some 17), .mv (.tmp 0), none, false⟩,
   ⟨(some 18), .mv (.tmp 5), none, false⟩,
   ⟨(some 19), .ixs 3 (.tmp 17) (.tmp 18), none, false⟩,
   ⟨(some 20), .loadn 3 (.tmp 19), none, false⟩,
   ⟨(some 21), .mv (.tmp 1), none, false⟩,
   ⟨(some 22), .mv (.tmp 5), none, false⟩,
   ⟨(some 23), .ixs 3 (.tmp 21) (.tmp 22), none, false⟩,
   ⟨(some 24), .loadn 3 (.tmp 23), none, false⟩,
   ⟨(some 25), .call (.func 97) [(.tmp 20), (.tmp 24)], none, false⟩,
   ⟨(some 26), .un .not (.tmp 25), none, false⟩])
  (.cond (.tmp 26) (.seq (.reg [⟨(some 4), .mv (.const (.bool false)), none, false⟩])
  .ret) .skip)))
  (.reg [⟨(some 15), .mv (.tmp 5), none, false⟩,
   ⟨(some 16), .bin .add (.tmp 15) (.const (.int .i64 1)), none, false⟩,
   ⟨(some 5), .mv (.tmp 16), none, false⟩]))))))
  (.seq (.reg [⟨(some 4), .mv (.const (.bool true)), none, false⟩])
  .ret))))⟩

/-- loop.example/g01262/laws.eqOutput -/
def c98 : XFn :=
 ⟨[.tmp 4],
  (.seq (.reg [⟨(some 2), .box 84 (.tmp 0), none, false⟩,
   ⟨(some 3), .box 84 (.tmp 1), none, false⟩,
   ⟨(some 4), .mv (.const (.bool false)), none, false⟩])
  (.seq (.seq (.reg [⟨(some 5), .fadr 0 (.tmp 2), none, false⟩,
   ⟨(some 6), .load1 (.tmp 5), none, false⟩,
   ⟨(some 7), .fadr 0 (.tmp 3), none, false⟩,
   ⟨(some 8), .load1 (.tmp 7), none, false⟩,
   ⟨(some 9), .bin .neq (.tmp 6) (.tmp 8), none, false⟩])
  (.cond (.tmp 9) (.seq (.reg [⟨(some 4), .mv (.const (.bool false)), none, false⟩])
  .ret) .skip))
  (.seq (.seq (.reg [⟨(some 10), .fadr 1 (.tmp 2), none, false⟩,
   ⟨(some 11), .load1 (.tmp 10), none, false⟩,
   ⟨(some 12), .fadr 1 (.tmp 3), none, false⟩,
   ⟨(some 13), .load1 (.tmp 12), none, false⟩,
   ⟨(some 14), .bin .neq (.tmp 11) (.tmp 13), none, false⟩])
  (.cond (.tmp 14) (.seq (.reg [⟨(some 4), .mv (.const (.bool false)), none, false⟩])
  .ret) .skip))
  (.seq (.reg [⟨(some 4), .mv (.const (.bool true)), none, false⟩])
  .ret))))⟩

/-- loop.example/g01262/laws.eqOutputS -/
def c70 : XFn :=
 ⟨[.tmp 4],
  (.seq (.reg [⟨(some 4), .mv (.const (.bool false)), none, false⟩])
  (.seq (.seq (.reg [⟨(some 6), .mv (.tmp 0), none, false⟩,
   ⟨(some 7), .len (.tmp 6), none, false⟩,
   ⟨(some 8), .mv (.tmp 1), none, false⟩,
   ⟨(some 9), .len (.tmp 8), none, false⟩,
   ⟨(some 10), .bin .neq (.tmp 7) (.tmp 9), none, false⟩])
  (.cond (.tmp 10) (.seq (.reg [⟨(some 4), .mv (.const (.bool false)), none, false⟩])
  .ret) .skip))
  (.seq (.seq (.reg [⟨(some 5), .mv (.const (.int .i64 0)), none, false⟩])
  (.blk 0 (.loop (.seq (.seq (.reg [⟨(some 11), .mv (.tmp 5), none, false⟩,
   ⟨(some 12), .mv (.tmp 0), none, false⟩,
   ⟨(some 13), .len (.tmp 12), none, false⟩,
   ⟨(some 14), .bin .lss (.tmp 11) (.tmp 13), none, false⟩])
  (.cond (.tmp 14) .skip (.exit 0)))
  (.seq (.blk 1 (.seq (.reg [⟨(some 17), .mv (.tmp 0), none, false⟩,
   ⟨(some 18), .mv (.tmp 5), none, false⟩,
   ⟨(some 19), .ixs 2 (.tmp 17) (.tmp 18), none, false⟩,
   ⟨(some 20), .loadn 2 (.tmp 19), none, false⟩,
   ⟨(some 21), .mv (.tmp 1), none, false⟩,
   ⟨(some 22), .mv (.tmp 5), none, false⟩,
   ⟨(some 23), .ixs 2 (.tmp 21) (.tmp 22), none, false⟩,
   ⟨(some 24), .loadn 2 (.tmp 23), none, false⟩,
   ⟨(some 25), .call (.func 98) [(.tmp 20), (.tmp 24)], none, false⟩,
   ⟨(some 26), .un .not (.tmp 25), none, false⟩])
  (.cond (.tmp 26) (.seq (.reg [⟨(some 4), .mv (.const (.bool false)), none, false⟩])
  .ret) .skip)))
  (.reg [⟨(some 15), .mv (.tmp 5), none, false⟩,
   ⟨(some 16), .bin .add (.tmp 15) (.const (.int .i64 1)), none, false⟩,
   ⟨(some 5), .mv (.tmp 16), none, false⟩]))))))
  (.seq (.reg [⟨(some 4), .mv (.const (.bool true)), none, false⟩])
  .ret))))⟩

/-- loop.example/g01262/laws.eqProgram -/
def c28 : XFn :=
 ⟨[.tmp 4],
  (.seq (.reg [⟨(some 2), .box 45 (.tmp 0), none, false⟩,
   ⟨(some 3), .box 45 (.tmp 1), none, false⟩,
   ⟨(some 4), .mv (.const (.bool false)), none, false⟩])
  (.seq (.seq (.reg [⟨(some 5), .fadr 0 (.tmp 2), none, false⟩,
   ⟨(some 6), .load1 (.tmp 5), none, false⟩,
   ⟨(some 7), .fadr 0 (.tmp 3), none, false⟩,
   ⟨(some 8), .load1 (.tmp 7), none, false⟩,
   ⟨(some 9), .bin .neq (.tmp 6) (.tmp 8), none, false⟩])
  (.cond (.tmp 9) (.seq (.reg [⟨(some 4), .mv (.const (.bool false)), none, false⟩])
  .ret) .skip))
  (.seq (.seq (.reg [⟨(some 10), .fadr 1 (.tmp 2), none, false⟩,
   ⟨(some 11), .load1 (.tmp 10), none, false⟩,
   ⟨(some 12), .fadr 1 (.tmp 3), none, false⟩,
   ⟨(some 13), .load1 (.tmp 12), none, false⟩,
   ⟨(some 14), .bin .neq (.tmp 11) (.tmp 13), none, false⟩])
  (.cond (.tmp 14) (.seq (.reg [⟨(some 4), .mv (.const (.bool false)), none, false⟩])
  .ret) .skip))
  (.seq (.seq (.reg [⟨(some 15), .fadr 2 (.tmp 2), none, false⟩,
   ⟨(some 16), .load1 (.tmp 15), none, false⟩,
   ⟨(some 17), .fadr 2 (.tmp 3), none, false⟩,
   ⟨(some 18), .load1 (.tmp 17), none, false⟩,
   ⟨(some 19), .call (.func 69) [(.tmp 16), (.tmp 18)], none, false⟩,
   ⟨(some 20), .un .not (.tmp 19), none, false⟩])
  (.cond (.tmp 20) (.seq (.reg [⟨(some 4), .mv (.const (.bool false)), none, false⟩])
  .ret) .skip))
  (.seq (.seq (.reg [⟨(some 21), .fadr 3 (.tmp 2), none, false⟩,
   ⟨(some 22), .load1 (.tmp 21), none, false⟩,
   ⟨(some 23), .fadr 3 (.tmp 3), none, false⟩,
   ⟨(some 24), .load1 (.tmp 23), none, false⟩,
   ⟨(some 25), .call (.func 70) [(.tmp 22), (.tmp 24)], none, false⟩,
   ⟨(some 26), .un .not (.tmp 25), none, false⟩])
  (.cond (.tmp 26) (.seq (.reg [⟨(some 4), .mv (.const (.bool false)), none, false⟩])
  .ret) .skip))
  (.seq (.reg [⟨(some 4), .mv (.const (.bool true)), none, false⟩])
  .ret))))))⟩

/-- loop.example/g01262/laws.FnExactIsProgram -/
def c6 : XFn :=
 ⟨[.tmp 2],
  (.seq (.reg [⟨(some 1), .box 39 (.tmp 0), none, false⟩,
   ⟨(some 2), .mv (.const (.bool false)), none, false⟩])
  (.seq (.reg [⟨(some 3), .mv (.const (.int .i64 1048576)), none, false⟩])
  (.seq (.reg [⟨(some 7), .loadn 4 (.tmp 1), none, false⟩,
   ⟨(some 8), .mv (.tmp 3), none, false⟩,
   ⟨(some 9), .call (.func 24) [(.tmp 7), (.tmp 8)], none, false⟩,
   ⟨(some 3), .mv (.tmp 9), none, false⟩])
  (.seq (.seq (.reg [⟨(some 10), .mv (.tmp 3), none, false⟩,
   ⟨(some 11), .bin .lss (.tmp 10) (.const (.int .i64 0)), none, false⟩])
  (.cond (.tmp 11) (.seq (.reg [⟨(some 2), .mv (.const (.bool true)), none, false⟩])
  .ret) .skip))
  (.seq (.reg [⟨(some 12), .loadn 4 (.tmp 1), none, false⟩,
   ⟨(some 13), .call (.func 26) [(.tmp 12)], none, false⟩,
   ⟨(some 14), .call (.func 25) [(.tmp 13)], none, false⟩,
   ⟨(some 4), .mv (.tmp 14), none, false⟩])
  (.seq (.reg [⟨(some 15), .loadn 4 (.tmp 1), none, false⟩,
   ⟨(some 16), .call (.func 26) [(.tmp 15)], none, false⟩,
   ⟨(some 5), .alloc 45 [.int .i64 0, .int .i64 0, .slice none 0 0, .slice none 0 0], none, false⟩,
   ⟨none, .store 4 (.tmp 5) (.tmp 16), none, false⟩])
  (.seq (.reg [⟨(some 17), .loadn 4 (.tmp 5), none, false⟩,
   ⟨(some 18), .call (.func 27) [(.tmp 17)], none, false⟩,
   ⟨(some 6), .mv (.tmp 18), none, false⟩])
  (.seq (.seq (.reg [⟨(some 19), .mv (.tmp 6), none, false⟩,
   ⟨(some 20), .mv (.tmp 4), none, false⟩,
   ⟨(some 21), .eqb true (.tmp 19) (.tmp 20), none, false⟩])
  (.cond (.tmp 21) (.seq (.reg [⟨(some 2), .mv (.const (.bool false)), none, false⟩])
  .ret) .skip))
  (.seq (.seq (.reg [⟨(some 22), .loadn 4 (.tmp 5), none, false⟩,
   ⟨(some 23), .loadn 4 (.tmp 1), none, false⟩,
   ⟨(some 24), .call (.func 26) [(.tmp 23)], none, true⟩,
   ⟨(some 25), .call (.func 28) [(.tmp 22), (.tmp 24)], none, false⟩,
   ⟨(some 26), .un .not (.tmp 25), none, false⟩])
  (.cond (.tmp 26) (.seq (.reg [⟨(some 2), .mv (.const (.bool false)), none, false⟩])
  .ret) .skip))
  (.seq (.reg [⟨(some 2), .mv (.const (.bool true)), none, false⟩])
  .ret))))))))))⟩

/-- loop.example/g01262/spec.l05Empty -/
def c73 : XFn :=
 ⟨[.celln 8 5],
  (.seq (.reg [⟨(some 8), .alloc 30 [.int .i64 0, .int .i64 0, .int .i64 0, .int .i64 0, .slice none 0 0], none, false⟩])
  (.seq (.reg [⟨(some 9), .mv (.tmp 0), none, false⟩,
   ⟨(some 10), .mv (.tmp 1), none, false⟩,
   ⟨(some 11), .mv (.tmp 2), none, false⟩,
   ⟨(some 12), .mv (.tmp 3), none, false⟩,
   ⟨(some 13), .mv (.tmp 1), none, false⟩,
   ⟨(some 14), .mv (.tmp 2), none, false⟩,
   ⟨(some 15), .bin .mul (.tmp 13) (.tmp 14), none, false⟩,
   ⟨(some 16), .mv (.tmp 3), none, false⟩,
   ⟨(some 17), .bin .mul (.tmp 15) (.tmp 16), none, false⟩,
   ⟨(some 18), .mks 2 1 8 [.int .i64 0] (.tmp 17), none, false⟩,
   ⟨(some 19), .build [.int .i64 0, .int .i64 0, .int .i64 0, .int .i64 0, .slice none 0 0] [(0, 1, (.tmp 9)), (1, 1, (.tmp 10)), (2, 1, (.tmp 11)), (3, 1, (.tmp 12)), (4, 1, (.tmp 18))], none, false⟩,
   ⟨none, .store 5 (.tmp 8) (.tmp 19), none, false⟩])
  .ret))⟩

/-- loop.example/g01262/spec.l05Turn -/
def c71 : XFn :=
 ⟨[.celln 2 5],
  (.seq (.reg [⟨(some 1), .box 30 (.tmp 0), none, false⟩,
   ⟨(some 2), .alloc 30 [.int .i64 0, .int .i64 0, .int .i64 0, .int .i64 0, .slice none 0 0], none, false⟩])
  (.seq (.reg [⟨(some 7), .fadr 0 (.tmp 1), none, false⟩,
   ⟨(some 8), .load1 (.tmp 7), none, false⟩,
   ⟨(some 9), .fadr 2 (.tmp 1), none, false⟩,
   ⟨(some 10), .load1 (.tmp 9), none, false⟩,
   ⟨(some 11), .fadr 3 (.tmp 1), none, false⟩,
   ⟨(some 12), .load1 (.tmp 11), none, false⟩,
   ⟨(some 13), .fadr 1 (.tmp 1), none, false⟩,
   ⟨(some 14), .load1 (.tmp 13), none, false⟩,
   ⟨(some 15), .call (.func 73) [(.tmp 8), (.tmp 10), (.tmp 12), (.tmp 14)], none, false⟩,
   ⟨(some 3), .alloc 30 [.int .i64 0, .int .i64 0, .int .i64 0, .int .i64 0, .slice none 0 0], none, false⟩,
   ⟨none, .store 5 (.tmp 3) (.tmp 15), none, false⟩])
  (.seq (.seq (.reg [⟨(some 4), .mv (.const (.int .i64 0)), none, false⟩])
  (.blk 0 (.loop (.seq (.seq (.reg [⟨(some 16), .mv (.tmp 4), none, false⟩,
   ⟨(some 17), .fadr 1 (.tmp 1), none, false⟩,
   ⟨(some 18), .load1 (.tmp 17), none, false⟩,
   ⟨(some 19), .bin .lss (.tmp 16) (.tmp 18), none, false⟩])
  (.cond (.tmp 19) .skip (.exit 0)))
  (.seq (.blk 1 (.seq (.reg [⟨(some 5), .mv (.const (.int .i64 0)), none, false⟩])
  (.blk 2 (.loop (.seq (.seq (.reg [⟨(some 22), .mv (.tmp 5), none, false⟩,
   ⟨(some 23), .fadr 2 (.tmp 1), none, false⟩,
   ⟨(some 24), .load1 (.tmp 23), none, false⟩,
   ⟨(some 25), .bin .lss (.tmp 22) (.tmp 24), none, false⟩])
  (.cond (.tmp 25) .skip (.exit 2)))
  (.seq (.blk 3 (.seq (.reg [⟨(some 6), .mv (.const (.int .i64 0)), none, false⟩])
  (.blk 4 (.loop (.seq (.seq (.reg [⟨(some 28), .mv (.tmp 6), none, false⟩,
   ⟨(some 29), .fadr 3 (.tmp 1), none, false⟩,
   ⟨(some 30), .load1 (.tmp 29), none, false⟩,
   ⟨(some 31), .bin .lss (.tmp 28) (.tmp 30), none, false⟩])
  (.cond (.tmp 31) .skip (.exit 4)))
  (.seq (.blk 5 (.reg [⟨(some 34), .fadr 4 (.tmp 3), none, false⟩,
   ⟨(some 35), .load1 (.tmp 34), none, false⟩,
   ⟨(some 36), .mv (.tmp 5), none, false⟩,
   ⟨(some 37), .fadr 3 (.tmp 1), none, false⟩,
   ⟨(some 38), .load1 (.tmp 37), none, false⟩,
   ⟨(some 39), .bin .mul (.tmp 36) (.tmp 38), none, false⟩,
   ⟨(some 40), .mv (.tmp 6), none, false⟩,
   ⟨(some 41), .bin .add (.tmp 39) (.tmp 40), none, false⟩,
   ⟨(some 42), .fadr 1 (.tmp 1), none, false⟩,
   ⟨(some 43), .load1 (.tmp 42), none, false⟩,
   ⟨(some 44), .bin .mul (.tmp 41) (.tmp 43), none, false⟩,
   ⟨(some 45), .mv (.tmp 4), none, false⟩,
   ⟨(some 46), .bin .add (.tmp 44) (.tmp 45), none, false⟩,
   ⟨(some 47), .loadn 5 (.tmp 1), none, false⟩,
   ⟨(some 48), .mv (.tmp 4), none, false⟩,
   ⟨(some 49), .mv (.tmp 5), none, false⟩,
   ⟨(some 50), .mv (.tmp 6), none, false⟩,
   ⟨(some 51), .call (.func 62) [(.tmp 47), (.tmp 48), (.tmp 49), (.tmp 50)], none, true⟩,
   ⟨(some 52), .ixs 1 (.tmp 35) (.tmp 46), none, false⟩,
   ⟨none, .store 1 (.tmp 52) (.tmp 51), none, false⟩]))
  (.reg [⟨(some 32), .mv (.tmp 6), none, false⟩,
   ⟨(some 33), .bin .add (.tmp 32) (.const (.int .i64 1)), none, false⟩,
   ⟨(some 6), .mv (.tmp 33), none, false⟩])))))))
  (.reg [⟨(some 26), .mv (.tmp 5), none, false⟩,
   ⟨(some 27), .bin .add (.tmp 26) (.const (.int .i64 1)), none, false⟩,
   ⟨(some 5), .mv (.tmp 27), none, false⟩])))))))
  (.reg [⟨(some 20), .mv (.tmp 4), none, false⟩,
   ⟨(some 21), .bin .add (.tmp 20) (.const (.int .i64 1)), none, false⟩,
   ⟨(some 4), .mv (.tmp 21), none, false⟩]))))))
  (.seq (.reg [⟨(some 53), .loadn 5 (.tmp 3), none, false⟩,
   ⟨none, .store 5 (.tmp 2) (.tmp 53), none, false⟩])
  .ret))))⟩

/-- loop.example/g01262/spec.TurnTensor -/
def c29 : XFn :=
 ⟨[.celln 2 5, .tmp 3],
  (.seq (.reg [⟨(some 1), .box 30 (.tmp 0), none, false⟩,
   ⟨(some 2), .alloc 30 [.int .i64 0, .int .i64 0, .int .i64 0, .int .i64 0, .slice none 0 0], none, false⟩,
   ⟨(some 3), .mv (.const (.int .i64 0)), none, false⟩])
  (.seq (.seq (.reg [⟨(some 4), .loadn 5 (.tmp 1), none, false⟩,
   ⟨(some 5), .call (.func 58) [(.tmp 4)], none, false⟩,
   ⟨(some 6), .un .not (.tmp 5), none, false⟩])
  (.cond (.tmp 6) (.seq (.reg [⟨(some 7), .build [.int .i64 0, .int .i64 0, .int .i64 0, .int .i64 0, .slice none 0 0] [], none, false⟩,
   ⟨none, .store 5 (.tmp 2) (.tmp 7), none, false⟩,
   ⟨(some 3), .mv (.const (.int .i64 1)), none, false⟩])
  .ret) .skip))
  (.seq (.reg [⟨(some 8), .loadn 5 (.tmp 1), none, false⟩,
   ⟨(some 9), .call (.func 71) [(.tmp 8)], none, false⟩,
   ⟨none, .store 5 (.tmp 2) (.tmp 9), none, false⟩,
   ⟨(some 3), .mv (.const (.int .i64 0)), none, false⟩])
  .ret)))⟩

/-- loop.example/g01262/impl.tensor -/
def c76 : XFn :=
 ⟨[.celln 10 5],
  (.seq (.reg [⟨(some 10), .alloc 30 [.int .i64 0, .int .i64 0, .int .i64 0, .int .i64 0, .slice none 0 0], none, false⟩])
  (.seq (.reg [⟨(some 15), .mv (.tmp 0), none, false⟩,
   ⟨(some 16), .mv (.tmp 1), none, false⟩,
   ⟨(some 17), .mv (.tmp 2), none, false⟩,
   ⟨(some 18), .mv (.tmp 3), none, false⟩,
   ⟨(some 19), .build [.int .i64 0, .int .i64 0, .int .i64 0, .int .i64 0, .slice none 0 0] [(0, 1, (.tmp 15)), (1, 1, (.tmp 16)), (2, 1, (.tmp 17)), (3, 1, (.tmp 18))], none, false⟩,
   ⟨(some 11), .alloc 30 [.int .i64 0, .int .i64 0, .int .i64 0, .int .i64 0, .slice none 0 0], none, false⟩,
   ⟨none, .store 5 (.tmp 11) (.tmp 19), none, false⟩])
  (.seq (.seq (.reg [⟨(some 20), .mv (.tmp 1), none, false⟩,
   ⟨(some 21), .mv (.const (.int .i64 0)), none, false⟩])
  (.blk 0 (.loop (.seq (.reg [⟨(some 22), .bin .lss (.tmp 21) (.tmp 20), none, false⟩])
  (.seq (.cond (.tmp 22) .skip (.exit 0))
  (.seq (.blk 1 (.seq (.reg [⟨(some 23), .mv (.tmp 21), none, false⟩,
   ⟨(some 12), .mv (.tmp 23), none, false⟩])
  (.seq (.reg [⟨(some 24), .mv (.tmp 2), none, false⟩,
   ⟨(some 25), .mv (.const (.int .i64 0)), none, false⟩])
  (.blk 2 (.loop (.seq (.reg [⟨(some 26), .bin .lss (.tmp 25) (.tmp 24), none, false⟩])
  (.seq (.cond (.tmp 26) .skip (.exit 2))
  (.seq (.blk 3 (.seq (.reg [⟨(some 27), .mv (.tmp 25), none, false⟩,
   ⟨(some 13), .mv (.tmp 27), none, false⟩])
  (.seq (.reg [⟨(some 28), .mv (.tmp 3), none, false⟩,
   ⟨(some 29), .mv (.const (.int .i64 0)), none, false⟩])
  (.blk 4 (.loop (.seq (.reg [⟨(some 30), .bin .lss (.tmp 29) (.tmp 28), none, false⟩])
  (.seq (.cond (.tmp 30) .skip (.exit 4))
  (.seq (.blk 5 (.seq (.reg [⟨(some 31), .mv (.tmp 29), none, false⟩,
   ⟨(some 14), .mv (.tmp 31), none, false⟩])
  (.reg [⟨(some 32), .fadr 4 (.tmp 11), none, false⟩,
   ⟨(some 33), .load1 (.tmp 32), none, false⟩,
   ⟨(some 34), .mv (.tmp 4), none, false⟩,
   ⟨(some 35), .mv (.tmp 12), none, false⟩,
   ⟨(some 36), .mv (.tmp 13), none, false⟩,
   ⟨(some 37), .mv (.tmp 14), none, false⟩,
   ⟨(some 38), .call (.tmp 34) [(.tmp 35), (.tmp 36), (.tmp 37)], none, true⟩,
   ⟨(some 39), .mv (.tmp 0), none, false⟩,
   ⟨(some 40), .bin .rem (.tmp 38) (.tmp 39), none, false⟩,
   ⟨(some 41), .bslice 2 1 1 [.int .i64 0] [(0, 1, (.tmp 40))], none, false⟩,
   ⟨(some 42), .app 2 1 8 (.tmp 33) (.tmp 41), none, false⟩,
   ⟨(some 43), .fadr 4 (.tmp 11), none, false⟩,
   ⟨none, .store 1 (.tmp 43) (.tmp 42), none, false⟩])))
  (.reg [⟨(some 44), .bin .add (.tmp 29) (.const (.int .i64 1)), none, false⟩,
   ⟨(some 29), .mv (.tmp 44), none, false⟩])))))))))
  (.reg [⟨(some 45), .bin .add (.tmp 25) (.const (.int .i64 1)), none, false⟩,
   ⟨(some 25), .mv (.tmp 45), none, false⟩])))))))))
  (.reg [⟨(some 46), .bin .add (.tmp 21) (.const (.int .i64 1)), none, false⟩,
   ⟨(some 21), .mv (.tmp 46), none, false⟩])))))))
  (.seq (.reg [⟨(some 47), .loadn 5 (.tmp 11), none, false⟩,
   ⟨none, .store 5 (.tmp 10) (.tmp 47), none, false⟩])
  .ret))))⟩

/-- loop.example/g01262/impl.turn -/
def c72 : XFn :=
 ⟨[.celln 2 5],
  (.seq (.reg [⟨(some 1), .box 30 (.tmp 0), none, false⟩,
   ⟨(some 2), .alloc 30 [.int .i64 0, .int .i64 0, .int .i64 0, .int .i64 0, .slice none 0 0], none, false⟩])
  (.seq (.reg [⟨(some 3), .fadr 0 (.tmp 1), none, false⟩,
   ⟨(some 4), .load1 (.tmp 3), none, false⟩,
   ⟨(some 5), .fadr 2 (.tmp 1), none, false⟩,
   ⟨(some 6), .load1 (.tmp 5), none, false⟩,
   ⟨(some 7), .fadr 3 (.tmp 1), none, false⟩,
   ⟨(some 8), .load1 (.tmp 7), none, false⟩,
   ⟨(some 9), .fadr 1 (.tmp 1), none, false⟩,
   ⟨(some 10), .load1 (.tmp 9), none, false⟩,
   ⟨(some 11), .mkf 99 [(.tmp 1)], none, false⟩,
   ⟨(some 12), .call (.func 76) [(.tmp 4), (.tmp 6), (.tmp 8), (.tmp 10), (.tmp 11)], none, false⟩,
   ⟨none, .store 5 (.tmp 2) (.tmp 12), none, false⟩])
  .ret))⟩

/-- loop.example/g01262/impl.TurnTensor -/
def c30 : XFn :=
 ⟨[.celln 2 5, .tmp 3],
  (.seq (.reg [⟨(some 1), .box 30 (.tmp 0), none, false⟩,
   ⟨(some 2), .alloc 30 [.int .i64 0, .int .i64 0, .int .i64 0, .int .i64 0, .slice none 0 0], none, false⟩,
   ⟨(some 3), .mv (.const (.int .i64 0)), none, false⟩])
  (.seq (.seq (.reg [⟨(some 4), .loadn 5 (.tmp 1), none, false⟩,
   ⟨(some 5), .call (.func 20) [(.tmp 4)], none, false⟩,
   ⟨(some 6), .un .not (.tmp 5), none, false⟩])
  (.cond (.tmp 6) (.seq (.reg [⟨(some 7), .build [.int .i64 0, .int .i64 0, .int .i64 0, .int .i64 0, .slice none 0 0] [], none, false⟩,
   ⟨none, .store 5 (.tmp 2) (.tmp 7), none, false⟩,
   ⟨(some 3), .mv (.const (.int .i64 1)), none, false⟩])
  .ret) .skip))
  (.seq (.reg [⟨(some 8), .loadn 5 (.tmp 1), none, false⟩,
   ⟨(some 9), .call (.func 72) [(.tmp 8)], none, false⟩,
   ⟨none, .store 5 (.tmp 2) (.tmp 9), none, false⟩,
   ⟨(some 3), .mv (.const (.int .i64 0)), none, false⟩])
  .ret)))⟩

/-- loop.example/g01262/laws.markInt64S -/
def c52 : XFn :=
 ⟨[.tmp 4],
  (.seq (.reg [⟨(some 4), .mv (.const (.int .i64 0)), none, false⟩])
  (.seq (.seq (.reg [⟨(some 5), .mv (.const (.int .i64 0)), none, false⟩])
  (.blk 0 (.loop (.seq (.seq (.reg [⟨(some 6), .mv (.tmp 5), none, false⟩,
   ⟨(some 7), .mv (.tmp 0), none, false⟩,
   ⟨(some 8), .len (.tmp 7), none, false⟩,
   ⟨(some 9), .bin .lss (.tmp 6) (.tmp 8), none, false⟩])
  (.cond (.tmp 9) .skip (.exit 0)))
  (.seq (.blk 1 (.seq (.reg [⟨(some 12), .mv (.tmp 0), none, false⟩,
   ⟨(some 13), .mv (.tmp 5), none, false⟩,
   ⟨(some 14), .mv (.tmp 1), none, false⟩,
   ⟨(some 15), .ixs 1 (.tmp 12) (.tmp 13), none, false⟩,
   ⟨none, .store 1 (.tmp 15) (.tmp 14), none, false⟩])
  (.reg [⟨(some 16), .mv (.tmp 1), none, false⟩,
   ⟨(some 17), .bin .add (.tmp 16) (.const (.int .i64 1)), none, false⟩,
   ⟨(some 1), .mv (.tmp 17), none, false⟩])))
  (.reg [⟨(some 10), .mv (.tmp 5), none, false⟩,
   ⟨(some 11), .bin .add (.tmp 10) (.const (.int .i64 1)), none, false⟩,
   ⟨(some 5), .mv (.tmp 11), none, false⟩]))))))
  (.seq (.reg [⟨(some 18), .mv (.tmp 1), none, false⟩,
   ⟨(some 4), .mv (.tmp 18), none, false⟩])
  .ret)))⟩

/-- loop.example/g01262/laws.markTensor -/
def c31 : XFn :=
 ⟨[.tmp 4],
  (.seq (.reg [⟨(some 2), .box 30 (.tmp 0), none, false⟩,
   ⟨(some 4), .mv (.const (.int .i64 0)), none, false⟩])
  (.seq (.reg [⟨(some 5), .fadr 4 (.tmp 2), none, false⟩,
   ⟨(some 6), .load1 (.tmp 5), none, false⟩,
   ⟨(some 7), .mv (.tmp 1), none, false⟩,
   ⟨(some 8), .call (.func 52) [(.tmp 6), (.tmp 7)], none, false⟩,
   ⟨(some 1), .mv (.tmp 8), none, false⟩])
  (.seq (.reg [⟨(some 9), .mv (.tmp 1), none, false⟩,
   ⟨(some 4), .mv (.tmp 9), none, false⟩])
  .ret)))⟩

/-- loop.example/g01262/laws.heldInt64S -/
def c55 : XFn :=
 ⟨[.tmp 4],
  (.seq (.reg [⟨(some 4), .mv (.const (.int .i64 0)), none, false⟩])
  (.seq (.seq (.reg [⟨(some 5), .mv (.const (.int .i64 0)), none, false⟩])
  (.blk 0 (.loop (.seq (.seq (.reg [⟨(some 6), .mv (.tmp 5), none, false⟩,
   ⟨(some 7), .mv (.tmp 0), none, false⟩,
   ⟨(some 8), .len (.tmp 7), none, false⟩,
   ⟨(some 9), .bin .lss (.tmp 6) (.tmp 8), none, false⟩])
  (.cond (.tmp 9) .skip (.exit 0)))
  (.seq (.blk 1 (.seq (.seq (.reg [⟨(some 12), .mv (.tmp 0), none, false⟩,
   ⟨(some 13), .mv (.tmp 5), none, false⟩,
   ⟨(some 14), .ixs 1 (.tmp 12) (.tmp 13), none, false⟩,
   ⟨(some 15), .load1 (.tmp 14), none, false⟩,
   ⟨(some 16), .mv (.tmp 1), none, false⟩,
   ⟨(some 17), .bin .neq (.tmp 15) (.tmp 16), none, false⟩])
  (.cond (.tmp 17) (.seq (.reg [⟨(some 4), .mv (.const (.int .i64 (-1))), none, false⟩])
  .ret) .skip))
  (.reg [⟨(some 18), .mv (.tmp 1), none, false⟩,
   ⟨(some 19), .bin .add (.tmp 18) (.const (.int .i64 1)), none, false⟩,
   ⟨(some 1), .mv (.tmp 19), none, false⟩])))
  (.reg [⟨(some 10), .mv (.tmp 5), none, false⟩,
   ⟨(some 11), .bin .add (.tmp 10) (.const (.int .i64 1)), none, false⟩,
   ⟨(some 5), .mv (.tmp 11), none, false⟩]))))))
  (.seq (.reg [⟨(some 20), .mv (.tmp 1), none, false⟩,
   ⟨(some 4), .mv (.tmp 20), none, false⟩])
  .ret)))⟩

/-- loop.example/g01262/laws.heldTensor -/
def c32 : XFn :=
 ⟨[.tmp 4],
  (.seq (.reg [⟨(some 2), .box 30 (.tmp 0), none, false⟩,
   ⟨(some 4), .mv (.const (.int .i64 0)), none, false⟩])
  (.seq (.reg [⟨(some 5), .fadr 4 (.tmp 2), none, false⟩,
   ⟨(some 6), .load1 (.tmp 5), none, false⟩,
   ⟨(some 7), .mv (.tmp 1), none, false⟩,
   ⟨(some 8), .call (.func 55) [(.tmp 6), (.tmp 7)], none, false⟩,
   ⟨(some 1), .mv (.tmp 8), none, false⟩])
  (.seq (.seq (.reg [⟨(some 9), .mv (.tmp 1), none, false⟩,
   ⟨(some 10), .bin .lss (.tmp 9) (.const (.int .i64 0)), none, false⟩])
  (.cond (.tmp 10) (.seq (.reg [⟨(some 4), .mv (.const (.int .i64 (-1))), none, false⟩])
  .ret) .skip))
  (.seq (.reg [⟨(some 11), .mv (.tmp 1), none, false⟩,
   ⟨(some 4), .mv (.tmp 11), none, false⟩])
  .ret))))⟩

/-- loop.example/g01262/laws.FnExactTurnTensor -/
def c7 : XFn :=
 ⟨[.tmp 2],
  (.seq (.reg [⟨(some 1), .box 27 (.tmp 0), none, false⟩,
   ⟨(some 2), .mv (.const (.bool false)), none, false⟩])
  (.seq (.reg [⟨(some 3), .mv (.const (.int .i64 1048576)), none, false⟩])
  (.seq (.reg [⟨(some 14), .loadn 5 (.tmp 1), none, false⟩,
   ⟨(some 15), .mv (.tmp 3), none, false⟩,
   ⟨(some 16), .call (.func 17) [(.tmp 14), (.tmp 15)], none, false⟩,
   ⟨(some 3), .mv (.tmp 16), none, false⟩])
  (.seq (.seq (.reg [⟨(some 17), .mv (.tmp 3), none, false⟩,
   ⟨(some 18), .bin .lss (.tmp 17) (.const (.int .i64 0)), none, false⟩])
  (.cond (.tmp 18) (.seq (.reg [⟨(some 2), .mv (.const (.bool true)), none, false⟩])
  .ret) .skip))
  (.seq (.reg [⟨(some 20), .loadn 5 (.tmp 1), none, false⟩,
   ⟨(some 21), .call (.func 19) [(.tmp 20)], none, false⟩,
   ⟨(some 22), .call (.func 29) [(.tmp 21)], none, false⟩,
   ⟨(some 19), .mv (.tmp 22), none, false⟩,
   ⟨(some 23), .ext (.tmp 19) 0, none, false⟩,
   ⟨(some 24), .ext (.tmp 19) 1, none, false⟩,
   ⟨(some 4), .alloc 30 [.int .i64 0, .int .i64 0, .int .i64 0, .int .i64 0, .slice none 0 0], none, false⟩,
   ⟨none, .store 5 (.tmp 4) (.tmp 23), none, false⟩,
   ⟨(some 5), .mv (.tmp 24), none, false⟩])
  (.seq (.reg [⟨(some 25), .loadn 5 (.tmp 1), none, false⟩,
   ⟨(some 26), .call (.func 19) [(.tmp 25)], none, false⟩,
   ⟨(some 6), .alloc 30 [.int .i64 0, .int .i64 0, .int .i64 0, .int .i64 0, .slice none 0 0], none, false⟩,
   ⟨none, .store 5 (.tmp 6) (.tmp 26), none, false⟩])
  (.seq (.reg [⟨(some 28), .loadn 5 (.tmp 6), none, false⟩,
   ⟨(some 29), .call (.func 30) [(.tmp 28)], none, false⟩,
   ⟨(some 27), .mv (.tmp 29), none, false⟩,
   ⟨(some 30), .ext (.tmp 27) 0, none, false⟩,
   ⟨(some 31), .ext (.tmp 27) 1, none, false⟩,
   ⟨(some 7), .alloc 30 [.int .i64 0, .int .i64 0, .int .i64 0, .int .i64 0, .slice none 0 0], none, false⟩,
   ⟨none, .store 5 (.tmp 7) (.tmp 30), none, false⟩,
   ⟨(some 8), .mv (.tmp 31), none, false⟩])
  (.seq (.seq (.reg [⟨(some 32), .loadn 5 (.tmp 7), none, false⟩,
   ⟨(some 33), .loadn 5 (.tmp 4), none, false⟩,
   ⟨(some 34), .call (.func 21) [(.tmp 32), (.tmp 33)], none, false⟩,
   ⟨(some 35), .un .not (.tmp 34), none, false⟩,
   ⟨(some 36), .mv (.tmp 35), none, false⟩,
   ⟨(some 37), .mv (.tmp 8), (some (36, false)), false⟩,
   ⟨(some 38), .mv (.tmp 5), (some (36, false)), false⟩,
   ⟨(some 39), .bin .neq (.tmp 37) (.tmp 38), (some (36, false)), false⟩,
   ⟨(some 40), .pick (.tmp 36) (.const (.bool true)) (.tmp 39), none, false⟩])
  (.cond (.tmp 40) (.seq (.reg [⟨(some 2), .mv (.const (.bool false)), none, false⟩])
  .ret) .skip))
  (.seq (.seq (.reg [⟨(some 41), .loadn 5 (.tmp 6), none, false⟩,
   ⟨(some 42), .loadn 5 (.tmp 1), none, false⟩,
   ⟨(some 43), .call (.func 19) [(.tmp 42)], none, true⟩,
   ⟨(some 44), .call (.func 21) [(.tmp 41), (.tmp 43)], none, false⟩,
   ⟨(some 45), .un .not (.tmp 44), none, false⟩])
  (.cond (.tmp 45) (.seq (.reg [⟨(some 2), .mv (.const (.bool false)), none, false⟩])
  .ret) .skip))
  (.seq (.reg [⟨(some 9), .mv (.const (.int .i64 1)), none, false⟩])
  (.seq (.reg [⟨(some 46), .loadn 5 (.tmp 6), none, false⟩,
   ⟨(some 47), .mv (.tmp 9), none, false⟩,
   ⟨(some 48), .call (.func 31) [(.tmp 46), (.tmp 47)], none, false⟩,
   ⟨(some 9), .mv (.tmp 48), none, false⟩])
  (.seq (.seq (.reg [⟨(some 49), .mv (.tmp 9), none, false⟩,
   ⟨(some 50), .bin .lss (.tmp 49) (.const (.int .i64 0)), none, false⟩,
   ⟨(some 51), .mv (.tmp 50), none, false⟩,
   ⟨(some 52), .loadn 5 (.tmp 7), (some (51, false)), false⟩,
   ⟨(some 53), .loadn 5 (.tmp 4), (some (51, false)), false⟩,
   ⟨(some 54), .call (.func 21) [(.tmp 52), (.tmp 53)], (some (51, false)), false⟩,
   ⟨(some 55), .un .not (.tmp 54), (some (51, false)), false⟩,
   ⟨(some 56), .pick (.tmp 51) (.const (.bool true)) (.tmp 55), none, false⟩,
   ⟨(some 57), .mv (.tmp 56), none, false⟩,
   ⟨(some 58), .mv (.tmp 8), (some (57, false)), false⟩,
   ⟨(some 59), .mv (.tmp 5), (some (57, false)), false⟩,
   ⟨(some 60), .bin .neq (.tmp 58) (.tmp 59), (some (57, false)), false⟩,
   ⟨(some 61), .pick (.tmp 57) (.const (.bool true)) (.tmp 60), none, false⟩])
  (.cond (.tmp 61) (.seq (.reg [⟨(some 2), .mv (.const (.bool false)), none, false⟩])
  .ret) .skip))
  (.seq (.reg [⟨(some 10), .mv (.const (.int .i64 1)), none, false⟩])
  (.seq (.reg [⟨(some 62), .loadn 5 (.tmp 7), none, false⟩,
   ⟨(some 63), .mv (.tmp 10), none, false⟩,
   ⟨(some 64), .call (.func 31) [(.tmp 62), (.tmp 63)], none, false⟩,
   ⟨(some 10), .mv (.tmp 64), none, false⟩])
  (.seq (.reg [⟨(some 11), .mv (.const (.int .i64 1)), none, false⟩])
  (.seq (.reg [⟨(some 65), .loadn 5 (.tmp 7), none, false⟩,
   ⟨(some 66), .mv (.tmp 11), none, false⟩,
   ⟨(some 67), .call (.func 32) [(.tmp 65), (.tmp 66)], none, false⟩,
   ⟨(some 11), .mv (.tmp 67), none, false⟩])
  (.seq (.seq (.reg [⟨(some 68), .mv (.tmp 11), none, false⟩,
   ⟨(some 69), .bin .lss (.tmp 68) (.const (.int .i64 0)), none, false⟩])
  (.cond (.tmp 69) (.seq (.reg [⟨(some 2), .mv (.const (.bool false)), none, false⟩])
  .ret) .skip))
  (.seq (.seq (.reg [⟨(some 70), .mv (.tmp 11), none, false⟩,
   ⟨(some 71), .mv (.tmp 10), none, false⟩,
   ⟨(some 72), .bin .neq (.tmp 70) (.tmp 71), none, false⟩])
  (.cond (.tmp 72) (.seq (.reg [⟨(some 2), .mv (.const (.bool false)), none, false⟩])
  .ret) .skip))
  (.seq (.reg [⟨(some 74), .loadn 5 (.tmp 1), none, false⟩,
   ⟨(some 75), .call (.func 19) [(.tmp 74)], none, false⟩,
   ⟨(some 76), .call (.func 30) [(.tmp 75)], none, false⟩,
   ⟨(some 73), .mv (.tmp 76), none, false⟩,
   ⟨(some 77), .ext (.tmp 73) 0, none, false⟩,
   ⟨(some 78), .ext (.tmp 73) 1, none, false⟩,
   ⟨(some 12), .alloc 30 [.int .i64 0, .int .i64 0, .int .i64 0, .int .i64 0, .slice none 0 0], none, false⟩,
   ⟨none, .store 5 (.tmp 12) (.tmp 77), none, false⟩,
   ⟨(some 13), .mv (.tmp 78), none, false⟩])
  (.seq (.seq (.reg [⟨(some 79), .loadn 5 (.tmp 12), none, false⟩,
   ⟨(some 80), .loadn 5 (.tmp 4), none, false⟩,
   ⟨(some 81), .call (.func 21) [(.tmp 79), (.tmp 80)], none, false⟩,
   ⟨(some 82), .un .not (.tmp 81), none, false⟩,
   ⟨(some 83), .mv (.tmp 82), none, false⟩,
   ⟨(some 84), .mv (.tmp 13), (some (83, false)), false⟩,
   ⟨(some 85), .mv (.tmp 5), (some (83, false)), false⟩,
   ⟨(some 86), .bin .neq (.tmp 84) (.tmp 85), (some (83, false)), false⟩,
   ⟨(some 87), .pick (.tmp 83) (.const (.bool true)) (.tmp 86), none, false⟩])
  (.cond (.tmp 87) (.seq (.reg [⟨(some 2), .mv (.const (.bool false)), none, false⟩])
  .ret) .skip))
  (.seq (.reg [⟨(some 11), .mv (.const (.int .i64 1)), none, false⟩])
  (.seq (.reg [⟨(some 88), .loadn 5 (.tmp 7), none, false⟩,
   ⟨(some 89), .mv (.tmp 11), none, false⟩,
   ⟨(some 90), .call (.func 32) [(.tmp 88), (.tmp 89)], none, false⟩,
   ⟨(some 11), .mv (.tmp 90), none, false⟩])
  (.seq (.seq (.reg [⟨(some 91), .mv (.tmp 11), none, false⟩,
   ⟨(some 92), .bin .lss (.tmp 91) (.const (.int .i64 0)), none, false⟩])
  (.cond (.tmp 92) (.seq (.reg [⟨(some 2), .mv (.const (.bool false)), none, false⟩])
  .ret) .skip))
  (.seq (.seq (.reg [⟨(some 93), .mv (.tmp 11), none, false⟩,
   ⟨(some 94), .mv (.tmp 10), none, false⟩,
   ⟨(some 95), .bin .neq (.tmp 93) (.tmp 94), none, false⟩])
  (.cond (.tmp 95) (.seq (.reg [⟨(some 2), .mv (.const (.bool false)), none, false⟩])
  .ret) .skip))
  (.seq (.reg [⟨(some 2), .mv (.const (.bool true)), none, false⟩])
  .ret)))))))))))))))))))))))))⟩

/-- loop.example/g01262/spec.AddTensors -/
def c33 : XFn :=
 ⟨[.celln 6 5, .tmp 7],
  (.seq (.reg [⟨(some 3), .box 30 (.tmp 0), none, false⟩,
   ⟨(some 4), .box 30 (.tmp 1), none, false⟩,
   ⟨(some 6), .alloc 30 [.int .i64 0, .int .i64 0, .int .i64 0, .int .i64 0, .slice none 0 0], none, false⟩,
   ⟨(some 7), .mv (.const (.int .i64 0)), none, false⟩])
  (.seq (.blk 0 (.seq (.reg [⟨(some 11), .loadn 5 (.tmp 3), none, false⟩,
   ⟨(some 12), .call (.func 58) [(.tmp 11)], none, false⟩,
   ⟨(some 13), .un .not (.tmp 12), none, false⟩,
   ⟨(some 14), .mv (.tmp 13), none, false⟩,
   ⟨(some 15), .loadn 5 (.tmp 4), (some (14, false)), false⟩,
   ⟨(some 16), .call (.func 58) [(.tmp 15)], (some (14, false)), false⟩,
   ⟨(some 17), .un .not (.tmp 16), (some (14, false)), false⟩,
   ⟨(some 18), .pick (.tmp 14) (.const (.bool true)) (.tmp 17), none, false⟩,
   ⟨(some 10), .mv (.tmp 18), none, false⟩])
  (.cond (.tmp 10) (.seq (.reg [⟨(some 19), .build [.int .i64 0, .int .i64 0, .int .i64 0, .int .i64 0, .slice none 0 0] [], none, false⟩,
   ⟨none, .store 5 (.tmp 6) (.tmp 19), none, false⟩,
   ⟨(some 7), .mv (.const (.int .i64 1)), none, false⟩])
  .ret) (.seq (.reg [⟨(some 21), .fadr 0 (.tmp 3), none, false⟩,
   ⟨(some 22), .load1 (.tmp 21), none, false⟩,
   ⟨(some 23), .fadr 0 (.tmp 4), none, false⟩,
   ⟨(some 24), .load1 (.tmp 23), none, false⟩,
   ⟨(some 25), .bin .neq (.tmp 22) (.tmp 24), none, false⟩,
   ⟨(some 26), .mv (.tmp 25), none, false⟩,
   ⟨(some 27), .fadr 1 (.tmp 3), (some (26, false)), false⟩,
   ⟨(some 28), .load1 (.tmp 27), (some (26, false)), false⟩,
   ⟨(some 29), .fadr 1 (.tmp 4), (some (26, false)), false⟩,
   ⟨(some 30), .load1 (.tmp 29), (some (26, false)), false⟩,
   ⟨(some 31), .bin .neq (.tmp 28) (.tmp 30), (some (26, false)), false⟩,
   ⟨(some 32), .pick (.tmp 26) (.const (.bool true)) (.tmp 31), none, false⟩,
   ⟨(some 33), .mv (.tmp 32), none, false⟩,
   ⟨(some 34), .fadr 2 (.tmp 3), (some (33, false)), false⟩,
   ⟨(some 35), .load1 (.tmp 34), (some (33, false)), false⟩,
   ⟨(some 36), .fadr 2 (.tmp 4), (some (33, false)), false⟩,
   ⟨(some 37), .load1 (.tmp 36), (some (33, false)), false⟩,
   ⟨(some 38), .bin .neq (.tmp 35) (.tmp 37), (some (33, false)), false⟩,
   ⟨(some 39), .pick (.tmp 33) (.const (.bool true)) (.tmp 38), none, false⟩,
   ⟨(some 40), .mv (.tmp 39), none, false⟩,
   ⟨(some 41), .fadr 3 (.tmp 3), (some (40, false)), false⟩,
   ⟨(some 42), .load1 (.tmp 41), (some (40, false)), false⟩,
   ⟨(some 43), .fadr 3 (.tmp 4), (some (40, false)), false⟩,
   ⟨(some 44), .load1 (.tmp 43), (some (40, false)), false⟩,
   ⟨(some 45), .bin .neq (.tmp 42) (.tmp 44), (some (40, false)), false⟩,
   ⟨(some 46), .pick (.tmp 40) (.const (.bool true)) (.tmp 45), none, false⟩,
   ⟨(some 47), .mv (.tmp 46), none, false⟩,
   ⟨(some 48), .mv (.tmp 2), (some (47, false)), false⟩,
   ⟨(some 49), .fadr 0 (.tmp 3), (some (47, false)), false⟩,
   ⟨(some 50), .load1 (.tmp 49), (some (47, false)), false⟩,
   ⟨(some 51), .bin .sub (.tmp 50) (.const (.int .i64 1)), (some (47, false)), false⟩,
   ⟨(some 52), .call (.func 56) [(.tmp 48), (.const (.int .i64 0)), (.tmp 51)], (some (47, false)), false⟩,
   ⟨(some 53), .un .not (.tmp 52), (some (47, false)), false⟩,
   ⟨(some 54), .pick (.tmp 47) (.const (.bool true)) (.tmp 53), none, false⟩,
   ⟨(some 20), .mv (.tmp 54), none, false⟩])
  (.cond (.tmp 20) (.seq (.reg [⟨(some 55), .build [.int .i64 0, .int .i64 0, .int .i64 0, .int .i64 0, .slice none 0 0] [], none, false⟩,
   ⟨none, .store 5 (.tmp 6) (.tmp 55), none, false⟩,
   ⟨(some 7), .mv (.const (.int .i64 2)), none, false⟩])
  .ret) .skip)))))
  (.seq (.reg [⟨(some 56), .fadr 0 (.tmp 3), none, false⟩,
   ⟨(some 57), .load1 (.tmp 56), none, false⟩,
   ⟨(some 58), .fadr 1 (.tmp 3), none, false⟩,
   ⟨(some 59), .load1 (.tmp 58), none, false⟩,
   ⟨(some 60), .fadr 2 (.tmp 3), none, false⟩,
   ⟨(some 61), .load1 (.tmp 60), none, false⟩,
   ⟨(some 62), .fadr 3 (.tmp 3), none, false⟩,
   ⟨(some 63), .load1 (.tmp 62), none, false⟩,
   ⟨(some 64), .call (.func 73) [(.tmp 57), (.tmp 59), (.tmp 61), (.tmp 63)], none, false⟩,
   ⟨(some 8), .alloc 30 [.int .i64 0, .int .i64 0, .int .i64 0, .int .i64 0, .slice none 0 0], none, false⟩,
   ⟨none, .store 5 (.tmp 8) (.tmp 64), none, false⟩])
  (.seq (.seq (.reg [⟨(some 9), .mv (.const (.int .i64 0)), none, false⟩])
  (.blk 1 (.loop (.seq (.seq (.reg [⟨(some 65), .mv (.tmp 9), none, false⟩,
   ⟨(some 66), .fadr 4 (.tmp 3), none, false⟩,
   ⟨(some 67), .load1 (.tmp 66), none, false⟩,
   ⟨(some 68), .len (.tmp 67), none, false⟩,
   ⟨(some 69), .bin .lss (.tmp 65) (.tmp 68), none, false⟩])
  (.cond (.tmp 69) .skip (.exit 1)))
  (.seq (.blk 2 (.reg [⟨(some 72), .fadr 4 (.tmp 8), none, false⟩,
   ⟨(some 73), .load1 (.tmp 72), none, false⟩,
   ⟨(some 74), .mv (.tmp 9), none, false⟩,
   ⟨(some 75), .fadr 4 (.tmp 3), none, false⟩,
   ⟨(some 76), .load1 (.tmp 75), none, false⟩,
   ⟨(some 77), .mv (.tmp 9), none, false⟩,
   ⟨(some 78), .ixs 1 (.tmp 76) (.tmp 77), none, false⟩,
   ⟨(some 79), .load1 (.tmp 78), none, false⟩,
   ⟨(some 80), .mv (.tmp 2), none, false⟩,
   ⟨(some 81), .fadr 4 (.tmp 4), none, false⟩,
   ⟨(some 82), .load1 (.tmp 81), none, false⟩,
   ⟨(some 83), .mv (.tmp 9), none, false⟩,
   ⟨(some 84), .ixs 1 (.tmp 82) (.tmp 83), none, false⟩,
   ⟨(some 85), .load1 (.tmp 84), none, false⟩,
   ⟨(some 86), .bin .mul (.tmp 80) (.tmp 85), none, false⟩,
   ⟨(some 87), .bin .add (.tmp 79) (.tmp 86), none, false⟩,
   ⟨(some 88), .fadr 0 (.tmp 3), none, false⟩,
   ⟨(some 89), .load1 (.tmp 88), none, false⟩,
   ⟨(some 90), .bin .rem (.tmp 87) (.tmp 89), none, false⟩,
   ⟨(some 91), .ixs 1 (.tmp 73) (.tmp 74), none, false⟩,
   ⟨none, .store 1 (.tmp 91) (.tmp 90), none, false⟩]))
  (.reg [⟨(some 70), .mv (.tmp 9), none, false⟩,
   ⟨(some 71), .bin .add (.tmp 70) (.const (.int .i64 1)), none, false⟩,
   ⟨(some 9), .mv (.tmp 71), none, false⟩]))))))
  (.seq (.reg [⟨(some 92), .loadn 5 (.tmp 8), none, false⟩,
   ⟨none, .store 5 (.tmp 6) (.tmp 92), none, false⟩,
   ⟨(some 7), .mv (.const (.int .i64 0)), none, false⟩])
  .ret)))))⟩

/-- loop.example/g01262/impl.areTensors -/
def c74 : XFn :=
 ⟨[.tmp 2],
  (.seq (.reg [⟨(some 2), .mv (.const (.bool false)), none, false⟩])
  (.seq (.seq (.reg [⟨(some 5), .mv (.tmp 0), none, false⟩,
   ⟨(some 6), .len (.tmp 5), none, false⟩,
   ⟨(some 7), .mv (.const (.int .i64 0)), none, false⟩])
  (.blk 0 (.loop (.seq (.reg [⟨(some 8), .bin .lss (.tmp 7) (.tmp 6), none, false⟩])
  (.seq (.cond (.tmp 8) .skip (.exit 0))
  (.seq (.blk 1 (.seq (.reg [⟨(some 9), .ixs 5 (.tmp 5) (.tmp 7), none, false⟩,
   ⟨(some 10), .loadn 5 (.tmp 9), none, false⟩,
   ⟨(some 4), .alloc 30 [.int .i64 0, .int .i64 0, .int .i64 0, .int .i64 0, .slice none 0 0], none, false⟩,
   ⟨none, .store 5 (.tmp 4) (.tmp 10), none, false⟩])
  (.seq (.reg [⟨(some 11), .loadn 5 (.tmp 4), none, false⟩,
   ⟨(some 12), .call (.func 20) [(.tmp 11)], none, false⟩,
   ⟨(some 13), .un .not (.tmp 12), none, false⟩])
  (.cond (.tmp 13) (.seq (.reg [⟨(some 2), .mv (.const (.bool false)), none, false⟩])
  .ret) .skip))))
  (.reg [⟨(some 14), .bin .add (.tmp 7) (.const (.int .i64 1)), none, false⟩,
   ⟨(some 7), .mv (.tmp 14), none, false⟩])))))))
  (.seq (.reg [⟨(some 2), .mv (.const (.bool true)), none, false⟩])
  .ret)))⟩

/-- (loop.example/g01262/impl.Tensor).sides -/
def c75 : XFn :=
 ⟨[.celln 2 3],
  (.seq (.reg [⟨(some 1), .box 30 (.tmp 0), none, false⟩,
   ⟨(some 2), .alloc 90 [.int .i64 0, .int .i64 0, .int .i64 0], none, false⟩])
  (.seq (.reg [⟨(some 3), .fadr 1 (.tmp 1), none, false⟩,
   ⟨(some 4), .load1 (.tmp 3), none, false⟩,
   ⟨(some 5), .fadr 2 (.tmp 1), none, false⟩,
   ⟨(some 6), .load1 (.tmp 5), none, false⟩,
   ⟨(some 7), .fadr 3 (.tmp 1), none, false⟩,
   ⟨(some 8), .load1 (.tmp 7), none, false⟩,
   ⟨(some 9), .build [.int .i64 0, .int .i64 0, .int .i64 0] [(0, 1, (.tmp 4)), (1, 1, (.tmp 6)), (2, 1, (.tmp 8))], none, false⟩,
   ⟨none, .store 3 (.tmp 2) (.tmp 9), none, false⟩])
  .ret))⟩

/-- loop.example/g01262/impl.AddTensors -/
def c34 : XFn :=
 ⟨[.celln 6 5, .tmp 7],
  (.seq (.reg [⟨(some 3), .box 30 (.tmp 0), none, false⟩,
   ⟨(some 4), .box 30 (.tmp 1), none, false⟩,
   ⟨(some 5), .box 2 (.tmp 2), none, false⟩,
   ⟨(some 6), .alloc 30 [.int .i64 0, .int .i64 0, .int .i64 0, .int .i64 0, .slice none 0 0], none, false⟩,
   ⟨(some 7), .mv (.const (.int .i64 0)), none, false⟩])
  (.seq (.blk 0 (.seq (.reg [⟨(some 9), .loadn 5 (.tmp 3), none, false⟩,
   ⟨(some 10), .loadn 5 (.tmp 4), none, false⟩,
   ⟨(some 11), .bslice 30 5 2 [.int .i64 0, .int .i64 0, .int .i64 0, .int .i64 0, .slice none 0 0] [(0, 5, (.tmp 9)), (5, 5, (.tmp 10))], none, false⟩,
   ⟨(some 12), .call (.func 74) [(.tmp 11)], none, false⟩,
   ⟨(some 13), .un .not (.tmp 12), none, false⟩,
   ⟨(some 8), .mv (.tmp 13), none, false⟩])
  (.cond (.tmp 8) (.seq (.reg [⟨(some 14), .build [.int .i64 0, .int .i64 0, .int .i64 0, .int .i64 0, .slice none 0 0] [], none, false⟩,
   ⟨none, .store 5 (.tmp 6) (.tmp 14), none, false⟩,
   ⟨(some 7), .mv (.const (.int .i64 1)), none, false⟩])
  .ret) (.seq (.reg [⟨(some 16), .fadr 0 (.tmp 3), none, false⟩,
   ⟨(some 17), .load1 (.tmp 16), none, false⟩,
   ⟨(some 18), .fadr 0 (.tmp 4), none, false⟩,
   ⟨(some 19), .load1 (.tmp 18), none, false⟩,
   ⟨(some 20), .bin .neq (.tmp 17) (.tmp 19), none, false⟩,
   ⟨(some 21), .mv (.tmp 20), none, false⟩,
   ⟨(some 22), .loadn 5 (.tmp 3), (some (21, false)), false⟩,
   ⟨(some 23), .call (.func 75) [(.tmp 22)], (some (21, false)), true⟩,
   ⟨(some 24), .loadn 5 (.tmp 4), (some (21, false)), false⟩,
   ⟨(some 25), .call (.func 75) [(.tmp 24)], (some (21, false)), false⟩,
   ⟨(some 26), .eqa true 3 (.tmp 23) (.tmp 25), (some (21, false)), false⟩,
   ⟨(some 27), .pick (.tmp 21) (.const (.bool true)) (.tmp 26), none, false⟩,
   ⟨(some 28), .mv (.tmp 27), none, false⟩,
   ⟨(some 29), .load1 (.tmp 5), (some (28, false)), false⟩,
   ⟨(some 30), .bin .lss (.tmp 29) (.const (.int .i64 0)), (some (28, false)), false⟩,
   ⟨(some 31), .pick (.tmp 28) (.const (.bool true)) (.tmp 30), none, false⟩,
   ⟨(some 32), .mv (.tmp 31), none, false⟩,
   ⟨(some 33), .load1 (.tmp 5), (some (32, false)), false⟩,
   ⟨(some 34), .fadr 0 (.tmp 3), (some (32, false)), false⟩,
   ⟨(some 35), .load1 (.tmp 34), (some (32, false)), false⟩,
   ⟨(some 36), .bin .geq (.tmp 33) (.tmp 35), (some (32, false)), false⟩,
   ⟨(some 37), .pick (.tmp 32) (.const (.bool true)) (.tmp 36), none, false⟩,
   ⟨(some 15), .mv (.tmp 37), none, false⟩])
  (.cond (.tmp 15) (.seq (.reg [⟨(some 38), .build [.int .i64 0, .int .i64 0, .int .i64 0, .int .i64 0, .slice none 0 0] [], none, false⟩,
   ⟨none, .store 5 (.tmp 6) (.tmp 38), none, false⟩,
   ⟨(some 7), .mv (.const (.int .i64 2)), none, false⟩])
  .ret) .skip)))))
  (.seq (.reg [⟨(some 39), .fadr 0 (.tmp 3), none, false⟩,
   ⟨(some 40), .load1 (.tmp 39), none, false⟩,
   ⟨(some 41), .fadr 1 (.tmp 3), none, false⟩,
   ⟨(some 42), .load1 (.tmp 41), none, false⟩,
   ⟨(some 43), .fadr 2 (.tmp 3), none, false⟩,
   ⟨(some 44), .load1 (.tmp 43), none, false⟩,
   ⟨(some 45), .fadr 3 (.tmp 3), none, false⟩,
   ⟨(some 46), .load1 (.tmp 45), none, false⟩,
   ⟨(some 47), .mkf 77 [(.tmp 3), (.tmp 5), (.tmp 4)], none, false⟩,
   ⟨(some 48), .call (.func 76) [(.tmp 40), (.tmp 42), (.tmp 44), (.tmp 46), (.tmp 47)], none, false⟩,
   ⟨none, .store 5 (.tmp 6) (.tmp 48), none, false⟩,
   ⟨(some 7), .mv (.const (.int .i64 0)), none, false⟩])
  .ret)))⟩

/-- loop.example/g01262/laws.FnExactAddTensors -/
def c8 : XFn :=
 ⟨[.tmp 6],
  (.seq (.reg [⟨(some 3), .box 27 (.tmp 0), none, false⟩,
   ⟨(some 4), .box 27 (.tmp 1), none, false⟩,
   ⟨(some 6), .mv (.const (.bool false)), none, false⟩])
  (.seq (.reg [⟨(some 7), .mv (.const (.int .i64 1048576)), none, false⟩])
  (.seq (.reg [⟨(some 19), .loadn 5 (.tmp 3), none, false⟩,
   ⟨(some 20), .mv (.tmp 7), none, false⟩,
   ⟨(some 21), .call (.func 17) [(.tmp 19), (.tmp 20)], none, false⟩,
   ⟨(some 7), .mv (.tmp 21), none, false⟩])
  (.seq (.seq (.reg [⟨(some 22), .mv (.tmp 7), none, false⟩,
   ⟨(some 23), .bin .lss (.tmp 22) (.const (.int .i64 0)), none, false⟩])
  (.cond (.tmp 23) (.seq (.reg [⟨(some 6), .mv (.const (.bool true)), none, false⟩])
  .ret) .skip))
  (.seq (.reg [⟨(some 24), .loadn 5 (.tmp 4), none, false⟩,
   ⟨(some 25), .mv (.tmp 7), none, false⟩,
   ⟨(some 26), .call (.func 17) [(.tmp 24), (.tmp 25)], none, false⟩,
   ⟨(some 7), .mv (.tmp 26), none, false⟩])
  (.seq (.seq (.reg [⟨(some 27), .mv (.tmp 7), none, false⟩,
   ⟨(some 28), .bin .lss (.tmp 27) (.const (.int .i64 0)), none, false⟩])
  (.cond (.tmp 28) (.seq (.reg [⟨(some 6), .mv (.const (.bool true)), none, false⟩])
  .ret) .skip))
  (.seq (.reg [⟨(some 30), .loadn 5 (.tmp 3), none, false⟩,
   ⟨(some 31), .call (.func 19) [(.tmp 30)], none, true⟩,
   ⟨(some 32), .loadn 5 (.tmp 4), none, false⟩,
   ⟨(some 33), .call (.func 19) [(.tmp 32)], none, false⟩,
   ⟨(some 34), .mv (.tmp 2), none, false⟩,
   ⟨(some 35), .call (.func 33) [(.tmp 31), (.tmp 33), (.tmp 34)], none, false⟩,
   ⟨(some 29), .mv (.tmp 35), none, false⟩,
   ⟨(some 36), .ext (.tmp 29) 0, none, false⟩,
   ⟨(some 37), .ext (.tmp 29) 1, none, false⟩,
   ⟨(some 9), .mv (.tmp 37), none, false⟩,
   ⟨(some 8), .boxn 30 5 (.tmp 36), none, false⟩])
  (.seq (.reg [⟨(some 38), .loadn 5 (.tmp 3), none, false⟩,
   ⟨(some 39), .call (.func 19) [(.tmp 38)], none, false⟩,
   ⟨(some 10), .alloc 30 [.int .i64 0, .int .i64 0, .int .i64 0, .int .i64 0, .slice none 0 0], none, false⟩,
   ⟨none, .store 5 (.tmp 10) (.tmp 39), none, false⟩])
  (.seq (.reg [⟨(some 40), .loadn 5 (.tmp 4), none, false⟩,
   ⟨(some 41), .call (.func 19) [(.tmp 40)], none, false⟩,
   ⟨(some 11), .alloc 30 [.int .i64 0, .int .i64 0, .int .i64 0, .int .i64 0, .slice none 0 0], none, false⟩,
   ⟨none, .store 5 (.tmp 11) (.tmp 41), none, false⟩])
  (.seq (.reg [⟨(some 43), .loadn 5 (.tmp 10), none, false⟩,
   ⟨(some 44), .loadn 5 (.tmp 11), none, false⟩,
   ⟨(some 45), .mv (.tmp 2), none, false⟩,
   ⟨(some 46), .call (.func 34) [(.tmp 43), (.tmp 44), (.tmp 45)], none, false⟩,
   ⟨(some 42), .mv (.tmp 46), none, false⟩,
   ⟨(some 47), .ext (.tmp 42) 0, none, false⟩,
   ⟨(some 48), .ext (.tmp 42) 1, none, false⟩,
   ⟨(some 12), .alloc 30 [.int .i64 0, .int .i64 0, .int .i64 0, .int .i64 0, .slice none 0 0], none, false⟩,
   ⟨none, .store 5 (.tmp 12) (.tmp 47), none, false⟩,
   ⟨(some 13), .mv (.tmp 48), none, false⟩])
  (.seq (.seq (.reg [⟨(some 49), .loadn 5 (.tmp 12), none, false⟩,
   ⟨(some 50), .loadn 5 (.tmp 8), none, false⟩,
   ⟨(some 51), .call (.func 21) [(.tmp 49), (.tmp 50)], none, false⟩,
   ⟨(some 52), .un .not (.tmp 51), none, false⟩,
   ⟨(some 53), .mv (.tmp 52), none, false⟩,
   ⟨(some 54), .mv (.tmp 13), (some (53, false)), false⟩,
   ⟨(some 55), .mv (.tmp 9), (some (53, false)), false⟩,
   ⟨(some 56), .bin .neq (.tmp 54) (.tmp 55), (some (53, false)), false⟩,
   ⟨(some 57), .pick (.tmp 53) (.const (.bool true)) (.tmp 56), none, false⟩])
  (.cond (.tmp 57) (.seq (.reg [⟨(some 6), .mv (.const (.bool false)), none, false⟩])
  .ret) .skip))
  (.seq (.seq (.reg [⟨(some 58), .loadn 5 (.tmp 10), none, false⟩,
   ⟨(some 59), .loadn 5 (.tmp 3), none, false⟩,
   ⟨(some 60), .call (.func 19) [(.tmp 59)], none, true⟩,
   ⟨(some 61), .call (.func 21) [(.tmp 58), (.tmp 60)], none, false⟩,
   ⟨(some 62), .un .not (.tmp 61), none, false⟩])
  (.cond (.tmp 62) (.seq (.reg [⟨(some 6), .mv (.const (.bool false)), none, false⟩])
  .ret) .skip))
  (.seq (.seq (.reg [⟨(some 63), .loadn 5 (.tmp 11), none, false⟩,
   ⟨(some 64), .loadn 5 (.tmp 4), none, false⟩,
   ⟨(some 65), .call (.func 19) [(.tmp 64)], none, true⟩,
   ⟨(some 66), .call (.func 21) [(.tmp 63), (.tmp 65)], none, false⟩,
   ⟨(some 67), .un .not (.tmp 66), none, false⟩])
  (.cond (.tmp 67) (.seq (.reg [⟨(some 6), .mv (.const (.bool false)), none, false⟩])
  .ret) .skip))
  (.seq (.reg [⟨(some 14), .mv (.const (.int .i64 1)), none, false⟩])
  (.seq (.reg [⟨(some 68), .loadn 5 (.tmp 10), none, false⟩,
   ⟨(some 69), .mv (.tmp 14), none, false⟩,
   ⟨(some 70), .call (.func 31) [(.tmp 68), (.tmp 69)], none, false⟩,
   ⟨(some 14), .mv (.tmp 70), none, false⟩])
  (.seq (.reg [⟨(some 71), .loadn 5 (.tmp 11), none, false⟩,
   ⟨(some 72), .mv (.tmp 14), none, false⟩,
   ⟨(some 73), .call (.func 31) [(.tmp 71), (.tmp 72)], none, false⟩,
   ⟨(some 14), .mv (.tmp 73), none, false⟩])
  (.seq (.seq (.reg [⟨(some 74), .mv (.tmp 14), none, false⟩,
   ⟨(some 75), .bin .lss (.tmp 74) (.const (.int .i64 0)), none, false⟩,
   ⟨(some 76), .mv (.tmp 75), none, false⟩,
   ⟨(some 77), .loadn 5 (.tmp 12), (some (76, false)), false⟩,
   ⟨(some 78), .loadn 5 (.tmp 8), (some (76, false)), false⟩,
   ⟨(some 79), .call (.func 21) [(.tmp 77), (.tmp 78)], (some (76, false)), false⟩,
   ⟨(some 80), .un .not (.tmp 79), (some (76, false)), false⟩,
   ⟨(some 81), .pick (.tmp 76) (.const (.bool true)) (.tmp 80), none, false⟩,
   ⟨(some 82), .mv (.tmp 81), none, false⟩,
   ⟨(some 83), .mv (.tmp 13), (some (82, false)), false⟩,
   ⟨(some 84), .mv (.tmp 9), (some (82, false)), false⟩,
   ⟨(some 85), .bin .neq (.tmp 83) (.tmp 84), (some (82, false)), false⟩,
   ⟨(some 86), .pick (.tmp 82) (.const (.bool true)) (.tmp 85), none, false⟩])
  (.cond (.tmp 86) (.seq (.reg [⟨(some 6), .mv (.const (.bool false)), none, false⟩])
  .ret) .skip))
  (.seq (.reg [⟨(some 15), .mv (.const (.int .i64 1)), none, false⟩])
  (.seq (.reg [⟨(some 87), .loadn 5 (.tmp 12), none, false⟩,
   ⟨(some 88), .mv (.tmp 15), none, false⟩,
   ⟨(some 89), .call (.func 31) [(.tmp 87), (.tmp 88)], none, false⟩,
   ⟨(some 15), .mv (.tmp 89), none, false⟩])
  (.seq (.reg [⟨(some 16), .mv (.const (.int .i64 1)), none, false⟩])
  (.seq (.reg [⟨(some 90), .loadn 5 (.tmp 12), none, false⟩,
   ⟨(some 91), .mv (.tmp 16), none, false⟩,
   ⟨(some 92), .call (.func 32) [(.tmp 90), (.tmp 91)], none, false⟩,
   ⟨(some 16), .mv (.tmp 92), none, false⟩])
  (.seq (.seq (.reg [⟨(some 93), .mv (.tmp 16), none, false⟩,
   ⟨(some 94), .bin .lss (.tmp 93) (.const (.int .i64 0)), none, false⟩])
  (.cond (.tmp 94) (.seq (.reg [⟨(some 6), .mv (.const (.bool false)), none, false⟩])
  .ret) .skip))
  (.seq (.seq (.reg [⟨(some 95), .mv (.tmp 16), none, false⟩,
   ⟨(some 96), .mv (.tmp 15), none, false⟩,
   ⟨(some 97), .bin .neq (.tmp 95) (.tmp 96), none, false⟩])
  (.cond (.tmp 97) (.seq (.reg [⟨(some 6), .mv (.const (.bool false)), none, false⟩])
  .ret) .skip))
  (.seq (.reg [⟨(some 99), .loadn 5 (.tmp 3), none, false⟩,
   ⟨(some 100), .call (.func 19) [(.tmp 99)], none, true⟩,
   ⟨(some 101), .loadn 5 (.tmp 4), none, false⟩,
   ⟨(some 102), .call (.func 19) [(.tmp 101)], none, false⟩,
   ⟨(some 103), .mv (.tmp 2), none, false⟩,
   ⟨(some 104), .call (.func 34) [(.tmp 100), (.tmp 102), (.tmp 103)], none, false⟩,
   ⟨(some 98), .mv (.tmp 104), none, false⟩,
   ⟨(some 105), .ext (.tmp 98) 0, none, false⟩,
   ⟨(some 106), .ext (.tmp 98) 1, none, false⟩,
   ⟨(some 18), .mv (.tmp 106), none, false⟩,
   ⟨(some 17), .boxn 30 5 (.tmp 105), none, false⟩])
  (.seq (.seq (.reg [⟨(some 107), .loadn 5 (.tmp 17), none, false⟩,
   ⟨(some 108), .loadn 5 (.tmp 8), none, false⟩,
   ⟨(some 109), .call (.func 21) [(.tmp 107), (.tmp 108)], none, false⟩,
   ⟨(some 110), .un .not (.tmp 109), none, false⟩,
   ⟨(some 111), .mv (.tmp 110), none, false⟩,
   ⟨(some 112), .mv (.tmp 18), (some (111, false)), false⟩,
   ⟨(some 113), .mv (.tmp 9), (some (111, false)), false⟩,
   ⟨(some 114), .bin .neq (.tmp 112) (.tmp 113), (some (111, false)), false⟩,
   ⟨(some 115), .pick (.tmp 111) (.const (.bool true)) (.tmp 114), none, false⟩])
  (.cond (.tmp 115) (.seq (.reg [⟨(some 6), .mv (.const (.bool false)), none, false⟩])
  .ret) .skip))
  (.seq (.reg [⟨(some 16), .mv (.const (.int .i64 1)), none, false⟩])
  (.seq (.reg [⟨(some 116), .loadn 5 (.tmp 12), none, false⟩,
   ⟨(some 117), .mv (.tmp 16), none, false⟩,
   ⟨(some 118), .call (.func 32) [(.tmp 116), (.tmp 117)], none, false⟩,
   ⟨(some 16), .mv (.tmp 118), none, false⟩])
  (.seq (.seq (.reg [⟨(some 119), .mv (.tmp 16), none, false⟩,
   ⟨(some 120), .bin .lss (.tmp 119) (.const (.int .i64 0)), none, false⟩])
  (.cond (.tmp 120) (.seq (.reg [⟨(some 6), .mv (.const (.bool false)), none, false⟩])
  .ret) .skip))
  (.seq (.seq (.reg [⟨(some 121), .mv (.tmp 16), none, false⟩,
   ⟨(some 122), .mv (.tmp 15), none, false⟩,
   ⟨(some 123), .bin .neq (.tmp 121) (.tmp 122), none, false⟩])
  (.cond (.tmp 123) (.seq (.reg [⟨(some 6), .mv (.const (.bool false)), none, false⟩])
  .ret) .skip))
  (.seq (.reg [⟨(some 6), .mv (.const (.bool true)), none, false⟩])
  .ret))))))))))))))))))))))))))))))⟩

/-- loop.example/g01262/spec.l05Two -/
def c78 : XFn :=
 ⟨[.tmp 4],
  (.seq (.reg [⟨(some 2), .box 30 (.tmp 0), none, false⟩,
   ⟨(some 3), .box 30 (.tmp 1), none, false⟩,
   ⟨(some 4), .mv (.const (.int .i64 0)), none, false⟩])
  (.seq (.blk 0 (.seq (.reg [⟨(some 6), .loadn 5 (.tmp 2), none, false⟩,
   ⟨(some 7), .call (.func 58) [(.tmp 6)], none, false⟩,
   ⟨(some 8), .un .not (.tmp 7), none, false⟩,
   ⟨(some 9), .mv (.tmp 8), none, false⟩,
   ⟨(some 10), .loadn 5 (.tmp 3), (some (9, false)), false⟩,
   ⟨(some 11), .call (.func 58) [(.tmp 10)], (some (9, false)), false⟩,
   ⟨(some 12), .un .not (.tmp 11), (some (9, false)), false⟩,
   ⟨(some 13), .pick (.tmp 9) (.const (.bool true)) (.tmp 12), none, false⟩,
   ⟨(some 5), .mv (.tmp 13), none, false⟩])
  (.cond (.tmp 5) (.seq (.reg [⟨(some 4), .mv (.const (.int .i64 1)), none, false⟩])
  .ret) (.seq (.reg [⟨(some 15), .fadr 0 (.tmp 2), none, false⟩,
   ⟨(some 16), .load1 (.tmp 15), none, false⟩,
   ⟨(some 17), .fadr 0 (.tmp 3), none, false⟩,
   ⟨(some 18), .load1 (.tmp 17), none, false⟩,
   ⟨(some 19), .bin .neq (.tmp 16) (.tmp 18), none, false⟩,
   ⟨(some 14), .mv (.tmp 19), none, false⟩])
  (.cond (.tmp 14) (.seq (.reg [⟨(some 4), .mv (.const (.int .i64 2)), none, false⟩])
  .ret) .skip)))))
  (.seq (.reg [⟨(some 4), .mv (.const (.int .i64 0)), none, false⟩])
  .ret)))⟩

/-- loop.example/g01262/spec.l05Kronecker -/
def c79 : XFn :=
 ⟨[.celln 4 5],
  (.seq (.reg [⟨(some 2), .box 30 (.tmp 0), none, false⟩,
   ⟨(some 3), .box 30 (.tmp 1), none, false⟩,
   ⟨(some 4), .alloc 30 [.int .i64 0, .int .i64 0, .int .i64 0, .int .i64 0, .slice none 0 0], none, false⟩])
  (.seq (.reg [⟨(some 9), .fadr 0 (.tmp 2), none, false⟩,
   ⟨(some 10), .load1 (.tmp 9), none, false⟩,
   ⟨(some 11), .fadr 1 (.tmp 2), none, false⟩,
   ⟨(some 12), .load1 (.tmp 11), none, false⟩,
   ⟨(some 13), .fadr 1 (.tmp 3), none, false⟩,
   ⟨(some 14), .load1 (.tmp 13), none, false⟩,
   ⟨(some 15), .bin .mul (.tmp 12) (.tmp 14), none, false⟩,
   ⟨(some 16), .fadr 2 (.tmp 2), none, false⟩,
   ⟨(some 17), .load1 (.tmp 16), none, false⟩,
   ⟨(some 18), .fadr 2 (.tmp 3), none, false⟩,
   ⟨(some 19), .load1 (.tmp 18), none, false⟩,
   ⟨(some 20), .bin .mul (.tmp 17) (.tmp 19), none, false⟩,
   ⟨(some 21), .fadr 3 (.tmp 2), none, false⟩,
   ⟨(some 22), .load1 (.tmp 21), none, false⟩,
   ⟨(some 23), .fadr 3 (.tmp 3), none, false⟩,
   ⟨(some 24), .load1 (.tmp 23), none, false⟩,
   ⟨(some 25), .bin .mul (.tmp 22) (.tmp 24), none, false⟩,
   ⟨(some 26), .call (.func 73) [(.tmp 10), (.tmp 15), (.tmp 20), (.tmp 25)], none, false⟩,
   ⟨(some 5), .alloc 30 [.int .i64 0, .int .i64 0, .int .i64 0, .int .i64 0, .slice none 0 0], none, false⟩,
   ⟨none, .store 5 (.tmp 5) (.tmp 26), none, false⟩])
  (.seq (.seq (.reg [⟨(some 6), .mv (.const (.int .i64 0)), none, false⟩])
  (.blk 0 (.loop (.seq (.seq (.reg [⟨(some 27), .mv (.tmp 6), none, false⟩,
   ⟨(some 28), .fadr 1 (.tmp 5), none, false⟩,
   ⟨(some 29), .load1 (.tmp 28), none, false⟩,
   ⟨(some 30), .bin .lss (.tmp 27) (.tmp 29), none, false⟩])
  (.cond (.tmp 30) .skip (.exit 0)))
  (.seq (.blk 1 (.seq (.reg [⟨(some 7), .mv (.const (.int .i64 0)), none, false⟩])
  (.blk 2 (.loop (.seq (.seq (.reg [⟨(some 33), .mv (.tmp 7), none, false⟩,
   ⟨(some 34), .fadr 2 (.tmp 5), none, false⟩,
   ⟨(some 35), .load1 (.tmp 34), none, false⟩,
   ⟨(some 36), .bin .lss (.tmp 33) (.tmp 35), none, false⟩])
  (.cond (.tmp 36) .skip (.exit 2)))
  (.seq (.blk 3 (.seq (.reg [⟨(some 8), .mv (.const (.int .i64 0)), none, false⟩])
  (.blk 4 (.loop (.seq (.seq (.reg [⟨(some 39), .mv (.tmp 8), none, false⟩,
   ⟨(some 40), .fadr 3 (.tmp 5), none, false⟩,
   ⟨(some 41), .load1 (.tmp 40), none, false⟩,
   ⟨(some 42), .bin .lss (.tmp 39) (.tmp 41), none, false⟩])
  (.cond (.tmp 42) .skip (.exit 4)))
  (.seq (.blk 5 (.reg [⟨(some 45), .fadr 4 (.tmp 5), none, false⟩,
   ⟨(some 46), .load1 (.tmp 45), none, false⟩,
   ⟨(some 47), .mv (.tmp 6), none, false⟩,
   ⟨(some 48), .fadr 2 (.tmp 5), none, false⟩,
   ⟨(some 49), .load1 (.tmp 48), none, false⟩,
   ⟨(some 50), .bin .mul (.tmp 47) (.tmp 49), none, false⟩,
   ⟨(some 51), .mv (.tmp 7), none, false⟩,
   ⟨(some 52), .bin .add (.tmp 50) (.tmp 51), none, false⟩,
   ⟨(some 53), .fadr 3 (.tmp 5), none, false⟩,
   ⟨(some 54), .load1 (.tmp 53), none, false⟩,
   ⟨(some 55), .bin .mul (.tmp 52) (.tmp 54), none, false⟩,
   ⟨(some 56), .mv (.tmp 8), none, false⟩,
   ⟨(some 57), .bin .add (.tmp 55) (.tmp 56), none, false⟩,
   ⟨(some 58), .loadn 5 (.tmp 2), none, false⟩,
   ⟨(some 59), .mv (.tmp 6), none, false⟩,
   ⟨(some 60), .fadr 1 (.tmp 3), none, false⟩,
   ⟨(some 61), .load1 (.tmp 60), none, false⟩,
   ⟨(some 62), .bin .quo (.tmp 59) (.tmp 61), none, false⟩,
   ⟨(some 63), .mv (.tmp 7), none, false⟩,
   ⟨(some 64), .fadr 2 (.tmp 3), none, false⟩,
   ⟨(some 65), .load1 (.tmp 64), none, false⟩,
   ⟨(some 66), .bin .quo (.tmp 63) (.tmp 65), none, false⟩,
   ⟨(some 67), .mv (.tmp 8), none, false⟩,
   ⟨(some 68), .fadr 3 (.tmp 3), none, false⟩,
   ⟨(some 69), .load1 (.tmp 68), none, false⟩,
   ⟨(some 70), .bin .quo (.tmp 67) (.tmp 69), none, false⟩,
   ⟨(some 71), .call (.func 62) [(.tmp 58), (.tmp 62), (.tmp 66), (.tmp 70)], none, true⟩,
   ⟨(some 72), .loadn 5 (.tmp 3), none, false⟩,
   ⟨(some 73), .mv (.tmp 6), none, false⟩,
   ⟨(some 74), .fadr 1 (.tmp 3), none, false⟩,
   ⟨(some 75), .load1 (.tmp 74), none, false⟩,
   ⟨(some 76), .bin .rem (.tmp 73) (.tmp 75), none, false⟩,
   ⟨(some 77), .mv (.tmp 7), none, false⟩,
   ⟨(some 78), .fadr 2 (.tmp 3), none, false⟩,
   ⟨(some 79), .load1 (.tmp 78), none, false⟩,
   ⟨(some 80), .bin .rem (.tmp 77) (.tmp 79), none, false⟩,
   ⟨(some 81), .mv (.tmp 8), none, false⟩,
   ⟨(some 82), .fadr 3 (.tmp 3), none, false⟩,
   ⟨(some 83), .load1 (.tmp 82), none, false⟩,
   ⟨(some 84), .bin .rem (.tmp 81) (.tmp 83), none, false⟩,
   ⟨(some 85), .call (.func 62) [(.tmp 72), (.tmp 76), (.tmp 80), (.tmp 84)], none, true⟩,
   ⟨(some 86), .bin .mul (.tmp 71) (.tmp 85), none, false⟩,
   ⟨(some 87), .fadr 0 (.tmp 2), none, false⟩,
   ⟨(some 88), .load1 (.tmp 87), none, false⟩,
   ⟨(some 89), .bin .rem (.tmp 86) (.tmp 88), none, false⟩,
   ⟨(some 90), .ixs 1 (.tmp 46) (.tmp 57), none, false⟩,
   ⟨none, .store 1 (.tmp 90) (.tmp 89), none, false⟩]))
  (.reg [⟨(some 43), .mv (.tmp 8), none, false⟩,
   ⟨(some 44), .bin .add (.tmp 43) (.const (.int .i64 1)), none, false⟩,
   ⟨(some 8), .mv (.tmp 44), none, false⟩])))))))
  (.reg [⟨(some 37), .mv (.tmp 7), none, false⟩,
   ⟨(some 38), .bin .add (.tmp 37) (.const (.int .i64 1)), none, false⟩,
   ⟨(some 7), .mv (.tmp 38), none, false⟩])))))))
  (.reg [⟨(some 31), .mv (.tmp 6), none, false⟩,
   ⟨(some 32), .bin .add (.tmp 31) (.const (.int .i64 1)), none, false⟩,
   ⟨(some 6), .mv (.tmp 32), none, false⟩]))))))
  (.seq (.reg [⟨(some 91), .loadn 5 (.tmp 5), none, false⟩,
   ⟨none, .store 5 (.tmp 4) (.tmp 91), none, false⟩])
  .ret))))⟩

/-- loop.example/g01262/spec.KroneckerTensors -/
def c35 : XFn :=
 ⟨[.celln 4 5, .tmp 5],
  (.seq (.reg [⟨(some 2), .box 30 (.tmp 0), none, false⟩,
   ⟨(some 3), .box 30 (.tmp 1), none, false⟩,
   ⟨(some 4), .alloc 30 [.int .i64 0, .int .i64 0, .int .i64 0, .int .i64 0, .slice none 0 0], none, false⟩,
   ⟨(some 5), .mv (.const (.int .i64 0)), none, false⟩])
  (.seq (.seq (.reg [⟨(some 7), .loadn 5 (.tmp 2), none, false⟩,
   ⟨(some 8), .loadn 5 (.tmp 3), none, false⟩,
   ⟨(some 9), .call (.func 78) [(.tmp 7), (.tmp 8)], none, false⟩,
   ⟨(some 6), .mv (.tmp 9), none, false⟩])
  (.seq (.reg [⟨(some 10), .mv (.tmp 6), none, false⟩,
   ⟨(some 11), .bin .neq (.tmp 10) (.const (.int .i64 0)), none, false⟩])
  (.cond (.tmp 11) (.seq (.reg [⟨(some 12), .build [.int .i64 0, .int .i64 0, .int .i64 0, .int .i64 0, .slice none 0 0] [], none, false⟩,
   ⟨(some 13), .mv (.tmp 6), none, false⟩,
   ⟨none, .store 5 (.tmp 4) (.tmp 12), none, false⟩,
   ⟨(some 5), .mv (.tmp 13), none, false⟩])
  .ret) .skip)))
  (.seq (.seq (.reg [⟨(some 14), .fadr 1 (.tmp 2), none, false⟩,
   ⟨(some 15), .load1 (.tmp 14), none, false⟩,
   ⟨(some 16), .fadr 1 (.tmp 3), none, false⟩,
   ⟨(some 17), .load1 (.tmp 16), none, false⟩,
   ⟨(some 18), .bin .mul (.tmp 15) (.tmp 17), none, false⟩,
   ⟨(some 19), .fadr 2 (.tmp 2), none, false⟩,
   ⟨(some 20), .load1 (.tmp 19), none, false⟩,
   ⟨(some 21), .fadr 2 (.tmp 3), none, false⟩,
   ⟨(some 22), .load1 (.tmp 21), none, false⟩,
   ⟨(some 23), .bin .mul (.tmp 20) (.tmp 22), none, false⟩,
   ⟨(some 24), .fadr 3 (.tmp 2), none, false⟩,
   ⟨(some 25), .load1 (.tmp 24), none, false⟩,
   ⟨(some 26), .fadr 3 (.tmp 3), none, false⟩,
   ⟨(some 27), .load1 (.tmp 26), none, false⟩,
   ⟨(some 28), .bin .mul (.tmp 25) (.tmp 27), none, false⟩,
   ⟨(some 29), .mm true (.tmp 18) [(.tmp 23), (.tmp 28)], none, false⟩,
   ⟨(some 30), .bin .gtr (.tmp 29) (.const (.int .i64 9)), none, false⟩])
  (.cond (.tmp 30) (.seq (.reg [⟨(some 31), .build [.int .i64 0, .int .i64 0, .int .i64 0, .int .i64 0, .slice none 0 0] [], none, false⟩,
   ⟨none, .store 5 (.tmp 4) (.tmp 31), none, false⟩,
   ⟨(some 5), .mv (.const (.int .i64 3)), none, false⟩])
  .ret) .skip))
  (.seq (.reg [⟨(some 32), .loadn 5 (.tmp 2), none, false⟩,
   ⟨(some 33), .loadn 5 (.tmp 3), none, false⟩,
   ⟨(some 34), .call (.func 79) [(.tmp 32), (.tmp 33)], none, false⟩,
   ⟨none, .store 5 (.tmp 4) (.tmp 34), none, false⟩,
   ⟨(some 5), .mv (.const (.int .i64 0)), none, false⟩])
  .ret))))⟩

/-- loop.example/g01262/impl.twoTensors -/
def c80 : XFn :=
 ⟨[.tmp 6],
  (.seq (.reg [⟨(some 3), .box 30 (.tmp 0), none, false⟩,
   ⟨(some 4), .box 30 (.tmp 1), none, false⟩,
   ⟨(some 6), .mv (.const (.int .i64 0)), none, false⟩])
  (.seq (.blk 0 (.seq (.reg [⟨(some 8), .loadn 5 (.tmp 3), none, false⟩,
   ⟨(some 9), .loadn 5 (.tmp 4), none, false⟩,
   ⟨(some 10), .bslice 30 5 2 [.int .i64 0, .int .i64 0, .int .i64 0, .int .i64 0, .slice none 0 0] [(0, 5, (.tmp 8)), (5, 5, (.tmp 9))], none, false⟩,
   ⟨(some 11), .call (.func 74) [(.tmp 10)], none, false⟩,
   ⟨(some 12), .un .not (.tmp 11), none, false⟩,
   ⟨(some 7), .mv (.tmp 12), none, false⟩])
  (.cond (.tmp 7) (.seq (.reg [⟨(some 6), .mv (.const (.int .i64 1)), none, false⟩])
  .ret) (.seq (.reg [⟨(some 14), .fadr 0 (.tmp 3), none, false⟩,
   ⟨(some 15), .load1 (.tmp 14), none, false⟩,
   ⟨(some 16), .fadr 0 (.tmp 4), none, false⟩,
   ⟨(some 17), .load1 (.tmp 16), none, false⟩,
   ⟨(some 18), .bin .neq (.tmp 15) (.tmp 17), none, false⟩,
   ⟨(some 13), .mv (.tmp 18), none, false⟩])
  (.cond (.tmp 13) (.seq (.reg [⟨(some 6), .mv (.const (.int .i64 2)), none, false⟩])
  .ret) (.seq (.reg [⟨(some 20), .mv (.tmp 2), none, false⟩,
   ⟨(some 21), .call (.func 60) [(.tmp 20)], none, false⟩,
   ⟨(some 22), .un .not (.tmp 21), none, false⟩,
   ⟨(some 19), .mv (.tmp 22), none, false⟩])
  (.cond (.tmp 19) (.seq (.reg [⟨(some 6), .mv (.const (.int .i64 3)), none, false⟩])
  .ret) .skip)))))))
  (.seq (.reg [⟨(some 6), .mv (.const (.int .i64 0)), none, false⟩])
  .ret)))⟩

/-- loop.example/g01262/impl.KroneckerTensors -/
def c36 : XFn :=
 ⟨[.celln 4 5, .tmp 5],
  (.seq (.reg [⟨(some 2), .box 30 (.tmp 0), none, false⟩,
   ⟨(some 3), .box 30 (.tmp 1), none, false⟩,
   ⟨(some 4), .alloc 30 [.int .i64 0, .int .i64 0, .int .i64 0, .int .i64 0, .slice none 0 0], none, false⟩,
   ⟨(some 5), .mv (.const (.int .i64 0)), none, false⟩])
  (.seq (.seq (.reg [⟨(some 7), .loadn 5 (.tmp 2), none, false⟩,
   ⟨(some 8), .loadn 5 (.tmp 3), none, false⟩,
   ⟨(some 9), .fadr 1 (.tmp 2), none, false⟩,
   ⟨(some 10), .load1 (.tmp 9), none, false⟩,
   ⟨(some 11), .fadr 1 (.tmp 3), none, false⟩,
   ⟨(some 12), .load1 (.tmp 11), none, false⟩,
   ⟨(some 13), .bin .mul (.tmp 10) (.tmp 12), none, false⟩,
   ⟨(some 14), .fadr 2 (.tmp 2), none, false⟩,
   ⟨(some 15), .load1 (.tmp 14), none, false⟩,
   ⟨(some 16), .fadr 2 (.tmp 3), none, false⟩,
   ⟨(some 17), .load1 (.tmp 16), none, false⟩,
   ⟨(some 18), .bin .mul (.tmp 15) (.tmp 17), none, false⟩,
   ⟨(some 19), .fadr 3 (.tmp 2), none, false⟩,
   ⟨(some 20), .load1 (.tmp 19), none, false⟩,
   ⟨(some 21), .fadr 3 (.tmp 3), none, false⟩,
   ⟨(some 22), .load1 (.tmp 21), none, false⟩,
   ⟨(some 23), .bin .mul (.tmp 20) (.tmp 22), none, false⟩,
   ⟨(some 24), .bslice 2 1 3 [.int .i64 0] [(0, 1, (.tmp 13)), (1, 1, (.tmp 18)), (2, 1, (.tmp 23))], none, false⟩,
   ⟨(some 25), .call (.func 80) [(.tmp 7), (.tmp 8), (.tmp 24)], none, false⟩,
   ⟨(some 6), .mv (.tmp 25), none, false⟩])
  (.seq (.reg [⟨(some 26), .mv (.tmp 6), none, false⟩,
   ⟨(some 27), .bin .neq (.tmp 26) (.const (.int .i64 0)), none, false⟩])
  (.cond (.tmp 27) (.seq (.reg [⟨(some 28), .build [.int .i64 0, .int .i64 0, .int .i64 0, .int .i64 0, .slice none 0 0] [], none, false⟩,
   ⟨(some 29), .mv (.tmp 6), none, false⟩,
   ⟨none, .store 5 (.tmp 4) (.tmp 28), none, false⟩,
   ⟨(some 5), .mv (.tmp 29), none, false⟩])
  .ret) .skip)))
  (.seq (.reg [⟨(some 30), .fadr 0 (.tmp 2), none, false⟩,
   ⟨(some 31), .load1 (.tmp 30), none, false⟩,
   ⟨(some 32), .fadr 1 (.tmp 2), none, false⟩,
   ⟨(some 33), .load1 (.tmp 32), none, false⟩,
   ⟨(some 34), .fadr 1 (.tmp 3), none, false⟩,
   ⟨(some 35), .load1 (.tmp 34), none, false⟩,
   ⟨(some 36), .bin .mul (.tmp 33) (.tmp 35), none, false⟩,
   ⟨(some 37), .fadr 2 (.tmp 2), none, false⟩,
   ⟨(some 38), .load1 (.tmp 37), none, false⟩,
   ⟨(some 39), .fadr 2 (.tmp 3), none, false⟩,
   ⟨(some 40), .load1 (.tmp 39), none, false⟩,
   ⟨(some 41), .bin .mul (.tmp 38) (.tmp 40), none, false⟩,
   ⟨(some 42), .fadr 3 (.tmp 2), none, false⟩,
   ⟨(some 43), .load1 (.tmp 42), none, false⟩,
   ⟨(some 44), .fadr 3 (.tmp 3), none, false⟩,
   ⟨(some 45), .load1 (.tmp 44), none, false⟩,
   ⟨(some 46), .bin .mul (.tmp 43) (.tmp 45), none, false⟩,
   ⟨(some 47), .mkf 81 [(.tmp 2), (.tmp 3)], none, false⟩,
   ⟨(some 48), .call (.func 76) [(.tmp 31), (.tmp 36), (.tmp 41), (.tmp 46), (.tmp 47)], none, false⟩,
   ⟨none, .store 5 (.tmp 4) (.tmp 48), none, false⟩,
   ⟨(some 5), .mv (.const (.int .i64 0)), none, false⟩])
  .ret)))⟩

/-- loop.example/g01262/laws.FnExactKroneckerTensors -/
def c9 : XFn :=
 ⟨[.tmp 4],
  (.seq (.reg [⟨(some 2), .box 27 (.tmp 0), none, false⟩,
   ⟨(some 3), .box 27 (.tmp 1), none, false⟩,
   ⟨(some 4), .mv (.const (.bool false)), none, false⟩])
  (.seq (.reg [⟨(some 5), .mv (.const (.int .i64 1048576)), none, false⟩])
  (.seq (.reg [⟨(some 17), .loadn 5 (.tmp 2), none, false⟩,
   ⟨(some 18), .mv (.tmp 5), none, false⟩,
   ⟨(some 19), .call (.func 17) [(.tmp 17), (.tmp 18)], none, false⟩,
   ⟨(some 5), .mv (.tmp 19), none, false⟩])
  (.seq (.seq (.reg [⟨(some 20), .mv (.tmp 5), none, false⟩,
   ⟨(some 21), .bin .lss (.tmp 20) (.const (.int .i64 0)), none, false⟩])
  (.cond (.tmp 21) (.seq (.reg [⟨(some 4), .mv (.const (.bool true)), none, false⟩])
  .ret) .skip))
  (.seq (.reg [⟨(some 22), .loadn 5 (.tmp 3), none, false⟩,
   ⟨(some 23), .mv (.tmp 5), none, false⟩,
   ⟨(some 24), .call (.func 17) [(.tmp 22), (.tmp 23)], none, false⟩,
   ⟨(some 5), .mv (.tmp 24), none, false⟩])
  (.seq (.seq (.reg [⟨(some 25), .mv (.tmp 5), none, false⟩,
   ⟨(some 26), .bin .lss (.tmp 25) (.const (.int .i64 0)), none, false⟩])
  (.cond (.tmp 26) (.seq (.reg [⟨(some 4), .mv (.const (.bool true)), none, false⟩])
  .ret) .skip))
  (.seq (.reg [⟨(some 28), .loadn 5 (.tmp 2), none, false⟩,
   ⟨(some 29), .call (.func 19) [(.tmp 28)], none, true⟩,
   ⟨(some 30), .loadn 5 (.tmp 3), none, false⟩,
   ⟨(some 31), .call (.func 19) [(.tmp 30)], none, false⟩,
   ⟨(some 32), .call (.func 35) [(.tmp 29), (.tmp 31)], none, false⟩,
   ⟨(some 27), .mv (.tmp 32), none, false⟩,
   ⟨(some 33), .ext (.tmp 27) 0, none, false⟩,
   ⟨(some 34), .ext (.tmp 27) 1, none, false⟩,
   ⟨(some 7), .mv (.tmp 34), none, false⟩,
   ⟨(some 6), .boxn 30 5 (.tmp 33), none, false⟩])
  (.seq (.reg [⟨(some 35), .loadn 5 (.tmp 2), none, false⟩,
   ⟨(some 36), .call (.func 19) [(.tmp 35)], none, false⟩,
   ⟨(some 8), .alloc 30 [.int .i64 0, .int .i64 0, .int .i64 0, .int .i64 0, .slice none 0 0], none, false⟩,
   ⟨none, .store 5 (.tmp 8) (.tmp 36), none, false⟩])
  (.seq (.reg [⟨(some 37), .loadn 5 (.tmp 3), none, false⟩,
   ⟨(some 38), .call (.func 19) [(.tmp 37)], none, false⟩,
   ⟨(some 9), .alloc 30 [.int .i64 0, .int .i64 0, .int .i64 0, .int .i64 0, .slice none 0 0], none, false⟩,
   ⟨none, .store 5 (.tmp 9) (.tmp 38), none, false⟩])
  (.seq (.reg [⟨(some 40), .loadn 5 (.tmp 8), none, false⟩,
   ⟨(some 41), .loadn 5 (.tmp 9), none, false⟩,
   ⟨(some 42), .call (.func 36) [(.tmp 40), (.tmp 41)], none, false⟩,
   ⟨(some 39), .mv (.tmp 42), none, false⟩,
   ⟨(some 43), .ext (.tmp 39) 0, none, false⟩,
   ⟨(some 44), .ext (.tmp 39) 1, none, false⟩,
   ⟨(some 10), .alloc 30 [.int .i64 0, .int .i64 0, .int .i64 0, .int .i64 0, .slice none 0 0], none, false⟩,
   ⟨none, .store 5 (.tmp 10) (.tmp 43), none, false⟩,
   ⟨(some 11), .mv (.tmp 44), none, false⟩])
  (.seq (.seq (.reg [⟨(some 45), .loadn 5 (.tmp 10), none, false⟩,
   ⟨(some 46), .loadn 5 (.tmp 6), none, false⟩,
   ⟨(some 47), .call (.func 21) [(.tmp 45), (.tmp 46)], none, false⟩,
   ⟨(some 48), .un .not (.tmp 47), none, false⟩,
   ⟨(some 49), .mv (.tmp 48), none, false⟩,
   ⟨(some 50), .mv (.tmp 11), (some (49, false)), false⟩,
   ⟨(some 51), .mv (.tmp 7), (some (49, false)), false⟩,
   ⟨(some 52), .bin .neq (.tmp 50) (.tmp 51), (some (49, false)), false⟩,
   ⟨(some 53), .pick (.tmp 49) (.const (.bool true)) (.tmp 52), none, false⟩])
  (.cond (.tmp 53) (.seq (.reg [⟨(some 4), .mv (.const (.bool false)), none, false⟩])
  .ret) .skip))
  (.seq (.seq (.reg [⟨(some 54), .loadn 5 (.tmp 8), none, false⟩,
   ⟨(some 55), .loadn 5 (.tmp 2), none, false⟩,
   ⟨(some 56), .call (.func 19) [(.tmp 55)], none, true⟩,
   ⟨(some 57), .call (.func 21) [(.tmp 54), (.tmp 56)], none, false⟩,
   ⟨(some 58), .un .not (.tmp 57), none, false⟩])
  (.cond (.tmp 58) (.seq (.reg [⟨(some 4), .mv (.const (.bool false)), none, false⟩])
  .ret) .skip))
  (.seq (.seq (.reg [⟨(some 59), .loadn 5 (.tmp 9), none, false⟩,
   ⟨(some 60), .loadn 5 (.tmp 3), none, false⟩,
   ⟨(some 61), .call (.func 19) [(.tmp 60)], none, true⟩,
   ⟨(some 62), .call (.func 21) [(.tmp 59), (.tmp 61)], none, false⟩,
   ⟨(some 63), .un .not (.tmp 62), none, false⟩])
  (.cond (.tmp 63) (.seq (.reg [⟨(some 4), .mv (.const (.bool false)), none, false⟩])
  .ret) .skip))
  (.seq (.reg [⟨(some 12), .mv (.const (.int .i64 1)), none, false⟩])
  (.seq (.reg [⟨(some 64), .loadn 5 (.tmp 8), none, false⟩,
   ⟨(some 65), .mv (.tmp 12), none, false⟩,
   ⟨(some 66), .call (.func 31) [(.tmp 64), (.tmp 65)], none, false⟩,
   ⟨(some 12), .mv (.tmp 66), none, false⟩])
  (.seq (.reg [⟨(some 67), .loadn 5 (.tmp 9), none, false⟩,
   ⟨(some 68), .mv (.tmp 12), none, false⟩,
   ⟨(some 69), .call (.func 31) [(.tmp 67), (.tmp 68)], none, false⟩,
   ⟨(some 12), .mv (.tmp 69), none, false⟩])
  (.seq (.seq (.reg [⟨(some 70), .mv (.tmp 12), none, false⟩,
   ⟨(some 71), .bin .lss (.tmp 70) (.const (.int .i64 0)), none, false⟩,
   ⟨(some 72), .mv (.tmp 71), none, false⟩,
   ⟨(some 73), .loadn 5 (.tmp 10), (some (72, false)), false⟩,
   ⟨(some 74), .loadn 5 (.tmp 6), (some (72, false)), false⟩,
   ⟨(some 75), .call (.func 21) [(.tmp 73), (.tmp 74)], (some (72, false)), false⟩,
   ⟨(some 76), .un .not (.tmp 75), (some (72, false)), false⟩,
   ⟨(some 77), .pick (.tmp 72) (.const (.bool true)) (.tmp 76), none, false⟩,
   ⟨(some 78), .mv (.tmp 77), none, false⟩,
   ⟨(some 79), .mv (.tmp 11), (some (78, false)), false⟩,
   ⟨(some 80), .mv (.tmp 7), (some (78, false)), false⟩,
   ⟨(some 81), .bin .neq (.tmp 79) (.tmp 80), (some (78, false)), false⟩,
   ⟨(some 82), .pick (.tmp 78) (.const (.bool true)) (.tmp 81), none, false⟩])
  (.cond (.tmp 82) (.seq (.reg [⟨(some 4), .mv (.const (.bool false)), none, false⟩])
  .ret) .skip))
  (.seq (.reg [⟨(some 13), .mv (.const (.int .i64 1)), none, false⟩])
  (.seq (.reg [⟨(some 83), .loadn 5 (.tmp 10), none, false⟩,
   ⟨(some 84), .mv (.tmp 13), none, false⟩,
   ⟨(some 85), .call (.func 31) [(.tmp 83), (.tmp 84)], none, false⟩,
   ⟨(some 13), .mv (.tmp 85), none, false⟩])
  (.seq (.reg [⟨(some 14), .mv (.const (.int .i64 1)), none, false⟩])
  (.seq (.reg [⟨(some 86), .loadn 5 (.tmp 10), none, false⟩,
   ⟨(some 87), .mv (.tmp 14), none, false⟩,
   ⟨(some 88), .call (.func 32) [(.tmp 86), (.tmp 87)], none, false⟩,
   ⟨(some 14), .mv (.tmp 88), none, false⟩])
  (.seq (.seq (.reg [⟨(some 89), .mv (.tmp 14), none, false⟩,
   ⟨(some 90), .bin .lss (.tmp 89) (.const (.int .i64 0)), none, false⟩])
  (.cond (.tmp 90) (.seq (.reg [⟨(some 4), .mv (.const (.bool false)), none, false⟩])
  .ret) .skip))
  (.seq (.seq (.reg [⟨(some 91), .mv (.tmp 14), none, false⟩,
   ⟨(some 92), .mv (.tmp 13), none, false⟩,
   ⟨(some 93), .bin .neq (.tmp 91) (.tmp 92), none, false⟩])
  (.cond (.tmp 93) (.seq (.reg [⟨(some 4), .mv (.const (.bool false)), none, false⟩])
  .ret) .skip))
  (.seq (.reg [⟨(some 95), .loadn 5 (.tmp 2), none, false⟩,
   ⟨(some 96), .call (.func 19) [(.tmp 95)], none, true⟩,
   ⟨(some 97), .loadn 5 (.tmp 3), none, false⟩,
   ⟨(some 98), .call (.func 19) [(.tmp 97)], none, false⟩,
   ⟨(some 99), .call (.func 36) [(.tmp 96), (.tmp 98)], none, false⟩,
   ⟨(some 94), .mv (.tmp 99), none, false⟩,
   ⟨(some 100), .ext (.tmp 94) 0, none, false⟩,
   ⟨(some 101), .ext (.tmp 94) 1, none, false⟩,
   ⟨(some 16), .mv (.tmp 101), none, false⟩,
   ⟨(some 15), .boxn 30 5 (.tmp 100), none, false⟩])
  (.seq (.seq (.reg [⟨(some 102), .loadn 5 (.tmp 15), none, false⟩,
   ⟨(some 103), .loadn 5 (.tmp 6), none, false⟩,
   ⟨(some 104), .call (.func 21) [(.tmp 102), (.tmp 103)], none, false⟩,
   ⟨(some 105), .un .not (.tmp 104), none, false⟩,
   ⟨(some 106), .mv (.tmp 105), none, false⟩,
   ⟨(some 107), .mv (.tmp 16), (some (106, false)), false⟩,
   ⟨(some 108), .mv (.tmp 7), (some (106, false)), false⟩,
   ⟨(some 109), .bin .neq (.tmp 107) (.tmp 108), (some (106, false)), false⟩,
   ⟨(some 110), .pick (.tmp 106) (.const (.bool true)) (.tmp 109), none, false⟩])
  (.cond (.tmp 110) (.seq (.reg [⟨(some 4), .mv (.const (.bool false)), none, false⟩])
  .ret) .skip))
  (.seq (.reg [⟨(some 14), .mv (.const (.int .i64 1)), none, false⟩])
  (.seq (.reg [⟨(some 111), .loadn 5 (.tmp 10), none, false⟩,
   ⟨(some 112), .mv (.tmp 14), none, false⟩,
   ⟨(some 113), .call (.func 32) [(.tmp 111), (.tmp 112)], none, false⟩,
   ⟨(some 14), .mv (.tmp 113), none, false⟩])
  (.seq (.seq (.reg [⟨(some 114), .mv (.tmp 14), none, false⟩,
   ⟨(some 115), .bin .lss (.tmp 114) (.const (.int .i64 0)), none, false⟩])
  (.cond (.tmp 115) (.seq (.reg [⟨(some 4), .mv (.const (.bool false)), none, false⟩])
  .ret) .skip))
  (.seq (.seq (.reg [⟨(some 116), .mv (.tmp 14), none, false⟩,
   ⟨(some 117), .mv (.tmp 13), none, false⟩,
   ⟨(some 118), .bin .neq (.tmp 116) (.tmp 117), none, false⟩])
  (.cond (.tmp 118) (.seq (.reg [⟨(some 4), .mv (.const (.bool false)), none, false⟩])
  .ret) .skip))
  (.seq (.reg [⟨(some 4), .mv (.const (.bool true)), none, false⟩])
  .ret))))))))))))))))))))))))))))))⟩

/-- loop.example/g01262/spec.DirectSum -/
def c37 : XFn :=
 ⟨[.celln 4 5, .tmp 5],
  (.seq (.reg [⟨(some 2), .box 30 (.tmp 0), none, false⟩,
   ⟨(some 3), .box 30 (.tmp 1), none, false⟩,
   ⟨(some 4), .alloc 30 [.int .i64 0, .int .i64 0, .int .i64 0, .int .i64 0, .slice none 0 0], none, false⟩,
   ⟨(some 5), .mv (.const (.int .i64 0)), none, false⟩])
  (.seq (.seq (.reg [⟨(some 12), .loadn 5 (.tmp 2), none, false⟩,
   ⟨(some 13), .loadn 5 (.tmp 3), none, false⟩,
   ⟨(some 14), .call (.func 78) [(.tmp 12), (.tmp 13)], none, false⟩,
   ⟨(some 6), .mv (.tmp 14), none, false⟩])
  (.seq (.reg [⟨(some 15), .mv (.tmp 6), none, false⟩,
   ⟨(some 16), .bin .neq (.tmp 15) (.const (.int .i64 0)), none, false⟩])
  (.cond (.tmp 16) (.seq (.reg [⟨(some 17), .build [.int .i64 0, .int .i64 0, .int .i64 0, .int .i64 0, .slice none 0 0] [], none, false⟩,
   ⟨(some 18), .mv (.tmp 6), none, false⟩,
   ⟨none, .store 5 (.tmp 4) (.tmp 17), none, false⟩,
   ⟨(some 5), .mv (.tmp 18), none, false⟩])
  .ret) .skip)))
  (.seq (.seq (.reg [⟨(some 19), .fadr 1 (.tmp 2), none, false⟩,
   ⟨(some 20), .load1 (.tmp 19), none, false⟩,
   ⟨(some 21), .fadr 1 (.tmp 3), none, false⟩,
   ⟨(some 22), .load1 (.tmp 21), none, false⟩,
   ⟨(some 23), .bin .add (.tmp 20) (.tmp 22), none, false⟩,
   ⟨(some 24), .fadr 2 (.tmp 2), none, false⟩,
   ⟨(some 25), .load1 (.tmp 24), none, false⟩,
   ⟨(some 26), .fadr 2 (.tmp 3), none, false⟩,
   ⟨(some 27), .load1 (.tmp 26), none, false⟩,
   ⟨(some 28), .bin .add (.tmp 25) (.tmp 27), none, false⟩,
   ⟨(some 29), .fadr 3 (.tmp 2), none, false⟩,
   ⟨(some 30), .load1 (.tmp 29), none, false⟩,
   ⟨(some 31), .fadr 3 (.tmp 3), none, false⟩,
   ⟨(some 32), .load1 (.tmp 31), none, false⟩,
   ⟨(some 33), .bin .add (.tmp 30) (.tmp 32), none, false⟩,
   ⟨(some 34), .mm true (.tmp 23) [(.tmp 28), (.tmp 33)], none, false⟩,
   ⟨(some 35), .bin .gtr (.tmp 34) (.const (.int .i64 9)), none, false⟩])
  (.cond (.tmp 35) (.seq (.reg [⟨(some 36), .build [.int .i64 0, .int .i64 0, .int .i64 0, .int .i64 0, .slice none 0 0] [], none, false⟩,
   ⟨none, .store 5 (.tmp 4) (.tmp 36), none, false⟩,
   ⟨(some 5), .mv (.const (.int .i64 3)), none, false⟩])
  .ret) .skip))
  (.seq (.reg [⟨(some 37), .fadr 0 (.tmp 2), none, false⟩,
   ⟨(some 38), .load1 (.tmp 37), none, false⟩,
   ⟨(some 39), .fadr 1 (.tmp 2), none, false⟩,
   ⟨(some 40), .load1 (.tmp 39), none, false⟩,
   ⟨(some 41), .fadr 1 (.tmp 3), none, false⟩,
   ⟨(some 42), .load1 (.tmp 41), none, false⟩,
   ⟨(some 43), .bin .add (.tmp 40) (.tmp 42), none, false⟩,
   ⟨(some 44), .fadr 2 (.tmp 2), none, false⟩,
   ⟨(some 45), .load1 (.tmp 44), none, false⟩,
   ⟨(some 46), .fadr 2 (.tmp 3), none, false⟩,
   ⟨(some 47), .load1 (.tmp 46), none, false⟩,
   ⟨(some 48), .bin .add (.tmp 45) (.tmp 47), none, false⟩,
   ⟨(some 49), .fadr 3 (.tmp 2), none, false⟩,
   ⟨(some 50), .load1 (.tmp 49), none, false⟩,
   ⟨(some 51), .fadr 3 (.tmp 3), none, false⟩,
   ⟨(some 52), .load1 (.tmp 51), none, false⟩,
   ⟨(some 53), .bin .add (.tmp 50) (.tmp 52), none, false⟩,
   ⟨(some 54), .call (.func 73) [(.tmp 38), (.tmp 43), (.tmp 48), (.tmp 53)], none, false⟩,
   ⟨(some 7), .alloc 30 [.int .i64 0, .int .i64 0, .int .i64 0, .int .i64 0, .slice none 0 0], none, false⟩,
   ⟨none, .store 5 (.tmp 7) (.tmp 54), none, false⟩])
  (.seq (.seq (.reg [⟨(some 8), .mv (.const (.int .i64 0)), none, false⟩])
  (.blk 0 (.loop (.seq (.seq (.reg [⟨(some 55), .mv (.tmp 8), none, false⟩,
   ⟨(some 56), .fadr 1 (.tmp 7), none, false⟩,
   ⟨(some 57), .load1 (.tmp 56), none, false⟩,
   ⟨(some 58), .bin .lss (.tmp 55) (.tmp 57), none, false⟩])
  (.cond (.tmp 58) .skip (.exit 0)))
  (.seq (.blk 1 (.seq (.reg [⟨(some 9), .mv (.const (.int .i64 0)), none, false⟩])
  (.blk 2 (.loop (.seq (.seq (.reg [⟨(some 61), .mv (.tmp 9), none, false⟩,
   ⟨(some 62), .fadr 2 (.tmp 7), none, false⟩,
   ⟨(some 63), .load1 (.tmp 62), none, false⟩,
   ⟨(some 64), .bin .lss (.tmp 61) (.tmp 63), none, false⟩])
  (.cond (.tmp 64) .skip (.exit 2)))
  (.seq (.blk 3 (.seq (.reg [⟨(some 10), .mv (.const (.int .i64 0)), none, false⟩])
  (.blk 4 (.loop (.seq (.seq (.reg [⟨(some 67), .mv (.tmp 10), none, false⟩,
   ⟨(some 68), .fadr 3 (.tmp 7), none, false⟩,
   ⟨(some 69), .load1 (.tmp 68), none, false⟩,
   ⟨(some 70), .bin .lss (.tmp 67) (.tmp 69), none, false⟩])
  (.cond (.tmp 70) .skip (.exit 4)))
  (.seq (.blk 5 (.seq (.reg [⟨(some 73), .mv (.tmp 8), none, false⟩,
   ⟨(some 74), .fadr 2 (.tmp 7), none, false⟩,
   ⟨(some 75), .load1 (.tmp 74), none, false⟩,
   ⟨(some 76), .bin .mul (.tmp 73) (.tmp 75), none, false⟩,
   ⟨(some 77), .mv (.tmp 9), none, false⟩,
   ⟨(some 78), .bin .add (.tmp 76) (.tmp 77), none, false⟩,
   ⟨(some 79), .fadr 3 (.tmp 7), none, false⟩,
   ⟨(some 80), .load1 (.tmp 79), none, false⟩,
   ⟨(some 81), .bin .mul (.tmp 78) (.tmp 80), none, false⟩,
   ⟨(some 82), .mv (.tmp 10), none, false⟩,
   ⟨(some 83), .bin .add (.tmp 81) (.tmp 82), none, false⟩,
   ⟨(some 11), .mv (.tmp 83), none, false⟩])
  (.blk 6 (.seq (.reg [⟨(some 85), .mv (.tmp 8), none, false⟩,
   ⟨(some 86), .fadr 1 (.tmp 2), none, false⟩,
   ⟨(some 87), .load1 (.tmp 86), none, false⟩,
   ⟨(some 88), .bin .lss (.tmp 85) (.tmp 87), none, false⟩,
   ⟨(some 89), .mv (.tmp 88), none, false⟩,
   ⟨(some 90), .mv (.tmp 9), (some (89, true)), false⟩,
   ⟨(some 91), .fadr 2 (.tmp 2), (some (89, true)), false⟩,
   ⟨(some 92), .load1 (.tmp 91), (some (89, true)), false⟩,
   ⟨(some 93), .bin .lss (.tmp 90) (.tmp 92), (some (89, true)), false⟩,
   ⟨(some 94), .pick (.tmp 89) (.tmp 93) (.const (.bool false)), none, false⟩,
   ⟨(some 95), .mv (.tmp 94), none, false⟩,
   ⟨(some 96), .mv (.tmp 10), (some (95, true)), false⟩,
   ⟨(some 97), .fadr 3 (.tmp 2), (some (95, true)), false⟩,
   ⟨(some 98), .load1 (.tmp 97), (some (95, true)), false⟩,
   ⟨(some 99), .bin .lss (.tmp 96) (.tmp 98), (some (95, true)), false⟩,
   ⟨(some 100), .pick (.tmp 95) (.tmp 99) (.const (.bool false)), none, false⟩,
   ⟨(some 84), .mv (.tmp 100), none, false⟩])
  (.cond (.tmp 84) (.reg [⟨(some 101), .fadr 4 (.tmp 7), none, false⟩,
   ⟨(some 102), .load1 (.tmp 101), none, false⟩,
   ⟨(some 103), .mv (.tmp 11), none, false⟩,
   ⟨(some 104), .loadn 5 (.tmp 2), none, false⟩,
   ⟨(some 105), .mv (.tmp 8), none, false⟩,
   ⟨(some 106), .mv (.tmp 9), none, false⟩,
   ⟨(some 107), .mv (.tmp 10), none, false⟩,
   ⟨(some 108), .call (.func 62) [(.tmp 104), (.tmp 105), (.tmp 106), (.tmp 107)], none, true⟩,
   ⟨(some 109), .ixs 1 (.tmp 102) (.tmp 103), none, false⟩,
   ⟨none, .store 1 (.tmp 109) (.tmp 108), none, false⟩]) (.seq (.reg [⟨(some 111), .mv (.tmp 8), none, false⟩,
   ⟨(some 112), .fadr 1 (.tmp 2), none, false⟩,
   ⟨(some 113), .load1 (.tmp 112), none, false⟩,
   ⟨(some 114), .bin .geq (.tmp 111) (.tmp 113), none, false⟩,
   ⟨(some 115), .mv (.tmp 114), none, false⟩,
   ⟨(some 116), .mv (.tmp 9), (some (115, true)), false⟩,
   ⟨(some 117), .fadr 2 (.tmp 2), (some (115, true)), false⟩,
   ⟨(some 118), .load1 (.tmp 117), (some (115, true)), false⟩,
   ⟨(some 119), .bin .geq (.tmp 116) (.tmp 118), (some (115, true)), false⟩,
   ⟨(some 120), .pick (.tmp 115) (.tmp 119) (.const (.bool false)), none, false⟩,
   ⟨(some 121), .mv (.tmp 120), none, false⟩,
   ⟨(some 122), .mv (.tmp 10), (some (121, true)), false⟩,
   ⟨(some 123), .fadr 3 (.tmp 2), (some (121, true)), false⟩,
   ⟨(some 124), .load1 (.tmp 123), (some (121, true)), false⟩,
   ⟨(some 125), .bin .geq (.tmp 122) (.tmp 124), (some (121, true)), false⟩,
   ⟨(some 126), .pick (.tmp 121) (.tmp 125) (.const (.bool false)), none, false⟩,
   ⟨(some 110), .mv (.tmp 126), none, false⟩])
  (.cond (.tmp 110) (.reg [⟨(some 127), .fadr 4 (.tmp 7), none, false⟩,
   ⟨(some 128), .load1 (.tmp 127), none, false⟩,
   ⟨(some 129), .mv (.tmp 11), none, false⟩,
   ⟨(some 130), .loadn 5 (.tmp 3), none, false⟩,
   ⟨(some 131), .mv (.tmp 8), none, false⟩,
   ⟨(some 132), .fadr 1 (.tmp 2), none, false⟩,
   ⟨(some 133), .load1 (.tmp 132), none, false⟩,
   ⟨(some 134), .bin .sub (.tmp 131) (.tmp 133), none, false⟩,
   ⟨(some 135), .mv (.tmp 9), none, false⟩,
   ⟨(some 136), .fadr 2 (.tmp 2), none, false⟩,
   ⟨(some 137), .load1 (.tmp 136), none, false⟩,
   ⟨(some 138), .bin .sub (.tmp 135) (.tmp 137), none, false⟩,
   ⟨(some 139), .mv (.tmp 10), none, false⟩,
   ⟨(some 140), .fadr 3 (.tmp 2), none, false⟩,
   ⟨(some 141), .load1 (.tmp 140), none, false⟩,
   ⟨(some 142), .bin .sub (.tmp 139) (.tmp 141), none, false⟩,
   ⟨(some 143), .call (.func 62) [(.tmp 130), (.tmp 134), (.tmp 138), (.tmp 142)], none, true⟩,
   ⟨(some 144), .ixs 1 (.tmp 128) (.tmp 129), none, false⟩,
   ⟨none, .store 1 (.tmp 144) (.tmp 143), none, false⟩]) .skip)))))))
  (.reg [⟨(some 71), .mv (.tmp 10), none, false⟩,
   ⟨(some 72), .bin .add (.tmp 71) (.const (.int .i64 1)), none, false⟩,
   ⟨(some 10), .mv (.tmp 72), none, false⟩])))))))
  (.reg [⟨(some 65), .mv (.tmp 9), none, false⟩,
   ⟨(some 66), .bin .add (.tmp 65) (.const (.int .i64 1)), none, false⟩,
   ⟨(some 9), .mv (.tmp 66), none, false⟩])))))))
  (.reg [⟨(some 59), .mv (.tmp 8), none, false⟩,
   ⟨(some 60), .bin .add (.tmp 59) (.const (.int .i64 1)), none, false⟩,
   ⟨(some 8), .mv (.tmp 60), none, false⟩]))))))
  (.seq (.reg [⟨(some 145), .loadn 5 (.tmp 7), none, false⟩,
   ⟨none, .store 5 (.tmp 4) (.tmp 145), none, false⟩,
   ⟨(some 5), .mv (.const (.int .i64 0)), none, false⟩])
  .ret))))))⟩

/-- loop.example/g01262/impl.DirectSum -/
def c38 : XFn :=
 ⟨[.celln 4 5, .tmp 5],
  (.seq (.reg [⟨(some 2), .box 30 (.tmp 0), none, false⟩,
   ⟨(some 3), .box 30 (.tmp 1), none, false⟩,
   ⟨(some 4), .alloc 30 [.int .i64 0, .int .i64 0, .int .i64 0, .int .i64 0, .slice none 0 0], none, false⟩,
   ⟨(some 5), .mv (.const (.int .i64 0)), none, false⟩])
  (.seq (.seq (.reg [⟨(some 7), .loadn 5 (.tmp 2), none, false⟩,
   ⟨(some 8), .loadn 5 (.tmp 3), none, false⟩,
   ⟨(some 9), .fadr 1 (.tmp 2), none, false⟩,
   ⟨(some 10), .load1 (.tmp 9), none, false⟩,
   ⟨(some 11), .fadr 1 (.tmp 3), none, false⟩,
   ⟨(some 12), .load1 (.tmp 11), none, false⟩,
   ⟨(some 13), .bin .add (.tmp 10) (.tmp 12), none, false⟩,
   ⟨(some 14), .fadr 2 (.tmp 2), none, false⟩,
   ⟨(some 15), .load1 (.tmp 14), none, false⟩,
   ⟨(some 16), .fadr 2 (.tmp 3), none, false⟩,
   ⟨(some 17), .load1 (.tmp 16), none, false⟩,
   ⟨(some 18), .bin .add (.tmp 15) (.tmp 17), none, false⟩,
   ⟨(some 19), .fadr 3 (.tmp 2), none, false⟩,
   ⟨(some 20), .load1 (.tmp 19), none, false⟩,
   ⟨(some 21), .fadr 3 (.tmp 3), none, false⟩,
   ⟨(some 22), .load1 (.tmp 21), none, false⟩,
   ⟨(some 23), .bin .add (.tmp 20) (.tmp 22), none, false⟩,
   ⟨(some 24), .bslice 2 1 3 [.int .i64 0] [(0, 1, (.tmp 13)), (1, 1, (.tmp 18)), (2, 1, (.tmp 23))], none, false⟩,
   ⟨(some 25), .call (.func 80) [(.tmp 7), (.tmp 8), (.tmp 24)], none, false⟩,
   ⟨(some 6), .mv (.tmp 25), none, false⟩])
  (.seq (.reg [⟨(some 26), .mv (.tmp 6), none, false⟩,
   ⟨(some 27), .bin .neq (.tmp 26) (.const (.int .i64 0)), none, false⟩])
  (.cond (.tmp 27) (.seq (.reg [⟨(some 28), .build [.int .i64 0, .int .i64 0, .int .i64 0, .int .i64 0, .slice none 0 0] [], none, false⟩,
   ⟨(some 29), .mv (.tmp 6), none, false⟩,
   ⟨none, .store 5 (.tmp 4) (.tmp 28), none, false⟩,
   ⟨(some 5), .mv (.tmp 29), none, false⟩])
  .ret) .skip)))
  (.seq (.reg [⟨(some 30), .fadr 0 (.tmp 2), none, false⟩,
   ⟨(some 31), .load1 (.tmp 30), none, false⟩,
   ⟨(some 32), .fadr 1 (.tmp 2), none, false⟩,
   ⟨(some 33), .load1 (.tmp 32), none, false⟩,
   ⟨(some 34), .fadr 1 (.tmp 3), none, false⟩,
   ⟨(some 35), .load1 (.tmp 34), none, false⟩,
   ⟨(some 36), .bin .add (.tmp 33) (.tmp 35), none, false⟩,
   ⟨(some 37), .fadr 2 (.tmp 2), none, false⟩,
   ⟨(some 38), .load1 (.tmp 37), none, false⟩,
   ⟨(some 39), .fadr 2 (.tmp 3), none, false⟩,
   ⟨(some 40), .load1 (.tmp 39), none, false⟩,
   ⟨(some 41), .bin .add (.tmp 38) (.tmp 40), none, false⟩,
   ⟨(some 42), .fadr 3 (.tmp 2), none, false⟩,
   ⟨(some 43), .load1 (.tmp 42), none, false⟩,
   ⟨(some 44), .fadr 3 (.tmp 3), none, false⟩,
   ⟨(some 45), .load1 (.tmp 44), none, false⟩,
   ⟨(some 46), .bin .add (.tmp 43) (.tmp 45), none, false⟩,
   ⟨(some 47), .mkf 82 [(.tmp 2), (.tmp 3)], none, false⟩,
   ⟨(some 48), .call (.func 76) [(.tmp 31), (.tmp 36), (.tmp 41), (.tmp 46), (.tmp 47)], none, false⟩,
   ⟨none, .store 5 (.tmp 4) (.tmp 48), none, false⟩,
   ⟨(some 5), .mv (.const (.int .i64 0)), none, false⟩])
  .ret)))⟩

/-- loop.example/g01262/laws.FnExactDirectSum -/
def c10 : XFn :=
 ⟨[.tmp 4],
  (.seq (.reg [⟨(some 2), .box 27 (.tmp 0), none, false⟩,
   ⟨(some 3), .box 27 (.tmp 1), none, false⟩,
   ⟨(some 4), .mv (.const (.bool false)), none, false⟩])
  (.seq (.reg [⟨(some 5), .mv (.const (.int .i64 1048576)), none, false⟩])
  (.seq (.reg [⟨(some 17), .loadn 5 (.tmp 2), none, false⟩,
   ⟨(some 18), .mv (.tmp 5), none, false⟩,
   ⟨(some 19), .call (.func 17) [(.tmp 17), (.tmp 18)], none, false⟩,
   ⟨(some 5), .mv (.tmp 19), none, false⟩])
  (.seq (.seq (.reg [⟨(some 20), .mv (.tmp 5), none, false⟩,
   ⟨(some 21), .bin .lss (.tmp 20) (.const (.int .i64 0)), none, false⟩])
  (.cond (.tmp 21) (.seq (.reg [⟨(some 4), .mv (.const (.bool true)), none, false⟩])
  .ret) .skip))
  (.seq (.reg [⟨(some 22), .loadn 5 (.tmp 3), none, false⟩,
   ⟨(some 23), .mv (.tmp 5), none, false⟩,
   ⟨(some 24), .call (.func 17) [(.tmp 22), (.tmp 23)], none, false⟩,
   ⟨(some 5), .mv (.tmp 24), none, false⟩])
  (.seq (.seq (.reg [⟨(some 25), .mv (.tmp 5), none, false⟩,
   ⟨(some 26), .bin .lss (.tmp 25) (.const (.int .i64 0)), none, false⟩])
  (.cond (.tmp 26) (.seq (.reg [⟨(some 4), .mv (.const (.bool true)), none, false⟩])
  .ret) .skip))
  (.seq (.reg [⟨(some 28), .loadn 5 (.tmp 2), none, false⟩,
   ⟨(some 29), .call (.func 19) [(.tmp 28)], none, true⟩,
   ⟨(some 30), .loadn 5 (.tmp 3), none, false⟩,
   ⟨(some 31), .call (.func 19) [(.tmp 30)], none, false⟩,
   ⟨(some 32), .call (.func 37) [(.tmp 29), (.tmp 31)], none, false⟩,
   ⟨(some 27), .mv (.tmp 32), none, false⟩,
   ⟨(some 33), .ext (.tmp 27) 0, none, false⟩,
   ⟨(some 34), .ext (.tmp 27) 1, none, false⟩,
   ⟨(some 7), .mv (.tmp 34), none, false⟩,
   ⟨(some 6), .boxn 30 5 (.tmp 33), none, false⟩])
  (.seq (.reg [⟨(some 35), .loadn 5 (.tmp 2), none, false⟩,
   ⟨(some 36), .call (.func 19) [(.tmp 35)], none, false⟩,
   ⟨(some 8), .alloc 30 [.int .i64 0, .int .i64 0, .int .i64 0, .int .i64 0, .slice none 0 0], none, false⟩,
   ⟨none, .store 5 (.tmp 8) (.tmp 36), none, false⟩])
  (.seq (.reg [⟨(some 37), .loadn 5 (.tmp 3), none, false⟩,
   ⟨(some 38), .call (.func 19) [(.tmp 37)], none, false⟩,
   ⟨(some 9), .alloc 30 [.int .i64 0, .int .i64 0, .int .i64 0, .int .i64 0, .slice none 0 0], none, false⟩,
   ⟨none, .store 5 (.tmp 9) (.tmp 38), none, false⟩])
  (.seq (.reg [⟨(some 40), .loadn 5 (.tmp 8), none, false⟩,
   ⟨(some 41), .loadn 5 (.tmp 9), none, false⟩,
   ⟨(some 42), .call (.func 38) [(.tmp 40), (.tmp 41)], none, false⟩,
   ⟨(some 39), .mv (.tmp 42), none, false⟩,
   ⟨(some 43), .ext (.tmp 39) 0, none, false⟩,
   ⟨(some 44), .ext (.tmp 39) 1, none, false⟩,
   ⟨(some 10), .alloc 30 [.int .i64 0, .int .i64 0, .int .i64 0, .int .i64 0, .slice none 0 0], none, false⟩,
   ⟨none, .store 5 (.tmp 10) (.tmp 43), none, false⟩,
   ⟨(some 11), .mv (.tmp 44), none, false⟩])
  (.seq (.seq (.reg [⟨(some 45), .loadn 5 (.tmp 10), none, false⟩,
   ⟨(some 46), .loadn 5 (.tmp 6), none, false⟩,
   ⟨(some 47), .call (.func 21) [(.tmp 45), (.tmp 46)], none, false⟩,
   ⟨(some 48), .un .not (.tmp 47), none, false⟩,
   ⟨(some 49), .mv (.tmp 48), none, false⟩,
   ⟨(some 50), .mv (.tmp 11), (some (49, false)), false⟩,
   ⟨(some 51), .mv (.tmp 7), (some (49, false)), false⟩,
   ⟨(some 52), .bin .neq (.tmp 50) (.tmp 51), (some (49, false)), false⟩,
   ⟨(some 53), .pick (.tmp 49) (.const (.bool true)) (.tmp 52), none, false⟩])
  (.cond (.tmp 53) (.seq (.reg [⟨(some 4), .mv (.const (.bool false)), none, false⟩])
  .ret) .skip))
  (.seq (.seq (.reg [⟨(some 54), .loadn 5 (.tmp 8), none, false⟩,
   ⟨(some 55), .loadn 5 (.tmp 2), none, false⟩,
   ⟨(some 56), .call (.func 19) [(.tmp 55)], none, true⟩,
   ⟨(some 57), .call (.func 21) [(.tmp 54), (.tmp 56)], none, false⟩,
   ⟨(some 58), .un .not (.tmp 57), none, false⟩])
  (.cond (.tmp 58) (.seq (.reg [⟨(some 4), .mv (.const (.bool false)), none, false⟩])
  .ret) .skip))
  (.seq (.seq (.reg [⟨(some 59), .loadn 5 (.tmp 9), none, false⟩,
   ⟨(some 60), .loadn 5 (.tmp 3), none, false⟩,
   ⟨(some 61), .call (.func 19) [(.tmp 60)], none, true⟩,
   ⟨(some 62), .call (.func 21) [(.tmp 59), (.tmp 61)], none, false⟩,
   ⟨(some 63), .un .not (.tmp 62), none, false⟩])
  (.cond (.tmp 63) (.seq (.reg [⟨(some 4), .mv (.const (.bool false)), none, false⟩])
  .ret) .skip))
  (.seq (.reg [⟨(some 12), .mv (.const (.int .i64 1)), none, false⟩])
  (.seq (.reg [⟨(some 64), .loadn 5 (.tmp 8), none, false⟩,
   ⟨(some 65), .mv (.tmp 12), none, false⟩,
   ⟨(some 66), .call (.func 31) [(.tmp 64), (.tmp 65)], none, false⟩,
   ⟨(some 12), .mv (.tmp 66), none, false⟩])
  (.seq (.reg [⟨(some 67), .loadn 5 (.tmp 9), none, false⟩,
   ⟨(some 68), .mv (.tmp 12), none, false⟩,
   ⟨(some 69), .call (.func 31) [(.tmp 67), (.tmp 68)], none, false⟩,
   ⟨(some 12), .mv (.tmp 69), none, false⟩])
  (.seq (.seq (.reg [⟨(some 70), .mv (.tmp 12), none, false⟩,
   ⟨(some 71), .bin .lss (.tmp 70) (.const (.int .i64 0)), none, false⟩,
   ⟨(some 72), .mv (.tmp 71), none, false⟩,
   ⟨(some 73), .loadn 5 (.tmp 10), (some (72, false)), false⟩,
   ⟨(some 74), .loadn 5 (.tmp 6), (some (72, false)), false⟩,
   ⟨(some 75), .call (.func 21) [(.tmp 73), (.tmp 74)], (some (72, false)), false⟩,
   ⟨(some 76), .un .not (.tmp 75), (some (72, false)), false⟩,
   ⟨(some 77), .pick (.tmp 72) (.const (.bool true)) (.tmp 76), none, false⟩,
   ⟨(some 78), .mv (.tmp 77), none, false⟩,
   ⟨(some 79), .mv (.tmp 11), (some (78, false)), false⟩,
   ⟨(some 80), .mv (.tmp 7), (some (78, false)), false⟩,
   ⟨(some 81), .bin .neq (.tmp 79) (.tmp 80), (some (78, false)), false⟩,
   ⟨(some 82), .pick (.tmp 78) (.const (.bool true)) (.tmp 81), none, false⟩])
  (.cond (.tmp 82) (.seq (.reg [⟨(some 4), .mv (.const (.bool false)), none, false⟩])
  .ret) .skip))
  (.seq (.reg [⟨(some 13), .mv (.const (.int .i64 1)), none, false⟩])
  (.seq (.reg [⟨(some 83), .loadn 5 (.tmp 10), none, false⟩,
   ⟨(some 84), .mv (.tmp 13), none, false⟩,
   ⟨(some 85), .call (.func 31) [(.tmp 83), (.tmp 84)], none, false⟩,
   ⟨(some 13), .mv (.tmp 85), none, false⟩])
  (.seq (.reg [⟨(some 14), .mv (.const (.int .i64 1)), none, false⟩])
  (.seq (.reg [⟨(some 86), .loadn 5 (.tmp 10), none, false⟩,
   ⟨(some 87), .mv (.tmp 14), none, false⟩,
   ⟨(some 88), .call (.func 32) [(.tmp 86), (.tmp 87)], none, false⟩,
   ⟨(some 14), .mv (.tmp 88), none, false⟩])
  (.seq (.seq (.reg [⟨(some 89), .mv (.tmp 14), none, false⟩,
   ⟨(some 90), .bin .lss (.tmp 89) (.const (.int .i64 0)), none, false⟩])
  (.cond (.tmp 90) (.seq (.reg [⟨(some 4), .mv (.const (.bool false)), none, false⟩])
  .ret) .skip))
  (.seq (.seq (.reg [⟨(some 91), .mv (.tmp 14), none, false⟩,
   ⟨(some 92), .mv (.tmp 13), none, false⟩,
   ⟨(some 93), .bin .neq (.tmp 91) (.tmp 92), none, false⟩])
  (.cond (.tmp 93) (.seq (.reg [⟨(some 4), .mv (.const (.bool false)), none, false⟩])
  .ret) .skip))
  (.seq (.reg [⟨(some 95), .loadn 5 (.tmp 2), none, false⟩,
   ⟨(some 96), .call (.func 19) [(.tmp 95)], none, true⟩,
   ⟨(some 97), .loadn 5 (.tmp 3), none, false⟩,
   ⟨(some 98), .call (.func 19) [(.tmp 97)], none, false⟩,
   ⟨(some 99), .call (.func 38) [(.tmp 96), (.tmp 98)], none, false⟩,
   ⟨(some 94), .mv (.tmp 99), none, false⟩,
   ⟨(some 100), .ext (.tmp 94) 0, none, false⟩,
   ⟨(some 101), .ext (.tmp 94) 1, none, false⟩,
   ⟨(some 16), .mv (.tmp 101), none, false⟩,
   ⟨(some 15), .boxn 30 5 (.tmp 100), none, false⟩])
  (.seq (.seq (.reg [⟨(some 102), .loadn 5 (.tmp 15), none, false⟩,
   ⟨(some 103), .loadn 5 (.tmp 6), none, false⟩,
   ⟨(some 104), .call (.func 21) [(.tmp 102), (.tmp 103)], none, false⟩,
   ⟨(some 105), .un .not (.tmp 104), none, false⟩,
   ⟨(some 106), .mv (.tmp 105), none, false⟩,
   ⟨(some 107), .mv (.tmp 16), (some (106, false)), false⟩,
   ⟨(some 108), .mv (.tmp 7), (some (106, false)), false⟩,
   ⟨(some 109), .bin .neq (.tmp 107) (.tmp 108), (some (106, false)), false⟩,
   ⟨(some 110), .pick (.tmp 106) (.const (.bool true)) (.tmp 109), none, false⟩])
  (.cond (.tmp 110) (.seq (.reg [⟨(some 4), .mv (.const (.bool false)), none, false⟩])
  .ret) .skip))
  (.seq (.reg [⟨(some 14), .mv (.const (.int .i64 1)), none, false⟩])
  (.seq (.reg [⟨(some 111), .loadn 5 (.tmp 10), none, false⟩,
   ⟨(some 112), .mv (.tmp 14), none, false⟩,
   ⟨(some 113), .call (.func 32) [(.tmp 111), (.tmp 112)], none, false⟩,
   ⟨(some 14), .mv (.tmp 113), none, false⟩])
  (.seq (.seq (.reg [⟨(some 114), .mv (.tmp 14), none, false⟩,
   ⟨(some 115), .bin .lss (.tmp 114) (.const (.int .i64 0)), none, false⟩])
  (.cond (.tmp 115) (.seq (.reg [⟨(some 4), .mv (.const (.bool false)), none, false⟩])
  .ret) .skip))
  (.seq (.seq (.reg [⟨(some 116), .mv (.tmp 14), none, false⟩,
   ⟨(some 117), .mv (.tmp 13), none, false⟩,
   ⟨(some 118), .bin .neq (.tmp 116) (.tmp 117), none, false⟩])
  (.cond (.tmp 118) (.seq (.reg [⟨(some 4), .mv (.const (.bool false)), none, false⟩])
  .ret) .skip))
  (.seq (.reg [⟨(some 4), .mv (.const (.bool true)), none, false⟩])
  .ret))))))))))))))))))))))))))))))⟩

/-- loop.example/g01262/laws.szInt64SS -/
def c39 : XFn :=
 ⟨[.tmp 4],
  (.seq (.reg [⟨(some 4), .mv (.const (.int .i64 0)), none, false⟩])
  (.seq (.reg [⟨(some 6), .mv (.tmp 1), none, false⟩,
   ⟨(some 7), .mv (.tmp 0), none, false⟩,
   ⟨(some 8), .len (.tmp 7), none, false⟩,
   ⟨(some 9), .bin .sub (.tmp 6) (.tmp 8), none, false⟩,
   ⟨(some 1), .mv (.tmp 9), none, false⟩])
  (.seq (.seq (.reg [⟨(some 10), .mv (.tmp 1), none, false⟩,
   ⟨(some 11), .bin .lss (.tmp 10) (.const (.int .i64 0)), none, false⟩])
  (.cond (.tmp 11) (.seq (.reg [⟨(some 4), .mv (.const (.int .i64 (-1))), none, false⟩])
  .ret) .skip))
  (.seq (.seq (.reg [⟨(some 5), .mv (.const (.int .i64 0)), none, false⟩])
  (.blk 0 (.loop (.seq (.seq (.reg [⟨(some 12), .mv (.tmp 5), none, false⟩,
   ⟨(some 13), .mv (.tmp 0), none, false⟩,
   ⟨(some 14), .len (.tmp 13), none, false⟩,
   ⟨(some 15), .bin .lss (.tmp 12) (.tmp 14), none, false⟩])
  (.cond (.tmp 15) .skip (.exit 0)))
  (.seq (.blk 1 (.seq (.reg [⟨(some 18), .mv (.tmp 0), none, false⟩,
   ⟨(some 19), .mv (.tmp 5), none, false⟩,
   ⟨(some 20), .ixs 1 (.tmp 18) (.tmp 19), none, false⟩,
   ⟨(some 21), .load1 (.tmp 20), none, false⟩,
   ⟨(some 22), .mv (.tmp 1), none, false⟩,
   ⟨(some 23), .call (.func 57) [(.tmp 21), (.tmp 22)], none, false⟩,
   ⟨(some 1), .mv (.tmp 23), none, false⟩])
  (.seq (.reg [⟨(some 24), .mv (.tmp 1), none, false⟩,
   ⟨(some 25), .bin .lss (.tmp 24) (.const (.int .i64 0)), none, false⟩])
  (.cond (.tmp 25) (.seq (.reg [⟨(some 4), .mv (.const (.int .i64 (-1))), none, false⟩])
  .ret) .skip))))
  (.reg [⟨(some 16), .mv (.tmp 5), none, false⟩,
   ⟨(some 17), .bin .add (.tmp 16) (.const (.int .i64 1)), none, false⟩,
   ⟨(some 5), .mv (.tmp 17), none, false⟩]))))))
  (.seq (.reg [⟨(some 26), .mv (.tmp 1), none, false⟩,
   ⟨(some 4), .mv (.tmp 26), none, false⟩])
  .ret)))))⟩

/-- loop.example/g01262/spec.l05Numbers -/
def c84 : XFn :=
 ⟨[.tmp 6],
  (.seq (.reg [⟨(some 6), .mv (.const (.bool false)), none, false⟩])
  (.seq (.seq (.reg [⟨(some 7), .mv (.const (.int .i64 0)), none, false⟩])
  (.blk 0 (.loop (.seq (.seq (.reg [⟨(some 8), .mv (.tmp 7), none, false⟩,
   ⟨(some 9), .mv (.tmp 1), none, false⟩,
   ⟨(some 10), .len (.tmp 9), none, false⟩,
   ⟨(some 11), .bin .lss (.tmp 8) (.tmp 10), none, false⟩])
  (.cond (.tmp 11) .skip (.exit 0)))
  (.seq (.blk 1 (.seq (.reg [⟨(some 14), .mv (.tmp 1), none, false⟩,
   ⟨(some 15), .mv (.tmp 7), none, false⟩,
   ⟨(some 16), .ixs 1 (.tmp 14) (.tmp 15), none, false⟩,
   ⟨(some 17), .load1 (.tmp 16), none, false⟩,
   ⟨(some 18), .mv (.tmp 0), none, false⟩,
   ⟨(some 19), .bin .sub (.tmp 18) (.const (.int .i64 1)), none, false⟩,
   ⟨(some 20), .call (.func 56) [(.tmp 17), (.const (.int .i64 0)), (.tmp 19)], none, false⟩,
   ⟨(some 21), .un .not (.tmp 20), none, false⟩])
  (.cond (.tmp 21) (.seq (.reg [⟨(some 6), .mv (.const (.bool false)), none, false⟩])
  .ret) .skip)))
  (.reg [⟨(some 12), .mv (.tmp 7), none, false⟩,
   ⟨(some 13), .bin .add (.tmp 12) (.const (.int .i64 1)), none, false⟩,
   ⟨(some 7), .mv (.tmp 13), none, false⟩]))))))
  (.seq (.reg [⟨(some 22), .mv (.tmp 1), none, false⟩,
   ⟨(some 23), .len (.tmp 22), none, false⟩,
   ⟨(some 24), .mv (.tmp 2), none, false⟩,
   ⟨(some 25), .bin .eql (.tmp 23) (.tmp 24), none, false⟩,
   ⟨(some 6), .mv (.tmp 25), none, false⟩])
  .ret)))⟩

/-- loop.example/g01262/spec.l01Mod -/
def c101 : XFn :=
 ⟨[.tmp 4],
  (.seq (.reg [⟨(some 4), .mv (.const (.int .i64 0)), none, false⟩])
  (.seq (.reg [⟨(some 5), .mv (.tmp 1), none, false⟩,
   ⟨(some 6), .mv (.tmp 0), none, false⟩,
   ⟨(some 7), .bin .rem (.tmp 5) (.tmp 6), none, false⟩,
   ⟨(some 8), .mv (.tmp 0), none, false⟩,
   ⟨(some 9), .bin .add (.tmp 7) (.tmp 8), none, false⟩,
   ⟨(some 10), .mv (.tmp 0), none, false⟩,
   ⟨(some 11), .bin .rem (.tmp 9) (.tmp 10), none, false⟩,
   ⟨(some 4), .mv (.tmp 11), none, false⟩])
  .ret))⟩

/-- loop.example/g01262/spec.l01Inverse -/
def c100 : XFn :=
 ⟨[.tmp 4],
  (.seq (.reg [⟨(some 4), .mv (.const (.int .i64 0)), none, false⟩])
  (.seq (.seq (.reg [⟨(some 5), .mv (.const (.int .i64 1)), none, false⟩])
  (.blk 0 (.loop (.seq (.seq (.reg [⟨(some 6), .mv (.tmp 5), none, false⟩,
   ⟨(some 7), .mv (.tmp 0), none, false⟩,
   ⟨(some 8), .bin .lss (.tmp 6) (.tmp 7), none, false⟩])
  (.cond (.tmp 8) .skip (.exit 0)))
  (.seq (.blk 1 (.seq (.reg [⟨(some 11), .mv (.tmp 5), none, false⟩,
   ⟨(some 12), .mv (.tmp 0), none, false⟩,
   ⟨(some 13), .mv (.tmp 1), none, false⟩,
   ⟨(some 14), .call (.func 101) [(.tmp 12), (.tmp 13)], none, false⟩,
   ⟨(some 15), .bin .mul (.tmp 11) (.tmp 14), none, false⟩,
   ⟨(some 16), .mv (.tmp 0), none, false⟩,
   ⟨(some 17), .bin .rem (.tmp 15) (.tmp 16), none, false⟩,
   ⟨(some 18), .bin .eql (.tmp 17) (.const (.int .i64 1)), none, false⟩])
  (.cond (.tmp 18) (.seq (.reg [⟨(some 19), .mv (.tmp 5), none, false⟩,
   ⟨(some 4), .mv (.tmp 19), none, false⟩])
  .ret) .skip)))
  (.reg [⟨(some 9), .mv (.tmp 5), none, false⟩,
   ⟨(some 10), .bin .add (.tmp 9) (.const (.int .i64 1)), none, false⟩,
   ⟨(some 5), .mv (.tmp 10), none, false⟩]))))))
  (.seq (.reg [⟨(some 4), .mv (.const (.int .i64 0)), none, false⟩])
  .ret)))⟩

/-- loop.example/g01262/spec.l05Rank -/
def c85 : XFn :=
 ⟨[.tmp 4],
  (.seq (.reg [⟨(some 4), .mv (.const (.int .i64 0)), none, false⟩])
  (.seq (.reg [⟨(some 15), .bslice 25 1 0 [.slice none 0 0] [], none, false⟩,
   ⟨(some 16), .mv (.tmp 1), none, false⟩,
   ⟨(some 17), .app 25 1 24 (.tmp 15) (.tmp 16), none, false⟩,
   ⟨(some 5), .mv (.tmp 17), none, false⟩,
   ⟨(some 6), .mv (.const (.int .i64 0)), none, false⟩])
  (.seq (.seq (.reg [⟨(some 7), .mv (.const (.int .i64 0)), none, false⟩])
  (.blk 0 (.loop (.seq (.seq (.reg [⟨(some 18), .mv (.tmp 5), none, false⟩,
   ⟨(some 19), .len (.tmp 18), none, false⟩,
   ⟨(some 20), .bin .gtr (.tmp 19) (.const (.int .i64 0)), none, false⟩,
   ⟨(some 21), .mv (.tmp 20), none, false⟩,
   ⟨(some 22), .mv (.tmp 7), (some (21, true)), false⟩,
   ⟨(some 23), .mv (.tmp 5), (some (21, true)), false⟩,
   ⟨(some 24), .ixs 1 (.tmp 23) (.const (.int .i64 0)), (some (21, true)), false⟩,
   ⟨(some 25), .load1 (.tmp 24), (some (21, true)), false⟩,
   ⟨(some 26), .len (.tmp 25), (some (21, true)), false⟩,
   ⟨(some 27), .bin .lss (.tmp 22) (.tmp 26), (some (21, true)), false⟩,
   ⟨(some 28), .pick (.tmp 21) (.tmp 27) (.const (.bool false)), none, false⟩])
  (.cond (.tmp 28) .skip (.exit 0)))
  (.seq (.blk 1 (.seq (.reg [⟨(some 31), .mv (.tmp 6), none, false⟩,
   ⟨(some 8), .mv (.tmp 31), none, false⟩])
  (.seq (.blk 2 (.loop (.seq (.seq (.reg [⟨(some 32), .mv (.tmp 8), none, false⟩,
   ⟨(some 33), .mv (.tmp 5), none, false⟩,
   ⟨(some 34), .len (.tmp 33), none, false⟩,
   ⟨(some 35), .bin .lss (.tmp 32) (.tmp 34), none, false⟩,
   ⟨(some 36), .mv (.tmp 35), none, false⟩,
   ⟨(some 37), .mv (.tmp 5), (some (36, true)), false⟩,
   ⟨(some 38), .mv (.tmp 8), (some (36, true)), false⟩,
   ⟨(some 39), .ixs 1 (.tmp 37) (.tmp 38), (some (36, true)), false⟩,
   ⟨(some 40), .load1 (.tmp 39), (some (36, true)), false⟩,
   ⟨(some 41), .mv (.tmp 7), (some (36, true)), false⟩,
   ⟨(some 42), .ixs 1 (.tmp 40) (.tmp 41), (some (36, true)), false⟩,
   ⟨(some 43), .load1 (.tmp 42), (some (36, true)), false⟩,
   ⟨(some 44), .bin .eql (.tmp 43) (.const (.int .i64 0)), (some (36, true)), false⟩,
   ⟨(some 45), .pick (.tmp 36) (.tmp 44) (.const (.bool false)), none, false⟩])
  (.cond (.tmp 45) .skip (.exit 2)))
  (.blk 3 (.reg [⟨(some 46), .mv (.tmp 8), none, false⟩,
   ⟨(some 47), .bin .add (.tmp 46) (.const (.int .i64 1)), none, false⟩,
   ⟨(some 8), .mv (.tmp 47), none, false⟩])))))
  (.seq (.seq (.reg [⟨(some 48), .mv (.tmp 8), none, false⟩,
   ⟨(some 49), .mv (.tmp 5), none, false⟩,
   ⟨(some 50), .len (.tmp 49), none, false⟩,
   ⟨(some 51), .bin .eql (.tmp 48) (.tmp 50), none, false⟩])
  (.cond (.tmp 51) (.exit 1) .skip))
  (.seq (.reg [⟨(some 52), .mv (.tmp 5), none, false⟩,
   ⟨(some 53), .mv (.tmp 8), none, false⟩,
   ⟨(some 54), .ixs 1 (.tmp 52) (.tmp 53), none, false⟩,
   ⟨(some 55), .load1 (.tmp 54), none, false⟩,
   ⟨(some 9), .mv (.tmp 55), none, false⟩])
  (.seq (.reg [⟨(some 56), .mv (.tmp 5), none, false⟩,
   ⟨(some 57), .mv (.tmp 8), none, false⟩,
   ⟨(some 58), .mv (.tmp 5), none, false⟩,
   ⟨(some 59), .mv (.tmp 6), none, false⟩,
   ⟨(some 60), .ixs 1 (.tmp 58) (.tmp 59), none, false⟩,
   ⟨(some 61), .load1 (.tmp 60), none, false⟩,
   ⟨(some 62), .ixs 1 (.tmp 56) (.tmp 57), none, false⟩,
   ⟨none, .store 1 (.tmp 62) (.tmp 61), none, false⟩])
  (.seq (.reg [⟨(some 63), .mv (.tmp 5), none, false⟩,
   ⟨(some 64), .mv (.tmp 6), none, false⟩,
   ⟨(some 65), .mv (.tmp 9), none, false⟩,
   ⟨(some 66), .ixs 1 (.tmp 63) (.tmp 64), none, false⟩,
   ⟨none, .store 1 (.tmp 66) (.tmp 65), none, false⟩])
  (.seq (.reg [⟨(some 67), .mv (.tmp 0), none, false⟩,
   ⟨(some 68), .mv (.tmp 9), none, false⟩,
   ⟨(some 69), .mv (.tmp 7), none, false⟩,
   ⟨(some 70), .ixs 1 (.tmp 68) (.tmp 69), none, false⟩,
   ⟨(some 71), .load1 (.tmp 70), none, false⟩,
   ⟨(some 72), .call (.func 100) [(.tmp 67), (.tmp 71)], none, false⟩,
   ⟨(some 10), .mv (.tmp 72), none, false⟩])
  (.seq (.seq (.reg [⟨(some 73), .mv (.tmp 6), none, false⟩,
   ⟨(some 74), .bin .add (.tmp 73) (.const (.int .i64 1)), none, false⟩,
   ⟨(some 11), .mv (.tmp 74), none, false⟩])
  (.blk 4 (.loop (.seq (.seq (.reg [⟨(some 75), .mv (.tmp 11), none, false⟩,
   ⟨(some 76), .mv (.tmp 5), none, false⟩,
   ⟨(some 77), .len (.tmp 76), none, false⟩,
   ⟨(some 78), .bin .lss (.tmp 75) (.tmp 77), none, false⟩])
  (.cond (.tmp 78) .skip (.exit 4)))
  (.seq (.blk 5 (.seq (.reg [⟨(some 81), .mv (.tmp 5), none, false⟩,
   ⟨(some 82), .mv (.tmp 11), none, false⟩,
   ⟨(some 83), .ixs 1 (.tmp 81) (.tmp 82), none, false⟩,
   ⟨(some 84), .load1 (.tmp 83), none, false⟩,
   ⟨(some 85), .mv (.tmp 7), none, false⟩,
   ⟨(some 86), .ixs 1 (.tmp 84) (.tmp 85), none, false⟩,
   ⟨(some 87), .load1 (.tmp 86), none, false⟩,
   ⟨(some 88), .mv (.tmp 10), none, false⟩,
   ⟨(some 89), .bin .mul (.tmp 87) (.tmp 88), none, false⟩,
   ⟨(some 90), .mv (.tmp 0), none, false⟩,
   ⟨(some 91), .bin .rem (.tmp 89) (.tmp 90), none, false⟩,
   ⟨(some 92), .bslice 2 1 0 [.int .i64 0] [], none, false⟩,
   ⟨(some 12), .mv (.tmp 91), none, false⟩,
   ⟨(some 13), .mv (.tmp 92), none, false⟩])
  (.seq (.seq (.reg [⟨(some 93), .mv (.tmp 12), none, false⟩,
   ⟨(some 94), .bin .eql (.tmp 93) (.const (.int .i64 0)), none, false⟩])
  (.cond (.tmp 94) (.exit 5) .skip))
  (.seq (.seq (.reg [⟨(some 14), .mv (.const (.int .i64 0)), none, false⟩])
  (.blk 6 (.loop (.seq (.seq (.reg [⟨(some 95), .mv (.tmp 14), none, false⟩,
   ⟨(some 96), .mv (.tmp 9), none, false⟩,
   ⟨(some 97), .len (.tmp 96), none, false⟩,
   ⟨(some 98), .bin .lss (.tmp 95) (.tmp 97), none, false⟩])
  (.cond (.tmp 98) .skip (.exit 6)))
  (.seq (.blk 7 (.reg [⟨(some 101), .mv (.tmp 13), none, false⟩,
   ⟨(some 102), .mv (.tmp 0), none, false⟩,
   ⟨(some 103), .mv (.tmp 5), none, false⟩,
   ⟨(some 104), .mv (.tmp 11), none, false⟩,
   ⟨(some 105), .ixs 1 (.tmp 103) (.tmp 104), none, false⟩,
   ⟨(some 106), .load1 (.tmp 105), none, false⟩,
   ⟨(some 107), .mv (.tmp 14), none, false⟩,
   ⟨(some 108), .ixs 1 (.tmp 106) (.tmp 107), none, false⟩,
   ⟨(some 109), .load1 (.tmp 108), none, false⟩,
   ⟨(some 110), .mv (.tmp 12), none, false⟩,
   ⟨(some 111), .mv (.tmp 9), none, false⟩,
   ⟨(some 112), .mv (.tmp 14), none, false⟩,
   ⟨(some 113), .ixs 1 (.tmp 111) (.tmp 112), none, false⟩,
   ⟨(some 114), .load1 (.tmp 113), none, false⟩,
   ⟨(some 115), .bin .mul (.tmp 110) (.tmp 114), none, false⟩,
   ⟨(some 116), .bin .sub (.tmp 109) (.tmp 115), none, false⟩,
   ⟨(some 117), .call (.func 101) [(.tmp 102), (.tmp 116)], none, false⟩,
   ⟨(some 118), .bslice 2 1 1 [.int .i64 0] [(0, 1, (.tmp 117))], none, false⟩,
   ⟨(some 119), .app 2 1 8 (.tmp 101) (.tmp 118), none, false⟩,
   ⟨(some 13), .mv (.tmp 119), none, false⟩]))
  (.reg [⟨(some 99), .mv (.tmp 14), none, false⟩,
   ⟨(some 100), .bin .add (.tmp 99) (.const (.int .i64 1)), none, false⟩,
   ⟨(some 14), .mv (.tmp 100), none, false⟩]))))))
  (.reg [⟨(some 120), .mv (.tmp 5), none, false⟩,
   ⟨(some 121), .mv (.tmp 11), none, false⟩,
   ⟨(some 122), .mv (.tmp 13), none, false⟩,
   ⟨(some 123), .ixs 1 (.tmp 120) (.tmp 121), none, false⟩,
   ⟨none, .store 1 (.tmp 123) (.tmp 122), none, false⟩])))))
  (.reg [⟨(some 79), .mv (.tmp 11), none, false⟩,
   ⟨(some 80), .bin .add (.tmp 79) (.const (.int .i64 1)), none, false⟩,
   ⟨(some 11), .mv (.tmp 80), none, false⟩]))))))
  (.reg [⟨(some 124), .mv (.tmp 6), none, false⟩,
   ⟨(some 125), .bin .add (.tmp 124) (.const (.int .i64 1)), none, false⟩,
   ⟨(some 6), .mv (.tmp 125), none, false⟩]))))))))))
  (.reg [⟨(some 29), .mv (.tmp 7), none, false⟩,
   ⟨(some 30), .bin .add (.tmp 29) (.const (.int .i64 1)), none, false⟩,
   ⟨(some 7), .mv (.tmp 30), none, false⟩]))))))
  (.seq (.reg [⟨(some 126), .mv (.tmp 6), none, false⟩,
   ⟨(some 4), .mv (.tmp 126), none, false⟩])
  .ret))))⟩

/-- loop.example/g01262/spec.RowRank -/
def c40 : XFn :=
 ⟨[.tmp 4, .tmp 5],
  (.seq (.reg [⟨(some 4), .mv (.const (.int .i64 0)), none, false⟩,
   ⟨(some 5), .mv (.const (.int .i64 0)), none, false⟩])
  (.seq (.seq (.reg [⟨(some 7), .mv (.tmp 0), none, false⟩,
   ⟨(some 8), .call (.func 83) [(.tmp 7)], none, false⟩,
   ⟨(some 9), .un .not (.tmp 8), none, false⟩,
   ⟨(some 10), .mv (.tmp 9), none, false⟩,
   ⟨(some 11), .mv (.tmp 1), (some (10, false)), false⟩,
   ⟨(some 12), .len (.tmp 11), (some (10, false)), false⟩,
   ⟨(some 13), .bin .lss (.tmp 12) (.const (.int .i64 1)), (some (10, false)), false⟩,
   ⟨(some 14), .pick (.tmp 10) (.const (.bool true)) (.tmp 13), none, false⟩,
   ⟨(some 15), .mv (.tmp 14), none, false⟩,
   ⟨(some 16), .mv (.tmp 1), (some (15, false)), false⟩,
   ⟨(some 17), .len (.tmp 16), (some (15, false)), false⟩,
   ⟨(some 18), .bin .gtr (.tmp 17) (.const (.int .i64 9)), (some (15, false)), false⟩,
   ⟨(some 19), .pick (.tmp 15) (.const (.bool true)) (.tmp 18), none, false⟩,
   ⟨(some 20), .mv (.tmp 19), none, false⟩,
   ⟨(some 21), .mv (.tmp 1), (some (20, false)), false⟩,
   ⟨(some 22), .ixs 1 (.tmp 21) (.const (.int .i64 0)), (some (20, false)), false⟩,
   ⟨(some 23), .load1 (.tmp 22), (some (20, false)), false⟩,
   ⟨(some 24), .len (.tmp 23), (some (20, false)), false⟩,
   ⟨(some 25), .bin .lss (.tmp 24) (.const (.int .i64 1)), (some (20, false)), false⟩,
   ⟨(some 26), .pick (.tmp 20) (.const (.bool true)) (.tmp 25), none, false⟩,
   ⟨(some 27), .mv (.tmp 26), none, false⟩,
   ⟨(some 28), .mv (.tmp 1), (some (27, false)), false⟩,
   ⟨(some 29), .ixs 1 (.tmp 28) (.const (.int .i64 0)), (some (27, false)), false⟩,
   ⟨(some 30), .load1 (.tmp 29), (some (27, false)), false⟩,
   ⟨(some 31), .len (.tmp 30), (some (27, false)), false⟩,
   ⟨(some 32), .bin .gtr (.tmp 31) (.const (.int .i64 81)), (some (27, false)), false⟩,
   ⟨(some 33), .pick (.tmp 27) (.const (.bool true)) (.tmp 32), none, false⟩])
  (.cond (.tmp 33) (.seq (.reg [⟨(some 4), .mv (.const (.int .i64 0)), none, false⟩,
   ⟨(some 5), .mv (.const (.int .i64 2)), none, false⟩])
  .ret) .skip))
  (.seq (.seq (.reg [⟨(some 6), .mv (.const (.int .i64 0)), none, false⟩])
  (.blk 0 (.loop (.seq (.seq (.reg [⟨(some 34), .mv (.tmp 6), none, false⟩,
   ⟨(some 35), .mv (.tmp 1), none, false⟩,
   ⟨(some 36), .len (.tmp 35), none, false⟩,
   ⟨(some 37), .bin .lss (.tmp 34) (.tmp 36), none, false⟩])
  (.cond (.tmp 37) .skip (.exit 0)))
  (.seq (.blk 1 (.seq (.reg [⟨(some 40), .mv (.tmp 0), none, false⟩,
   ⟨(some 41), .mv (.tmp 1), none, false⟩,
   ⟨(some 42), .mv (.tmp 6), none, false⟩,
   ⟨(some 43), .ixs 1 (.tmp 41) (.tmp 42), none, false⟩,
   ⟨(some 44), .load1 (.tmp 43), none, false⟩,
   ⟨(some 45), .mv (.tmp 1), none, false⟩,
   ⟨(some 46), .ixs 1 (.tmp 45) (.const (.int .i64 0)), none, false⟩,
   ⟨(some 47), .load1 (.tmp 46), none, false⟩,
   ⟨(some 48), .len (.tmp 47), none, false⟩,
   ⟨(some 49), .call (.func 84) [(.tmp 40), (.tmp 44), (.tmp 48)], none, false⟩,
   ⟨(some 50), .un .not (.tmp 49), none, false⟩])
  (.cond (.tmp 50) (.seq (.reg [⟨(some 4), .mv (.const (.int .i64 0)), none, false⟩,
   ⟨(some 5), .mv (.const (.int .i64 2)), none, false⟩])
  .ret) .skip)))
  (.reg [⟨(some 38), .mv (.tmp 6), none, false⟩,
   ⟨(some 39), .bin .add (.tmp 38) (.const (.int .i64 1)), none, false⟩,
   ⟨(some 6), .mv (.tmp 39), none, false⟩]))))))
  (.seq (.reg [⟨(some 51), .mv (.tmp 0), none, false⟩,
   ⟨(some 52), .mv (.tmp 1), none, false⟩,
   ⟨(some 53), .call (.func 85) [(.tmp 51), (.tmp 52)], none, false⟩,
   ⟨(some 4), .mv (.tmp 53), none, false⟩,
   ⟨(some 5), .mv (.const (.int .i64 0)), none, false⟩])
  .ret))))⟩

/-- loop.example/g01262/laws.toInt64SS -/
def c41 : XFn :=
 ⟨[.tmp 2],
  (.seq (.reg [⟨(some 2), .mv (.const (.slice none 0 0)), none, false⟩])
  (.seq (.reg [⟨(some 5), .mv (.tmp 0), none, false⟩,
   ⟨(some 6), .len (.tmp 5), none, false⟩,
   ⟨(some 7), .mks 25 1 24 [.slice none 0 0] (.tmp 6), none, false⟩,
   ⟨(some 3), .mv (.tmp 7), none, false⟩])
  (.seq (.seq (.reg [⟨(some 4), .mv (.const (.int .i64 0)), none, false⟩])
  (.blk 0 (.loop (.seq (.seq (.reg [⟨(some 8), .mv (.tmp 4), none, false⟩,
   ⟨(some 9), .mv (.tmp 0), none, false⟩,
   ⟨(some 10), .len (.tmp 9), none, false⟩,
   ⟨(some 11), .bin .lss (.tmp 8) (.tmp 10), none, false⟩])
  (.cond (.tmp 11) .skip (.exit 0)))
  (.seq (.blk 1 (.reg [⟨(some 14), .mv (.tmp 3), none, false⟩,
   ⟨(some 15), .mv (.tmp 4), none, false⟩,
   ⟨(some 16), .mv (.tmp 0), none, false⟩,
   ⟨(some 17), .mv (.tmp 4), none, false⟩,
   ⟨(some 18), .ixs 1 (.tmp 16) (.tmp 17), none, false⟩,
   ⟨(some 19), .load1 (.tmp 18), none, false⟩,
   ⟨(some 20), .call (.func 49) [(.tmp 19)], none, false⟩,
   ⟨(some 21), .ixs 1 (.tmp 14) (.tmp 15), none, false⟩,
   ⟨none, .store 1 (.tmp 21) (.tmp 20), none, false⟩]))
  (.reg [⟨(some 12), .mv (.tmp 4), none, false⟩,
   ⟨(some 13), .bin .add (.tmp 12) (.const (.int .i64 1)), none, false⟩,
   ⟨(some 4), .mv (.tmp 13), none, false⟩]))))))
  (.seq (.reg [⟨(some 22), .mv (.tmp 3), none, false⟩,
   ⟨(some 2), .mv (.tmp 22), none, false⟩])
  .ret))))⟩

/-- loop.example/g01262/impl.isMatrix -/
def c86 : XFn :=
 ⟨[.tmp 8],
  (.seq (.reg [⟨(some 8), .mv (.const (.bool false)), none, false⟩])
  (.seq (.seq (.reg [⟨(some 11), .mv (.tmp 3), none, false⟩,
   ⟨(some 12), .len (.tmp 11), none, false⟩,
   ⟨(some 13), .mv (.const (.int .i64 0)), none, false⟩])
  (.blk 0 (.loop (.seq (.reg [⟨(some 14), .bin .lss (.tmp 13) (.tmp 12), none, false⟩])
  (.seq (.cond (.tmp 14) .skip (.exit 0))
  (.seq (.blk 1 (.seq (.reg [⟨(some 15), .ixs 1 (.tmp 11) (.tmp 13), none, false⟩,
   ⟨(some 16), .load1 (.tmp 15), none, false⟩,
   ⟨(some 10), .mv (.tmp 16), none, false⟩])
  (.seq (.reg [⟨(some 17), .mv (.tmp 10), none, false⟩,
   ⟨(some 18), .len (.tmp 17), none, false⟩,
   ⟨(some 19), .mv (.tmp 2), none, false⟩,
   ⟨(some 20), .bin .neq (.tmp 18) (.tmp 19), none, false⟩,
   ⟨(some 21), .mv (.tmp 20), none, false⟩,
   ⟨(some 22), .mv (.tmp 0), (some (21, false)), false⟩,
   ⟨(some 23), .mv (.tmp 10), (some (21, false)), false⟩,
   ⟨(some 24), .call (.func 61) [(.tmp 22), (.tmp 23)], (some (21, false)), false⟩,
   ⟨(some 25), .un .not (.tmp 24), (some (21, false)), false⟩,
   ⟨(some 26), .pick (.tmp 21) (.const (.bool true)) (.tmp 25), none, false⟩])
  (.cond (.tmp 26) (.seq (.reg [⟨(some 8), .mv (.const (.bool false)), none, false⟩])
  .ret) .skip))))
  (.reg [⟨(some 27), .bin .add (.tmp 13) (.const (.int .i64 1)), none, false⟩,
   ⟨(some 13), .mv (.tmp 27), none, false⟩])))))))
  (.seq (.reg [⟨(some 28), .mv (.tmp 3), none, false⟩,
   ⟨(some 29), .len (.tmp 28), none, false⟩,
   ⟨(some 30), .mv (.tmp 1), none, false⟩,
   ⟨(some 31), .bin .eql (.tmp 29) (.tmp 30), none, false⟩,
   ⟨(some 8), .mv (.tmp 31), none, false⟩])
  .ret)))⟩

/-- slices.Clone[[]int64,int64] -/
def c102 : XFn :=
 ⟨[.tmp 2],
  (.seq (.reg [⟨(some 2), .mv (.const (.slice none 0 0)), none, false⟩])
  (.seq (.seq (.reg [⟨(some 3), .mv (.tmp 0), none, false⟩,
   ⟨(some 4), .isnil false (.tmp 3), none, false⟩])
  (.cond (.tmp 4) (.seq (.reg [⟨(some 2), .mv (.const (.slice none 0 0)), none, false⟩])
  .ret) .skip))
  (.seq (.reg [⟨(some 5), .bslice 2 1 0 [.int .i64 0] [], none, false⟩,
   ⟨(some 6), .mv (.tmp 0), none, false⟩,
   ⟨(some 7), .app 2 1 8 (.tmp 5) (.tmp 6), none, false⟩,
   ⟨(some 2), .mv (.tmp 7), none, false⟩])
  .ret)))⟩

/-- slices.IndexFunc[[][]int64,[]int64] -/
def c103 : XFn :=
 ⟨[.tmp 4],
  (.seq (.reg [⟨(some 4), .mv (.const (.int .i64 0)), none, false⟩])
  (.seq (.seq (.reg [⟨(some 6), .mv (.tmp 0), none, false⟩,
   ⟨(some 7), .len (.tmp 6), none, false⟩,
   ⟨(some 8), .mv (.const (.int .i64 0)), none, false⟩])
  (.blk 0 (.loop (.seq (.reg [⟨(some 9), .bin .lss (.tmp 8) (.tmp 7), none, false⟩])
  (.seq (.cond (.tmp 9) .skip (.exit 0))
  (.seq (.blk 1 (.seq (.reg [⟨(some 10), .mv (.tmp 8), none, false⟩,
   ⟨(some 5), .mv (.tmp 10), none, false⟩])
  (.seq (.reg [⟨(some 11), .mv (.tmp 1), none, false⟩,
   ⟨(some 12), .mv (.tmp 0), none, false⟩,
   ⟨(some 13), .mv (.tmp 5), none, false⟩,
   ⟨(some 14), .ixs 1 (.tmp 12) (.tmp 13), none, false⟩,
   ⟨(some 15), .load1 (.tmp 14), none, false⟩,
   ⟨(some 16), .call (.tmp 11) [(.tmp 15)], none, false⟩])
  (.cond (.tmp 16) (.seq (.reg [⟨(some 17), .mv (.tmp 5), none, false⟩,
   ⟨(some 4), .mv (.tmp 17), none, false⟩])
  .ret) .skip))))
  (.reg [⟨(some 18), .bin .add (.tmp 8) (.const (.int .i64 1)), none, false⟩,
   ⟨(some 8), .mv (.tmp 18), none, false⟩])))))))
  (.seq (.reg [⟨(some 4), .mv (.const (.int .i64 (-1))), none, false⟩])
  .ret)))⟩

/-- loop.example/g01262/impl.inverse -/
def c105 : XFn :=
 ⟨[.tmp 4],
  (.seq (.reg [⟨(some 4), .mv (.const (.int .i64 0)), none, false⟩])
  (.seq (.reg [⟨(some 5), .mv (.const (.int .i64 1)), none, false⟩])
  (.blk 0 (.loop (.seq (.blk 1 (.seq (.reg [⟨(some 8), .mv (.tmp 5), none, false⟩,
   ⟨(some 9), .mv (.tmp 1), none, false⟩,
   ⟨(some 10), .bin .mul (.tmp 8) (.tmp 9), none, false⟩,
   ⟨(some 11), .mv (.tmp 0), none, false⟩,
   ⟨(some 12), .bin .rem (.tmp 10) (.tmp 11), none, false⟩,
   ⟨(some 13), .bin .eql (.tmp 12) (.const (.int .i64 1)), none, false⟩])
  (.cond (.tmp 13) (.seq (.reg [⟨(some 14), .mv (.tmp 5), none, false⟩,
   ⟨(some 4), .mv (.tmp 14), none, false⟩])
  .ret) .skip)))
  (.reg [⟨(some 6), .mv (.tmp 5), none, false⟩,
   ⟨(some 7), .bin .add (.tmp 6) (.const (.int .i64 1)), none, false⟩,
   ⟨(some 5), .mv (.tmp 7), none, false⟩]))))))⟩

/-- loop.example/g01262/impl.rank -/
def c87 : XFn :=
 ⟨[.tmp 4],
  (.seq (.reg [⟨(some 4), .mv (.const (.int .i64 0)), none, false⟩])
  (.seq (.reg [⟨(some 15), .bslice 25 1 0 [.slice none 0 0] [], none, false⟩,
   ⟨(some 5), .mv (.tmp 15), none, false⟩])
  (.seq (.seq (.reg [⟨(some 16), .mv (.tmp 1), none, false⟩,
   ⟨(some 17), .len (.tmp 16), none, false⟩,
   ⟨(some 18), .mv (.const (.int .i64 0)), none, false⟩])
  (.blk 0 (.loop (.seq (.reg [⟨(some 19), .bin .lss (.tmp 18) (.tmp 17), none, false⟩])
  (.seq (.cond (.tmp 19) .skip (.exit 0))
  (.seq (.blk 1 (.seq (.reg [⟨(some 20), .ixs 1 (.tmp 16) (.tmp 18), none, false⟩,
   ⟨(some 21), .load1 (.tmp 20), none, false⟩,
   ⟨(some 7), .mv (.tmp 21), none, false⟩])
  (.reg [⟨(some 22), .mv (.tmp 5), none, false⟩,
   ⟨(some 23), .mv (.tmp 7), none, false⟩,
   ⟨(some 24), .call (.func 102) [(.tmp 23)], none, false⟩,
   ⟨(some 25), .bslice 25 1 1 [.slice none 0 0] [(0, 1, (.tmp 24))], none, false⟩,
   ⟨(some 26), .app 25 1 24 (.tmp 22) (.tmp 25), none, false⟩,
   ⟨(some 5), .mv (.tmp 26), none, false⟩])))
  (.reg [⟨(some 27), .bin .add (.tmp 18) (.const (.int .i64 1)), none, false⟩,
   ⟨(some 18), .mv (.tmp 27), none, false⟩])))))))
  (.seq (.reg [⟨(some 8), .mv (.const (.int .i64 0)), none, false⟩])
  (.seq (.seq (.reg [⟨(some 9), .alloc 3 [.int .i64 0], none, false⟩,
   ⟨none, .store 1 (.tmp 9) (.const (.int .i64 0)), none, false⟩])
  (.blk 2 (.loop (.seq (.seq (.reg [⟨(some 28), .mv (.tmp 8), none, false⟩,
   ⟨(some 29), .mv (.tmp 5), none, false⟩,
   ⟨(some 30), .len (.tmp 29), none, false⟩,
   ⟨(some 31), .bin .lss (.tmp 28) (.tmp 30), none, false⟩,
   ⟨(some 32), .mv (.tmp 31), none, false⟩,
   ⟨(some 33), .load1 (.tmp 9), (some (32, true)), false⟩,
   ⟨(some 34), .mv (.tmp 5), (some (32, true)), false⟩,
   ⟨(some 35), .ixs 1 (.tmp 34) (.const (.int .i64 0)), (some (32, true)), false⟩,
   ⟨(some 36), .load1 (.tmp 35), (some (32, true)), false⟩,
   ⟨(some 37), .len (.tmp 36), (some (32, true)), false⟩,
   ⟨(some 38), .bin .lss (.tmp 33) (.tmp 37), (some (32, true)), false⟩,
   ⟨(some 39), .pick (.tmp 32) (.tmp 38) (.const (.bool false)), none, false⟩])
  (.cond (.tmp 39) .skip (.exit 2)))
  (.seq (.blk 3 (.seq (.reg [⟨(some 42), .mv (.tmp 5), none, false⟩,
   ⟨(some 43), .mv (.tmp 8), none, false⟩,
   ⟨(some 44), .slc 1 (.tmp 42) (some (.tmp 43)) none, none, false⟩,
   ⟨(some 45), .mkf 104 [(.tmp 9)], none, false⟩,
   ⟨(some 46), .call (.func 103) [(.tmp 44), (.tmp 45)], none, false⟩,
   ⟨(some 10), .mv (.tmp 46), none, false⟩])
  (.seq (.seq (.reg [⟨(some 47), .mv (.tmp 10), none, false⟩,
   ⟨(some 48), .bin .lss (.tmp 47) (.const (.int .i64 0)), none, false⟩])
  (.cond (.tmp 48) (.exit 3) .skip))
  (.seq (.reg [⟨(some 49), .mv (.tmp 5), none, false⟩,
   ⟨(some 50), .mv (.tmp 8), none, false⟩,
   ⟨(some 51), .mv (.tmp 5), none, false⟩,
   ⟨(some 52), .mv (.tmp 8), none, false⟩,
   ⟨(some 53), .mv (.tmp 10), none, false⟩,
   ⟨(some 54), .bin .add (.tmp 52) (.tmp 53), none, false⟩,
   ⟨(some 55), .mv (.tmp 5), none, false⟩,
   ⟨(some 56), .mv (.tmp 8), none, false⟩,
   ⟨(some 57), .mv (.tmp 10), none, false⟩,
   ⟨(some 58), .bin .add (.tmp 56) (.tmp 57), none, false⟩,
   ⟨(some 59), .ixs 1 (.tmp 55) (.tmp 58), none, false⟩,
   ⟨(some 60), .load1 (.tmp 59), none, false⟩,
   ⟨(some 61), .mv (.tmp 5), none, false⟩,
   ⟨(some 62), .mv (.tmp 8), none, false⟩,
   ⟨(some 63), .ixs 1 (.tmp 61) (.tmp 62), none, false⟩,
   ⟨(some 64), .load1 (.tmp 63), none, false⟩,
   ⟨(some 65), .ixs 1 (.tmp 49) (.tmp 50), none, false⟩,
   ⟨none, .store 1 (.tmp 65) (.tmp 60), none, false⟩,
   ⟨(some 66), .ixs 1 (.tmp 51) (.tmp 54), none, false⟩,
   ⟨none, .store 1 (.tmp 66) (.tmp 64), none, false⟩])
  (.seq (.reg [⟨(some 67), .mv (.tmp 0), none, false⟩,
   ⟨(some 68), .mv (.tmp 5), none, false⟩,
   ⟨(some 69), .mv (.tmp 8), none, false⟩,
   ⟨(some 70), .ixs 1 (.tmp 68) (.tmp 69), none, false⟩,
   ⟨(some 71), .load1 (.tmp 70), none, false⟩,
   ⟨(some 72), .load1 (.tmp 9), none, false⟩,
   ⟨(some 73), .ixs 1 (.tmp 71) (.tmp 72), none, false⟩,
   ⟨(some 74), .load1 (.tmp 73), none, false⟩,
   ⟨(some 75), .call (.func 105) [(.tmp 67), (.tmp 74)], none, false⟩,
   ⟨(some 11), .mv (.tmp 75), none, false⟩])
  (.seq (.seq (.reg [⟨(some 76), .mv (.tmp 8), none, false⟩,
   ⟨(some 77), .bin .add (.tmp 76) (.const (.int .i64 1)), none, false⟩,
   ⟨(some 12), .mv (.tmp 77), none, false⟩])
  (.blk 4 (.loop (.seq (.seq (.reg [⟨(some 78), .mv (.tmp 12), none, false⟩,
   ⟨(some 79), .mv (.tmp 5), none, false⟩,
   ⟨(some 80), .len (.tmp 79), none, false⟩,
   ⟨(some 81), .bin .lss (.tmp 78) (.tmp 80), none, false⟩])
  (.cond (.tmp 81) .skip (.exit 4)))
  (.seq (.blk 5 (.seq (.reg [⟨(some 84), .mv (.tmp 5), none, false⟩,
   ⟨(some 85), .mv (.tmp 12), none, false⟩,
   ⟨(some 86), .ixs 1 (.tmp 84) (.tmp 85), none, false⟩,
   ⟨(some 87), .load1 (.tmp 86), none, false⟩,
   ⟨(some 88), .load1 (.tmp 9), none, false⟩,
   ⟨(some 89), .ixs 1 (.tmp 87) (.tmp 88), none, false⟩,
   ⟨(some 90), .load1 (.tmp 89), none, false⟩,
   ⟨(some 91), .mv (.tmp 11), none, false⟩,
   ⟨(some 92), .bin .mul (.tmp 90) (.tmp 91), none, false⟩,
   ⟨(some 93), .mv (.tmp 0), none, false⟩,
   ⟨(some 94), .bin .rem (.tmp 92) (.tmp 93), none, false⟩,
   ⟨(some 13), .mv (.tmp 94), none, false⟩])
  (.seq (.reg [⟨(some 95), .mv (.tmp 5), none, false⟩,
   ⟨(some 96), .mv (.tmp 12), none, false⟩,
   ⟨(some 97), .ixs 1 (.tmp 95) (.tmp 96), none, false⟩,
   ⟨(some 98), .load1 (.tmp 97), none, false⟩,
   ⟨(some 99), .len (.tmp 98), none, false⟩,
   ⟨(some 100), .mv (.const (.int .i64 0)), none, false⟩])
  (.blk 6 (.loop (.seq (.reg [⟨(some 101), .bin .lss (.tmp 100) (.tmp 99), none, false⟩])
  (.seq (.cond (.tmp 101) .skip (.exit 6))
  (.seq (.blk 7 (.seq (.reg [⟨(some 102), .mv (.tmp 100), none, false⟩,
   ⟨(some 14), .mv (.tmp 102), none, false⟩])
  (.reg [⟨(some 103), .mv (.tmp 5), none, false⟩,
   ⟨(some 104), .mv (.tmp 12), none, false⟩,
   ⟨(some 105), .ixs 1 (.tmp 103) (.tmp 104), none, false⟩,
   ⟨(some 106), .load1 (.tmp 105), none, false⟩,
   ⟨(some 107), .mv (.tmp 14), none, false⟩,
   ⟨(some 108), .mv (.tmp 5), none, false⟩,
   ⟨(some 109), .mv (.tmp 12), none, false⟩,
   ⟨(some 110), .ixs 1 (.tmp 108) (.tmp 109), none, false⟩,
   ⟨(some 111), .load1 (.tmp 110), none, false⟩,
   ⟨(some 112), .mv (.tmp 14), none, false⟩,
   ⟨(some 113), .ixs 1 (.tmp 111) (.tmp 112), none, false⟩,
   ⟨(some 114), .load1 (.tmp 113), none, false⟩,
   ⟨(some 115), .mv (.tmp 13), none, false⟩,
   ⟨(some 116), .mv (.tmp 5), none, false⟩,
   ⟨(some 117), .mv (.tmp 8), none, false⟩,
   ⟨(some 118), .ixs 1 (.tmp 116) (.tmp 117), none, false⟩,
   ⟨(some 119), .load1 (.tmp 118), none, false⟩,
   ⟨(some 120), .mv (.tmp 14), none, false⟩,
   ⟨(some 121), .ixs 1 (.tmp 119) (.tmp 120), none, false⟩,
   ⟨(some 122), .load1 (.tmp 121), none, false⟩,
   ⟨(some 123), .bin .mul (.tmp 115) (.tmp 122), none, false⟩,
   ⟨(some 124), .bin .sub (.tmp 114) (.tmp 123), none, false⟩,
   ⟨(some 125), .mv (.tmp 0), none, false⟩,
   ⟨(some 126), .bin .rem (.tmp 124) (.tmp 125), none, false⟩,
   ⟨(some 127), .mv (.tmp 0), none, false⟩,
   ⟨(some 128), .bin .add (.tmp 126) (.tmp 127), none, false⟩,
   ⟨(some 129), .mv (.tmp 0), none, false⟩,
   ⟨(some 130), .bin .rem (.tmp 128) (.tmp 129), none, false⟩,
   ⟨(some 131), .ixs 1 (.tmp 106) (.tmp 107), none, false⟩,
   ⟨none, .store 1 (.tmp 131) (.tmp 130), none, false⟩])))
  (.reg [⟨(some 132), .bin .add (.tmp 100) (.const (.int .i64 1)), none, false⟩,
   ⟨(some 100), .mv (.tmp 132), none, false⟩])))))))))
  (.reg [⟨(some 82), .mv (.tmp 12), none, false⟩,
   ⟨(some 83), .bin .add (.tmp 82) (.const (.int .i64 1)), none, false⟩,
   ⟨(some 12), .mv (.tmp 83), none, false⟩]))))))
  (.reg [⟨(some 133), .mv (.tmp 8), none, false⟩,
   ⟨(some 134), .bin .add (.tmp 133) (.const (.int .i64 1)), none, false⟩,
   ⟨(some 8), .mv (.tmp 134), none, false⟩])))))))
  (.seq (.seq (.reg [⟨(some 135), .load1 (.tmp 9), none, false⟩])
  (.reg [⟨(some 9), .alloc 3 [.int .i64 0], none, false⟩,
   ⟨none, .store 1 (.tmp 9) (.tmp 135), none, false⟩]))
  (.reg [⟨(some 40), .load1 (.tmp 9), none, false⟩,
   ⟨(some 41), .bin .add (.tmp 40) (.const (.int .i64 1)), none, false⟩,
   ⟨none, .store 1 (.tmp 9) (.tmp 41), none, false⟩])))))))
  (.seq (.reg [⟨(some 136), .mv (.tmp 8), none, false⟩,
   ⟨(some 4), .mv (.tmp 136), none, false⟩])
  .ret))))))⟩

/-- loop.example/g01262/impl.RowRank -/
def c42 : XFn :=
 ⟨[.tmp 4, .tmp 5],
  (.seq (.reg [⟨(some 4), .mv (.const (.int .i64 0)), none, false⟩,
   ⟨(some 5), .mv (.const (.int .i64 0)), none, false⟩])
  (.seq (.seq (.reg [⟨(some 7), .mv (.tmp 0), none, false⟩,
   ⟨(some 8), .call (.func 59) [(.tmp 7)], none, false⟩,
   ⟨(some 9), .un .not (.tmp 8), none, false⟩,
   ⟨(some 10), .mv (.tmp 9), none, false⟩,
   ⟨(some 11), .mv (.tmp 1), (some (10, false)), false⟩,
   ⟨(some 12), .len (.tmp 11), (some (10, false)), false⟩,
   ⟨(some 13), .bslice 2 1 1 [.int .i64 0] [(0, 1, (.tmp 12))], (some (10, false)), false⟩,
   ⟨(some 14), .call (.func 60) [(.tmp 13)], (some (10, false)), false⟩,
   ⟨(some 15), .un .not (.tmp 14), (some (10, false)), false⟩,
   ⟨(some 16), .pick (.tmp 10) (.const (.bool true)) (.tmp 15), none, false⟩])
  (.cond (.tmp 16) (.seq (.reg [⟨(some 4), .mv (.const (.int .i64 0)), none, false⟩,
   ⟨(some 5), .mv (.const (.int .i64 2)), none, false⟩])
  .ret) .skip))
  (.seq (.reg [⟨(some 17), .mv (.tmp 1), none, false⟩,
   ⟨(some 18), .ixs 1 (.tmp 17) (.const (.int .i64 0)), none, false⟩,
   ⟨(some 19), .load1 (.tmp 18), none, false⟩,
   ⟨(some 20), .len (.tmp 19), none, false⟩,
   ⟨(some 6), .mv (.tmp 20), none, false⟩])
  (.seq (.seq (.reg [⟨(some 21), .mv (.tmp 6), none, false⟩,
   ⟨(some 22), .bin .lss (.tmp 21) (.const (.int .i64 1)), none, false⟩,
   ⟨(some 23), .mv (.tmp 22), none, false⟩,
   ⟨(some 24), .mv (.tmp 6), (some (23, false)), false⟩,
   ⟨(some 25), .bin .gtr (.tmp 24) (.const (.int .i64 81)), (some (23, false)), false⟩,
   ⟨(some 26), .pick (.tmp 23) (.const (.bool true)) (.tmp 25), none, false⟩,
   ⟨(some 27), .mv (.tmp 26), none, false⟩,
   ⟨(some 28), .mv (.tmp 0), (some (27, false)), false⟩,
   ⟨(some 29), .mv (.tmp 1), (some (27, false)), false⟩,
   ⟨(some 30), .len (.tmp 29), (some (27, false)), false⟩,
   ⟨(some 31), .mv (.tmp 6), (some (27, false)), false⟩,
   ⟨(some 32), .mv (.tmp 1), (some (27, false)), false⟩,
   ⟨(some 33), .call (.func 86) [(.tmp 28), (.tmp 30), (.tmp 31), (.tmp 32)], (some (27, false)), false⟩,
   ⟨(some 34), .un .not (.tmp 33), (some (27, false)), false⟩,
   ⟨(some 35), .pick (.tmp 27) (.const (.bool true)) (.tmp 34), none, false⟩])
  (.cond (.tmp 35) (.seq (.reg [⟨(some 4), .mv (.const (.int .i64 0)), none, false⟩,
   ⟨(some 5), .mv (.const (.int .i64 2)), none, false⟩])
  .ret) .skip))
  (.seq (.reg [⟨(some 36), .mv (.tmp 0), none, false⟩,
   ⟨(some 37), .mv (.tmp 1), none, false⟩,
   ⟨(some 38), .call (.func 87) [(.tmp 36), (.tmp 37)], none, false⟩,
   ⟨(some 4), .mv (.tmp 38), none, false⟩,
   ⟨(some 5), .mv (.const (.int .i64 0)), none, false⟩])
  .ret)))))⟩

/-- loop.example/g01262/laws.eqInt64SS -/
def c43 : XFn :=
 ⟨[.tmp 4],
  (.seq (.reg [⟨(some 4), .mv (.const (.bool false)), none, false⟩])
  (.seq (.seq (.reg [⟨(some 6), .mv (.tmp 0), none, false⟩,
   ⟨(some 7), .len (.tmp 6), none, false⟩,
   ⟨(some 8), .mv (.tmp 1), none, false⟩,
   ⟨(some 9), .len (.tmp 8), none, false⟩,
   ⟨(some 10), .bin .neq (.tmp 7) (.tmp 9), none, false⟩])
  (.cond (.tmp 10) (.seq (.reg [⟨(some 4), .mv (.const (.bool false)), none, false⟩])
  .ret) .skip))
  (.seq (.seq (.reg [⟨(some 5), .mv (.const (.int .i64 0)), none, false⟩])
  (.blk 0 (.loop (.seq (.seq (.reg [⟨(some 11), .mv (.tmp 5), none, false⟩,
   ⟨(some 12), .mv (.tmp 0), none, false⟩,
   ⟨(some 13), .len (.tmp 12), none, false⟩,
   ⟨(some 14), .bin .lss (.tmp 11) (.tmp 13), none, false⟩])
  (.cond (.tmp 14) .skip (.exit 0)))
  (.seq (.blk 1 (.seq (.reg [⟨(some 17), .mv (.tmp 0), none, false⟩,
   ⟨(some 18), .mv (.tmp 5), none, false⟩,
   ⟨(some 19), .ixs 1 (.tmp 17) (.tmp 18), none, false⟩,
   ⟨(some 20), .load1 (.tmp 19), none, false⟩,
   ⟨(some 21), .mv (.tmp 1), none, false⟩,
   ⟨(some 22), .mv (.tmp 5), none, false⟩,
   ⟨(some 23), .ixs 1 (.tmp 21) (.tmp 22), none, false⟩,
   ⟨(some 24), .load1 (.tmp 23), none, false⟩,
   ⟨(some 25), .call (.func 51) [(.tmp 20), (.tmp 24)], none, false⟩,
   ⟨(some 26), .un .not (.tmp 25), none, false⟩])
  (.cond (.tmp 26) (.seq (.reg [⟨(some 4), .mv (.const (.bool false)), none, false⟩])
  .ret) .skip)))
  (.reg [⟨(some 15), .mv (.tmp 5), none, false⟩,
   ⟨(some 16), .bin .add (.tmp 15) (.const (.int .i64 1)), none, false⟩,
   ⟨(some 5), .mv (.tmp 16), none, false⟩]))))))
  (.seq (.reg [⟨(some 4), .mv (.const (.bool true)), none, false⟩])
  .ret))))⟩

/-- loop.example/g01262/laws.FnExactRowRank -/
def c11 : XFn :=
 ⟨[.tmp 4],
  (.seq (.reg [⟨(some 4), .mv (.const (.bool false)), none, false⟩])
  (.seq (.reg [⟨(some 5), .mv (.const (.int .i64 1048576)), none, false⟩])
  (.seq (.reg [⟨(some 11), .mv (.tmp 1), none, false⟩,
   ⟨(some 12), .mv (.tmp 5), none, false⟩,
   ⟨(some 13), .call (.func 39) [(.tmp 11), (.tmp 12)], none, false⟩,
   ⟨(some 5), .mv (.tmp 13), none, false⟩])
  (.seq (.seq (.reg [⟨(some 14), .mv (.tmp 5), none, false⟩,
   ⟨(some 15), .bin .lss (.tmp 14) (.const (.int .i64 0)), none, false⟩])
  (.cond (.tmp 15) (.seq (.reg [⟨(some 4), .mv (.const (.bool true)), none, false⟩])
  .ret) .skip))
  (.seq (.reg [⟨(some 17), .mv (.tmp 0), none, false⟩,
   ⟨(some 18), .mv (.tmp 1), none, false⟩,
   ⟨(some 19), .call (.func 41) [(.tmp 18)], none, false⟩,
   ⟨(some 20), .call (.func 40) [(.tmp 17), (.tmp 19)], none, false⟩,
   ⟨(some 16), .mv (.tmp 20), none, false⟩,
   ⟨(some 21), .ext (.tmp 16) 0, none, false⟩,
   ⟨(some 22), .ext (.tmp 16) 1, none, false⟩,
   ⟨(some 6), .mv (.tmp 21), none, false⟩,
   ⟨(some 7), .mv (.tmp 22), none, false⟩])
  (.seq (.reg [⟨(some 23), .mv (.tmp 1), none, false⟩,
   ⟨(some 24), .call (.func 41) [(.tmp 23)], none, false⟩,
   ⟨(some 8), .mv (.tmp 24), none, false⟩])
  (.seq (.reg [⟨(some 26), .mv (.tmp 0), none, false⟩,
   ⟨(some 27), .mv (.tmp 8), none, false⟩,
   ⟨(some 28), .call (.func 42) [(.tmp 26), (.tmp 27)], none, false⟩,
   ⟨(some 25), .mv (.tmp 28), none, false⟩,
   ⟨(some 29), .ext (.tmp 25) 0, none, false⟩,
   ⟨(some 30), .ext (.tmp 25) 1, none, false⟩,
   ⟨(some 9), .mv (.tmp 29), none, false⟩,
   ⟨(some 10), .mv (.tmp 30), none, false⟩])
  (.seq (.seq (.reg [⟨(some 31), .mv (.tmp 9), none, false⟩,
   ⟨(some 32), .mv (.tmp 6), none, false⟩,
   ⟨(some 33), .bin .neq (.tmp 31) (.tmp 32), none, false⟩,
   ⟨(some 34), .mv (.tmp 33), none, false⟩,
   ⟨(some 35), .mv (.tmp 10), (some (34, false)), false⟩,
   ⟨(some 36), .mv (.tmp 7), (some (34, false)), false⟩,
   ⟨(some 37), .bin .neq (.tmp 35) (.tmp 36), (some (34, false)), false⟩,
   ⟨(some 38), .pick (.tmp 34) (.const (.bool true)) (.tmp 37), none, false⟩])
  (.cond (.tmp 38) (.seq (.reg [⟨(some 4), .mv (.const (.bool false)), none, false⟩])
  .ret) .skip))
  (.seq (.seq (.reg [⟨(some 39), .mv (.tmp 8), none, false⟩,
   ⟨(some 40), .mv (.tmp 1), none, false⟩,
   ⟨(some 41), .call (.func 41) [(.tmp 40)], none, false⟩,
   ⟨(some 42), .call (.func 43) [(.tmp 39), (.tmp 41)], none, false⟩,
   ⟨(some 43), .un .not (.tmp 42), none, false⟩])
  (.cond (.tmp 43) (.seq (.reg [⟨(some 4), .mv (.const (.bool false)), none, false⟩])
  .ret) .skip))
  (.seq (.reg [⟨(some 4), .mv (.const (.bool true)), none, false⟩])
  .ret))))))))))⟩

/-- loop.example/g01262/spec.l05Side -/
def c88 : XFn :=
 ⟨[.tmp 4],
  (.seq (.reg [⟨(some 2), .box 30 (.tmp 0), none, false⟩,
   ⟨(some 4), .mv (.const (.int .i64 0)), none, false⟩])
  (.seq (.seq (.reg [⟨(some 5), .mv (.tmp 1), none, false⟩])
  (.blk 0 (.seq (.reg [⟨(some 7), .bin .eql (.tmp 5) (.const (.int .i64 0)), none, false⟩,
   ⟨(some 6), .mv (.tmp 7), none, false⟩])
  (.cond (.tmp 6) (.seq (.reg [⟨(some 8), .fadr 1 (.tmp 2), none, false⟩,
   ⟨(some 9), .load1 (.tmp 8), none, false⟩,
   ⟨(some 4), .mv (.tmp 9), none, false⟩])
  .ret) (.seq (.reg [⟨(some 11), .bin .eql (.tmp 5) (.const (.int .i64 1)), none, false⟩,
   ⟨(some 10), .mv (.tmp 11), none, false⟩])
  (.cond (.tmp 10) (.seq (.reg [⟨(some 12), .fadr 2 (.tmp 2), none, false⟩,
   ⟨(some 13), .load1 (.tmp 12), none, false⟩,
   ⟨(some 4), .mv (.tmp 13), none, false⟩])
  .ret) .skip))))))
  (.seq (.reg [⟨(some 14), .fadr 3 (.tmp 2), none, false⟩,
   ⟨(some 15), .load1 (.tmp 14), none, false⟩,
   ⟨(some 4), .mv (.tmp 15), none, false⟩])
  .ret)))⟩

/-- loop.example/g01262/spec.l05Slice -/
def c89 : XFn :=
 ⟨[.tmp 4],
  (.seq (.reg [⟨(some 2), .box 30 (.tmp 0), none, false⟩,
   ⟨(some 4), .mv (.const (.slice none 0 0)), none, false⟩])
  (.seq (.reg [⟨(some 9), .bslice 25 1 0 [.slice none 0 0] [], none, false⟩,
   ⟨(some 5), .mv (.tmp 9), none, false⟩])
  (.seq (.seq (.reg [⟨(some 6), .mv (.const (.int .i64 0)), none, false⟩])
  (.blk 0 (.loop (.seq (.seq (.reg [⟨(some 10), .mv (.tmp 6), none, false⟩,
   ⟨(some 11), .fadr 2 (.tmp 2), none, false⟩,
   ⟨(some 12), .load1 (.tmp 11), none, false⟩,
   ⟨(some 13), .bin .lss (.tmp 10) (.tmp 12), none, false⟩])
  (.cond (.tmp 13) .skip (.exit 0)))
  (.seq (.blk 1 (.seq (.reg [⟨(some 16), .bslice 2 1 0 [.int .i64 0] [], none, false⟩,
   ⟨(some 7), .mv (.tmp 16), none, false⟩])
  (.seq (.seq (.reg [⟨(some 8), .mv (.const (.int .i64 0)), none, false⟩])
  (.blk 2 (.loop (.seq (.seq (.reg [⟨(some 17), .mv (.tmp 8), none, false⟩,
   ⟨(some 18), .fadr 3 (.tmp 2), none, false⟩,
   ⟨(some 19), .load1 (.tmp 18), none, false⟩,
   ⟨(some 20), .bin .lss (.tmp 17) (.tmp 19), none, false⟩])
  (.cond (.tmp 20) .skip (.exit 2)))
  (.seq (.blk 3 (.reg [⟨(some 23), .mv (.tmp 7), none, false⟩,
   ⟨(some 24), .loadn 5 (.tmp 2), none, false⟩,
   ⟨(some 25), .mv (.tmp 1), none, false⟩,
   ⟨(some 26), .mv (.tmp 6), none, false⟩,
   ⟨(some 27), .mv (.tmp 8), none, false⟩,
   ⟨(some 28), .call (.func 62) [(.tmp 24), (.tmp 25), (.tmp 26), (.tmp 27)], none, false⟩,
   ⟨(some 29), .bslice 2 1 1 [.int .i64 0] [(0, 1, (.tmp 28))], none, false⟩,
   ⟨(some 30), .app 2 1 8 (.tmp 23) (.tmp 29), none, false⟩,
   ⟨(some 7), .mv (.tmp 30), none, false⟩]))
  (.reg [⟨(some 21), .mv (.tmp 8), none, false⟩,
   ⟨(some 22), .bin .add (.tmp 21) (.const (.int .i64 1)), none, false⟩,
   ⟨(some 8), .mv (.tmp 22), none, false⟩]))))))
  (.reg [⟨(some 31), .mv (.tmp 5), none, false⟩,
   ⟨(some 32), .mv (.tmp 7), none, false⟩,
   ⟨(some 33), .bslice 25 1 1 [.slice none 0 0] [(0, 1, (.tmp 32))], none, false⟩,
   ⟨(some 34), .app 25 1 24 (.tmp 31) (.tmp 33), none, false⟩,
   ⟨(some 5), .mv (.tmp 34), none, false⟩]))))
  (.reg [⟨(some 14), .mv (.tmp 6), none, false⟩,
   ⟨(some 15), .bin .add (.tmp 14) (.const (.int .i64 1)), none, false⟩,
   ⟨(some 6), .mv (.tmp 15), none, false⟩]))))))
  (.seq (.reg [⟨(some 35), .mv (.tmp 5), none, false⟩,
   ⟨(some 4), .mv (.tmp 35), none, false⟩])
  .ret))))⟩

/-- loop.example/g01262/spec.l05Turned -/
def c90 : XFn :=
 ⟨[.celln 4 5],
  (.seq (.reg [⟨(some 2), .box 30 (.tmp 0), none, false⟩,
   ⟨(some 4), .alloc 30 [.int .i64 0, .int .i64 0, .int .i64 0, .int .i64 0, .slice none 0 0], none, false⟩])
  (.seq (.blk 0 (.loop (.seq (.seq (.reg [⟨(some 5), .mv (.tmp 1), none, false⟩,
   ⟨(some 6), .bin .gtr (.tmp 5) (.const (.int .i64 0)), none, false⟩])
  (.cond (.tmp 6) .skip (.exit 0)))
  (.seq (.blk 1 (.reg [⟨(some 9), .loadn 5 (.tmp 2), none, false⟩,
   ⟨(some 10), .call (.func 71) [(.tmp 9)], none, false⟩,
   ⟨none, .store 5 (.tmp 2) (.tmp 10), none, false⟩]))
  (.reg [⟨(some 7), .mv (.tmp 1), none, false⟩,
   ⟨(some 8), .bin .sub (.tmp 7) (.const (.int .i64 1)), none, false⟩,
   ⟨(some 1), .mv (.tmp 8), none, false⟩])))))
  (.seq (.reg [⟨(some 11), .loadn 5 (.tmp 2), none, false⟩,
   ⟨none, .store 5 (.tmp 4) (.tmp 11), none, false⟩])
  .ret)))⟩

/-- loop.example/g01262/spec.SliceOf -/
def c44 : XFn :=
 ⟨[.tmp 6, .tmp 7],
  (.seq (.reg [⟨(some 3), .box 30 (.tmp 0), none, false⟩,
   ⟨(some 6), .mv (.const (.slice none 0 0)), none, false⟩,
   ⟨(some 7), .mv (.const (.int .i64 0)), none, false⟩])
  (.seq (.blk 0 (.seq (.reg [⟨(some 9), .loadn 5 (.tmp 3), none, false⟩,
   ⟨(some 10), .call (.func 58) [(.tmp 9)], none, false⟩,
   ⟨(some 11), .un .not (.tmp 10), none, false⟩,
   ⟨(some 8), .mv (.tmp 11), none, false⟩])
  (.cond (.tmp 8) (.seq (.reg [⟨(some 6), .mv (.const (.slice none 0 0)), none, false⟩,
   ⟨(some 7), .mv (.const (.int .i64 1)), none, false⟩])
  .ret) (.seq (.reg [⟨(some 13), .mv (.tmp 1), none, false⟩,
   ⟨(some 14), .call (.func 56) [(.tmp 13), (.const (.int .i64 0)), (.const (.int .i64 2))], none, false⟩,
   ⟨(some 15), .un .not (.tmp 14), none, false⟩,
   ⟨(some 16), .mv (.tmp 15), none, false⟩,
   ⟨(some 17), .mv (.tmp 2), (some (16, false)), false⟩,
   ⟨(some 18), .loadn 5 (.tmp 3), (some (16, false)), false⟩,
   ⟨(some 19), .mv (.tmp 1), (some (16, false)), false⟩,
   ⟨(some 20), .call (.func 88) [(.tmp 18), (.tmp 19)], (some (16, false)), false⟩,
   ⟨(some 21), .bin .sub (.tmp 20) (.const (.int .i64 1)), (some (16, false)), false⟩,
   ⟨(some 22), .call (.func 56) [(.tmp 17), (.const (.int .i64 0)), (.tmp 21)], (some (16, false)), false⟩,
   ⟨(some 23), .un .not (.tmp 22), (some (16, false)), false⟩,
   ⟨(some 24), .pick (.tmp 16) (.const (.bool true)) (.tmp 23), none, false⟩,
   ⟨(some 12), .mv (.tmp 24), none, false⟩])
  (.cond (.tmp 12) (.seq (.reg [⟨(some 6), .mv (.const (.slice none 0 0)), none, false⟩,
   ⟨(some 7), .mv (.const (.int .i64 2)), none, false⟩])
  .ret) .skip)))))
  (.seq (.reg [⟨(some 25), .loadn 5 (.tmp 3), none, false⟩,
   ⟨(some 26), .mv (.tmp 1), none, false⟩,
   ⟨(some 27), .call (.func 90) [(.tmp 25), (.tmp 26)], none, false⟩,
   ⟨(some 28), .mv (.tmp 2), none, false⟩,
   ⟨(some 29), .call (.func 89) [(.tmp 27), (.tmp 28)], none, false⟩,
   ⟨(some 6), .mv (.tmp 29), none, false⟩,
   ⟨(some 7), .mv (.const (.int .i64 0)), none, false⟩])
  .ret)))⟩

/-- loop.example/g01262/impl.turned -/
def c91 : XFn :=
 ⟨[.celln 4 5],
  (.seq (.reg [⟨(some 2), .box 30 (.tmp 0), none, false⟩,
   ⟨(some 4), .alloc 30 [.int .i64 0, .int .i64 0, .int .i64 0, .int .i64 0, .slice none 0 0], none, false⟩])
  (.seq (.seq (.reg [⟨(some 5), .mv (.tmp 1), none, false⟩,
   ⟨(some 6), .mv (.const (.int .i64 0)), none, false⟩])
  (.blk 0 (.loop (.seq (.reg [⟨(some 7), .bin .lss (.tmp 6) (.tmp 5), none, false⟩])
  (.seq (.cond (.tmp 7) .skip (.exit 0))
  (.seq (.blk 1 (.reg [⟨(some 8), .loadn 5 (.tmp 2), none, false⟩,
   ⟨(some 9), .call (.func 72) [(.tmp 8)], none, false⟩,
   ⟨none, .store 5 (.tmp 2) (.tmp 9), none, false⟩]))
  (.reg [⟨(some 10), .bin .add (.tmp 6) (.const (.int .i64 1)), none, false⟩,
   ⟨(some 6), .mv (.tmp 10), none, false⟩])))))))
  (.seq (.reg [⟨(some 11), .loadn 5 (.tmp 2), none, false⟩,
   ⟨none, .store 5 (.tmp 4) (.tmp 11), none, false⟩])
  .ret)))⟩

/-- loop.example/g01262/impl.parted -/
def c92 : XFn :=
 ⟨[.tmp 4],
  (.seq (.reg [⟨(some 4), .mv (.const (.slice none 0 0)), none, false⟩])
  (.seq (.reg [⟨(some 7), .bslice 25 1 0 [.slice none 0 0] [], none, false⟩,
   ⟨(some 5), .mv (.tmp 7), none, false⟩])
  (.seq (.seq (.reg [⟨(some 6), .mv (.const (.int .i64 0)), none, false⟩])
  (.blk 0 (.loop (.seq (.seq (.reg [⟨(some 8), .mv (.tmp 6), none, false⟩,
   ⟨(some 9), .mv (.tmp 0), none, false⟩,
   ⟨(some 10), .len (.tmp 9), none, false⟩,
   ⟨(some 11), .bin .lss (.tmp 8) (.tmp 10), none, false⟩])
  (.cond (.tmp 11) .skip (.exit 0)))
  (.seq (.blk 1 (.reg [⟨(some 15), .mv (.tmp 5), none, false⟩,
   ⟨(some 16), .mv (.tmp 0), none, false⟩,
   ⟨(some 17), .mv (.tmp 6), none, false⟩,
   ⟨(some 18), .mv (.tmp 6), none, false⟩,
   ⟨(some 19), .mv (.tmp 1), none, false⟩,
   ⟨(some 20), .bin .add (.tmp 18) (.tmp 19), none, false⟩,
   ⟨(some 21), .slc 1 (.tmp 16) (some (.tmp 17)) (some (.tmp 20)), none, false⟩,
   ⟨(some 22), .call (.func 102) [(.tmp 21)], none, false⟩,
   ⟨(some 23), .bslice 25 1 1 [.slice none 0 0] [(0, 1, (.tmp 22))], none, false⟩,
   ⟨(some 24), .app 25 1 24 (.tmp 15) (.tmp 23), none, false⟩,
   ⟨(some 5), .mv (.tmp 24), none, false⟩]))
  (.reg [⟨(some 12), .mv (.tmp 6), none, false⟩,
   ⟨(some 13), .mv (.tmp 1), none, false⟩,
   ⟨(some 14), .bin .add (.tmp 12) (.tmp 13), none, false⟩,
   ⟨(some 6), .mv (.tmp 14), none, false⟩]))))))
  (.seq (.reg [⟨(some 25), .mv (.tmp 5), none, false⟩,
   ⟨(some 4), .mv (.tmp 25), none, false⟩])
  .ret))))⟩

/-- loop.example/g01262/impl.SliceOf -/
def c45 : XFn :=
 ⟨[.tmp 6, .tmp 7],
  (.seq (.reg [⟨(some 3), .box 30 (.tmp 0), none, false⟩,
   ⟨(some 6), .mv (.const (.slice none 0 0)), none, false⟩,
   ⟨(some 7), .mv (.const (.int .i64 0)), none, false⟩])
  (.seq (.blk 0 (.seq (.reg [⟨(some 11), .loadn 5 (.tmp 3), none, false⟩,
   ⟨(some 12), .call (.func 20) [(.tmp 11)], none, false⟩,
   ⟨(some 13), .un .not (.tmp 12), none, false⟩,
   ⟨(some 10), .mv (.tmp 13), none, false⟩])
  (.cond (.tmp 10) (.seq (.reg [⟨(some 6), .mv (.const (.slice none 0 0)), none, false⟩,
   ⟨(some 7), .mv (.const (.int .i64 1)), none, false⟩])
  .ret) (.seq (.reg [⟨(some 15), .mv (.tmp 1), none, false⟩,
   ⟨(some 16), .bin .lss (.tmp 15) (.const (.int .i64 0)), none, false⟩,
   ⟨(some 17), .mv (.tmp 16), none, false⟩,
   ⟨(some 18), .mv (.tmp 1), (some (17, false)), false⟩,
   ⟨(some 19), .bin .gtr (.tmp 18) (.const (.int .i64 2)), (some (17, false)), false⟩,
   ⟨(some 20), .pick (.tmp 17) (.const (.bool true)) (.tmp 19), none, false⟩,
   ⟨(some 21), .mv (.tmp 20), none, false⟩,
   ⟨(some 22), .mv (.tmp 2), (some (21, false)), false⟩,
   ⟨(some 23), .bin .lss (.tmp 22) (.const (.int .i64 0)), (some (21, false)), false⟩,
   ⟨(some 24), .pick (.tmp 21) (.const (.bool true)) (.tmp 23), none, false⟩,
   ⟨(some 25), .mv (.tmp 24), none, false⟩,
   ⟨(some 26), .mv (.tmp 2), (some (25, false)), false⟩,
   ⟨(some 27), .loadn 5 (.tmp 3), (some (25, false)), false⟩,
   ⟨(some 28), .call (.func 75) [(.tmp 27)], (some (25, false)), false⟩,
   ⟨(some 29), .mv (.tmp 1), (some (25, false)), false⟩,
   ⟨(some 30), .idx1 3 (.tmp 28) (.tmp 29), (some (25, false)), false⟩,
   ⟨(some 31), .bin .geq (.tmp 26) (.tmp 30), (some (25, false)), false⟩,
   ⟨(some 32), .pick (.tmp 25) (.const (.bool true)) (.tmp 31), none, false⟩,
   ⟨(some 14), .mv (.tmp 32), none, false⟩])
  (.cond (.tmp 14) (.seq (.reg [⟨(some 6), .mv (.const (.slice none 0 0)), none, false⟩,
   ⟨(some 7), .mv (.const (.int .i64 2)), none, false⟩])
  .ret) .skip)))))
  (.seq (.reg [⟨(some 33), .loadn 5 (.tmp 3), none, false⟩,
   ⟨(some 34), .mv (.tmp 1), none, false⟩,
   ⟨(some 35), .call (.func 91) [(.tmp 33), (.tmp 34)], none, false⟩,
   ⟨(some 8), .alloc 30 [.int .i64 0, .int .i64 0, .int .i64 0, .int .i64 0, .slice none 0 0], none, false⟩,
   ⟨none, .store 5 (.tmp 8) (.tmp 35), none, false⟩])
  (.seq (.reg [⟨(some 36), .fadr 2 (.tmp 8), none, false⟩,
   ⟨(some 37), .load1 (.tmp 36), none, false⟩,
   ⟨(some 38), .fadr 3 (.tmp 8), none, false⟩,
   ⟨(some 39), .load1 (.tmp 38), none, false⟩,
   ⟨(some 40), .bin .mul (.tmp 37) (.tmp 39), none, false⟩,
   ⟨(some 9), .mv (.tmp 40), none, false⟩])
  (.seq (.reg [⟨(some 41), .fadr 4 (.tmp 8), none, false⟩,
   ⟨(some 42), .load1 (.tmp 41), none, false⟩,
   ⟨(some 43), .mv (.tmp 2), none, false⟩,
   ⟨(some 44), .mv (.tmp 9), none, false⟩,
   ⟨(some 45), .bin .mul (.tmp 43) (.tmp 44), none, false⟩,
   ⟨(some 46), .mv (.tmp 2), none, false⟩,
   ⟨(some 47), .bin .add (.tmp 46) (.const (.int .i64 1)), none, false⟩,
   ⟨(some 48), .mv (.tmp 9), none, false⟩,
   ⟨(some 49), .bin .mul (.tmp 47) (.tmp 48), none, false⟩,
   ⟨(some 50), .slc 1 (.tmp 42) (some (.tmp 45)) (some (.tmp 49)), none, false⟩,
   ⟨(some 51), .fadr 3 (.tmp 8), none, false⟩,
   ⟨(some 52), .load1 (.tmp 51), none, false⟩,
   ⟨(some 53), .call (.func 92) [(.tmp 50), (.tmp 52)], none, false⟩,
   ⟨(some 6), .mv (.tmp 53), none, false⟩,
   ⟨(some 7), .mv (.const (.int .i64 0)), none, false⟩])
  .ret)))))⟩

/-- loop.example/g01262/laws.markInt64SS -/
def c46 : XFn :=
 ⟨[.tmp 4],
  (.seq (.reg [⟨(some 4), .mv (.const (.int .i64 0)), none, false⟩])
  (.seq (.seq (.reg [⟨(some 5), .mv (.const (.int .i64 0)), none, false⟩])
  (.blk 0 (.loop (.seq (.seq (.reg [⟨(some 6), .mv (.tmp 5), none, false⟩,
   ⟨(some 7), .mv (.tmp 0), none, false⟩,
   ⟨(some 8), .len (.tmp 7), none, false⟩,
   ⟨(some 9), .bin .lss (.tmp 6) (.tmp 8), none, false⟩])
  (.cond (.tmp 9) .skip (.exit 0)))
  (.seq (.blk 1 (.reg [⟨(some 12), .mv (.tmp 0), none, false⟩,
   ⟨(some 13), .mv (.tmp 5), none, false⟩,
   ⟨(some 14), .ixs 1 (.tmp 12) (.tmp 13), none, false⟩,
   ⟨(some 15), .load1 (.tmp 14), none, false⟩,
   ⟨(some 16), .mv (.tmp 1), none, false⟩,
   ⟨(some 17), .call (.func 52) [(.tmp 15), (.tmp 16)], none, false⟩,
   ⟨(some 1), .mv (.tmp 17), none, false⟩]))
  (.reg [⟨(some 10), .mv (.tmp 5), none, false⟩,
   ⟨(some 11), .bin .add (.tmp 10) (.const (.int .i64 1)), none, false⟩,
   ⟨(some 5), .mv (.tmp 11), none, false⟩]))))))
  (.seq (.reg [⟨(some 18), .mv (.tmp 1), none, false⟩,
   ⟨(some 4), .mv (.tmp 18), none, false⟩])
  .ret)))⟩

/-- loop.example/g01262/laws.heldInt64SS -/
def c47 : XFn :=
 ⟨[.tmp 4],
  (.seq (.reg [⟨(some 4), .mv (.const (.int .i64 0)), none, false⟩])
  (.seq (.seq (.reg [⟨(some 5), .mv (.const (.int .i64 0)), none, false⟩])
  (.blk 0 (.loop (.seq (.seq (.reg [⟨(some 6), .mv (.tmp 5), none, false⟩,
   ⟨(some 7), .mv (.tmp 0), none, false⟩,
   ⟨(some 8), .len (.tmp 7), none, false⟩,
   ⟨(some 9), .bin .lss (.tmp 6) (.tmp 8), none, false⟩])
  (.cond (.tmp 9) .skip (.exit 0)))
  (.seq (.blk 1 (.seq (.reg [⟨(some 12), .mv (.tmp 0), none, false⟩,
   ⟨(some 13), .mv (.tmp 5), none, false⟩,
   ⟨(some 14), .ixs 1 (.tmp 12) (.tmp 13), none, false⟩,
   ⟨(some 15), .load1 (.tmp 14), none, false⟩,
   ⟨(some 16), .mv (.tmp 1), none, false⟩,
   ⟨(some 17), .call (.func 55) [(.tmp 15), (.tmp 16)], none, false⟩,
   ⟨(some 1), .mv (.tmp 17), none, false⟩])
  (.seq (.reg [⟨(some 18), .mv (.tmp 1), none, false⟩,
   ⟨(some 19), .bin .lss (.tmp 18) (.const (.int .i64 0)), none, false⟩])
  (.cond (.tmp 19) (.seq (.reg [⟨(some 4), .mv (.const (.int .i64 (-1))), none, false⟩])
  .ret) .skip))))
  (.reg [⟨(some 10), .mv (.tmp 5), none, false⟩,
   ⟨(some 11), .bin .add (.tmp 10) (.const (.int .i64 1)), none, false⟩,
   ⟨(some 5), .mv (.tmp 11), none, false⟩]))))))
  (.seq (.reg [⟨(some 20), .mv (.tmp 1), none, false⟩,
   ⟨(some 4), .mv (.tmp 20), none, false⟩])
  .ret)))⟩

/-- loop.example/g01262/laws.FnExactSliceOf -/
def c12 : XFn :=
 ⟨[.tmp 6],
  (.seq (.reg [⟨(some 3), .box 27 (.tmp 0), none, false⟩,
   ⟨(some 6), .mv (.const (.bool false)), none, false⟩])
  (.seq (.reg [⟨(some 7), .mv (.const (.int .i64 1048576)), none, false⟩])
  (.seq (.reg [⟨(some 18), .loadn 5 (.tmp 3), none, false⟩,
   ⟨(some 19), .mv (.tmp 7), none, false⟩,
   ⟨(some 20), .call (.func 17) [(.tmp 18), (.tmp 19)], none, false⟩,
   ⟨(some 7), .mv (.tmp 20), none, false⟩])
  (.seq (.seq (.reg [⟨(some 21), .mv (.tmp 7), none, false⟩,
   ⟨(some 22), .bin .lss (.tmp 21) (.const (.int .i64 0)), none, false⟩])
  (.cond (.tmp 22) (.seq (.reg [⟨(some 6), .mv (.const (.bool true)), none, false⟩])
  .ret) .skip))
  (.seq (.reg [⟨(some 24), .loadn 5 (.tmp 3), none, false⟩,
   ⟨(some 25), .call (.func 19) [(.tmp 24)], none, false⟩,
   ⟨(some 26), .mv (.tmp 1), none, false⟩,
   ⟨(some 27), .mv (.tmp 2), none, false⟩,
   ⟨(some 28), .call (.func 44) [(.tmp 25), (.tmp 26), (.tmp 27)], none, false⟩,
   ⟨(some 23), .mv (.tmp 28), none, false⟩,
   ⟨(some 29), .ext (.tmp 23) 0, none, false⟩,
   ⟨(some 30), .ext (.tmp 23) 1, none, false⟩,
   ⟨(some 8), .mv (.tmp 29), none, false⟩,
   ⟨(some 9), .mv (.tmp 30), none, false⟩])
  (.seq (.reg [⟨(some 31), .loadn 5 (.tmp 3), none, false⟩,
   ⟨(some 32), .call (.func 19) [(.tmp 31)], none, false⟩,
   ⟨(some 10), .alloc 30 [.int .i64 0, .int .i64 0, .int .i64 0, .int .i64 0, .slice none 0 0], none, false⟩,
   ⟨none, .store 5 (.tmp 10) (.tmp 32), none, false⟩])
  (.seq (.reg [⟨(some 34), .loadn 5 (.tmp 10), none, false⟩,
   ⟨(some 35), .mv (.tmp 1), none, false⟩,
   ⟨(some 36), .mv (.tmp 2), none, false⟩,
   ⟨(some 37), .call (.func 45) [(.tmp 34), (.tmp 35), (.tmp 36)], none, false⟩,
   ⟨(some 33), .mv (.tmp 37), none, false⟩,
   ⟨(some 38), .ext (.tmp 33) 0, none, false⟩,
   ⟨(some 39), .ext (.tmp 33) 1, none, false⟩,
   ⟨(some 11), .mv (.tmp 38), none, false⟩,
   ⟨(some 12), .mv (.tmp 39), none, false⟩])
  (.seq (.seq (.reg [⟨(some 40), .mv (.tmp 11), none, false⟩,
   ⟨(some 41), .mv (.tmp 8), none, false⟩,
   ⟨(some 42), .call (.func 43) [(.tmp 40), (.tmp 41)], none, false⟩,
   ⟨(some 43), .un .not (.tmp 42), none, false⟩,
   ⟨(some 44), .mv (.tmp 43), none, false⟩,
   ⟨(some 45), .mv (.tmp 12), (some (44, false)), false⟩,
   ⟨(some 46), .mv (.tmp 9), (some (44, false)), false⟩,
   ⟨(some 47), .bin .neq (.tmp 45) (.tmp 46), (some (44, false)), false⟩,
   ⟨(some 48), .pick (.tmp 44) (.const (.bool true)) (.tmp 47), none, false⟩])
  (.cond (.tmp 48) (.seq (.reg [⟨(some 6), .mv (.const (.bool false)), none, false⟩])
  .ret) .skip))
  (.seq (.seq (.reg [⟨(some 49), .loadn 5 (.tmp 10), none, false⟩,
   ⟨(some 50), .loadn 5 (.tmp 3), none, false⟩,
   ⟨(some 51), .call (.func 19) [(.tmp 50)], none, true⟩,
   ⟨(some 52), .call (.func 21) [(.tmp 49), (.tmp 51)], none, false⟩,
   ⟨(some 53), .un .not (.tmp 52), none, false⟩])
  (.cond (.tmp 53) (.seq (.reg [⟨(some 6), .mv (.const (.bool false)), none, false⟩])
  .ret) .skip))
  (.seq (.reg [⟨(some 13), .mv (.const (.int .i64 1)), none, false⟩])
  (.seq (.reg [⟨(some 54), .loadn 5 (.tmp 10), none, false⟩,
   ⟨(some 55), .mv (.tmp 13), none, false⟩,
   ⟨(some 56), .call (.func 31) [(.tmp 54), (.tmp 55)], none, false⟩,
   ⟨(some 13), .mv (.tmp 56), none, false⟩])
  (.seq (.seq (.reg [⟨(some 57), .mv (.tmp 13), none, false⟩,
   ⟨(some 58), .bin .lss (.tmp 57) (.const (.int .i64 0)), none, false⟩,
   ⟨(some 59), .mv (.tmp 58), none, false⟩,
   ⟨(some 60), .mv (.tmp 11), (some (59, false)), false⟩,
   ⟨(some 61), .mv (.tmp 8), (some (59, false)), false⟩,
   ⟨(some 62), .call (.func 43) [(.tmp 60), (.tmp 61)], (some (59, false)), false⟩,
   ⟨(some 63), .un .not (.tmp 62), (some (59, false)), false⟩,
   ⟨(some 64), .pick (.tmp 59) (.const (.bool true)) (.tmp 63), none, false⟩,
   ⟨(some 65), .mv (.tmp 64), none, false⟩,
   ⟨(some 66), .mv (.tmp 12), (some (65, false)), false⟩,
   ⟨(some 67), .mv (.tmp 9), (some (65, false)), false⟩,
   ⟨(some 68), .bin .neq (.tmp 66) (.tmp 67), (some (65, false)), false⟩,
   ⟨(some 69), .pick (.tmp 65) (.const (.bool true)) (.tmp 68), none, false⟩])
  (.cond (.tmp 69) (.seq (.reg [⟨(some 6), .mv (.const (.bool false)), none, false⟩])
  .ret) .skip))
  (.seq (.reg [⟨(some 14), .mv (.const (.int .i64 1)), none, false⟩])
  (.seq (.reg [⟨(some 70), .mv (.tmp 11), none, false⟩,
   ⟨(some 71), .mv (.tmp 14), none, false⟩,
   ⟨(some 72), .call (.func 46) [(.tmp 70), (.tmp 71)], none, false⟩,
   ⟨(some 14), .mv (.tmp 72), none, false⟩])
  (.seq (.reg [⟨(some 15), .mv (.const (.int .i64 1)), none, false⟩])
  (.seq (.reg [⟨(some 73), .mv (.tmp 11), none, false⟩,
   ⟨(some 74), .mv (.tmp 15), none, false⟩,
   ⟨(some 75), .call (.func 47) [(.tmp 73), (.tmp 74)], none, false⟩,
   ⟨(some 15), .mv (.tmp 75), none, false⟩])
  (.seq (.seq (.reg [⟨(some 76), .mv (.tmp 15), none, false⟩,
   ⟨(some 77), .bin .lss (.tmp 76) (.const (.int .i64 0)), none, false⟩])
  (.cond (.tmp 77) (.seq (.reg [⟨(some 6), .mv (.const (.bool false)), none, false⟩])
  .ret) .skip))
  (.seq (.seq (.reg [⟨(some 78), .mv (.tmp 15), none, false⟩,
   ⟨(some 79), .mv (.tmp 14), none, false⟩,
   ⟨(some 80), .bin .neq (.tmp 78) (.tmp 79), none, false⟩])
  (.cond (.tmp 80) (.seq (.reg [⟨(some 6), .mv (.const (.bool false)), none, false⟩])
  .ret) .skip))
  (.seq (.reg [⟨(some 82), .loadn 5 (.tmp 3), none, false⟩,
   ⟨(some 83), .call (.func 19) [(.tmp 82)], none, false⟩,
   ⟨(some 84), .mv (.tmp 1), none, false⟩,
   ⟨(some 85), .mv (.tmp 2), none, false⟩,
   ⟨(some 86), .call (.func 45) [(.tmp 83), (.tmp 84), (.tmp 85)], none, false⟩,
   ⟨(some 81), .mv (.tmp 86), none, false⟩,
   ⟨(some 87), .ext (.tmp 81) 0, none, false⟩,
   ⟨(some 88), .ext (.tmp 81) 1, none, false⟩,
   ⟨(some 16), .mv (.tmp 87), none, false⟩,
   ⟨(some 17), .mv (.tmp 88), none, false⟩])
  (.seq (.seq (.reg [⟨(some 89), .mv (.tmp 16), none, false⟩,
   ⟨(some 90), .mv (.tmp 8), none, false⟩,
   ⟨(some 91), .call (.func 43) [(.tmp 89), (.tmp 90)], none, false⟩,
   ⟨(some 92), .un .not (.tmp 91), none, false⟩,
   ⟨(some 93), .mv (.tmp 92), none, false⟩,
   ⟨(some 94), .mv (.tmp 17), (some (93, false)), false⟩,
   ⟨(some 95), .mv (.tmp 9), (some (93, false)), false⟩,
   ⟨(some 96), .bin .neq (.tmp 94) (.tmp 95), (some (93, false)), false⟩,
   ⟨(some 97), .pick (.tmp 93) (.const (.bool true)) (.tmp 96), none, false⟩])
  (.cond (.tmp 97) (.seq (.reg [⟨(some 6), .mv (.const (.bool false)), none, false⟩])
  .ret) .skip))
  (.seq (.reg [⟨(some 15), .mv (.const (.int .i64 1)), none, false⟩])
  (.seq (.reg [⟨(some 98), .mv (.tmp 11), none, false⟩,
   ⟨(some 99), .mv (.tmp 15), none, false⟩,
   ⟨(some 100), .call (.func 47) [(.tmp 98), (.tmp 99)], none, false⟩,
   ⟨(some 15), .mv (.tmp 100), none, false⟩])
  (.seq (.seq (.reg [⟨(some 101), .mv (.tmp 15), none, false⟩,
   ⟨(some 102), .bin .lss (.tmp 101) (.const (.int .i64 0)), none, false⟩])
  (.cond (.tmp 102) (.seq (.reg [⟨(some 6), .mv (.const (.bool false)), none, false⟩])
  .ret) .skip))
  (.seq (.seq (.reg [⟨(some 103), .mv (.tmp 15), none, false⟩,
   ⟨(some 104), .mv (.tmp 14), none, false⟩,
   ⟨(some 105), .bin .neq (.tmp 103) (.tmp 104), none, false⟩])
  (.cond (.tmp 105) (.seq (.reg [⟨(some 6), .mv (.const (.bool false)), none, false⟩])
  .ret) .skip))
  (.seq (.reg [⟨(some 6), .mv (.const (.bool true)), none, false⟩])
  .ret)))))))))))))))))))))))))⟩

/-- loop.example/g01262/spec.ContractTensor -/
def c48 : XFn :=
 ⟨[.tmp 6, .tmp 7],
  (.seq (.reg [⟨(some 3), .box 30 (.tmp 0), none, false⟩,
   ⟨(some 6), .mv (.const (.slice none 0 0)), none, false⟩,
   ⟨(some 7), .mv (.const (.int .i64 0)), none, false⟩])
  (.seq (.blk 0 (.seq (.reg [⟨(some 15), .loadn 5 (.tmp 3), none, false⟩,
   ⟨(some 16), .call (.func 58) [(.tmp 15)], none, false⟩,
   ⟨(some 17), .un .not (.tmp 16), none, false⟩,
   ⟨(some 14), .mv (.tmp 17), none, false⟩])
  (.cond (.tmp 14) (.seq (.reg [⟨(some 6), .mv (.const (.slice none 0 0)), none, false⟩,
   ⟨(some 7), .mv (.const (.int .i64 1)), none, false⟩])
  .ret) (.seq (.reg [⟨(some 19), .mv (.tmp 1), none, false⟩,
   ⟨(some 20), .call (.func 56) [(.tmp 19), (.const (.int .i64 0)), (.const (.int .i64 2))], none, false⟩,
   ⟨(some 21), .un .not (.tmp 20), none, false⟩,
   ⟨(some 22), .mv (.tmp 21), none, false⟩,
   ⟨(some 23), .fadr 0 (.tmp 3), (some (22, false)), false⟩,
   ⟨(some 24), .load1 (.tmp 23), (some (22, false)), false⟩,
   ⟨(some 25), .mv (.tmp 2), (some (22, false)), false⟩,
   ⟨(some 26), .loadn 5 (.tmp 3), (some (22, false)), false⟩,
   ⟨(some 27), .mv (.tmp 1), (some (22, false)), false⟩,
   ⟨(some 28), .call (.func 88) [(.tmp 26), (.tmp 27)], (some (22, false)), true⟩,
   ⟨(some 29), .call (.func 84) [(.tmp 24), (.tmp 25), (.tmp 28)], (some (22, false)), false⟩,
   ⟨(some 30), .un .not (.tmp 29), (some (22, false)), false⟩,
   ⟨(some 31), .pick (.tmp 22) (.const (.bool true)) (.tmp 30), none, false⟩,
   ⟨(some 18), .mv (.tmp 31), none, false⟩])
  (.cond (.tmp 18) (.seq (.reg [⟨(some 6), .mv (.const (.slice none 0 0)), none, false⟩,
   ⟨(some 7), .mv (.const (.int .i64 2)), none, false⟩])
  .ret) .skip)))))
  (.seq (.reg [⟨(some 32), .loadn 5 (.tmp 3), none, false⟩,
   ⟨(some 33), .mv (.tmp 1), none, false⟩,
   ⟨(some 34), .call (.func 90) [(.tmp 32), (.tmp 33)], none, false⟩,
   ⟨(some 35), .bslice 25 1 0 [.slice none 0 0] [], none, false⟩,
   ⟨(some 8), .alloc 30 [.int .i64 0, .int .i64 0, .int .i64 0, .int .i64 0, .slice none 0 0], none, false⟩,
   ⟨none, .store 5 (.tmp 8) (.tmp 34), none, false⟩,
   ⟨(some 9), .mv (.tmp 35), none, false⟩])
  (.seq (.seq (.reg [⟨(some 10), .mv (.const (.int .i64 0)), none, false⟩])
  (.blk 1 (.loop (.seq (.seq (.reg [⟨(some 36), .mv (.tmp 10), none, false⟩,
   ⟨(some 37), .fadr 2 (.tmp 8), none, false⟩,
   ⟨(some 38), .load1 (.tmp 37), none, false⟩,
   ⟨(some 39), .bin .lss (.tmp 36) (.tmp 38), none, false⟩])
  (.cond (.tmp 39) .skip (.exit 1)))
  (.seq (.blk 2 (.seq (.reg [⟨(some 42), .fadr 3 (.tmp 8), none, false⟩,
   ⟨(some 43), .load1 (.tmp 42), none, false⟩,
   ⟨(some 44), .mks 2 1 8 [.int .i64 0] (.tmp 43), none, false⟩,
   ⟨(some 11), .mv (.tmp 44), none, false⟩])
  (.seq (.seq (.reg [⟨(some 12), .mv (.const (.int .i64 0)), none, false⟩])
  (.blk 3 (.loop (.seq (.seq (.reg [⟨(some 45), .mv (.tmp 12), none, false⟩,
   ⟨(some 46), .fadr 3 (.tmp 8), none, false⟩,
   ⟨(some 47), .load1 (.tmp 46), none, false⟩,
   ⟨(some 48), .bin .lss (.tmp 45) (.tmp 47), none, false⟩])
  (.cond (.tmp 48) .skip (.exit 3)))
  (.seq (.blk 4 (.seq (.reg [⟨(some 13), .mv (.const (.int .i64 0)), none, false⟩])
  (.blk 5 (.loop (.seq (.seq (.reg [⟨(some 51), .mv (.tmp 13), none, false⟩,
   ⟨(some 52), .fadr 1 (.tmp 8), none, false⟩,
   ⟨(some 53), .load1 (.tmp 52), none, false⟩,
   ⟨(some 54), .bin .lss (.tmp 51) (.tmp 53), none, false⟩])
  (.cond (.tmp 54) .skip (.exit 5)))
  (.seq (.blk 6 (.reg [⟨(some 57), .mv (.tmp 11), none, false⟩,
   ⟨(some 58), .mv (.tmp 12), none, false⟩,
   ⟨(some 59), .mv (.tmp 11), none, false⟩,
   ⟨(some 60), .mv (.tmp 12), none, false⟩,
   ⟨(some 61), .ixs 1 (.tmp 59) (.tmp 60), none, false⟩,
   ⟨(some 62), .load1 (.tmp 61), none, false⟩,
   ⟨(some 63), .mv (.tmp 2), none, false⟩,
   ⟨(some 64), .mv (.tmp 13), none, false⟩,
   ⟨(some 65), .ixs 1 (.tmp 63) (.tmp 64), none, false⟩,
   ⟨(some 66), .load1 (.tmp 65), none, false⟩,
   ⟨(some 67), .loadn 5 (.tmp 8), none, false⟩,
   ⟨(some 68), .mv (.tmp 13), none, false⟩,
   ⟨(some 69), .mv (.tmp 10), none, false⟩,
   ⟨(some 70), .mv (.tmp 12), none, false⟩,
   ⟨(some 71), .call (.func 62) [(.tmp 67), (.tmp 68), (.tmp 69), (.tmp 70)], none, true⟩,
   ⟨(some 72), .bin .mul (.tmp 66) (.tmp 71), none, false⟩,
   ⟨(some 73), .bin .add (.tmp 62) (.tmp 72), none, false⟩,
   ⟨(some 74), .fadr 0 (.tmp 3), none, false⟩,
   ⟨(some 75), .load1 (.tmp 74), none, false⟩,
   ⟨(some 76), .bin .rem (.tmp 73) (.tmp 75), none, false⟩,
   ⟨(some 77), .ixs 1 (.tmp 57) (.tmp 58), none, false⟩,
   ⟨none, .store 1 (.tmp 77) (.tmp 76), none, false⟩]))
  (.reg [⟨(some 55), .mv (.tmp 13), none, false⟩,
   ⟨(some 56), .bin .add (.tmp 55) (.const (.int .i64 1)), none, false⟩,
   ⟨(some 13), .mv (.tmp 56), none, false⟩])))))))
  (.reg [⟨(some 49), .mv (.tmp 12), none, false⟩,
   ⟨(some 50), .bin .add (.tmp 49) (.const (.int .i64 1)), none, false⟩,
   ⟨(some 12), .mv (.tmp 50), none, false⟩]))))))
  (.reg [⟨(some 78), .mv (.tmp 9), none, false⟩,
   ⟨(some 79), .mv (.tmp 11), none, false⟩,
   ⟨(some 80), .bslice 25 1 1 [.slice none 0 0] [(0, 1, (.tmp 79))], none, false⟩,
   ⟨(some 81), .app 25 1 24 (.tmp 78) (.tmp 80), none, false⟩,
   ⟨(some 9), .mv (.tmp 81), none, false⟩]))))
  (.reg [⟨(some 40), .mv (.tmp 10), none, false⟩,
   ⟨(some 41), .bin .add (.tmp 40) (.const (.int .i64 1)), none, false⟩,
   ⟨(some 10), .mv (.tmp 41), none, false⟩]))))))
  (.seq (.reg [⟨(some 82), .mv (.tmp 9), none, false⟩,
   ⟨(some 6), .mv (.tmp 82), none, false⟩,
   ⟨(some 7), .mv (.const (.int .i64 0)), none, false⟩])
  .ret)))))⟩

/-- loop.example/g01262/impl.ContractTensor -/
def c50 : XFn :=
 ⟨[.tmp 6, .tmp 7],
  (.seq (.reg [⟨(some 3), .box 30 (.tmp 0), none, false⟩,
   ⟨(some 6), .mv (.const (.slice none 0 0)), none, false⟩,
   ⟨(some 7), .mv (.const (.int .i64 0)), none, false⟩])
  (.seq (.blk 0 (.seq (.reg [⟨(some 14), .loadn 5 (.tmp 3), none, false⟩,
   ⟨(some 15), .call (.func 20) [(.tmp 14)], none, false⟩,
   ⟨(some 16), .un .not (.tmp 15), none, false⟩,
   ⟨(some 13), .mv (.tmp 16), none, false⟩])
  (.cond (.tmp 13) (.seq (.reg [⟨(some 6), .mv (.const (.slice none 0 0)), none, false⟩,
   ⟨(some 7), .mv (.const (.int .i64 1)), none, false⟩])
  .ret) (.seq (.reg [⟨(some 18), .mv (.tmp 1), none, false⟩,
   ⟨(some 19), .bin .lss (.tmp 18) (.const (.int .i64 0)), none, false⟩,
   ⟨(some 20), .mv (.tmp 19), none, false⟩,
   ⟨(some 21), .mv (.tmp 1), (some (20, false)), false⟩,
   ⟨(some 22), .bin .gtr (.tmp 21) (.const (.int .i64 2)), (some (20, false)), false⟩,
   ⟨(some 23), .pick (.tmp 20) (.const (.bool true)) (.tmp 22), none, false⟩,
   ⟨(some 24), .mv (.tmp 23), none, false⟩,
   ⟨(some 25), .mv (.tmp 2), (some (24, false)), false⟩,
   ⟨(some 26), .len (.tmp 25), (some (24, false)), false⟩,
   ⟨(some 27), .loadn 5 (.tmp 3), (some (24, false)), false⟩,
   ⟨(some 28), .call (.func 75) [(.tmp 27)], (some (24, false)), false⟩,
   ⟨(some 29), .mv (.tmp 1), (some (24, false)), false⟩,
   ⟨(some 30), .idx1 3 (.tmp 28) (.tmp 29), (some (24, false)), false⟩,
   ⟨(some 31), .bin .neq (.tmp 26) (.tmp 30), (some (24, false)), false⟩,
   ⟨(some 32), .pick (.tmp 24) (.const (.bool true)) (.tmp 31), none, false⟩,
   ⟨(some 33), .mv (.tmp 32), none, false⟩,
   ⟨(some 34), .fadr 0 (.tmp 3), (some (33, false)), false⟩,
   ⟨(some 35), .load1 (.tmp 34), (some (33, false)), false⟩,
   ⟨(some 36), .mv (.tmp 2), (some (33, false)), false⟩,
   ⟨(some 37), .call (.func 61) [(.tmp 35), (.tmp 36)], (some (33, false)), false⟩,
   ⟨(some 38), .un .not (.tmp 37), (some (33, false)), false⟩,
   ⟨(some 39), .pick (.tmp 33) (.const (.bool true)) (.tmp 38), none, false⟩,
   ⟨(some 17), .mv (.tmp 39), none, false⟩])
  (.cond (.tmp 17) (.seq (.reg [⟨(some 6), .mv (.const (.slice none 0 0)), none, false⟩,
   ⟨(some 7), .mv (.const (.int .i64 2)), none, false⟩])
  .ret) .skip)))))
  (.seq (.reg [⟨(some 40), .loadn 5 (.tmp 3), none, false⟩,
   ⟨(some 41), .mv (.tmp 1), none, false⟩,
   ⟨(some 42), .call (.func 91) [(.tmp 40), (.tmp 41)], none, false⟩,
   ⟨(some 8), .alloc 30 [.int .i64 0, .int .i64 0, .int .i64 0, .int .i64 0, .slice none 0 0], none, false⟩,
   ⟨none, .store 5 (.tmp 8) (.tmp 42), none, false⟩])
  (.seq (.reg [⟨(some 43), .fadr 2 (.tmp 8), none, false⟩,
   ⟨(some 44), .load1 (.tmp 43), none, false⟩,
   ⟨(some 45), .fadr 3 (.tmp 8), none, false⟩,
   ⟨(some 46), .load1 (.tmp 45), none, false⟩,
   ⟨(some 47), .bin .mul (.tmp 44) (.tmp 46), none, false⟩,
   ⟨(some 48), .mks 2 1 8 [.int .i64 0] (.tmp 47), none, false⟩,
   ⟨(some 9), .mv (.tmp 48), none, false⟩])
  (.seq (.seq (.reg [⟨(some 49), .mv (.tmp 2), none, false⟩,
   ⟨(some 50), .len (.tmp 49), none, false⟩,
   ⟨(some 51), .mv (.const (.int .i64 0)), none, false⟩])
  (.blk 1 (.loop (.seq (.reg [⟨(some 52), .bin .lss (.tmp 51) (.tmp 50), none, false⟩])
  (.seq (.cond (.tmp 52) .skip (.exit 1))
  (.seq (.blk 2 (.seq (.reg [⟨(some 53), .mv (.tmp 51), none, false⟩,
   ⟨(some 54), .ixs 1 (.tmp 49) (.tmp 51), none, false⟩,
   ⟨(some 55), .load1 (.tmp 54), none, false⟩,
   ⟨(some 10), .mv (.tmp 53), none, false⟩,
   ⟨(some 11), .mv (.tmp 55), none, false⟩])
  (.seq (.reg [⟨(some 56), .mv (.tmp 9), none, false⟩,
   ⟨(some 57), .len (.tmp 56), none, false⟩,
   ⟨(some 58), .mv (.const (.int .i64 0)), none, false⟩])
  (.blk 3 (.loop (.seq (.reg [⟨(some 59), .bin .lss (.tmp 58) (.tmp 57), none, false⟩])
  (.seq (.cond (.tmp 59) .skip (.exit 3))
  (.seq (.blk 4 (.seq (.reg [⟨(some 60), .mv (.tmp 58), none, false⟩,
   ⟨(some 12), .mv (.tmp 60), none, false⟩])
  (.reg [⟨(some 61), .mv (.tmp 9), none, false⟩,
   ⟨(some 62), .mv (.tmp 12), none, false⟩,
   ⟨(some 63), .mv (.tmp 9), none, false⟩,
   ⟨(some 64), .mv (.tmp 12), none, false⟩,
   ⟨(some 65), .ixs 1 (.tmp 63) (.tmp 64), none, false⟩,
   ⟨(some 66), .load1 (.tmp 65), none, false⟩,
   ⟨(some 67), .mv (.tmp 11), none, false⟩,
   ⟨(some 68), .fadr 4 (.tmp 8), none, false⟩,
   ⟨(some 69), .load1 (.tmp 68), none, false⟩,
   ⟨(some 70), .mv (.tmp 10), none, false⟩,
   ⟨(some 71), .fadr 2 (.tmp 8), none, false⟩,
   ⟨(some 72), .load1 (.tmp 71), none, false⟩,
   ⟨(some 73), .bin .mul (.tmp 70) (.tmp 72), none, false⟩,
   ⟨(some 74), .fadr 3 (.tmp 8), none, false⟩,
   ⟨(some 75), .load1 (.tmp 74), none, false⟩,
   ⟨(some 76), .bin .mul (.tmp 73) (.tmp 75), none, false⟩,
   ⟨(some 77), .mv (.tmp 12), none, false⟩,
   ⟨(some 78), .bin .add (.tmp 76) (.tmp 77), none, false⟩,
   ⟨(some 79), .ixs 1 (.tmp 69) (.tmp 78), none, false⟩,
   ⟨(some 80), .load1 (.tmp 79), none, false⟩,
   ⟨(some 81), .bin .mul (.tmp 67) (.tmp 80), none, false⟩,
   ⟨(some 82), .bin .add (.tmp 66) (.tmp 81), none, false⟩,
   ⟨(some 83), .fadr 0 (.tmp 3), none, false⟩,
   ⟨(some 84), .load1 (.tmp 83), none, false⟩,
   ⟨(some 85), .bin .rem (.tmp 82) (.tmp 84), none, false⟩,
   ⟨(some 86), .ixs 1 (.tmp 61) (.tmp 62), none, false⟩,
   ⟨none, .store 1 (.tmp 86) (.tmp 85), none, false⟩])))
  (.reg [⟨(some 87), .bin .add (.tmp 58) (.const (.int .i64 1)), none, false⟩,
   ⟨(some 58), .mv (.tmp 87), none, false⟩])))))))))
  (.reg [⟨(some 88), .bin .add (.tmp 51) (.const (.int .i64 1)), none, false⟩,
   ⟨(some 51), .mv (.tmp 88), none, false⟩])))))))
  (.seq (.reg [⟨(some 89), .mv (.tmp 9), none, false⟩,
   ⟨(some 90), .fadr 3 (.tmp 8), none, false⟩,
   ⟨(some 91), .load1 (.tmp 90), none, false⟩,
   ⟨(some 92), .call (.func 92) [(.tmp 89), (.tmp 91)], none, false⟩,
   ⟨(some 6), .mv (.tmp 92), none, false⟩,
   ⟨(some 7), .mv (.const (.int .i64 0)), none, false⟩])
  .ret))))))⟩

/-- loop.example/g01262/laws.FnExactContractTensor -/
def c13 : XFn :=
 ⟨[.tmp 6],
  (.seq (.reg [⟨(some 3), .box 27 (.tmp 0), none, false⟩,
   ⟨(some 6), .mv (.const (.bool false)), none, false⟩])
  (.seq (.seq (.reg [⟨(some 19), .mv (.tmp 2), none, false⟩,
   ⟨(some 20), .len (.tmp 19), none, false⟩,
   ⟨(some 21), .bin .gtr (.tmp 20) (.const (.int .i64 1048576)), none, false⟩])
  (.cond (.tmp 21) (.seq (.reg [⟨(some 6), .mv (.const (.bool true)), none, false⟩])
  .ret) .skip))
  (.seq (.reg [⟨(some 7), .mv (.const (.int .i64 1048576)), none, false⟩])
  (.seq (.reg [⟨(some 22), .loadn 5 (.tmp 3), none, false⟩,
   ⟨(some 23), .mv (.tmp 7), none, false⟩,
   ⟨(some 24), .call (.func 17) [(.tmp 22), (.tmp 23)], none, false⟩,
   ⟨(some 7), .mv (.tmp 24), none, false⟩])
  (.seq (.seq (.reg [⟨(some 25), .mv (.tmp 7), none, false⟩,
   ⟨(some 26), .bin .lss (.tmp 25) (.const (.int .i64 0)), none, false⟩])
  (.cond (.tmp 26) (.seq (.reg [⟨(some 6), .mv (.const (.bool true)), none, false⟩])
  .ret) .skip))
  (.seq (.reg [⟨(some 28), .loadn 5 (.tmp 3), none, false⟩,
   ⟨(some 29), .call (.func 19) [(.tmp 28)], none, false⟩,
   ⟨(some 30), .mv (.tmp 1), none, false⟩,
   ⟨(some 31), .mv (.tmp 2), none, false⟩,
   ⟨(some 32), .call (.func 49) [(.tmp 31)], none, false⟩,
   ⟨(some 33), .call (.func 48) [(.tmp 29), (.tmp 30), (.tmp 32)], none, false⟩,
   ⟨(some 27), .mv (.tmp 33), none, false⟩,
   ⟨(some 34), .ext (.tmp 27) 0, none, false⟩,
   ⟨(some 35), .ext (.tmp 27) 1, none, false⟩,
   ⟨(some 8), .mv (.tmp 34), none, false⟩,
   ⟨(some 9), .mv (.tmp 35), none, false⟩])
  (.seq (.reg [⟨(some 36), .loadn 5 (.tmp 3), none, false⟩,
   ⟨(some 37), .call (.func 19) [(.tmp 36)], none, false⟩,
   ⟨(some 10), .alloc 30 [.int .i64 0, .int .i64 0, .int .i64 0, .int .i64 0, .slice none 0 0], none, false⟩,
   ⟨none, .store 5 (.tmp 10) (.tmp 37), none, false⟩])
  (.seq (.reg [⟨(some 38), .mv (.tmp 2), none, false⟩,
   ⟨(some 39), .call (.func 49) [(.tmp 38)], none, false⟩,
   ⟨(some 11), .mv (.tmp 39), none, false⟩])
  (.seq (.reg [⟨(some 41), .loadn 5 (.tmp 10), none, false⟩,
   ⟨(some 42), .mv (.tmp 1), none, false⟩,
   ⟨(some 43), .mv (.tmp 11), none, false⟩,
   ⟨(some 44), .call (.func 50) [(.tmp 41), (.tmp 42), (.tmp 43)], none, false⟩,
   ⟨(some 40), .mv (.tmp 44), none, false⟩,
   ⟨(some 45), .ext (.tmp 40) 0, none, false⟩,
   ⟨(some 46), .ext (.tmp 40) 1, none, false⟩,
   ⟨(some 12), .mv (.tmp 45), none, false⟩,
   ⟨(some 13), .mv (.tmp 46), none, false⟩])
  (.seq (.seq (.reg [⟨(some 47), .mv (.tmp 12), none, false⟩,
   ⟨(some 48), .mv (.tmp 8), none, false⟩,
   ⟨(some 49), .call (.func 43) [(.tmp 47), (.tmp 48)], none, false⟩,
   ⟨(some 50), .un .not (.tmp 49), none, false⟩,
   ⟨(some 51), .mv (.tmp 50), none, false⟩,
   ⟨(some 52), .mv (.tmp 13), (some (51, false)), false⟩,
   ⟨(some 53), .mv (.tmp 9), (some (51, false)), false⟩,
   ⟨(some 54), .bin .neq (.tmp 52) (.tmp 53), (some (51, false)), false⟩,
   ⟨(some 55), .pick (.tmp 51) (.const (.bool true)) (.tmp 54), none, false⟩])
  (.cond (.tmp 55) (.seq (.reg [⟨(some 6), .mv (.const (.bool false)), none, false⟩])
  .ret) .skip))
  (.seq (.seq (.reg [⟨(some 56), .loadn 5 (.tmp 10), none, false⟩,
   ⟨(some 57), .loadn 5 (.tmp 3), none, false⟩,
   ⟨(some 58), .call (.func 19) [(.tmp 57)], none, true⟩,
   ⟨(some 59), .call (.func 21) [(.tmp 56), (.tmp 58)], none, false⟩,
   ⟨(some 60), .un .not (.tmp 59), none, false⟩])
  (.cond (.tmp 60) (.seq (.reg [⟨(some 6), .mv (.const (.bool false)), none, false⟩])
  .ret) .skip))
  (.seq (.seq (.reg [⟨(some 61), .mv (.tmp 11), none, false⟩,
   ⟨(some 62), .mv (.tmp 2), none, false⟩,
   ⟨(some 63), .call (.func 49) [(.tmp 62)], none, false⟩,
   ⟨(some 64), .call (.func 51) [(.tmp 61), (.tmp 63)], none, false⟩,
   ⟨(some 65), .un .not (.tmp 64), none, false⟩])
  (.cond (.tmp 65) (.seq (.reg [⟨(some 6), .mv (.const (.bool false)), none, false⟩])
  .ret) .skip))
  (.seq (.reg [⟨(some 14), .mv (.const (.int .i64 1)), none, false⟩])
  (.seq (.reg [⟨(some 66), .loadn 5 (.tmp 10), none, false⟩,
   ⟨(some 67), .mv (.tmp 14), none, false⟩,
   ⟨(some 68), .call (.func 31) [(.tmp 66), (.tmp 67)], none, false⟩,
   ⟨(some 14), .mv (.tmp 68), none, false⟩])
  (.seq (.reg [⟨(some 69), .mv (.tmp 11), none, false⟩,
   ⟨(some 70), .mv (.tmp 14), none, false⟩,
   ⟨(some 71), .call (.func 52) [(.tmp 69), (.tmp 70)], none, false⟩,
   ⟨(some 14), .mv (.tmp 71), none, false⟩])
  (.seq (.seq (.reg [⟨(some 72), .mv (.tmp 14), none, false⟩,
   ⟨(some 73), .bin .lss (.tmp 72) (.const (.int .i64 0)), none, false⟩,
   ⟨(some 74), .mv (.tmp 73), none, false⟩,
   ⟨(some 75), .mv (.tmp 12), (some (74, false)), false⟩,
   ⟨(some 76), .mv (.tmp 8), (some (74, false)), false⟩,
   ⟨(some 77), .call (.func 43) [(.tmp 75), (.tmp 76)], (some (74, false)), false⟩,
   ⟨(some 78), .un .not (.tmp 77), (some (74, false)), false⟩,
   ⟨(some 79), .pick (.tmp 74) (.const (.bool true)) (.tmp 78), none, false⟩,
   ⟨(some 80), .mv (.tmp 79), none, false⟩,
   ⟨(some 81), .mv (.tmp 13), (some (80, false)), false⟩,
   ⟨(some 82), .mv (.tmp 9), (some (80, false)), false⟩,
   ⟨(some 83), .bin .neq (.tmp 81) (.tmp 82), (some (80, false)), false⟩,
   ⟨(some 84), .pick (.tmp 80) (.const (.bool true)) (.tmp 83), none, false⟩])
  (.cond (.tmp 84) (.seq (.reg [⟨(some 6), .mv (.const (.bool false)), none, false⟩])
  .ret) .skip))
  (.seq (.reg [⟨(some 15), .mv (.const (.int .i64 1)), none, false⟩])
  (.seq (.reg [⟨(some 85), .mv (.tmp 12), none, false⟩,
   ⟨(some 86), .mv (.tmp 15), none, false⟩,
   ⟨(some 87), .call (.func 46) [(.tmp 85), (.tmp 86)], none, false⟩,
   ⟨(some 15), .mv (.tmp 87), none, false⟩])
  (.seq (.reg [⟨(some 16), .mv (.const (.int .i64 1)), none, false⟩])
  (.seq (.reg [⟨(some 88), .mv (.tmp 12), none, false⟩,
   ⟨(some 89), .mv (.tmp 16), none, false⟩,
   ⟨(some 90), .call (.func 47) [(.tmp 88), (.tmp 89)], none, false⟩,
   ⟨(some 16), .mv (.tmp 90), none, false⟩])
  (.seq (.seq (.reg [⟨(some 91), .mv (.tmp 16), none, false⟩,
   ⟨(some 92), .bin .lss (.tmp 91) (.const (.int .i64 0)), none, false⟩])
  (.cond (.tmp 92) (.seq (.reg [⟨(some 6), .mv (.const (.bool false)), none, false⟩])
  .ret) .skip))
  (.seq (.seq (.reg [⟨(some 93), .mv (.tmp 16), none, false⟩,
   ⟨(some 94), .mv (.tmp 15), none, false⟩,
   ⟨(some 95), .bin .neq (.tmp 93) (.tmp 94), none, false⟩])
  (.cond (.tmp 95) (.seq (.reg [⟨(some 6), .mv (.const (.bool false)), none, false⟩])
  .ret) .skip))
  (.seq (.reg [⟨(some 97), .loadn 5 (.tmp 3), none, false⟩,
   ⟨(some 98), .call (.func 19) [(.tmp 97)], none, false⟩,
   ⟨(some 99), .mv (.tmp 1), none, false⟩,
   ⟨(some 100), .mv (.tmp 2), none, false⟩,
   ⟨(some 101), .call (.func 49) [(.tmp 100)], none, false⟩,
   ⟨(some 102), .call (.func 50) [(.tmp 98), (.tmp 99), (.tmp 101)], none, false⟩,
   ⟨(some 96), .mv (.tmp 102), none, false⟩,
   ⟨(some 103), .ext (.tmp 96) 0, none, false⟩,
   ⟨(some 104), .ext (.tmp 96) 1, none, false⟩,
   ⟨(some 17), .mv (.tmp 103), none, false⟩,
   ⟨(some 18), .mv (.tmp 104), none, false⟩])
  (.seq (.seq (.reg [⟨(some 105), .mv (.tmp 17), none, false⟩,
   ⟨(some 106), .mv (.tmp 8), none, false⟩,
   ⟨(some 107), .call (.func 43) [(.tmp 105), (.tmp 106)], none, false⟩,
   ⟨(some 108), .un .not (.tmp 107), none, false⟩,
   ⟨(some 109), .mv (.tmp 108), none, false⟩,
   ⟨(some 110), .mv (.tmp 18), (some (109, false)), false⟩,
   ⟨(some 111), .mv (.tmp 9), (some (109, false)), false⟩,
   ⟨(some 112), .bin .neq (.tmp 110) (.tmp 111), (some (109, false)), false⟩,
   ⟨(some 113), .pick (.tmp 109) (.const (.bool true)) (.tmp 112), none, false⟩])
  (.cond (.tmp 113) (.seq (.reg [⟨(some 6), .mv (.const (.bool false)), none, false⟩])
  .ret) .skip))
  (.seq (.reg [⟨(some 16), .mv (.const (.int .i64 1)), none, false⟩])
  (.seq (.reg [⟨(some 114), .mv (.tmp 12), none, false⟩,
   ⟨(some 115), .mv (.tmp 16), none, false⟩,
   ⟨(some 116), .call (.func 47) [(.tmp 114), (.tmp 115)], none, false⟩,
   ⟨(some 16), .mv (.tmp 116), none, false⟩])
  (.seq (.seq (.reg [⟨(some 117), .mv (.tmp 16), none, false⟩,
   ⟨(some 118), .bin .lss (.tmp 117) (.const (.int .i64 0)), none, false⟩])
  (.cond (.tmp 118) (.seq (.reg [⟨(some 6), .mv (.const (.bool false)), none, false⟩])
  .ret) .skip))
  (.seq (.seq (.reg [⟨(some 119), .mv (.tmp 16), none, false⟩,
   ⟨(some 120), .mv (.tmp 15), none, false⟩,
   ⟨(some 121), .bin .neq (.tmp 119) (.tmp 120), none, false⟩])
  (.cond (.tmp 121) (.seq (.reg [⟨(some 6), .mv (.const (.bool false)), none, false⟩])
  .ret) .skip))
  (.seq (.reg [⟨(some 6), .mv (.const (.bool true)), none, false⟩])
  .ret)))))))))))))))))))))))))))))⟩

/-- loop.example/g01262/spec.l01Own -/
def c107 : XFn :=
 ⟨[.tmp 2],
  (.seq (.reg [⟨(some 2), .mv (.const (.slice none 0 0)), none, false⟩])
  (.seq (.reg [⟨(some 3), .bslice 2 1 0 [.int .i64 0] [], none, false⟩,
   ⟨(some 4), .mv (.tmp 0), none, false⟩,
   ⟨(some 5), .app 2 1 8 (.tmp 3) (.tmp 4), none, false⟩,
   ⟨(some 2), .mv (.tmp 5), none, false⟩])
  .ret))⟩

/-- loop.example/g01262/spec.l05Flat -/
def c106 : XFn :=
 ⟨[.tmp 2],
  (.seq (.reg [⟨(some 1), .box 30 (.tmp 0), none, false⟩,
   ⟨(some 2), .mv (.const (.slice none 0 0)), none, false⟩])
  (.seq (.reg [⟨(some 6), .bslice 25 1 0 [.slice none 0 0] [], none, false⟩,
   ⟨(some 7), .fadr 2 (.tmp 1), none, false⟩,
   ⟨(some 8), .load1 (.tmp 7), none, false⟩,
   ⟨(some 9), .fadr 3 (.tmp 1), none, false⟩,
   ⟨(some 10), .load1 (.tmp 9), none, false⟩,
   ⟨(some 11), .bin .mul (.tmp 8) (.tmp 10), none, false⟩,
   ⟨(some 3), .mv (.tmp 6), none, false⟩,
   ⟨(some 4), .mv (.tmp 11), none, false⟩])
  (.seq (.seq (.reg [⟨(some 5), .mv (.const (.int .i64 0)), none, false⟩])
  (.blk 0 (.loop (.seq (.seq (.reg [⟨(some 12), .mv (.tmp 5), none, false⟩,
   ⟨(some 13), .fadr 1 (.tmp 1), none, false⟩,
   ⟨(some 14), .load1 (.tmp 13), none, false⟩,
   ⟨(some 15), .bin .lss (.tmp 12) (.tmp 14), none, false⟩])
  (.cond (.tmp 15) .skip (.exit 0)))
  (.seq (.blk 1 (.reg [⟨(some 18), .mv (.tmp 3), none, false⟩,
   ⟨(some 19), .fadr 4 (.tmp 1), none, false⟩,
   ⟨(some 20), .load1 (.tmp 19), none, false⟩,
   ⟨(some 21), .mv (.tmp 5), none, false⟩,
   ⟨(some 22), .mv (.tmp 4), none, false⟩,
   ⟨(some 23), .bin .mul (.tmp 21) (.tmp 22), none, false⟩,
   ⟨(some 24), .mv (.tmp 5), none, false⟩,
   ⟨(some 25), .mv (.tmp 4), none, false⟩,
   ⟨(some 26), .bin .mul (.tmp 24) (.tmp 25), none, false⟩,
   ⟨(some 27), .mv (.tmp 4), none, false⟩,
   ⟨(some 28), .bin .add (.tmp 26) (.tmp 27), none, false⟩,
   ⟨(some 29), .slc 1 (.tmp 20) (some (.tmp 23)) (some (.tmp 28)), none, false⟩,
   ⟨(some 30), .call (.func 107) [(.tmp 29)], none, false⟩,
   ⟨(some 31), .bslice 25 1 1 [.slice none 0 0] [(0, 1, (.tmp 30))], none, false⟩,
   ⟨(some 32), .app 25 1 24 (.tmp 18) (.tmp 31), none, false⟩,
   ⟨(some 3), .mv (.tmp 32), none, false⟩]))
  (.reg [⟨(some 16), .mv (.tmp 5), none, false⟩,
   ⟨(some 17), .bin .add (.tmp 16) (.const (.int .i64 1)), none, false⟩,
   ⟨(some 5), .mv (.tmp 17), none, false⟩]))))))
  (.seq (.reg [⟨(some 33), .mv (.tmp 3), none, false⟩,
   ⟨(some 2), .mv (.tmp 33), none, false⟩])
  .ret))))⟩

/-- loop.example/g01262/spec.l05Ranks -/
def c93 : XFn :=
 ⟨[.tmp 2],
  (.seq (.reg [⟨(some 1), .box 30 (.tmp 0), none, false⟩,
   ⟨(some 2), .mv (.const (.slice none 0 0)), none, false⟩])
  (.seq (.reg [⟨(some 5), .bslice 2 1 0 [.int .i64 0] [], none, false⟩,
   ⟨(some 3), .mv (.tmp 5), none, false⟩])
  (.seq (.seq (.reg [⟨(some 4), .mv (.const (.int .i64 0)), none, false⟩])
  (.blk 0 (.loop (.seq (.seq (.reg [⟨(some 6), .mv (.tmp 4), none, false⟩,
   ⟨(some 7), .bin .lss (.tmp 6) (.const (.int .i64 3)), none, false⟩])
  (.cond (.tmp 7) .skip (.exit 0)))
  (.seq (.blk 1 (.reg [⟨(some 10), .mv (.tmp 3), none, false⟩,
   ⟨(some 11), .fadr 0 (.tmp 1), none, false⟩,
   ⟨(some 12), .load1 (.tmp 11), none, false⟩,
   ⟨(some 13), .loadn 5 (.tmp 1), none, false⟩,
   ⟨(some 14), .mv (.tmp 4), none, false⟩,
   ⟨(some 15), .call (.func 90) [(.tmp 13), (.tmp 14)], none, true⟩,
   ⟨(some 16), .call (.func 106) [(.tmp 15)], none, true⟩,
   ⟨(some 17), .call (.func 85) [(.tmp 12), (.tmp 16)], none, false⟩,
   ⟨(some 18), .bslice 2 1 1 [.int .i64 0] [(0, 1, (.tmp 17))], none, false⟩,
   ⟨(some 19), .app 2 1 8 (.tmp 10) (.tmp 18), none, false⟩,
   ⟨(some 3), .mv (.tmp 19), none, false⟩]))
  (.reg [⟨(some 8), .mv (.tmp 4), none, false⟩,
   ⟨(some 9), .bin .add (.tmp 8) (.const (.int .i64 1)), none, false⟩,
   ⟨(some 4), .mv (.tmp 9), none, false⟩]))))))
  (.seq (.reg [⟨(some 20), .mv (.tmp 3), none, false⟩,
   ⟨(some 2), .mv (.tmp 20), none, false⟩])
  .ret))))⟩

/-- loop.example/g01262/spec.FlattenRanks -/
def c53 : XFn :=
 ⟨[.tmp 2, .tmp 3],
  (.seq (.reg [⟨(some 1), .box 30 (.tmp 0), none, false⟩,
   ⟨(some 2), .mv (.const (.slice none 0 0)), none, false⟩,
   ⟨(some 3), .mv (.const (.int .i64 0)), none, false⟩])
  (.seq (.seq (.reg [⟨(some 4), .loadn 5 (.tmp 1), none, false⟩,
   ⟨(some 5), .call (.func 58) [(.tmp 4)], none, false⟩,
   ⟨(some 6), .un .not (.tmp 5), none, false⟩])
  (.cond (.tmp 6) (.seq (.reg [⟨(some 2), .mv (.const (.slice none 0 0)), none, false⟩,
   ⟨(some 3), .mv (.const (.int .i64 1)), none, false⟩])
  .ret) .skip))
  (.seq (.reg [⟨(some 7), .loadn 5 (.tmp 1), none, false⟩,
   ⟨(some 8), .call (.func 93) [(.tmp 7)], none, false⟩,
   ⟨(some 2), .mv (.tmp 8), none, false⟩,
   ⟨(some 3), .mv (.const (.int .i64 0)), none, false⟩])
  .ret)))⟩

/-- loop.example/g01262/impl.flattenRanks -/
def c94 : XFn :=
 ⟨[.tmp 2],
  (.seq (.reg [⟨(some 1), .box 30 (.tmp 0), none, false⟩,
   ⟨(some 2), .mv (.const (.slice none 0 0)), none, false⟩])
  (.seq (.reg [⟨(some 6), .bslice 2 1 0 [.int .i64 0] [], none, false⟩,
   ⟨(some 3), .mv (.tmp 6), none, false⟩])
  (.seq (.seq (.reg [⟨(some 7), .mv (.const (.int .i64 0)), none, false⟩])
  (.blk 0 (.loop (.seq (.reg [⟨(some 8), .bin .lss (.tmp 7) (.const (.int .i64 3)), none, false⟩])
  (.seq (.cond (.tmp 8) .skip (.exit 0))
  (.seq (.blk 1 (.seq (.reg [⟨(some 9), .mv (.tmp 7), none, false⟩,
   ⟨(some 4), .mv (.tmp 9), none, false⟩])
  (.seq (.reg [⟨(some 10), .loadn 5 (.tmp 1), none, false⟩,
   ⟨(some 11), .mv (.tmp 4), none, false⟩,
   ⟨(some 12), .call (.func 91) [(.tmp 10), (.tmp 11)], none, false⟩,
   ⟨(some 5), .alloc 30 [.int .i64 0, .int .i64 0, .int .i64 0, .int .i64 0, .slice none 0 0], none, false⟩,
   ⟨none, .store 5 (.tmp 5) (.tmp 12), none, false⟩])
  (.reg [⟨(some 13), .mv (.tmp 3), none, false⟩,
   ⟨(some 14), .fadr 0 (.tmp 1), none, false⟩,
   ⟨(some 15), .load1 (.tmp 14), none, false⟩,
   ⟨(some 16), .fadr 4 (.tmp 5), none, false⟩,
   ⟨(some 17), .load1 (.tmp 16), none, false⟩,
   ⟨(some 18), .fadr 2 (.tmp 5), none, false⟩,
   ⟨(some 19), .load1 (.tmp 18), none, false⟩,
   ⟨(some 20), .fadr 3 (.tmp 5), none, false⟩,
   ⟨(some 21), .load1 (.tmp 20), none, false⟩,
   ⟨(some 22), .bin .mul (.tmp 19) (.tmp 21), none, false⟩,
   ⟨(some 23), .call (.func 92) [(.tmp 17), (.tmp 22)], none, true⟩,
   ⟨(some 24), .call (.func 87) [(.tmp 15), (.tmp 23)], none, false⟩,
   ⟨(some 25), .bslice 2 1 1 [.int .i64 0] [(0, 1, (.tmp 24))], none, false⟩,
   ⟨(some 26), .app 2 1 8 (.tmp 13) (.tmp 25), none, false⟩,
   ⟨(some 3), .mv (.tmp 26), none, false⟩]))))
  (.reg [⟨(some 27), .bin .add (.tmp 7) (.const (.int .i64 1)), none, false⟩,
   ⟨(some 7), .mv (.tmp 27), none, false⟩])))))))
  (.seq (.reg [⟨(some 28), .mv (.tmp 3), none, false⟩,
   ⟨(some 2), .mv (.tmp 28), none, false⟩])
  .ret))))⟩

/-- loop.example/g01262/impl.FlattenRanks -/
def c54 : XFn :=
 ⟨[.tmp 2, .tmp 3],
  (.seq (.reg [⟨(some 1), .box 30 (.tmp 0), none, false⟩,
   ⟨(some 2), .mv (.const (.slice none 0 0)), none, false⟩,
   ⟨(some 3), .mv (.const (.int .i64 0)), none, false⟩])
  (.seq (.seq (.reg [⟨(some 4), .loadn 5 (.tmp 1), none, false⟩,
   ⟨(some 5), .call (.func 20) [(.tmp 4)], none, false⟩,
   ⟨(some 6), .un .not (.tmp 5), none, false⟩])
  (.cond (.tmp 6) (.seq (.reg [⟨(some 2), .mv (.const (.slice none 0 0)), none, false⟩,
   ⟨(some 3), .mv (.const (.int .i64 1)), none, false⟩])
  .ret) .skip))
  (.seq (.reg [⟨(some 7), .loadn 5 (.tmp 1), none, false⟩,
   ⟨(some 8), .call (.func 94) [(.tmp 7)], none, false⟩,
   ⟨(some 2), .mv (.tmp 8), none, false⟩,
   ⟨(some 3), .mv (.const (.int .i64 0)), none, false⟩])
  .ret)))⟩

/-- loop.example/g01262/laws.FnExactFlattenRanks -/
def c14 : XFn :=
 ⟨[.tmp 2],
  (.seq (.reg [⟨(some 1), .box 27 (.tmp 0), none, false⟩,
   ⟨(some 2), .mv (.const (.bool false)), none, false⟩])
  (.seq (.reg [⟨(some 3), .mv (.const (.int .i64 1048576)), none, false⟩])
  (.seq (.reg [⟨(some 14), .loadn 5 (.tmp 1), none, false⟩,
   ⟨(some 15), .mv (.tmp 3), none, false⟩,
   ⟨(some 16), .call (.func 17) [(.tmp 14), (.tmp 15)], none, false⟩,
   ⟨(some 3), .mv (.tmp 16), none, false⟩])
  (.seq (.seq (.reg [⟨(some 17), .mv (.tmp 3), none, false⟩,
   ⟨(some 18), .bin .lss (.tmp 17) (.const (.int .i64 0)), none, false⟩])
  (.cond (.tmp 18) (.seq (.reg [⟨(some 2), .mv (.const (.bool true)), none, false⟩])
  .ret) .skip))
  (.seq (.reg [⟨(some 20), .loadn 5 (.tmp 1), none, false⟩,
   ⟨(some 21), .call (.func 19) [(.tmp 20)], none, false⟩,
   ⟨(some 22), .call (.func 53) [(.tmp 21)], none, false⟩,
   ⟨(some 19), .mv (.tmp 22), none, false⟩,
   ⟨(some 23), .ext (.tmp 19) 0, none, false⟩,
   ⟨(some 24), .ext (.tmp 19) 1, none, false⟩,
   ⟨(some 4), .mv (.tmp 23), none, false⟩,
   ⟨(some 5), .mv (.tmp 24), none, false⟩])
  (.seq (.reg [⟨(some 25), .loadn 5 (.tmp 1), none, false⟩,
   ⟨(some 26), .call (.func 19) [(.tmp 25)], none, false⟩,
   ⟨(some 6), .alloc 30 [.int .i64 0, .int .i64 0, .int .i64 0, .int .i64 0, .slice none 0 0], none, false⟩,
   ⟨none, .store 5 (.tmp 6) (.tmp 26), none, false⟩])
  (.seq (.reg [⟨(some 28), .loadn 5 (.tmp 6), none, false⟩,
   ⟨(some 29), .call (.func 54) [(.tmp 28)], none, false⟩,
   ⟨(some 27), .mv (.tmp 29), none, false⟩,
   ⟨(some 30), .ext (.tmp 27) 0, none, false⟩,
   ⟨(some 31), .ext (.tmp 27) 1, none, false⟩,
   ⟨(some 7), .mv (.tmp 30), none, false⟩,
   ⟨(some 8), .mv (.tmp 31), none, false⟩])
  (.seq (.seq (.reg [⟨(some 32), .mv (.tmp 7), none, false⟩,
   ⟨(some 33), .mv (.tmp 4), none, false⟩,
   ⟨(some 34), .call (.func 51) [(.tmp 32), (.tmp 33)], none, false⟩,
   ⟨(some 35), .un .not (.tmp 34), none, false⟩,
   ⟨(some 36), .mv (.tmp 35), none, false⟩,
   ⟨(some 37), .mv (.tmp 8), (some (36, false)), false⟩,
   ⟨(some 38), .mv (.tmp 5), (some (36, false)), false⟩,
   ⟨(some 39), .bin .neq (.tmp 37) (.tmp 38), (some (36, false)), false⟩,
   ⟨(some 40), .pick (.tmp 36) (.const (.bool true)) (.tmp 39), none, false⟩])
  (.cond (.tmp 40) (.seq (.reg [⟨(some 2), .mv (.const (.bool false)), none, false⟩])
  .ret) .skip))
  (.seq (.seq (.reg [⟨(some 41), .loadn 5 (.tmp 6), none, false⟩,
   ⟨(some 42), .loadn 5 (.tmp 1), none, false⟩,
   ⟨(some 43), .call (.func 19) [(.tmp 42)], none, true⟩,
   ⟨(some 44), .call (.func 21) [(.tmp 41), (.tmp 43)], none, false⟩,
   ⟨(some 45), .un .not (.tmp 44), none, false⟩])
  (.cond (.tmp 45) (.seq (.reg [⟨(some 2), .mv (.const (.bool false)), none, false⟩])
  .ret) .skip))
  (.seq (.reg [⟨(some 9), .mv (.const (.int .i64 1)), none, false⟩])
  (.seq (.reg [⟨(some 46), .loadn 5 (.tmp 6), none, false⟩,
   ⟨(some 47), .mv (.tmp 9), none, false⟩,
   ⟨(some 48), .call (.func 31) [(.tmp 46), (.tmp 47)], none, false⟩,
   ⟨(some 9), .mv (.tmp 48), none, false⟩])
  (.seq (.seq (.reg [⟨(some 49), .mv (.tmp 9), none, false⟩,
   ⟨(some 50), .bin .lss (.tmp 49) (.const (.int .i64 0)), none, false⟩,
   ⟨(some 51), .mv (.tmp 50), none, false⟩,
   ⟨(some 52), .mv (.tmp 7), (some (51, false)), false⟩,
   ⟨(some 53), .mv (.tmp 4), (some (51, false)), false⟩,
   ⟨(some 54), .call (.func 51) [(.tmp 52), (.tmp 53)], (some (51, false)), false⟩,
   ⟨(some 55), .un .not (.tmp 54), (some (51, false)), false⟩,
   ⟨(some 56), .pick (.tmp 51) (.const (.bool true)) (.tmp 55), none, false⟩,
   ⟨(some 57), .mv (.tmp 56), none, false⟩,
   ⟨(some 58), .mv (.tmp 8), (some (57, false)), false⟩,
   ⟨(some 59), .mv (.tmp 5), (some (57, false)), false⟩,
   ⟨(some 60), .bin .neq (.tmp 58) (.tmp 59), (some (57, false)), false⟩,
   ⟨(some 61), .pick (.tmp 57) (.const (.bool true)) (.tmp 60), none, false⟩])
  (.cond (.tmp 61) (.seq (.reg [⟨(some 2), .mv (.const (.bool false)), none, false⟩])
  .ret) .skip))
  (.seq (.reg [⟨(some 10), .mv (.const (.int .i64 1)), none, false⟩])
  (.seq (.reg [⟨(some 62), .mv (.tmp 7), none, false⟩,
   ⟨(some 63), .mv (.tmp 10), none, false⟩,
   ⟨(some 64), .call (.func 52) [(.tmp 62), (.tmp 63)], none, false⟩,
   ⟨(some 10), .mv (.tmp 64), none, false⟩])
  (.seq (.reg [⟨(some 11), .mv (.const (.int .i64 1)), none, false⟩])
  (.seq (.reg [⟨(some 65), .mv (.tmp 7), none, false⟩,
   ⟨(some 66), .mv (.tmp 11), none, false⟩,
   ⟨(some 67), .call (.func 55) [(.tmp 65), (.tmp 66)], none, false⟩,
   ⟨(some 11), .mv (.tmp 67), none, false⟩])
  (.seq (.seq (.reg [⟨(some 68), .mv (.tmp 11), none, false⟩,
   ⟨(some 69), .bin .lss (.tmp 68) (.const (.int .i64 0)), none, false⟩])
  (.cond (.tmp 69) (.seq (.reg [⟨(some 2), .mv (.const (.bool false)), none, false⟩])
  .ret) .skip))
  (.seq (.seq (.reg [⟨(some 70), .mv (.tmp 11), none, false⟩,
   ⟨(some 71), .mv (.tmp 10), none, false⟩,
   ⟨(some 72), .bin .neq (.tmp 70) (.tmp 71), none, false⟩])
  (.cond (.tmp 72) (.seq (.reg [⟨(some 2), .mv (.const (.bool false)), none, false⟩])
  .ret) .skip))
  (.seq (.reg [⟨(some 74), .loadn 5 (.tmp 1), none, false⟩,
   ⟨(some 75), .call (.func 19) [(.tmp 74)], none, false⟩,
   ⟨(some 76), .call (.func 54) [(.tmp 75)], none, false⟩,
   ⟨(some 73), .mv (.tmp 76), none, false⟩,
   ⟨(some 77), .ext (.tmp 73) 0, none, false⟩,
   ⟨(some 78), .ext (.tmp 73) 1, none, false⟩,
   ⟨(some 12), .mv (.tmp 77), none, false⟩,
   ⟨(some 13), .mv (.tmp 78), none, false⟩])
  (.seq (.seq (.reg [⟨(some 79), .mv (.tmp 12), none, false⟩,
   ⟨(some 80), .mv (.tmp 4), none, false⟩,
   ⟨(some 81), .call (.func 51) [(.tmp 79), (.tmp 80)], none, false⟩,
   ⟨(some 82), .un .not (.tmp 81), none, false⟩,
   ⟨(some 83), .mv (.tmp 82), none, false⟩,
   ⟨(some 84), .mv (.tmp 13), (some (83, false)), false⟩,
   ⟨(some 85), .mv (.tmp 5), (some (83, false)), false⟩,
   ⟨(some 86), .bin .neq (.tmp 84) (.tmp 85), (some (83, false)), false⟩,
   ⟨(some 87), .pick (.tmp 83) (.const (.bool true)) (.tmp 86), none, false⟩])
  (.cond (.tmp 87) (.seq (.reg [⟨(some 2), .mv (.const (.bool false)), none, false⟩])
  .ret) .skip))
  (.seq (.reg [⟨(some 11), .mv (.const (.int .i64 1)), none, false⟩])
  (.seq (.reg [⟨(some 88), .mv (.tmp 7), none, false⟩,
   ⟨(some 89), .mv (.tmp 11), none, false⟩,
   ⟨(some 90), .call (.func 55) [(.tmp 88), (.tmp 89)], none, false⟩,
   ⟨(some 11), .mv (.tmp 90), none, false⟩])
  (.seq (.seq (.reg [⟨(some 91), .mv (.tmp 11), none, false⟩,
   ⟨(some 92), .bin .lss (.tmp 91) (.const (.int .i64 0)), none, false⟩])
  (.cond (.tmp 92) (.seq (.reg [⟨(some 2), .mv (.const (.bool false)), none, false⟩])
  .ret) .skip))
  (.seq (.seq (.reg [⟨(some 93), .mv (.tmp 11), none, false⟩,
   ⟨(some 94), .mv (.tmp 10), none, false⟩,
   ⟨(some 95), .bin .neq (.tmp 93) (.tmp 94), none, false⟩])
  (.cond (.tmp 95) (.seq (.reg [⟨(some 2), .mv (.const (.bool false)), none, false⟩])
  .ret) .skip))
  (.seq (.reg [⟨(some 2), .mv (.const (.bool true)), none, false⟩])
  .ret)))))))))))))))))))))))))⟩

/-- loop.example/g01262/impl.AddTensors$1 -/
def c77 : XFn :=
 ⟨[.tmp 9],
  (.seq (.reg [⟨(some 9), .mv (.const (.int .i64 0)), none, false⟩])
  (.seq (.reg [⟨(some 10), .loadn 5 (.tmp 3), none, false⟩,
   ⟨(some 11), .mv (.tmp 0), none, false⟩,
   ⟨(some 12), .mv (.tmp 1), none, false⟩,
   ⟨(some 13), .mv (.tmp 2), none, false⟩,
   ⟨(some 14), .call (.func 63) [(.tmp 10), (.tmp 11), (.tmp 12), (.tmp 13)], none, true⟩,
   ⟨(some 15), .load1 (.tmp 4), none, false⟩,
   ⟨(some 16), .loadn 5 (.tmp 5), none, false⟩,
   ⟨(some 17), .mv (.tmp 0), none, false⟩,
   ⟨(some 18), .mv (.tmp 1), none, false⟩,
   ⟨(some 19), .mv (.tmp 2), none, false⟩,
   ⟨(some 20), .call (.func 63) [(.tmp 16), (.tmp 17), (.tmp 18), (.tmp 19)], none, true⟩,
   ⟨(some 21), .bin .mul (.tmp 15) (.tmp 20), none, false⟩,
   ⟨(some 22), .bin .add (.tmp 14) (.tmp 21), none, false⟩,
   ⟨(some 9), .mv (.tmp 22), none, false⟩])
  .ret))⟩

/-- loop.example/g01262/impl.KroneckerTensors$1 -/
def c81 : XFn :=
 ⟨[.tmp 8],
  (.seq (.reg [⟨(some 8), .mv (.const (.int .i64 0)), none, false⟩])
  (.seq (.reg [⟨(some 9), .loadn 5 (.tmp 3), none, false⟩,
   ⟨(some 10), .mv (.tmp 0), none, false⟩,
   ⟨(some 11), .fadr 1 (.tmp 4), none, false⟩,
   ⟨(some 12), .load1 (.tmp 11), none, false⟩,
   ⟨(some 13), .bin .quo (.tmp 10) (.tmp 12), none, false⟩,
   ⟨(some 14), .mv (.tmp 1), none, false⟩,
   ⟨(some 15), .fadr 2 (.tmp 4), none, false⟩,
   ⟨(some 16), .load1 (.tmp 15), none, false⟩,
   ⟨(some 17), .bin .quo (.tmp 14) (.tmp 16), none, false⟩,
   ⟨(some 18), .mv (.tmp 2), none, false⟩,
   ⟨(some 19), .fadr 3 (.tmp 4), none, false⟩,
   ⟨(some 20), .load1 (.tmp 19), none, false⟩,
   ⟨(some 21), .bin .quo (.tmp 18) (.tmp 20), none, false⟩,
   ⟨(some 22), .call (.func 63) [(.tmp 9), (.tmp 13), (.tmp 17), (.tmp 21)], none, true⟩,
   ⟨(some 23), .loadn 5 (.tmp 4), none, false⟩,
   ⟨(some 24), .mv (.tmp 0), none, false⟩,
   ⟨(some 25), .fadr 1 (.tmp 4), none, false⟩,
   ⟨(some 26), .load1 (.tmp 25), none, false⟩,
   ⟨(some 27), .bin .rem (.tmp 24) (.tmp 26), none, false⟩,
   ⟨(some 28), .mv (.tmp 1), none, false⟩,
   ⟨(some 29), .fadr 2 (.tmp 4), none, false⟩,
   ⟨(some 30), .load1 (.tmp 29), none, false⟩,
   ⟨(some 31), .bin .rem (.tmp 28) (.tmp 30), none, false⟩,
   ⟨(some 32), .mv (.tmp 2), none, false⟩,
   ⟨(some 33), .fadr 3 (.tmp 4), none, false⟩,
   ⟨(some 34), .load1 (.tmp 33), none, false⟩,
   ⟨(some 35), .bin .rem (.tmp 32) (.tmp 34), none, false⟩,
   ⟨(some 36), .call (.func 63) [(.tmp 23), (.tmp 27), (.tmp 31), (.tmp 35)], none, false⟩,
   ⟨(some 37), .bin .mul (.tmp 22) (.tmp 36), none, false⟩,
   ⟨(some 8), .mv (.tmp 37), none, false⟩])
  .ret))⟩

/-- loop.example/g01262/impl.DirectSum$1 -/
def c82 : XFn :=
 ⟨[.tmp 8],
  (.seq (.reg [⟨(some 8), .mv (.const (.int .i64 0)), none, false⟩])
  (.seq (.blk 0 (.seq (.reg [⟨(some 10), .mv (.tmp 0), none, false⟩,
   ⟨(some 11), .fadr 1 (.tmp 3), none, false⟩,
   ⟨(some 12), .load1 (.tmp 11), none, false⟩,
   ⟨(some 13), .bin .lss (.tmp 10) (.tmp 12), none, false⟩,
   ⟨(some 14), .mv (.tmp 13), none, false⟩,
   ⟨(some 15), .mv (.tmp 1), (some (14, true)), false⟩,
   ⟨(some 16), .fadr 2 (.tmp 3), (some (14, true)), false⟩,
   ⟨(some 17), .load1 (.tmp 16), (some (14, true)), false⟩,
   ⟨(some 18), .bin .lss (.tmp 15) (.tmp 17), (some (14, true)), false⟩,
   ⟨(some 19), .pick (.tmp 14) (.tmp 18) (.const (.bool false)), none, false⟩,
   ⟨(some 20), .mv (.tmp 19), none, false⟩,
   ⟨(some 21), .mv (.tmp 2), (some (20, true)), false⟩,
   ⟨(some 22), .fadr 3 (.tmp 3), (some (20, true)), false⟩,
   ⟨(some 23), .load1 (.tmp 22), (some (20, true)), false⟩,
   ⟨(some 24), .bin .lss (.tmp 21) (.tmp 23), (some (20, true)), false⟩,
   ⟨(some 25), .pick (.tmp 20) (.tmp 24) (.const (.bool false)), none, false⟩,
   ⟨(some 9), .mv (.tmp 25), none, false⟩])
  (.cond (.tmp 9) (.seq (.reg [⟨(some 26), .loadn 5 (.tmp 3), none, false⟩,
   ⟨(some 27), .mv (.tmp 0), none, false⟩,
   ⟨(some 28), .mv (.tmp 1), none, false⟩,
   ⟨(some 29), .mv (.tmp 2), none, false⟩,
   ⟨(some 30), .call (.func 63) [(.tmp 26), (.tmp 27), (.tmp 28), (.tmp 29)], none, false⟩,
   ⟨(some 8), .mv (.tmp 30), none, false⟩])
  .ret) (.seq (.reg [⟨(some 32), .mv (.tmp 0), none, false⟩,
   ⟨(some 33), .fadr 1 (.tmp 3), none, false⟩,
   ⟨(some 34), .load1 (.tmp 33), none, false⟩,
   ⟨(some 35), .bin .geq (.tmp 32) (.tmp 34), none, false⟩,
   ⟨(some 36), .mv (.tmp 35), none, false⟩,
   ⟨(some 37), .mv (.tmp 1), (some (36, true)), false⟩,
   ⟨(some 38), .fadr 2 (.tmp 3), (some (36, true)), false⟩,
   ⟨(some 39), .load1 (.tmp 38), (some (36, true)), false⟩,
   ⟨(some 40), .bin .geq (.tmp 37) (.tmp 39), (some (36, true)), false⟩,
   ⟨(some 41), .pick (.tmp 36) (.tmp 40) (.const (.bool false)), none, false⟩,
   ⟨(some 42), .mv (.tmp 41), none, false⟩,
   ⟨(some 43), .mv (.tmp 2), (some (42, true)), false⟩,
   ⟨(some 44), .fadr 3 (.tmp 3), (some (42, true)), false⟩,
   ⟨(some 45), .load1 (.tmp 44), (some (42, true)), false⟩,
   ⟨(some 46), .bin .geq (.tmp 43) (.tmp 45), (some (42, true)), false⟩,
   ⟨(some 47), .pick (.tmp 42) (.tmp 46) (.const (.bool false)), none, false⟩,
   ⟨(some 31), .mv (.tmp 47), none, false⟩])
  (.cond (.tmp 31) (.seq (.reg [⟨(some 48), .loadn 5 (.tmp 4), none, false⟩,
   ⟨(some 49), .mv (.tmp 0), none, false⟩,
   ⟨(some 50), .fadr 1 (.tmp 3), none, false⟩,
   ⟨(some 51), .load1 (.tmp 50), none, false⟩,
   ⟨(some 52), .bin .sub (.tmp 49) (.tmp 51), none, false⟩,
   ⟨(some 53), .mv (.tmp 1), none, false⟩,
   ⟨(some 54), .fadr 2 (.tmp 3), none, false⟩,
   ⟨(some 55), .load1 (.tmp 54), none, false⟩,
   ⟨(some 56), .bin .sub (.tmp 53) (.tmp 55), none, false⟩,
   ⟨(some 57), .mv (.tmp 2), none, false⟩,
   ⟨(some 58), .fadr 3 (.tmp 3), none, false⟩,
   ⟨(some 59), .load1 (.tmp 58), none, false⟩,
   ⟨(some 60), .bin .sub (.tmp 57) (.tmp 59), none, false⟩,
   ⟨(some 61), .call (.func 63) [(.tmp 48), (.tmp 52), (.tmp 56), (.tmp 60)], none, false⟩,
   ⟨(some 8), .mv (.tmp 61), none, false⟩])
  .ret) .skip)))))
  (.seq (.reg [⟨(some 8), .mv (.const (.int .i64 0)), none, false⟩])
  .ret)))⟩

/-- loop.example/g01262/impl.turn$1 -/
def c99 : XFn :=
 ⟨[.tmp 7],
  (.seq (.reg [⟨(some 7), .mv (.const (.int .i64 0)), none, false⟩])
  (.seq (.reg [⟨(some 8), .loadn 5 (.tmp 3), none, false⟩,
   ⟨(some 9), .mv (.tmp 2), none, false⟩,
   ⟨(some 10), .mv (.tmp 0), none, false⟩,
   ⟨(some 11), .mv (.tmp 1), none, false⟩,
   ⟨(some 12), .call (.func 63) [(.tmp 8), (.tmp 9), (.tmp 10), (.tmp 11)], none, false⟩,
   ⟨(some 7), .mv (.tmp 12), none, false⟩])
  .ret))⟩

/-- loop.example/g01262/impl.rank$1 -/
def c104 : XFn :=
 ⟨[.tmp 3],
  (.seq (.reg [⟨(some 3), .mv (.const (.bool false)), none, false⟩])
  (.seq (.reg [⟨(some 4), .mv (.tmp 0), none, false⟩,
   ⟨(some 5), .load1 (.tmp 1), none, false⟩,
   ⟨(some 6), .ixs 1 (.tmp 4) (.tmp 5), none, false⟩,
   ⟨(some 7), .load1 (.tmp 6), none, false⟩,
   ⟨(some 8), .bin .neq (.tmp 7) (.const (.int .i64 0)), none, false⟩,
   ⟨(some 3), .mv (.tmp 8), none, false⟩])
  .ret))⟩

theorem s56 : compFn Try.prog Try.f56 = some c56 := by kernel_rfl
theorem s15 : compFn Try.prog Try.f15 = some c15 := by kernel_rfl
theorem s16 : compFn Try.prog Try.f16 = some c16 := by kernel_rfl
theorem s3 : compFn Try.prog Try.f3 = some c3 := by kernel_rfl
theorem s57 : compFn Try.prog Try.f57 = some c57 := by kernel_rfl
theorem s17 : compFn Try.prog Try.f17 = some c17 := by kernel_rfl
theorem s83 : compFn Try.prog Try.f83 = some c83 := by kernel_rfl
theorem s58 : compFn Try.prog Try.f58 = some c58 := by kernel_rfl
theorem s18 : compFn Try.prog Try.f18 = some c18 := by kernel_rfl
theorem s49 : compFn Try.prog Try.f49 = some c49 := by kernel_rfl
theorem s19 : compFn Try.prog Try.f19 = some c19 := by kernel_rfl
theorem s59 : compFn Try.prog Try.f59 = some c59 := by kernel_rfl
theorem s60 : compFn Try.prog Try.f60 = some c60 := by kernel_rfl
theorem s61 : compFn Try.prog Try.f61 = some c61 := by kernel_rfl
theorem s20 : compFn Try.prog Try.f20 = some c20 := by kernel_rfl
theorem s51 : compFn Try.prog Try.f51 = some c51 := by kernel_rfl
theorem s21 : compFn Try.prog Try.f21 = some c21 := by kernel_rfl
theorem s4 : compFn Try.prog Try.f4 = some c4 := by kernel_rfl
theorem s62 : compFn Try.prog Try.f62 = some c62 := by kernel_rfl
theorem s22 : compFn Try.prog Try.f22 = some c22 := by kernel_rfl
theorem s63 : compFn Try.prog Try.f63 = some c63 := by kernel_rfl
theorem s23 : compFn Try.prog Try.f23 = some c23 := by kernel_rfl
theorem s5 : compFn Try.prog Try.f5 = some c5 := by kernel_rfl
theorem s64 : compFn Try.prog Try.f64 = some c64 := by kernel_rfl
theorem s65 : compFn Try.prog Try.f65 = some c65 := by kernel_rfl
theorem s24 : compFn Try.prog Try.f24 = some c24 := by kernel_rfl
theorem s66 : compFn Try.prog Try.f66 = some c66 := by kernel_rfl
theorem s25 : compFn Try.prog Try.f25 = some c25 := by kernel_rfl
theorem s95 : compFn Try.prog Try.f95 = some c95 := by kernel_rfl
theorem s67 : compFn Try.prog Try.f67 = some c67 := by kernel_rfl
theorem s96 : compFn Try.prog Try.f96 = some c96 := by kernel_rfl
theorem s68 : compFn Try.prog Try.f68 = some c68 := by kernel_rfl
theorem s26 : compFn Try.prog Try.f26 = some c26 := by kernel_rfl
theorem s27 : compFn Try.prog Try.f27 = some c27 := by kernel_rfl
theorem s97 : compFn Try.prog Try.f97 = some c97 := by kernel_rfl
theorem s69 : compFn Try.prog Try.f69 = some c69 := by kernel_rfl
theorem s98 : compFn Try.prog Try.f98 = some c98 := by kernel_rfl
theorem s70 : compFn Try.prog Try.f70 = some c70 := by kernel_rfl
theorem s28 : compFn Try.prog Try.f28 = some c28 := by kernel_rfl
theorem s6 : compFn Try.prog Try.f6 = some c6 := by kernel_rfl
theorem s73 : compFn Try.prog Try.f73 = some c73 := by kernel_rfl
theorem s71 : compFn Try.prog Try.f71 = some c71 := by kernel_rfl
theorem s29 : compFn Try.prog Try.f29 = some c29 := by kernel_rfl
theorem s76 : compFn Try.prog Try.f76 = some c76 := by kernel_rfl
theorem s72 : compFn Try.prog Try.f72 = some c72 := by kernel_rfl
theorem s30 : compFn Try.prog Try.f30 = some c30 := by kernel_rfl
theorem s52 : compFn Try.prog Try.f52 = some c52 := by kernel_rfl
theorem s31 : compFn Try.prog Try.f31 = some c31 := by kernel_rfl
theorem s55 : compFn Try.prog Try.f55 = some c55 := by kernel_rfl
theorem s32 : compFn Try.prog Try.f32 = some c32 := by kernel_rfl
theorem s7 : compFn Try.prog Try.f7 = some c7 := by kernel_rfl
theorem s33 : compFn Try.prog Try.f33 = some c33 := by kernel_rfl
theorem s74 : compFn Try.prog Try.f74 = some c74 := by kernel_rfl
theorem s75 : compFn Try.prog Try.f75 = some c75 := by kernel_rfl
theorem s34 : compFn Try.prog Try.f34 = some c34 := by kernel_rfl
theorem s8 : compFn Try.prog Try.f8 = some c8 := by kernel_rfl
theorem s78 : compFn Try.prog Try.f78 = some c78 := by kernel_rfl
theorem s79 : compFn Try.prog Try.f79 = some c79 := by kernel_rfl
theorem s35 : compFn Try.prog Try.f35 = some c35 := by kernel_rfl
theorem s80 : compFn Try.prog Try.f80 = some c80 := by kernel_rfl
theorem s36 : compFn Try.prog Try.f36 = some c36 := by kernel_rfl
theorem s9 : compFn Try.prog Try.f9 = some c9 := by kernel_rfl
theorem s37 : compFn Try.prog Try.f37 = some c37 := by kernel_rfl
theorem s38 : compFn Try.prog Try.f38 = some c38 := by kernel_rfl
theorem s10 : compFn Try.prog Try.f10 = some c10 := by kernel_rfl
theorem s39 : compFn Try.prog Try.f39 = some c39 := by kernel_rfl
theorem s84 : compFn Try.prog Try.f84 = some c84 := by kernel_rfl
theorem s101 : compFn Try.prog Try.f101 = some c101 := by kernel_rfl
theorem s100 : compFn Try.prog Try.f100 = some c100 := by kernel_rfl
theorem s85 : compFn Try.prog Try.f85 = some c85 := by kernel_rfl
theorem s40 : compFn Try.prog Try.f40 = some c40 := by kernel_rfl
theorem s41 : compFn Try.prog Try.f41 = some c41 := by kernel_rfl
theorem s86 : compFn Try.prog Try.f86 = some c86 := by kernel_rfl
theorem s102 : compFn Try.prog Try.f102 = some c102 := by kernel_rfl
theorem s103 : compFn Try.prog Try.f103 = some c103 := by kernel_rfl
theorem s105 : compFn Try.prog Try.f105 = some c105 := by kernel_rfl
theorem s87 : compFn Try.prog Try.f87 = some c87 := by kernel_rfl
theorem s42 : compFn Try.prog Try.f42 = some c42 := by kernel_rfl
theorem s43 : compFn Try.prog Try.f43 = some c43 := by kernel_rfl
theorem s11 : compFn Try.prog Try.f11 = some c11 := by kernel_rfl
theorem s88 : compFn Try.prog Try.f88 = some c88 := by kernel_rfl
theorem s89 : compFn Try.prog Try.f89 = some c89 := by kernel_rfl
theorem s90 : compFn Try.prog Try.f90 = some c90 := by kernel_rfl
theorem s44 : compFn Try.prog Try.f44 = some c44 := by kernel_rfl
theorem s91 : compFn Try.prog Try.f91 = some c91 := by kernel_rfl
theorem s92 : compFn Try.prog Try.f92 = some c92 := by kernel_rfl
theorem s45 : compFn Try.prog Try.f45 = some c45 := by kernel_rfl
theorem s46 : compFn Try.prog Try.f46 = some c46 := by kernel_rfl
theorem s47 : compFn Try.prog Try.f47 = some c47 := by kernel_rfl
theorem s12 : compFn Try.prog Try.f12 = some c12 := by kernel_rfl
theorem s48 : compFn Try.prog Try.f48 = some c48 := by kernel_rfl
theorem s50 : compFn Try.prog Try.f50 = some c50 := by kernel_rfl
theorem s13 : compFn Try.prog Try.f13 = some c13 := by kernel_rfl
theorem s107 : compFn Try.prog Try.f107 = some c107 := by kernel_rfl
theorem s106 : compFn Try.prog Try.f106 = some c106 := by kernel_rfl
theorem s93 : compFn Try.prog Try.f93 = some c93 := by kernel_rfl
theorem s53 : compFn Try.prog Try.f53 = some c53 := by kernel_rfl
theorem s94 : compFn Try.prog Try.f94 = some c94 := by kernel_rfl
theorem s54 : compFn Try.prog Try.f54 = some c54 := by kernel_rfl
theorem s14 : compFn Try.prog Try.f14 = some c14 := by kernel_rfl
theorem s77 : compFn Try.prog Try.f77 = some c77 := by kernel_rfl
theorem s81 : compFn Try.prog Try.f81 = some c81 := by kernel_rfl
theorem s82 : compFn Try.prog Try.f82 = some c82 := by kernel_rfl
theorem s99 : compFn Try.prog Try.f99 = some c99 := by kernel_rfl
theorem s104 : compFn Try.prog Try.f104 = some c104 := by kernel_rfl

def tab : List (Nat × XFn) := [(56, c56), (15, c15), (16, c16), (3, c3), (57, c57), (17, c17), (83, c83), (58, c58), (18, c18), (49, c49), (19, c19), (59, c59), (60, c60), (61, c61), (20, c20), (51, c51), (21, c21), (4, c4), (62, c62), (22, c22), (63, c63), (23, c23), (5, c5), (64, c64), (65, c65), (24, c24), (66, c66), (25, c25), (95, c95), (67, c67), (96, c96), (68, c68), (26, c26), (27, c27), (97, c97), (69, c69), (98, c98), (70, c70), (28, c28), (6, c6), (73, c73), (71, c71), (29, c29), (76, c76), (72, c72), (30, c30), (52, c52), (31, c31), (55, c55), (32, c32), (7, c7), (33, c33), (74, c74), (75, c75), (34, c34), (8, c8), (78, c78), (79, c79), (35, c35), (80, c80), (36, c36), (9, c9), (37, c37), (38, c38), (10, c10), (39, c39), (84, c84), (101, c101), (100, c100), (85, c85), (40, c40), (41, c41), (86, c86), (102, c102), (103, c103), (105, c105), (87, c87), (42, c42), (43, c43), (11, c11), (88, c88), (89, c89), (90, c90), (44, c44), (91, c91), (92, c92), (45, c45), (46, c46), (47, c47), (12, c12), (48, c48), (50, c50), (13, c13), (107, c107), (106, c106), (93, c93), (53, c53), (94, c94), (54, c54), (14, c14), (77, c77), (81, c81), (82, c82), (99, c99), (104, c104)]
def T (g : FuncId) : Option XFn := tab.lookup g
theorem orders : Try.prog.follows .mixedOrders = true := by kernel_rfl
theorem tsound : TSound Try.prog T := by
  refine tsound_of_all (P := Try.prog) (tab := tab) ?_
  intro p hp
  simp only [tab, List.mem_cons, List.not_mem_nil, or_false] at hp
  rcases hp with rfl | rfl | rfl | rfl | rfl | rfl | rfl | rfl | rfl | rfl | rfl | rfl | rfl | rfl | rfl | rfl | rfl | rfl | rfl | rfl | rfl | rfl | rfl | rfl | rfl | rfl | rfl | rfl | rfl | rfl | rfl | rfl | rfl | rfl | rfl | rfl | rfl | rfl | rfl | rfl | rfl | rfl | rfl | rfl | rfl | rfl | rfl | rfl | rfl | rfl | rfl | rfl | rfl | rfl | rfl | rfl | rfl | rfl | rfl | rfl | rfl | rfl | rfl | rfl | rfl | rfl | rfl | rfl | rfl | rfl | rfl | rfl | rfl | rfl | rfl | rfl | rfl | rfl | rfl | rfl | rfl | rfl | rfl | rfl | rfl | rfl | rfl | rfl | rfl | rfl | rfl | rfl | rfl | rfl | rfl | rfl | rfl | rfl | rfl | rfl | rfl | rfl | rfl | rfl | rfl
  · exact ⟨_, Try.func56, s56⟩
  · exact ⟨_, Try.func15, s15⟩
  · exact ⟨_, Try.func16, s16⟩
  · exact ⟨_, Try.func3, s3⟩
  · exact ⟨_, Try.func57, s57⟩
  · exact ⟨_, Try.func17, s17⟩
  · exact ⟨_, Try.func83, s83⟩
  · exact ⟨_, Try.func58, s58⟩
  · exact ⟨_, Try.func18, s18⟩
  · exact ⟨_, Try.func49, s49⟩
  · exact ⟨_, Try.func19, s19⟩
  · exact ⟨_, Try.func59, s59⟩
  · exact ⟨_, Try.func60, s60⟩
  · exact ⟨_, Try.func61, s61⟩
  · exact ⟨_, Try.func20, s20⟩
  · exact ⟨_, Try.func51, s51⟩
  · exact ⟨_, Try.func21, s21⟩
  · exact ⟨_, Try.func4, s4⟩
  · exact ⟨_, Try.func62, s62⟩
  · exact ⟨_, Try.func22, s22⟩
  · exact ⟨_, Try.func63, s63⟩
  · exact ⟨_, Try.func23, s23⟩
  · exact ⟨_, Try.func5, s5⟩
  · exact ⟨_, Try.func64, s64⟩
  · exact ⟨_, Try.func65, s65⟩
  · exact ⟨_, Try.func24, s24⟩
  · exact ⟨_, Try.func66, s66⟩
  · exact ⟨_, Try.func25, s25⟩
  · exact ⟨_, Try.func95, s95⟩
  · exact ⟨_, Try.func67, s67⟩
  · exact ⟨_, Try.func96, s96⟩
  · exact ⟨_, Try.func68, s68⟩
  · exact ⟨_, Try.func26, s26⟩
  · exact ⟨_, Try.func27, s27⟩
  · exact ⟨_, Try.func97, s97⟩
  · exact ⟨_, Try.func69, s69⟩
  · exact ⟨_, Try.func98, s98⟩
  · exact ⟨_, Try.func70, s70⟩
  · exact ⟨_, Try.func28, s28⟩
  · exact ⟨_, Try.func6, s6⟩
  · exact ⟨_, Try.func73, s73⟩
  · exact ⟨_, Try.func71, s71⟩
  · exact ⟨_, Try.func29, s29⟩
  · exact ⟨_, Try.func76, s76⟩
  · exact ⟨_, Try.func72, s72⟩
  · exact ⟨_, Try.func30, s30⟩
  · exact ⟨_, Try.func52, s52⟩
  · exact ⟨_, Try.func31, s31⟩
  · exact ⟨_, Try.func55, s55⟩
  · exact ⟨_, Try.func32, s32⟩
  · exact ⟨_, Try.func7, s7⟩
  · exact ⟨_, Try.func33, s33⟩
  · exact ⟨_, Try.func74, s74⟩
  · exact ⟨_, Try.func75, s75⟩
  · exact ⟨_, Try.func34, s34⟩
  · exact ⟨_, Try.func8, s8⟩
  · exact ⟨_, Try.func78, s78⟩
  · exact ⟨_, Try.func79, s79⟩
  · exact ⟨_, Try.func35, s35⟩
  · exact ⟨_, Try.func80, s80⟩
  · exact ⟨_, Try.func36, s36⟩
  · exact ⟨_, Try.func9, s9⟩
  · exact ⟨_, Try.func37, s37⟩
  · exact ⟨_, Try.func38, s38⟩
  · exact ⟨_, Try.func10, s10⟩
  · exact ⟨_, Try.func39, s39⟩
  · exact ⟨_, Try.func84, s84⟩
  · exact ⟨_, Try.func101, s101⟩
  · exact ⟨_, Try.func100, s100⟩
  · exact ⟨_, Try.func85, s85⟩
  · exact ⟨_, Try.func40, s40⟩
  · exact ⟨_, Try.func41, s41⟩
  · exact ⟨_, Try.func86, s86⟩
  · exact ⟨_, Try.func102, s102⟩
  · exact ⟨_, Try.func103, s103⟩
  · exact ⟨_, Try.func105, s105⟩
  · exact ⟨_, Try.func87, s87⟩
  · exact ⟨_, Try.func42, s42⟩
  · exact ⟨_, Try.func43, s43⟩
  · exact ⟨_, Try.func11, s11⟩
  · exact ⟨_, Try.func88, s88⟩
  · exact ⟨_, Try.func89, s89⟩
  · exact ⟨_, Try.func90, s90⟩
  · exact ⟨_, Try.func44, s44⟩
  · exact ⟨_, Try.func91, s91⟩
  · exact ⟨_, Try.func92, s92⟩
  · exact ⟨_, Try.func45, s45⟩
  · exact ⟨_, Try.func46, s46⟩
  · exact ⟨_, Try.func47, s47⟩
  · exact ⟨_, Try.func12, s12⟩
  · exact ⟨_, Try.func48, s48⟩
  · exact ⟨_, Try.func50, s50⟩
  · exact ⟨_, Try.func13, s13⟩
  · exact ⟨_, Try.func107, s107⟩
  · exact ⟨_, Try.func106, s106⟩
  · exact ⟨_, Try.func93, s93⟩
  · exact ⟨_, Try.func53, s53⟩
  · exact ⟨_, Try.func94, s94⟩
  · exact ⟨_, Try.func54, s54⟩
  · exact ⟨_, Try.func14, s14⟩
  · exact ⟨_, Try.func77, s77⟩
  · exact ⟨_, Try.func81, s81⟩
  · exact ⟨_, Try.func82, s82⟩
  · exact ⟨_, Try.func99, s99⟩
  · exact ⟨_, Try.func104, s104⟩
theorem t56 : T 56 = some c56 := rfl
theorem t15 : T 15 = some c15 := rfl
theorem t16 : T 16 = some c16 := rfl
theorem t3 : T 3 = some c3 := rfl
theorem t57 : T 57 = some c57 := rfl
theorem t17 : T 17 = some c17 := rfl
theorem t83 : T 83 = some c83 := rfl
theorem t58 : T 58 = some c58 := rfl
theorem t18 : T 18 = some c18 := rfl
theorem t49 : T 49 = some c49 := rfl
theorem t19 : T 19 = some c19 := rfl
theorem t59 : T 59 = some c59 := rfl
theorem t60 : T 60 = some c60 := rfl
theorem t61 : T 61 = some c61 := rfl
theorem t20 : T 20 = some c20 := rfl
theorem t51 : T 51 = some c51 := rfl
theorem t21 : T 21 = some c21 := rfl
theorem t4 : T 4 = some c4 := rfl
theorem t62 : T 62 = some c62 := rfl
theorem t22 : T 22 = some c22 := rfl
theorem t63 : T 63 = some c63 := rfl
theorem t23 : T 23 = some c23 := rfl
theorem t5 : T 5 = some c5 := rfl
theorem t64 : T 64 = some c64 := rfl
theorem t65 : T 65 = some c65 := rfl
theorem t24 : T 24 = some c24 := rfl
theorem t66 : T 66 = some c66 := rfl
theorem t25 : T 25 = some c25 := rfl
theorem t95 : T 95 = some c95 := rfl
theorem t67 : T 67 = some c67 := rfl
theorem t96 : T 96 = some c96 := rfl
theorem t68 : T 68 = some c68 := rfl
theorem t26 : T 26 = some c26 := rfl
theorem t27 : T 27 = some c27 := rfl
theorem t97 : T 97 = some c97 := rfl
theorem t69 : T 69 = some c69 := rfl
theorem t98 : T 98 = some c98 := rfl
theorem t70 : T 70 = some c70 := rfl
theorem t28 : T 28 = some c28 := rfl
theorem t6 : T 6 = some c6 := rfl
theorem t73 : T 73 = some c73 := rfl
theorem t71 : T 71 = some c71 := rfl
theorem t29 : T 29 = some c29 := rfl
theorem t76 : T 76 = some c76 := rfl
theorem t72 : T 72 = some c72 := rfl
theorem t30 : T 30 = some c30 := rfl
theorem t52 : T 52 = some c52 := rfl
theorem t31 : T 31 = some c31 := rfl
theorem t55 : T 55 = some c55 := rfl
theorem t32 : T 32 = some c32 := rfl
theorem t7 : T 7 = some c7 := rfl
theorem t33 : T 33 = some c33 := rfl
theorem t74 : T 74 = some c74 := rfl
theorem t75 : T 75 = some c75 := rfl
theorem t34 : T 34 = some c34 := rfl
theorem t8 : T 8 = some c8 := rfl
theorem t78 : T 78 = some c78 := rfl
theorem t79 : T 79 = some c79 := rfl
theorem t35 : T 35 = some c35 := rfl
theorem t80 : T 80 = some c80 := rfl
theorem t36 : T 36 = some c36 := rfl
theorem t9 : T 9 = some c9 := rfl
theorem t37 : T 37 = some c37 := rfl
theorem t38 : T 38 = some c38 := rfl
theorem t10 : T 10 = some c10 := rfl
theorem t39 : T 39 = some c39 := rfl
theorem t84 : T 84 = some c84 := rfl
theorem t101 : T 101 = some c101 := rfl
theorem t100 : T 100 = some c100 := rfl
theorem t85 : T 85 = some c85 := rfl
theorem t40 : T 40 = some c40 := rfl
theorem t41 : T 41 = some c41 := rfl
theorem t86 : T 86 = some c86 := rfl
theorem t102 : T 102 = some c102 := rfl
theorem t103 : T 103 = some c103 := rfl
theorem t105 : T 105 = some c105 := rfl
theorem t87 : T 87 = some c87 := rfl
theorem t42 : T 42 = some c42 := rfl
theorem t43 : T 43 = some c43 := rfl
theorem t11 : T 11 = some c11 := rfl
theorem t88 : T 88 = some c88 := rfl
theorem t89 : T 89 = some c89 := rfl
theorem t90 : T 90 = some c90 := rfl
theorem t44 : T 44 = some c44 := rfl
theorem t91 : T 91 = some c91 := rfl
theorem t92 : T 92 = some c92 := rfl
theorem t45 : T 45 = some c45 := rfl
theorem t46 : T 46 = some c46 := rfl
theorem t47 : T 47 = some c47 := rfl
theorem t12 : T 12 = some c12 := rfl
theorem t48 : T 48 = some c48 := rfl
theorem t50 : T 50 = some c50 := rfl
theorem t13 : T 13 = some c13 := rfl
theorem t107 : T 107 = some c107 := rfl
theorem t106 : T 106 = some c106 := rfl
theorem t93 : T 93 = some c93 := rfl
theorem t53 : T 53 = some c53 := rfl
theorem t94 : T 94 = some c94 := rfl
theorem t54 : T 54 = some c54 := rfl
theorem t14 : T 14 = some c14 := rfl
theorem t77 : T 77 = some c77 := rfl
theorem t81 : T 81 = some c81 := rfl
theorem t82 : T 82 = some c82 := rfl
theorem t99 : T 99 = some c99 := rfl
theorem t104 : T 104 = some c104 := rfl
end Go.Proofs.Ytnjhhgfpclngcaa.X
