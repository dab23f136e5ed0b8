/- Texts of one claim, put together by merge.py: XCode. -/
import Derived.Test.YtphklalbkpohfaaMC1
/- The abstract code of the seat's functions, printed by a program of this session, and that it is what the compiler of XComp makes. -/
set_option linter.unusedVariables false
set_option maxRecDepth 4000
namespace Go.Proofs.Ytphklalbkpohfaa.X
open Go Go.RowKit

/-- loop.example/g01262/impl.pairCode -/
def c80 : XFn :=
 ⟨[.tmp 4],
  (.seq (.reg [⟨(some 2), .box 49 (.tmp 0), none, false⟩,
   ⟨(some 3), .box 49 (.tmp 1), none, false⟩,
   ⟨(some 4), .mv (.const (.int .i64 0)), none, false⟩])
  (.seq (.blk 0 (.seq (.reg [⟨(some 6), .loadn 5 (.tmp 2), none, false⟩,
   ⟨(some 7), .loadn 5 (.tmp 3), none, false⟩,
   ⟨(some 8), .bslice 49 5 2 [.int .i64 0, .int .i64 0, .int .i64 0, .int .i64 0, .slice none 0 0] [(0, 5, (.tmp 6)), (5, 5, (.tmp 7))], none, false⟩,
   ⟨(some 9), .call (.func 74) [(.tmp 8)], none, false⟩,
   ⟨(some 10), .un .not (.tmp 9), none, false⟩,
   ⟨(some 5), .mv (.tmp 10), none, false⟩])
  (.cond (.tmp 5) (.seq (.reg [⟨(some 4), .mv (.const (.int .i64 1)), none, false⟩])
  .ret) (.seq (.reg [⟨(some 12), .fadr 0 (.tmp 2), none, false⟩,
   ⟨(some 13), .load1 (.tmp 12), none, false⟩,
   ⟨(some 14), .fadr 0 (.tmp 3), none, false⟩,
   ⟨(some 15), .load1 (.tmp 14), none, false⟩,
   ⟨(some 16), .bin .neq (.tmp 13) (.tmp 15), none, false⟩,
   ⟨(some 17), .mv (.tmp 16), none, false⟩,
   ⟨(some 18), .fadr 1 (.tmp 2), (some (17, false)), false⟩,
   ⟨(some 19), .load1 (.tmp 18), (some (17, false)), false⟩,
   ⟨(some 20), .fadr 1 (.tmp 3), (some (17, false)), false⟩,
   ⟨(some 21), .load1 (.tmp 20), (some (17, false)), false⟩,
   ⟨(some 22), .bin .neq (.tmp 19) (.tmp 21), (some (17, false)), false⟩,
   ⟨(some 23), .pick (.tmp 17) (.const (.bool true)) (.tmp 22), none, false⟩,
   ⟨(some 24), .mv (.tmp 23), none, false⟩,
   ⟨(some 25), .fadr 2 (.tmp 2), (some (24, false)), false⟩,
   ⟨(some 26), .load1 (.tmp 25), (some (24, false)), false⟩,
   ⟨(some 27), .fadr 2 (.tmp 3), (some (24, false)), false⟩,
   ⟨(some 28), .load1 (.tmp 27), (some (24, false)), false⟩,
   ⟨(some 29), .bin .neq (.tmp 26) (.tmp 28), (some (24, false)), false⟩,
   ⟨(some 30), .pick (.tmp 24) (.const (.bool true)) (.tmp 29), none, false⟩,
   ⟨(some 31), .mv (.tmp 30), none, false⟩,
   ⟨(some 32), .fadr 3 (.tmp 2), (some (31, false)), false⟩,
   ⟨(some 33), .load1 (.tmp 32), (some (31, false)), false⟩,
   ⟨(some 34), .fadr 3 (.tmp 3), (some (31, false)), false⟩,
   ⟨(some 35), .load1 (.tmp 34), (some (31, false)), false⟩,
   ⟨(some 36), .bin .neq (.tmp 33) (.tmp 35), (some (31, false)), false⟩,
   ⟨(some 37), .pick (.tmp 31) (.const (.bool true)) (.tmp 36), none, false⟩,
   ⟨(some 11), .mv (.tmp 37), none, false⟩])
  (.cond (.tmp 11) (.seq (.reg [⟨(some 4), .mv (.const (.int .i64 2)), none, false⟩])
  .ret) .skip)))))
  (.seq (.reg [⟨(some 4), .mv (.const (.int .i64 0)), none, false⟩])
  .ret)))⟩

theorem s80 : compFn Try.prog Try.f80 = some c80 := by kernel_rfl

/-- slices.Equal[[]int64,int64] -/
def c81 : XFn :=
 ⟨[.tmp 4],
  (.seq (.reg [⟨(some 4), .mv (.const (.bool false)), none, false⟩])
  (.seq (.seq (.reg [⟨(some 6), .mv (.tmp 0), none, false⟩,
   ⟨(some 7), .len (.tmp 6), none, false⟩,
   ⟨(some 8), .mv (.tmp 1), none, false⟩,
   ⟨(some 9), .len (.tmp 8), none, false⟩,
   ⟨(some 10), .bin .neq (.tmp 7) (.tmp 9), none, false⟩])
  (.cond (.tmp 10) (.seq (.reg [⟨(some 4), .mv (.const (.bool false)), none, false⟩])
  .ret) .skip))
  (.seq (.seq (.reg [⟨(some 11), .mv (.tmp 0), none, false⟩,
   ⟨(some 12), .len (.tmp 11), none, false⟩,
   ⟨(some 13), .mv (.const (.int .i64 0)), none, false⟩])
  (.blk 0 (.loop (.seq (.reg [⟨(some 14), .bin .lss (.tmp 13) (.tmp 12), none, false⟩])
  (.seq (.cond (.tmp 14) .skip (.exit 0))
  (.seq (.blk 1 (.seq (.reg [⟨(some 15), .mv (.tmp 13), none, false⟩,
   ⟨(some 5), .mv (.tmp 15), none, false⟩])
  (.seq (.reg [⟨(some 16), .mv (.tmp 0), none, false⟩,
   ⟨(some 17), .mv (.tmp 5), none, false⟩,
   ⟨(some 18), .ixs 1 (.tmp 16) (.tmp 17), none, false⟩,
   ⟨(some 19), .load1 (.tmp 18), none, false⟩,
   ⟨(some 20), .mv (.tmp 1), none, false⟩,
   ⟨(some 21), .mv (.tmp 5), none, false⟩,
   ⟨(some 22), .ixs 1 (.tmp 20) (.tmp 21), none, false⟩,
   ⟨(some 23), .load1 (.tmp 22), none, false⟩,
   ⟨(some 24), .bin .neq (.tmp 19) (.tmp 23), none, false⟩])
  (.cond (.tmp 24) (.seq (.reg [⟨(some 4), .mv (.const (.bool false)), none, false⟩])
  .ret) .skip))))
  (.reg [⟨(some 25), .bin .add (.tmp 13) (.const (.int .i64 1)), none, false⟩,
   ⟨(some 13), .mv (.tmp 25), none, false⟩])))))))
  (.seq (.reg [⟨(some 4), .mv (.const (.bool true)), none, false⟩])
  .ret))))⟩

theorem s81 : compFn Try.prog Try.f81 = some c81 := by kernel_rfl

/-- loop.example/g01262/spec.l01Is -/
def c82 : XFn :=
 ⟨[.tmp 2],
  (.seq (.reg [⟨(some 1), .box 49 (.tmp 0), none, false⟩,
   ⟨(some 2), .mv (.const (.bool false)), none, false⟩])
  (.seq (.seq (.reg [⟨(some 4), .fadr 0 (.tmp 1), none, false⟩,
   ⟨(some 5), .load1 (.tmp 4), none, false⟩,
   ⟨(some 6), .fadr 1 (.tmp 1), none, false⟩,
   ⟨(some 7), .load1 (.tmp 6), none, false⟩,
   ⟨(some 8), .fadr 2 (.tmp 1), none, false⟩,
   ⟨(some 9), .load1 (.tmp 8), none, false⟩,
   ⟨(some 10), .fadr 3 (.tmp 1), none, false⟩,
   ⟨(some 11), .load1 (.tmp 10), none, false⟩,
   ⟨(some 12), .call (.func 52) [(.tmp 5), (.tmp 7), (.tmp 9), (.tmp 11)], none, false⟩,
   ⟨(some 13), .un .not (.tmp 12), none, false⟩,
   ⟨(some 14), .mv (.tmp 13), none, false⟩,
   ⟨(some 15), .fadr 4 (.tmp 1), (some (14, false)), false⟩,
   ⟨(some 16), .load1 (.tmp 15), (some (14, false)), false⟩,
   ⟨(some 17), .len (.tmp 16), (some (14, false)), false⟩,
   ⟨(some 18), .bin .gtr (.tmp 17) (.const (.int .i64 30)), (some (14, false)), false⟩,
   ⟨(some 19), .pick (.tmp 14) (.const (.bool true)) (.tmp 18), none, false⟩])
  (.cond (.tmp 19) (.seq (.reg [⟨(some 2), .mv (.const (.bool false)), none, false⟩])
  .ret) .skip))
  (.seq (.seq (.reg [⟨(some 3), .mv (.const (.int .i64 0)), none, false⟩])
  (.blk 0 (.loop (.seq (.seq (.reg [⟨(some 20), .mv (.tmp 3), none, false⟩,
   ⟨(some 21), .fadr 4 (.tmp 1), none, false⟩,
   ⟨(some 22), .load1 (.tmp 21), none, false⟩,
   ⟨(some 23), .len (.tmp 22), none, false⟩,
   ⟨(some 24), .bin .lss (.tmp 20) (.tmp 23), none, false⟩])
  (.cond (.tmp 24) .skip (.exit 0)))
  (.seq (.blk 1 (.seq (.reg [⟨(some 27), .loadn 5 (.tmp 1), none, false⟩,
   ⟨(some 28), .fadr 4 (.tmp 1), none, false⟩,
   ⟨(some 29), .load1 (.tmp 28), none, false⟩,
   ⟨(some 30), .mv (.tmp 3), none, false⟩,
   ⟨(some 31), .ixs 27 (.tmp 29) (.tmp 30), none, false⟩,
   ⟨(some 32), .loadn 27 (.tmp 31), none, false⟩,
   ⟨(some 33), .call (.func 109) [(.tmp 27), (.tmp 32)], none, false⟩,
   ⟨(some 34), .un .not (.tmp 33), none, false⟩])
  (.cond (.tmp 34) (.seq (.reg [⟨(some 2), .mv (.const (.bool false)), none, false⟩])
  .ret) .skip)))
  (.reg [⟨(some 25), .mv (.tmp 3), none, false⟩,
   ⟨(some 26), .bin .add (.tmp 25) (.const (.int .i64 1)), none, false⟩,
   ⟨(some 3), .mv (.tmp 26), none, false⟩]))))))
  (.seq (.reg [⟨(some 2), .mv (.const (.bool true)), none, false⟩])
  .ret))))⟩

theorem s82 : compFn Try.prog Try.f82 = some c82 := by kernel_rfl

/-- loop.example/g01262/spec.l06Cost -/
def c83 : XFn :=
 ⟨[.tmp 2],
  (.seq (.reg [⟨(some 1), .box 49 (.tmp 0), none, false⟩,
   ⟨(some 2), .mv (.const (.slice none 0 0)), none, false⟩])
  (.seq (.reg [⟨(some 3), .mv (.const (.int .i64 0)), none, false⟩,
   ⟨(some 4), .mv (.const (.int .i64 0)), none, false⟩,
   ⟨(some 5), .mv (.const (.int .i64 0)), none, false⟩])
  (.seq (.seq (.reg [⟨(some 6), .mv (.const (.int .i64 0)), none, false⟩])
  (.blk 0 (.loop (.seq (.seq (.reg [⟨(some 10), .mv (.tmp 6), none, false⟩,
   ⟨(some 11), .fadr 4 (.tmp 1), none, false⟩,
   ⟨(some 12), .load1 (.tmp 11), none, false⟩,
   ⟨(some 13), .len (.tmp 12), none, false⟩,
   ⟨(some 14), .bin .lss (.tmp 10) (.tmp 13), none, false⟩])
  (.cond (.tmp 14) .skip (.exit 0)))
  (.seq (.blk 1 (.seq (.reg [⟨(some 17), .mv (.tmp 3), none, false⟩,
   ⟨(some 18), .fadr 4 (.tmp 1), none, false⟩,
   ⟨(some 19), .load1 (.tmp 18), none, false⟩,
   ⟨(some 20), .mv (.tmp 6), none, false⟩,
   ⟨(some 21), .ixs 27 (.tmp 19) (.tmp 20), none, false⟩,
   ⟨(some 22), .fadr 0 (.tmp 21), none, false⟩,
   ⟨(some 23), .loadn 9 (.tmp 22), none, false⟩,
   ⟨(some 24), .call (.func 110) [(.tmp 23)], none, false⟩,
   ⟨(some 25), .bin .add (.tmp 17) (.tmp 24), none, false⟩,
   ⟨(some 26), .bin .sub (.tmp 25) (.const (.int .i64 1)), none, false⟩,
   ⟨(some 3), .mv (.tmp 26), none, false⟩])
  (.reg [⟨(some 27), .mv (.tmp 4), none, false⟩,
   ⟨(some 28), .fadr 4 (.tmp 1), none, false⟩,
   ⟨(some 29), .load1 (.tmp 28), none, false⟩,
   ⟨(some 30), .mv (.tmp 6), none, false⟩,
   ⟨(some 31), .ixs 27 (.tmp 29) (.tmp 30), none, false⟩,
   ⟨(some 32), .fadr 9 (.tmp 31), none, false⟩,
   ⟨(some 33), .loadn 9 (.tmp 32), none, false⟩,
   ⟨(some 34), .call (.func 110) [(.tmp 33)], none, false⟩,
   ⟨(some 35), .bin .add (.tmp 27) (.tmp 34), none, false⟩,
   ⟨(some 36), .bin .sub (.tmp 35) (.const (.int .i64 1)), none, false⟩,
   ⟨(some 4), .mv (.tmp 36), none, false⟩])))
  (.reg [⟨(some 15), .mv (.tmp 6), none, false⟩,
   ⟨(some 16), .bin .add (.tmp 15) (.const (.int .i64 1)), none, false⟩,
   ⟨(some 6), .mv (.tmp 16), none, false⟩]))))))
  (.seq (.seq (.reg [⟨(some 7), .mv (.const (.int .i64 0)), none, false⟩])
  (.blk 2 (.loop (.seq (.seq (.reg [⟨(some 37), .mv (.tmp 7), none, false⟩,
   ⟨(some 38), .bin .lss (.tmp 37) (.const (.int .i64 9)), none, false⟩])
  (.cond (.tmp 38) .skip (.exit 2)))
  (.seq (.blk 3 (.seq (.reg [⟨(some 8), .mv (.const (.int .i64 0)), none, false⟩])
  (.seq (.seq (.reg [⟨(some 9), .mv (.const (.int .i64 0)), none, false⟩])
  (.blk 4 (.loop (.seq (.seq (.reg [⟨(some 41), .mv (.tmp 9), none, false⟩,
   ⟨(some 42), .fadr 4 (.tmp 1), none, false⟩,
   ⟨(some 43), .load1 (.tmp 42), none, false⟩,
   ⟨(some 44), .len (.tmp 43), none, false⟩,
   ⟨(some 45), .bin .lss (.tmp 41) (.tmp 44), none, false⟩])
  (.cond (.tmp 45) .skip (.exit 4)))
  (.seq (.blk 5 (.seq (.reg [⟨(some 48), .fadr 4 (.tmp 1), none, false⟩,
   ⟨(some 49), .load1 (.tmp 48), none, false⟩,
   ⟨(some 50), .mv (.tmp 9), none, false⟩,
   ⟨(some 51), .mv (.tmp 7), none, false⟩,
   ⟨(some 52), .ixs 27 (.tmp 49) (.tmp 50), none, false⟩,
   ⟨(some 53), .fadr 18 (.tmp 52), none, false⟩,
   ⟨(some 54), .ixa 9 1 (.tmp 53) (.tmp 51), none, false⟩,
   ⟨(some 55), .load1 (.tmp 54), none, false⟩,
   ⟨(some 56), .bin .neq (.tmp 55) (.const (.int .u8 0)), none, false⟩])
  (.cond (.tmp 56) (.reg [⟨(some 57), .mv (.tmp 8), none, false⟩,
   ⟨(some 58), .bin .add (.tmp 57) (.const (.int .i64 1)), none, false⟩,
   ⟨(some 8), .mv (.tmp 58), none, false⟩]) .skip)))
  (.reg [⟨(some 46), .mv (.tmp 9), none, false⟩,
   ⟨(some 47), .bin .add (.tmp 46) (.const (.int .i64 1)), none, false⟩,
   ⟨(some 9), .mv (.tmp 47), none, false⟩]))))))
  (.reg [⟨(some 59), .mv (.tmp 5), none, false⟩,
   ⟨(some 60), .mv (.tmp 8), none, false⟩,
   ⟨(some 61), .bin .sub (.tmp 60) (.const (.int .i64 1)), none, false⟩,
   ⟨(some 62), .mm true (.tmp 61) [(.const (.int .i64 0))], none, false⟩,
   ⟨(some 63), .bin .add (.tmp 59) (.tmp 62), none, false⟩,
   ⟨(some 5), .mv (.tmp 63), none, false⟩]))))
  (.reg [⟨(some 39), .mv (.tmp 7), none, false⟩,
   ⟨(some 40), .bin .add (.tmp 39) (.const (.int .i64 1)), none, false⟩,
   ⟨(some 7), .mv (.tmp 40), none, false⟩]))))))
  (.seq (.reg [⟨(some 64), .fadr 4 (.tmp 1), none, false⟩,
   ⟨(some 65), .load1 (.tmp 64), none, false⟩,
   ⟨(some 66), .len (.tmp 65), none, false⟩,
   ⟨(some 67), .mv (.tmp 3), none, false⟩,
   ⟨(some 68), .mv (.tmp 4), none, false⟩,
   ⟨(some 69), .mv (.tmp 5), none, false⟩,
   ⟨(some 70), .bslice 2 1 4 [.int .i64 0] [(0, 1, (.tmp 66)), (1, 1, (.tmp 67)), (2, 1, (.tmp 68)), (3, 1, (.tmp 69))], none, false⟩,
   ⟨(some 2), .mv (.tmp 70), none, false⟩])
  .ret)))))⟩

theorem s83 : compFn Try.prog Try.f83 = some c83 := by kernel_rfl

/-- loop.example/g01262/impl.costOf -/
def c84 : XFn :=
 ⟨[.celln 2 4],
  (.seq (.reg [⟨(some 1), .box 49 (.tmp 0), none, false⟩,
   ⟨(some 2), .alloc 101 [.int .i64 0, .int .i64 0, .int .i64 0, .int .i64 0], none, false⟩])
  (.seq (.reg [⟨(some 11), .fadr 4 (.tmp 1), none, false⟩,
   ⟨(some 12), .load1 (.tmp 11), none, false⟩,
   ⟨(some 13), .len (.tmp 12), none, false⟩,
   ⟨(some 14), .build [.int .i64 0, .int .i64 0, .int .i64 0, .int .i64 0] [(0, 1, (.tmp 13))], none, false⟩,
   ⟨(some 15), .build [.int .i64 0, .int .i64 0, .int .i64 0, .int .i64 0, .int .i64 0, .int .i64 0, .int .i64 0, .int .i64 0, .int .i64 0] [], none, false⟩,
   ⟨(some 3), .alloc 101 [.int .i64 0, .int .i64 0, .int .i64 0, .int .i64 0], none, false⟩,
   ⟨(some 4), .alloc 132 [.int .i64 0, .int .i64 0, .int .i64 0, .int .i64 0, .int .i64 0, .int .i64 0, .int .i64 0, .int .i64 0, .int .i64 0], none, false⟩,
   ⟨none, .store 4 (.tmp 3) (.tmp 14), none, false⟩,
   ⟨none, .store 9 (.tmp 4) (.tmp 15), none, false⟩])
  (.seq (.seq (.reg [⟨(some 16), .fadr 4 (.tmp 1), none, false⟩,
   ⟨(some 17), .load1 (.tmp 16), none, false⟩,
   ⟨(some 18), .len (.tmp 17), none, false⟩,
   ⟨(some 19), .mv (.const (.int .i64 0)), none, false⟩])
  (.blk 0 (.loop (.seq (.reg [⟨(some 20), .bin .lss (.tmp 19) (.tmp 18), none, false⟩])
  (.seq (.cond (.tmp 20) .skip (.exit 0))
  (.seq (.blk 1 (.seq (.reg [⟨(some 21), .ixs 27 (.tmp 17) (.tmp 19), none, false⟩,
   ⟨(some 22), .loadn 27 (.tmp 21), none, false⟩,
   ⟨(some 6), .alloc 114 [.int .u8 0, .int .u8 0, .int .u8 0, .int .u8 0, .int .u8 0, .int .u8 0, .int .u8 0, .int .u8 0, .int .u8 0, .int .u8 0, .int .u8 0, .int .u8 0, .int .u8 0, .int .u8 0, .int .u8 0, .int .u8 0, .int .u8 0, .int .u8 0, .int .u8 0, .int .u8 0, .int .u8 0, .int .u8 0, .int .u8 0, .int .u8 0, .int .u8 0, .int .u8 0, .int .u8 0], none, false⟩,
   ⟨none, .store 27 (.tmp 6) (.tmp 22), none, false⟩])
  (.seq (.reg [⟨(some 23), .ixa 4 1 (.tmp 3) (.const (.int .i64 1)), none, false⟩,
   ⟨(some 24), .load1 (.tmp 23), none, false⟩,
   ⟨(some 25), .fadr 0 (.tmp 6), none, false⟩,
   ⟨(some 26), .loadn 9 (.tmp 25), none, false⟩,
   ⟨(some 27), .call (.func 111) [(.tmp 26)], none, true⟩,
   ⟨(some 28), .bin .sub (.tmp 27) (.const (.int .i64 1)), none, false⟩,
   ⟨(some 29), .bin .add (.tmp 24) (.tmp 28), none, false⟩,
   ⟨(some 30), .ixa 4 1 (.tmp 3) (.const (.int .i64 1)), none, false⟩,
   ⟨none, .store 1 (.tmp 30) (.tmp 29), none, false⟩])
  (.seq (.reg [⟨(some 31), .ixa 4 1 (.tmp 3) (.const (.int .i64 2)), none, false⟩,
   ⟨(some 32), .load1 (.tmp 31), none, false⟩,
   ⟨(some 33), .fadr 9 (.tmp 6), none, false⟩,
   ⟨(some 34), .loadn 9 (.tmp 33), none, false⟩,
   ⟨(some 35), .call (.func 111) [(.tmp 34)], none, true⟩,
   ⟨(some 36), .bin .sub (.tmp 35) (.const (.int .i64 1)), none, false⟩,
   ⟨(some 37), .bin .add (.tmp 32) (.tmp 36), none, false⟩,
   ⟨(some 38), .ixa 4 1 (.tmp 3) (.const (.int .i64 2)), none, false⟩,
   ⟨none, .store 1 (.tmp 38) (.tmp 37), none, false⟩])
  (.seq (.reg [⟨(some 39), .fadr 18 (.tmp 6), none, false⟩,
   ⟨(some 40), .loadn 9 (.tmp 39), none, false⟩,
   ⟨(some 41), .mv (.const (.int .i64 0)), none, false⟩])
  (.blk 2 (.loop (.seq (.reg [⟨(some 42), .bin .lss (.tmp 41) (.const (.int .i64 9)), none, false⟩])
  (.seq (.cond (.tmp 42) .skip (.exit 2))
  (.seq (.blk 3 (.seq (.reg [⟨(some 43), .mv (.tmp 41), none, false⟩,
   ⟨(some 44), .idx1 9 (.tmp 40) (.tmp 41), none, false⟩,
   ⟨(some 7), .mv (.tmp 43), none, false⟩,
   ⟨(some 8), .mv (.tmp 44), none, false⟩])
  (.seq (.reg [⟨(some 45), .mv (.tmp 8), none, false⟩,
   ⟨(some 46), .bin .neq (.tmp 45) (.const (.int .u8 0)), none, false⟩])
  (.cond (.tmp 46) (.reg [⟨(some 47), .mv (.tmp 7), none, false⟩,
   ⟨(some 48), .ixa 9 1 (.tmp 4) (.tmp 47), none, false⟩,
   ⟨(some 49), .load1 (.tmp 48), none, false⟩,
   ⟨(some 50), .bin .add (.tmp 49) (.const (.int .i64 1)), none, false⟩,
   ⟨(some 51), .ixa 9 1 (.tmp 4) (.tmp 47), none, false⟩,
   ⟨none, .store 1 (.tmp 51) (.tmp 50), none, false⟩]) .skip))))
  (.reg [⟨(some 52), .bin .add (.tmp 41) (.const (.int .i64 1)), none, false⟩,
   ⟨(some 41), .mv (.tmp 52), none, false⟩])))))))))))
  (.reg [⟨(some 53), .bin .add (.tmp 19) (.const (.int .i64 1)), none, false⟩,
   ⟨(some 19), .mv (.tmp 53), none, false⟩])))))))
  (.seq (.seq (.reg [⟨(some 54), .loadn 9 (.tmp 4), none, false⟩,
   ⟨(some 55), .mv (.const (.int .i64 0)), none, false⟩])
  (.blk 4 (.loop (.seq (.reg [⟨(some 56), .bin .lss (.tmp 55) (.const (.int .i64 9)), none, false⟩])
  (.seq (.cond (.tmp 56) .skip (.exit 4))
  (.seq (.blk 5 (.seq (.reg [⟨(some 57), .idx1 9 (.tmp 54) (.tmp 55), none, false⟩,
   ⟨(some 10), .mv (.tmp 57), none, false⟩])
  (.reg [⟨(some 58), .ixa 4 1 (.tmp 3) (.const (.int .i64 3)), none, false⟩,
   ⟨(some 59), .load1 (.tmp 58), none, false⟩,
   ⟨(some 60), .mv (.tmp 10), none, false⟩,
   ⟨(some 61), .bin .sub (.tmp 60) (.const (.int .i64 1)), none, false⟩,
   ⟨(some 62), .mm true (.tmp 61) [(.const (.int .i64 0))], none, false⟩,
   ⟨(some 63), .bin .add (.tmp 59) (.tmp 62), none, false⟩,
   ⟨(some 64), .ixa 4 1 (.tmp 3) (.const (.int .i64 3)), none, false⟩,
   ⟨none, .store 1 (.tmp 64) (.tmp 63), none, false⟩])))
  (.reg [⟨(some 65), .bin .add (.tmp 55) (.const (.int .i64 1)), none, false⟩,
   ⟨(some 55), .mv (.tmp 65), none, false⟩])))))))
  (.seq (.reg [⟨(some 66), .loadn 4 (.tmp 3), none, false⟩,
   ⟨none, .store 4 (.tmp 2) (.tmp 66), none, false⟩])
  .ret)))))⟩

theorem s84 : compFn Try.prog Try.f84 = some c84 := by kernel_rfl

/-- loop.example/g01262/laws.markProductS -/
def c85 : XFn :=
 ⟨[.tmp 4],
  (.seq (.reg [⟨(some 4), .mv (.const (.int .i64 0)), none, false⟩])
  (.seq (.seq (.reg [⟨(some 5), .mv (.const (.int .i64 0)), none, false⟩])
  (.blk 0 (.loop (.seq (.seq (.reg [⟨(some 9), .mv (.tmp 5), none, false⟩,
   ⟨(some 10), .mv (.tmp 0), none, false⟩,
   ⟨(some 11), .len (.tmp 10), none, false⟩,
   ⟨(some 12), .bin .lss (.tmp 9) (.tmp 11), none, false⟩])
  (.cond (.tmp 12) .skip (.exit 0)))
  (.seq (.blk 1 (.seq (.seq (.reg [⟨(some 6), .mv (.const (.int .i64 0)), none, false⟩])
  (.blk 2 (.loop (.seq (.seq (.reg [⟨(some 15), .mv (.tmp 6), none, false⟩,
   ⟨(some 16), .bin .lss (.tmp 15) (.const (.int .i64 9)), none, false⟩])
  (.cond (.tmp 16) .skip (.exit 2)))
  (.seq (.blk 3 (.seq (.reg [⟨(some 19), .mv (.tmp 0), none, false⟩,
   ⟨(some 20), .mv (.tmp 5), none, false⟩,
   ⟨(some 21), .mv (.tmp 6), none, false⟩,
   ⟨(some 22), .mv (.tmp 1), none, false⟩,
   ⟨(some 23), .conv .u8 (.tmp 22), none, false⟩,
   ⟨(some 24), .ixs 27 (.tmp 19) (.tmp 20), none, false⟩,
   ⟨(some 25), .fadr 0 (.tmp 24), none, false⟩,
   ⟨(some 26), .ixa 9 1 (.tmp 25) (.tmp 21), none, false⟩,
   ⟨none, .store 1 (.tmp 26) (.tmp 23), none, false⟩])
  (.reg [⟨(some 27), .mv (.tmp 1), none, false⟩,
   ⟨(some 28), .bin .add (.tmp 27) (.const (.int .i64 1)), none, false⟩,
   ⟨(some 1), .mv (.tmp 28), none, false⟩])))
  (.reg [⟨(some 17), .mv (.tmp 6), none, false⟩,
   ⟨(some 18), .bin .add (.tmp 17) (.const (.int .i64 1)), none, false⟩,
   ⟨(some 6), .mv (.tmp 18), none, false⟩]))))))
  (.seq (.seq (.reg [⟨(some 7), .mv (.const (.int .i64 0)), none, false⟩])
  (.blk 4 (.loop (.seq (.seq (.reg [⟨(some 29), .mv (.tmp 7), none, false⟩,
   ⟨(some 30), .bin .lss (.tmp 29) (.const (.int .i64 9)), none, false⟩])
  (.cond (.tmp 30) .skip (.exit 4)))
  (.seq (.blk 5 (.seq (.reg [⟨(some 33), .mv (.tmp 0), none, false⟩,
   ⟨(some 34), .mv (.tmp 5), none, false⟩,
   ⟨(some 35), .mv (.tmp 7), none, false⟩,
   ⟨(some 36), .mv (.tmp 1), none, false⟩,
   ⟨(some 37), .conv .u8 (.tmp 36), none, false⟩,
   ⟨(some 38), .ixs 27 (.tmp 33) (.tmp 34), none, false⟩,
   ⟨(some 39), .fadr 9 (.tmp 38), none, false⟩,
   ⟨(some 40), .ixa 9 1 (.tmp 39) (.tmp 35), none, false⟩,
   ⟨none, .store 1 (.tmp 40) (.tmp 37), none, false⟩])
  (.reg [⟨(some 41), .mv (.tmp 1), none, false⟩,
   ⟨(some 42), .bin .add (.tmp 41) (.const (.int .i64 1)), none, false⟩,
   ⟨(some 1), .mv (.tmp 42), none, false⟩])))
  (.reg [⟨(some 31), .mv (.tmp 7), none, false⟩,
   ⟨(some 32), .bin .add (.tmp 31) (.const (.int .i64 1)), none, false⟩,
   ⟨(some 7), .mv (.tmp 32), none, false⟩]))))))
  (.seq (.reg [⟨(some 8), .mv (.const (.int .i64 0)), none, false⟩])
  (.blk 6 (.loop (.seq (.seq (.reg [⟨(some 43), .mv (.tmp 8), none, false⟩,
   ⟨(some 44), .bin .lss (.tmp 43) (.const (.int .i64 9)), none, false⟩])
  (.cond (.tmp 44) .skip (.exit 6)))
  (.seq (.blk 7 (.seq (.reg [⟨(some 47), .mv (.tmp 0), none, false⟩,
   ⟨(some 48), .mv (.tmp 5), none, false⟩,
   ⟨(some 49), .mv (.tmp 8), none, false⟩,
   ⟨(some 50), .mv (.tmp 1), none, false⟩,
   ⟨(some 51), .conv .u8 (.tmp 50), none, false⟩,
   ⟨(some 52), .ixs 27 (.tmp 47) (.tmp 48), none, false⟩,
   ⟨(some 53), .fadr 18 (.tmp 52), none, false⟩,
   ⟨(some 54), .ixa 9 1 (.tmp 53) (.tmp 49), none, false⟩,
   ⟨none, .store 1 (.tmp 54) (.tmp 51), none, false⟩])
  (.reg [⟨(some 55), .mv (.tmp 1), none, false⟩,
   ⟨(some 56), .bin .add (.tmp 55) (.const (.int .i64 1)), none, false⟩,
   ⟨(some 1), .mv (.tmp 56), none, false⟩])))
  (.reg [⟨(some 45), .mv (.tmp 8), none, false⟩,
   ⟨(some 46), .bin .add (.tmp 45) (.const (.int .i64 1)), none, false⟩,
   ⟨(some 8), .mv (.tmp 46), none, false⟩])))))))))
  (.reg [⟨(some 13), .mv (.tmp 5), none, false⟩,
   ⟨(some 14), .bin .add (.tmp 13) (.const (.int .i64 1)), none, false⟩,
   ⟨(some 5), .mv (.tmp 14), none, false⟩]))))))
  (.seq (.reg [⟨(some 57), .mv (.tmp 1), none, false⟩,
   ⟨(some 4), .mv (.tmp 57), none, false⟩])
  .ret)))⟩

theorem s85 : compFn Try.prog Try.f85 = some c85 := by kernel_rfl

/-- loop.example/g01262/spec.l06Code -/
def c86 : XFn :=
 ⟨[.tmp 6],
  (.seq (.reg [⟨(some 3), .box 49 (.tmp 0), none, false⟩,
   ⟨(some 6), .mv (.const (.int .i64 0)), none, false⟩])
  (.seq (.reg [⟨(some 8), .loadn 5 (.tmp 3), none, false⟩,
   ⟨(some 9), .call (.func 67) [(.tmp 8)], none, false⟩,
   ⟨(some 7), .mv (.tmp 9), none, false⟩])
  (.seq (.seq (.reg [⟨(some 10), .mv (.tmp 7), none, false⟩,
   ⟨(some 11), .bin .eql (.tmp 10) (.const (.int .i64 0)), none, false⟩,
   ⟨(some 12), .mv (.tmp 11), none, false⟩,
   ⟨(some 13), .mv (.tmp 1), (some (12, true)), false⟩,
   ⟨(some 14), .call (.func 68) [(.tmp 13), (.const (.int .i64 0)), (.const (.int .i64 8))], (some (12, true)), false⟩,
   ⟨(some 15), .un .not (.tmp 14), (some (12, true)), false⟩,
   ⟨(some 16), .mv (.tmp 15), (some (12, true)), false⟩,
   ⟨(some 17), .mv (.tmp 2), (some (16, false)), false⟩,
   ⟨(some 18), .call (.func 68) [(.tmp 17), (.const (.int .i64 1)), (.const (.int .i64 1000))], (some (16, false)), false⟩,
   ⟨(some 19), .un .not (.tmp 18), (some (16, false)), false⟩,
   ⟨(some 20), .pick (.tmp 16) (.const (.bool true)) (.tmp 19), (some (12, true)), false⟩,
   ⟨(some 21), .pick (.tmp 12) (.tmp 20) (.const (.bool false)), none, false⟩])
  (.cond (.tmp 21) (.reg [⟨(some 7), .mv (.const (.int .i64 2)), none, false⟩]) .skip))
  (.seq (.reg [⟨(some 22), .mv (.tmp 7), none, false⟩,
   ⟨(some 6), .mv (.tmp 22), none, false⟩])
  .ret))))⟩

theorem s86 : compFn Try.prog Try.f86 = some c86 := by kernel_rfl

/-- loop.example/g01262/spec.l06Mixed -/
def c87 : XFn :=
 ⟨[.tmp 6, .tmp 7],
  (.seq (.reg [⟨(some 3), .box 49 (.tmp 0), none, false⟩,
   ⟨(some 6), .mv (.const (.int .i64 0)), none, false⟩,
   ⟨(some 7), .mv (.const (.bool false)), none, false⟩])
  (.seq (.reg [⟨(some 12), .loadn 5 (.tmp 3), none, false⟩,
   ⟨(some 13), .mv (.tmp 1), none, false⟩,
   ⟨(some 14), .mv (.tmp 2), none, false⟩,
   ⟨(some 15), .call (.func 91) [(.tmp 12), (.tmp 13), (.tmp 14)], none, false⟩,
   ⟨(some 11), .mv (.tmp 15), none, false⟩,
   ⟨(some 16), .ext (.tmp 11) 0, none, false⟩,
   ⟨(some 17), .ext (.tmp 11) 1, none, false⟩,
   ⟨(some 18), .ext (.tmp 11) 2, none, false⟩,
   ⟨(some 8), .mv (.tmp 16), none, false⟩,
   ⟨(some 9), .mv (.tmp 17), none, false⟩,
   ⟨(some 10), .mv (.tmp 18), none, false⟩])
  (.seq (.seq (.reg [⟨(some 19), .mv (.tmp 10), none, false⟩,
   ⟨(some 20), .un .not (.tmp 19), none, false⟩,
   ⟨(some 21), .mv (.tmp 20), none, false⟩,
   ⟨(some 22), .mv (.tmp 8), (some (21, false)), false⟩,
   ⟨(some 23), .mv (.tmp 9), (some (21, false)), false⟩,
   ⟨(some 24), .bin .add (.tmp 22) (.tmp 23), (some (21, false)), false⟩,
   ⟨(some 25), .bin .gtr (.tmp 24) (.const (.int .i64 1000000000000000)), (some (21, false)), false⟩,
   ⟨(some 26), .pick (.tmp 21) (.const (.bool true)) (.tmp 25), none, false⟩])
  (.cond (.tmp 26) (.seq (.reg [⟨(some 6), .mv (.const (.int .i64 0)), none, false⟩,
   ⟨(some 7), .mv (.const (.bool false)), none, false⟩])
  .ret) .skip))
  (.seq (.reg [⟨(some 27), .mv (.tmp 8), none, false⟩,
   ⟨(some 28), .mv (.tmp 9), none, false⟩,
   ⟨(some 29), .bin .add (.tmp 27) (.tmp 28), none, false⟩,
   ⟨(some 6), .mv (.tmp 29), none, false⟩,
   ⟨(some 7), .mv (.const (.bool true)), none, false⟩])
  .ret))))⟩

theorem s87 : compFn Try.prog Try.f87 = some c87 := by kernel_rfl

/-- loop.example/g01262/impl.isLevels -/
def c88 : XFn :=
 ⟨[.tmp 2],
  (.seq (.reg [⟨(some 2), .mv (.const (.bool false)), none, false⟩])
  (.seq (.reg [⟨(some 3), .mv (.tmp 0), none, false⟩,
   ⟨(some 4), .bin .geq (.tmp 3) (.const (.int .i64 0)), none, false⟩,
   ⟨(some 5), .mv (.tmp 4), none, false⟩,
   ⟨(some 6), .mv (.tmp 0), (some (5, true)), false⟩,
   ⟨(some 7), .bin .leq (.tmp 6) (.const (.int .i64 8)), (some (5, true)), false⟩,
   ⟨(some 8), .pick (.tmp 5) (.tmp 7) (.const (.bool false)), none, false⟩,
   ⟨(some 2), .mv (.tmp 8), none, false⟩])
  .ret))⟩

theorem s88 : compFn Try.prog Try.f88 = some c88 := by kernel_rfl

/-- loop.example/g01262/impl.isBase -/
def c89 : XFn :=
 ⟨[.tmp 2],
  (.seq (.reg [⟨(some 2), .mv (.const (.bool false)), none, false⟩])
  (.seq (.reg [⟨(some 3), .mv (.tmp 0), none, false⟩,
   ⟨(some 4), .bin .geq (.tmp 3) (.const (.int .i64 1)), none, false⟩,
   ⟨(some 5), .mv (.tmp 4), none, false⟩,
   ⟨(some 6), .mv (.tmp 0), (some (5, true)), false⟩,
   ⟨(some 7), .bin .leq (.tmp 6) (.const (.int .i64 1000)), (some (5, true)), false⟩,
   ⟨(some 8), .pick (.tmp 5) (.tmp 7) (.const (.bool false)), none, false⟩,
   ⟨(some 2), .mv (.tmp 8), none, false⟩])
  .ret))⟩

theorem s89 : compFn Try.prog Try.f89 = some c89 := by kernel_rfl

/-- loop.example/g01262/impl.mixed -/
def c90 : XFn :=
 ⟨[.tmp 6, .tmp 7],
  (.seq (.reg [⟨(some 3), .box 49 (.tmp 0), none, false⟩,
   ⟨(some 6), .mv (.const (.int .i64 0)), none, false⟩,
   ⟨(some 7), .mv (.const (.bool false)), none, false⟩])
  (.seq (.reg [⟨(some 12), .loadn 5 (.tmp 3), none, false⟩,
   ⟨(some 13), .mv (.tmp 1), none, false⟩,
   ⟨(some 14), .mv (.tmp 2), none, false⟩,
   ⟨(some 15), .call (.func 92) [(.tmp 12), (.tmp 13), (.tmp 14)], none, false⟩,
   ⟨(some 11), .mv (.tmp 15), none, false⟩,
   ⟨(some 16), .ext (.tmp 11) 0, none, false⟩,
   ⟨(some 17), .ext (.tmp 11) 1, none, false⟩,
   ⟨(some 18), .ext (.tmp 11) 2, none, false⟩,
   ⟨(some 8), .mv (.tmp 16), none, false⟩,
   ⟨(some 9), .mv (.tmp 17), none, false⟩,
   ⟨(some 10), .mv (.tmp 18), none, false⟩])
  (.seq (.reg [⟨(some 19), .mv (.tmp 8), none, false⟩,
   ⟨(some 20), .mv (.tmp 9), none, false⟩,
   ⟨(some 21), .bin .add (.tmp 19) (.tmp 20), none, false⟩,
   ⟨(some 22), .mv (.tmp 10), none, false⟩,
   ⟨(some 23), .mv (.tmp 22), none, false⟩,
   ⟨(some 24), .mv (.tmp 8), (some (23, true)), false⟩,
   ⟨(some 25), .mv (.tmp 9), (some (23, true)), false⟩,
   ⟨(some 26), .bin .add (.tmp 24) (.tmp 25), (some (23, true)), false⟩,
   ⟨(some 27), .bin .leq (.tmp 26) (.const (.int .i64 1000000000000000)), (some (23, true)), false⟩,
   ⟨(some 28), .pick (.tmp 23) (.tmp 27) (.const (.bool false)), none, false⟩,
   ⟨(some 6), .mv (.tmp 21), none, false⟩,
   ⟨(some 7), .mv (.tmp 28), none, false⟩])
  .ret)))⟩

theorem s90 : compFn Try.prog Try.f90 = some c90 := by kernel_rfl

/-- loop.example/g01262/spec.l06Repeated -/
def c91 : XFn :=
 ⟨[.tmp 6, .tmp 7, .tmp 8],
  (.seq (.reg [⟨(some 3), .box 49 (.tmp 0), none, false⟩,
   ⟨(some 6), .mv (.const (.int .i64 0)), none, false⟩,
   ⟨(some 7), .mv (.const (.int .i64 0)), none, false⟩,
   ⟨(some 8), .mv (.const (.bool false)), none, false⟩])
  (.seq (.reg [⟨(some 15), .loadn 5 (.tmp 3), none, false⟩,
   ⟨(some 16), .call (.func 83) [(.tmp 15)], none, false⟩,
   ⟨(some 9), .mv (.tmp 16), none, false⟩])
  (.seq (.reg [⟨(some 17), .mv (.tmp 9), none, false⟩,
   ⟨(some 18), .ixs 1 (.tmp 17) (.const (.int .i64 1)), none, false⟩,
   ⟨(some 19), .load1 (.tmp 18), none, false⟩,
   ⟨(some 20), .mv (.tmp 9), none, false⟩,
   ⟨(some 21), .ixs 1 (.tmp 20) (.const (.int .i64 2)), none, false⟩,
   ⟨(some 22), .load1 (.tmp 21), none, false⟩,
   ⟨(some 23), .bin .add (.tmp 19) (.tmp 22), none, false⟩,
   ⟨(some 24), .mv (.tmp 9), none, false⟩,
   ⟨(some 25), .ixs 1 (.tmp 24) (.const (.int .i64 3)), none, false⟩,
   ⟨(some 26), .load1 (.tmp 25), none, false⟩,
   ⟨(some 27), .bin .add (.tmp 23) (.tmp 26), none, false⟩,
   ⟨(some 10), .mv (.tmp 27), none, false⟩])
  (.seq (.reg [⟨(some 28), .mv (.tmp 2), none, false⟩,
   ⟨(some 29), .mv (.tmp 2), none, false⟩,
   ⟨(some 30), .bin .mul (.tmp 28) (.tmp 29), none, false⟩,
   ⟨(some 31), .mv (.tmp 2), none, false⟩,
   ⟨(some 32), .bin .mul (.tmp 30) (.tmp 31), none, false⟩,
   ⟨(some 33), .mv (.tmp 2), none, false⟩,
   ⟨(some 34), .mv (.tmp 2), none, false⟩,
   ⟨(some 35), .bin .mul (.tmp 33) (.tmp 34), none, false⟩,
   ⟨(some 36), .mv (.tmp 2), none, false⟩,
   ⟨(some 37), .bin .mul (.tmp 35) (.tmp 36), none, false⟩,
   ⟨(some 38), .mv (.tmp 2), none, false⟩,
   ⟨(some 39), .mv (.tmp 2), none, false⟩,
   ⟨(some 40), .bin .mul (.tmp 38) (.tmp 39), none, false⟩,
   ⟨(some 41), .bin .sub (.tmp 37) (.tmp 40), none, false⟩,
   ⟨(some 42), .mv (.tmp 2), none, false⟩,
   ⟨(some 11), .mv (.tmp 32), none, false⟩,
   ⟨(some 12), .mv (.tmp 41), none, false⟩,
   ⟨(some 13), .mv (.tmp 42), none, false⟩])
  (.seq (.seq (.reg [⟨(some 14), .mv (.const (.int .i64 0)), none, false⟩])
  (.blk 0 (.loop (.seq (.seq (.reg [⟨(some 43), .mv (.tmp 14), none, false⟩,
   ⟨(some 44), .mv (.tmp 1), none, false⟩,
   ⟨(some 45), .bin .lss (.tmp 43) (.tmp 44), none, false⟩])
  (.cond (.tmp 45) .skip (.exit 0)))
  (.seq (.blk 1 (.seq (.reg [⟨(some 48), .mv (.tmp 11), none, false⟩,
   ⟨(some 49), .mv (.tmp 9), none, false⟩,
   ⟨(some 50), .ixs 1 (.tmp 49) (.const (.int .i64 0)), none, false⟩,
   ⟨(some 51), .load1 (.tmp 50), none, false⟩,
   ⟨(some 52), .bin .mul (.tmp 48) (.tmp 51), none, false⟩,
   ⟨(some 11), .mv (.tmp 52), none, false⟩])
  (.seq (.reg [⟨(some 53), .mv (.tmp 12), none, false⟩,
   ⟨(some 54), .mv (.tmp 9), none, false⟩,
   ⟨(some 55), .ixs 1 (.tmp 54) (.const (.int .i64 0)), none, false⟩,
   ⟨(some 56), .load1 (.tmp 55), none, false⟩,
   ⟨(some 57), .bin .mul (.tmp 53) (.tmp 56), none, false⟩,
   ⟨(some 12), .mv (.tmp 57), none, false⟩])
  (.seq (.seq (.reg [⟨(some 58), .mv (.tmp 11), none, false⟩,
   ⟨(some 59), .bin .gtr (.tmp 58) (.const (.int .i64 1000000000000000)), none, false⟩,
   ⟨(some 60), .mv (.tmp 59), none, false⟩,
   ⟨(some 61), .mv (.tmp 12), (some (60, false)), false⟩,
   ⟨(some 62), .bin .gtr (.tmp 61) (.const (.int .i64 1000000000000000)), (some (60, false)), false⟩,
   ⟨(some 63), .pick (.tmp 60) (.const (.bool true)) (.tmp 62), none, false⟩,
   ⟨(some 64), .mv (.tmp 63), none, false⟩,
   ⟨(some 65), .mv (.tmp 13), (some (64, false)), false⟩,
   ⟨(some 66), .mv (.tmp 13), (some (64, false)), false⟩,
   ⟨(some 67), .bin .mul (.tmp 65) (.tmp 66), (some (64, false)), false⟩,
   ⟨(some 68), .bin .gtr (.tmp 67) (.const (.int .i64 1000000000000000)), (some (64, false)), false⟩,
   ⟨(some 69), .pick (.tmp 64) (.const (.bool true)) (.tmp 68), none, false⟩])
  (.cond (.tmp 69) (.seq (.reg [⟨(some 6), .mv (.const (.int .i64 0)), none, false⟩,
   ⟨(some 7), .mv (.const (.int .i64 0)), none, false⟩,
   ⟨(some 8), .mv (.const (.bool false)), none, false⟩])
  .ret) .skip))
  (.seq (.reg [⟨(some 70), .mv (.tmp 12), none, false⟩,
   ⟨(some 71), .mv (.tmp 10), none, false⟩,
   ⟨(some 72), .mv (.tmp 13), none, false⟩,
   ⟨(some 73), .bin .mul (.tmp 71) (.tmp 72), none, false⟩,
   ⟨(some 74), .mv (.tmp 13), none, false⟩,
   ⟨(some 75), .bin .mul (.tmp 73) (.tmp 74), none, false⟩,
   ⟨(some 76), .bin .add (.tmp 70) (.tmp 75), none, false⟩,
   ⟨(some 12), .mv (.tmp 76), none, false⟩])
  (.seq (.reg [⟨(some 77), .mv (.tmp 13), none, false⟩,
   ⟨(some 78), .fadr 1 (.tmp 3), none, false⟩,
   ⟨(some 79), .load1 (.tmp 78), none, false⟩,
   ⟨(some 80), .bin .mul (.tmp 77) (.tmp 79), none, false⟩,
   ⟨(some 13), .mv (.tmp 80), none, false⟩])
  (.seq (.reg [⟨(some 81), .mv (.tmp 12), none, false⟩,
   ⟨(some 82), .bin .gtr (.tmp 81) (.const (.int .i64 1000000000000000)), none, false⟩])
  (.cond (.tmp 82) (.seq (.reg [⟨(some 6), .mv (.const (.int .i64 0)), none, false⟩,
   ⟨(some 7), .mv (.const (.int .i64 0)), none, false⟩,
   ⟨(some 8), .mv (.const (.bool false)), none, false⟩])
  .ret) .skip))))))))
  (.reg [⟨(some 46), .mv (.tmp 14), none, false⟩,
   ⟨(some 47), .bin .add (.tmp 46) (.const (.int .i64 1)), none, false⟩,
   ⟨(some 14), .mv (.tmp 47), none, false⟩]))))))
  (.seq (.reg [⟨(some 83), .mv (.tmp 11), none, false⟩,
   ⟨(some 84), .mv (.tmp 12), none, false⟩,
   ⟨(some 6), .mv (.tmp 83), none, false⟩,
   ⟨(some 7), .mv (.tmp 84), none, false⟩,
   ⟨(some 8), .mv (.const (.bool true)), none, false⟩])
  .ret))))))⟩

theorem s91 : compFn Try.prog Try.f91 = some c91 := by kernel_rfl

/-- loop.example/g01262/impl.repeated -/
def c92 : XFn :=
 ⟨[.tmp 6, .tmp 7, .tmp 8],
  (.seq (.reg [⟨(some 3), .box 49 (.tmp 0), none, false⟩,
   ⟨(some 6), .mv (.const (.int .i64 0)), none, false⟩,
   ⟨(some 7), .mv (.const (.int .i64 0)), none, false⟩,
   ⟨(some 8), .mv (.const (.bool false)), none, false⟩])
  (.seq (.reg [⟨(some 14), .loadn 5 (.tmp 3), none, false⟩,
   ⟨(some 15), .call (.func 84) [(.tmp 14)], none, false⟩,
   ⟨(some 9), .alloc 101 [.int .i64 0, .int .i64 0, .int .i64 0, .int .i64 0], none, false⟩,
   ⟨none, .store 4 (.tmp 9) (.tmp 15), none, false⟩])
  (.seq (.reg [⟨(some 16), .mv (.tmp 2), none, false⟩,
   ⟨(some 17), .mv (.tmp 2), none, false⟩,
   ⟨(some 18), .build [.int .i64 0, .int .i64 0] [(0, 1, (.tmp 16)), (1, 1, (.tmp 17))], none, false⟩,
   ⟨(some 19), .bslice 134 2 1 [.int .i64 0, .int .i64 0] [(0, 2, (.tmp 18))], none, false⟩,
   ⟨(some 20), .call (.func 112) [(.tmp 19)], none, false⟩,
   ⟨(some 10), .mv (.tmp 20), none, false⟩])
  (.seq (.reg [⟨(some 21), .mv (.tmp 10), none, false⟩,
   ⟨(some 22), .mv (.tmp 2), none, false⟩,
   ⟨(some 23), .build [.int .i64 0, .int .i64 0] [(0, 1, (.tmp 21)), (1, 1, (.tmp 22))], none, false⟩,
   ⟨(some 24), .bslice 134 2 1 [.int .i64 0, .int .i64 0] [(0, 2, (.tmp 23))], none, false⟩,
   ⟨(some 25), .call (.func 112) [(.tmp 24)], none, false⟩,
   ⟨(some 26), .mv (.tmp 10), none, false⟩,
   ⟨(some 27), .mv (.tmp 2), none, false⟩,
   ⟨(some 28), .bin .sub (.tmp 27) (.const (.int .i64 1)), none, false⟩,
   ⟨(some 29), .build [.int .i64 0, .int .i64 0] [(0, 1, (.tmp 26)), (1, 1, (.tmp 28))], none, false⟩,
   ⟨(some 30), .bslice 134 2 1 [.int .i64 0, .int .i64 0] [(0, 2, (.tmp 29))], none, false⟩,
   ⟨(some 31), .call (.func 112) [(.tmp 30)], none, false⟩,
   ⟨(some 11), .mv (.tmp 25), none, false⟩,
   ⟨(some 12), .mv (.tmp 31), none, false⟩])
  (.seq (.reg [⟨(some 32), .mv (.tmp 2), none, false⟩,
   ⟨(some 13), .mv (.tmp 32), none, false⟩])
  (.seq (.seq (.reg [⟨(some 33), .mv (.tmp 1), none, false⟩,
   ⟨(some 34), .mv (.const (.int .i64 0)), none, false⟩])
  (.blk 0 (.loop (.seq (.reg [⟨(some 35), .bin .lss (.tmp 34) (.tmp 33), none, false⟩])
  (.seq (.cond (.tmp 35) .skip (.exit 0))
  (.seq (.blk 1 (.seq (.reg [⟨(some 36), .mv (.tmp 12), none, false⟩,
   ⟨(some 37), .ixa 4 1 (.tmp 9) (.const (.int .i64 0)), none, false⟩,
   ⟨(some 38), .load1 (.tmp 37), none, false⟩,
   ⟨(some 39), .build [.int .i64 0, .int .i64 0] [(0, 1, (.tmp 36)), (1, 1, (.tmp 38))], none, false⟩,
   ⟨(some 40), .ixa 4 1 (.tmp 9) (.const (.int .i64 1)), none, false⟩,
   ⟨(some 41), .load1 (.tmp 40), none, false⟩,
   ⟨(some 42), .ixa 4 1 (.tmp 9) (.const (.int .i64 2)), none, false⟩,
   ⟨(some 43), .load1 (.tmp 42), none, false⟩,
   ⟨(some 44), .bin .add (.tmp 41) (.tmp 43), none, false⟩,
   ⟨(some 45), .ixa 4 1 (.tmp 9) (.const (.int .i64 3)), none, false⟩,
   ⟨(some 46), .load1 (.tmp 45), none, false⟩,
   ⟨(some 47), .bin .add (.tmp 44) (.tmp 46), none, false⟩,
   ⟨(some 48), .mv (.tmp 13), none, false⟩,
   ⟨(some 49), .mv (.tmp 13), none, false⟩,
   ⟨(some 50), .build [.int .i64 0, .int .i64 0] [(0, 1, (.tmp 48)), (1, 1, (.tmp 49))], none, false⟩,
   ⟨(some 51), .bslice 134 2 1 [.int .i64 0, .int .i64 0] [(0, 2, (.tmp 50))], none, false⟩,
   ⟨(some 52), .call (.func 112) [(.tmp 51)], none, true⟩,
   ⟨(some 53), .build [.int .i64 0, .int .i64 0] [(0, 1, (.tmp 47)), (1, 1, (.tmp 52))], none, false⟩,
   ⟨(some 54), .bslice 134 2 2 [.int .i64 0, .int .i64 0] [(0, 2, (.tmp 39)), (2, 2, (.tmp 53))], none, false⟩,
   ⟨(some 55), .call (.func 112) [(.tmp 54)], none, false⟩,
   ⟨(some 12), .mv (.tmp 55), none, false⟩])
  (.seq (.reg [⟨(some 56), .mv (.tmp 11), none, false⟩,
   ⟨(some 57), .ixa 4 1 (.tmp 9) (.const (.int .i64 0)), none, false⟩,
   ⟨(some 58), .load1 (.tmp 57), none, false⟩,
   ⟨(some 59), .build [.int .i64 0, .int .i64 0] [(0, 1, (.tmp 56)), (1, 1, (.tmp 58))], none, false⟩,
   ⟨(some 60), .bslice 134 2 1 [.int .i64 0, .int .i64 0] [(0, 2, (.tmp 59))], none, false⟩,
   ⟨(some 61), .call (.func 112) [(.tmp 60)], none, false⟩,
   ⟨(some 11), .mv (.tmp 61), none, false⟩])
  (.seq (.reg [⟨(some 62), .mv (.tmp 13), none, false⟩,
   ⟨(some 63), .fadr 1 (.tmp 3), none, false⟩,
   ⟨(some 64), .load1 (.tmp 63), none, false⟩,
   ⟨(some 65), .bin .mul (.tmp 62) (.tmp 64), none, false⟩,
   ⟨(some 13), .mv (.tmp 65), none, false⟩])
  (.seq (.reg [⟨(some 66), .mv (.tmp 11), none, false⟩,
   ⟨(some 67), .bin .gtr (.tmp 66) (.const (.int .i64 1000000000000000)), none, false⟩,
   ⟨(some 68), .mv (.tmp 67), none, false⟩,
   ⟨(some 69), .mv (.tmp 12), (some (68, false)), false⟩,
   ⟨(some 70), .bin .gtr (.tmp 69) (.const (.int .i64 1000000000000000)), (some (68, false)), false⟩,
   ⟨(some 71), .pick (.tmp 68) (.const (.bool true)) (.tmp 70), none, false⟩])
  (.cond (.tmp 71) (.seq (.reg [⟨(some 6), .mv (.const (.int .i64 0)), none, false⟩,
   ⟨(some 7), .mv (.const (.int .i64 0)), none, false⟩,
   ⟨(some 8), .mv (.const (.bool false)), none, false⟩])
  .ret) .skip))))))
  (.reg [⟨(some 72), .bin .add (.tmp 34) (.const (.int .i64 1)), none, false⟩,
   ⟨(some 34), .mv (.tmp 72), none, false⟩])))))))
  (.seq (.reg [⟨(some 73), .mv (.tmp 11), none, false⟩,
   ⟨(some 74), .mv (.tmp 12), none, false⟩,
   ⟨(some 75), .mv (.tmp 11), none, false⟩,
   ⟨(some 76), .bin .leq (.tmp 75) (.const (.int .i64 1000000000000000)), none, false⟩,
   ⟨(some 77), .mv (.tmp 76), none, false⟩,
   ⟨(some 78), .mv (.tmp 12), (some (77, true)), false⟩,
   ⟨(some 79), .bin .leq (.tmp 78) (.const (.int .i64 1000000000000000)), (some (77, true)), false⟩,
   ⟨(some 80), .pick (.tmp 77) (.tmp 79) (.const (.bool false)), none, false⟩,
   ⟨(some 6), .mv (.tmp 73), none, false⟩,
   ⟨(some 7), .mv (.tmp 74), none, false⟩,
   ⟨(some 8), .mv (.tmp 80), none, false⟩])
  .ret)))))))⟩

theorem s92 : compFn Try.prog Try.f92 = some c92 := by kernel_rfl

/-- loop.example/g01262/spec.l01Prime -/
def c93 : XFn :=
 ⟨[.tmp 2],
  (.seq (.reg [⟨(some 2), .mv (.const (.bool false)), none, false⟩])
  (.seq (.reg [⟨(some 3), .mv (.tmp 0), none, false⟩,
   ⟨(some 4), .bin .eql (.tmp 3) (.const (.int .i64 2)), none, false⟩,
   ⟨(some 5), .mv (.tmp 4), none, false⟩,
   ⟨(some 6), .mv (.tmp 0), (some (5, false)), false⟩,
   ⟨(some 7), .bin .eql (.tmp 6) (.const (.int .i64 3)), (some (5, false)), false⟩,
   ⟨(some 8), .pick (.tmp 5) (.const (.bool true)) (.tmp 7), none, false⟩,
   ⟨(some 9), .mv (.tmp 8), none, false⟩,
   ⟨(some 10), .mv (.tmp 0), (some (9, false)), false⟩,
   ⟨(some 11), .bin .eql (.tmp 10) (.const (.int .i64 5)), (some (9, false)), false⟩,
   ⟨(some 12), .pick (.tmp 9) (.const (.bool true)) (.tmp 11), none, false⟩,
   ⟨(some 2), .mv (.tmp 12), none, false⟩])
  .ret))⟩

theorem s93 : compFn Try.prog Try.f93 = some c93 := by kernel_rfl

/-- loop.example/g01262/spec.l05Empty -/
def c94 : XFn :=
 ⟨[.celln 8 5],
  (.seq (.reg [⟨(some 8), .alloc 24 [.int .i64 0, .int .i64 0, .int .i64 0, .int .i64 0, .slice none 0 0], none, false⟩])
  (.seq (.reg [⟨(some 9), .mv (.tmp 0), none, false⟩,
   ⟨(some 10), .mv (.tmp 1), none, false⟩,
   ⟨(some 11), .mv (.tmp 2), none, false⟩,
   ⟨(some 12), .mv (.tmp 3), none, false⟩,
   ⟨(some 13), .mv (.tmp 1), none, false⟩,
   ⟨(some 14), .mv (.tmp 2), none, false⟩,
   ⟨(some 15), .bin .mul (.tmp 13) (.tmp 14), none, false⟩,
   ⟨(some 16), .mv (.tmp 3), none, false⟩,
   ⟨(some 17), .bin .mul (.tmp 15) (.tmp 16), none, false⟩,
   ⟨(some 18), .mks 2 1 8 [.int .i64 0] (.tmp 17), none, false⟩,
   ⟨(some 19), .build [.int .i64 0, .int .i64 0, .int .i64 0, .int .i64 0, .slice none 0 0] [(0, 1, (.tmp 9)), (1, 1, (.tmp 10)), (2, 1, (.tmp 11)), (3, 1, (.tmp 12)), (4, 1, (.tmp 18))], none, false⟩,
   ⟨none, .store 5 (.tmp 8) (.tmp 19), none, false⟩])
  .ret))⟩

theorem s94 : compFn Try.prog Try.f94 = some c94 := by kernel_rfl

/-- loop.example/g01262/impl.isPrime -/
def c95 : XFn :=
 ⟨[.tmp 2],
  (.seq (.reg [⟨(some 2), .mv (.const (.bool false)), none, false⟩])
  (.seq (.reg [⟨(some 3), .mv (.tmp 0), none, false⟩,
   ⟨(some 4), .bin .eql (.tmp 3) (.const (.int .i64 2)), none, false⟩,
   ⟨(some 5), .mv (.tmp 4), none, false⟩,
   ⟨(some 6), .mv (.tmp 0), (some (5, false)), false⟩,
   ⟨(some 7), .bin .eql (.tmp 6) (.const (.int .i64 3)), (some (5, false)), false⟩,
   ⟨(some 8), .pick (.tmp 5) (.const (.bool true)) (.tmp 7), none, false⟩,
   ⟨(some 9), .mv (.tmp 8), none, false⟩,
   ⟨(some 10), .mv (.tmp 0), (some (9, false)), false⟩,
   ⟨(some 11), .bin .eql (.tmp 10) (.const (.int .i64 5)), (some (9, false)), false⟩,
   ⟨(some 12), .pick (.tmp 9) (.const (.bool true)) (.tmp 11), none, false⟩,
   ⟨(some 2), .mv (.tmp 12), none, false⟩])
  .ret))⟩

theorem s95 : compFn Try.prog Try.f95 = some c95 := by kernel_rfl

/-- loop.example/g01262/impl.isSize -/
def c96 : XFn :=
 ⟨[.tmp 2],
  (.seq (.reg [⟨(some 2), .mv (.const (.bool false)), none, false⟩])
  (.seq (.seq (.reg [⟨(some 5), .mv (.tmp 0), none, false⟩,
   ⟨(some 6), .len (.tmp 5), none, false⟩,
   ⟨(some 7), .mv (.const (.int .i64 0)), none, false⟩])
  (.blk 0 (.loop (.seq (.reg [⟨(some 8), .bin .lss (.tmp 7) (.tmp 6), none, false⟩])
  (.seq (.cond (.tmp 8) .skip (.exit 0))
  (.seq (.blk 1 (.seq (.reg [⟨(some 9), .ixs 1 (.tmp 5) (.tmp 7), none, false⟩,
   ⟨(some 10), .load1 (.tmp 9), none, false⟩,
   ⟨(some 4), .mv (.tmp 10), none, false⟩])
  (.seq (.reg [⟨(some 11), .mv (.tmp 4), none, false⟩,
   ⟨(some 12), .bin .lss (.tmp 11) (.const (.int .i64 1)), none, false⟩,
   ⟨(some 13), .mv (.tmp 12), none, false⟩,
   ⟨(some 14), .mv (.tmp 4), (some (13, false)), false⟩,
   ⟨(some 15), .bin .gtr (.tmp 14) (.const (.int .i64 3)), (some (13, false)), false⟩,
   ⟨(some 16), .pick (.tmp 13) (.const (.bool true)) (.tmp 15), none, false⟩])
  (.cond (.tmp 16) (.seq (.reg [⟨(some 2), .mv (.const (.bool false)), none, false⟩])
  .ret) .skip))))
  (.reg [⟨(some 17), .bin .add (.tmp 7) (.const (.int .i64 1)), none, false⟩,
   ⟨(some 7), .mv (.tmp 17), none, false⟩])))))))
  (.seq (.reg [⟨(some 2), .mv (.const (.bool true)), none, false⟩])
  .ret)))⟩

theorem s96 : compFn Try.prog Try.f96 = some c96 := by kernel_rfl

/-- loop.example/g01262/impl.standard -/
def c97 : XFn :=
 ⟨[.celln 8 5],
  (.seq (.reg [⟨(some 8), .alloc 49 [.int .i64 0, .int .i64 0, .int .i64 0, .int .i64 0, .slice none 0 0], none, false⟩])
  (.seq (.reg [⟨(some 13), .mv (.tmp 0), none, false⟩,
   ⟨(some 14), .mv (.tmp 1), none, false⟩,
   ⟨(some 15), .mv (.tmp 2), none, false⟩,
   ⟨(some 16), .mv (.tmp 3), none, false⟩,
   ⟨(some 17), .build [.int .i64 0, .int .i64 0, .int .i64 0, .int .i64 0, .slice none 0 0] [(0, 1, (.tmp 13)), (1, 1, (.tmp 14)), (2, 1, (.tmp 15)), (3, 1, (.tmp 16))], none, false⟩,
   ⟨(some 9), .alloc 49 [.int .i64 0, .int .i64 0, .int .i64 0, .int .i64 0, .slice none 0 0], none, false⟩,
   ⟨none, .store 5 (.tmp 9) (.tmp 17), none, false⟩])
  (.seq (.seq (.reg [⟨(some 18), .mv (.tmp 1), none, false⟩,
   ⟨(some 19), .mv (.const (.int .i64 0)), none, false⟩])
  (.blk 0 (.loop (.seq (.reg [⟨(some 20), .bin .lss (.tmp 19) (.tmp 18), none, false⟩])
  (.seq (.cond (.tmp 20) .skip (.exit 0))
  (.seq (.blk 1 (.seq (.reg [⟨(some 21), .mv (.tmp 19), none, false⟩,
   ⟨(some 10), .mv (.tmp 21), none, false⟩])
  (.seq (.reg [⟨(some 22), .mv (.tmp 2), none, false⟩,
   ⟨(some 23), .mv (.const (.int .i64 0)), none, false⟩])
  (.blk 2 (.loop (.seq (.reg [⟨(some 24), .bin .lss (.tmp 23) (.tmp 22), none, false⟩])
  (.seq (.cond (.tmp 24) .skip (.exit 2))
  (.seq (.blk 3 (.seq (.reg [⟨(some 25), .mv (.tmp 23), none, false⟩,
   ⟨(some 11), .mv (.tmp 25), none, false⟩])
  (.seq (.reg [⟨(some 26), .mv (.tmp 3), none, false⟩,
   ⟨(some 27), .mv (.const (.int .i64 0)), none, false⟩])
  (.blk 4 (.loop (.seq (.reg [⟨(some 28), .bin .lss (.tmp 27) (.tmp 26), none, false⟩])
  (.seq (.cond (.tmp 28) .skip (.exit 4))
  (.seq (.blk 5 (.seq (.reg [⟨(some 29), .mv (.tmp 27), none, false⟩,
   ⟨(some 12), .mv (.tmp 29), none, false⟩])
  (.reg [⟨(some 30), .fadr 4 (.tmp 9), none, false⟩,
   ⟨(some 31), .load1 (.tmp 30), none, false⟩,
   ⟨(some 32), .mv (.tmp 10), none, false⟩,
   ⟨(some 33), .mv (.tmp 2), none, false⟩,
   ⟨(some 34), .bin .mul (.tmp 32) (.tmp 33), none, false⟩,
   ⟨(some 35), .mv (.tmp 11), none, false⟩,
   ⟨(some 36), .bin .add (.tmp 34) (.tmp 35), none, false⟩,
   ⟨(some 37), .call (.func 113) [(.tmp 36)], none, true⟩,
   ⟨(some 38), .mv (.tmp 11), none, false⟩,
   ⟨(some 39), .mv (.tmp 3), none, false⟩,
   ⟨(some 40), .bin .mul (.tmp 38) (.tmp 39), none, false⟩,
   ⟨(some 41), .mv (.tmp 12), none, false⟩,
   ⟨(some 42), .bin .add (.tmp 40) (.tmp 41), none, false⟩,
   ⟨(some 43), .call (.func 113) [(.tmp 42)], none, true⟩,
   ⟨(some 44), .mv (.tmp 10), none, false⟩,
   ⟨(some 45), .mv (.tmp 3), none, false⟩,
   ⟨(some 46), .bin .mul (.tmp 44) (.tmp 45), none, false⟩,
   ⟨(some 47), .mv (.tmp 12), none, false⟩,
   ⟨(some 48), .bin .add (.tmp 46) (.tmp 47), none, false⟩,
   ⟨(some 49), .call (.func 113) [(.tmp 48)], none, true⟩,
   ⟨(some 50), .build [.int .u8 0, .int .u8 0, .int .u8 0, .int .u8 0, .int .u8 0, .int .u8 0, .int .u8 0, .int .u8 0, .int .u8 0, .int .u8 0, .int .u8 0, .int .u8 0, .int .u8 0, .int .u8 0, .int .u8 0, .int .u8 0, .int .u8 0, .int .u8 0, .int .u8 0, .int .u8 0, .int .u8 0, .int .u8 0, .int .u8 0, .int .u8 0, .int .u8 0, .int .u8 0, .int .u8 0] [(0, 9, (.tmp 37)), (9, 9, (.tmp 43)), (18, 9, (.tmp 49))], none, false⟩,
   ⟨(some 51), .bslice 114 27 1 [.int .u8 0, .int .u8 0, .int .u8 0, .int .u8 0, .int .u8 0, .int .u8 0, .int .u8 0, .int .u8 0, .int .u8 0, .int .u8 0, .int .u8 0, .int .u8 0, .int .u8 0, .int .u8 0, .int .u8 0, .int .u8 0, .int .u8 0, .int .u8 0, .int .u8 0, .int .u8 0, .int .u8 0, .int .u8 0, .int .u8 0, .int .u8 0, .int .u8 0, .int .u8 0, .int .u8 0] [(0, 27, (.tmp 50))], none, false⟩,
   ⟨(some 52), .app 114 27 27 (.tmp 31) (.tmp 51), none, false⟩,
   ⟨(some 53), .fadr 4 (.tmp 9), none, false⟩,
   ⟨none, .store 1 (.tmp 53) (.tmp 52), none, false⟩])))
  (.reg [⟨(some 54), .bin .add (.tmp 27) (.const (.int .i64 1)), none, false⟩,
   ⟨(some 27), .mv (.tmp 54), none, false⟩])))))))))
  (.reg [⟨(some 55), .bin .add (.tmp 23) (.const (.int .i64 1)), none, false⟩,
   ⟨(some 23), .mv (.tmp 55), none, false⟩])))))))))
  (.reg [⟨(some 56), .bin .add (.tmp 19) (.const (.int .i64 1)), none, false⟩,
   ⟨(some 19), .mv (.tmp 56), none, false⟩])))))))
  (.seq (.reg [⟨(some 57), .loadn 5 (.tmp 9), none, false⟩,
   ⟨none, .store 5 (.tmp 8) (.tmp 57), none, false⟩])
  .ret))))⟩

theorem s97 : compFn Try.prog Try.f97 = some c97 := by kernel_rfl

/-- loop.example/g01262/impl.tensor -/
def c98 : XFn :=
 ⟨[.celln 10 5],
  (.seq (.reg [⟨(some 10), .alloc 24 [.int .i64 0, .int .i64 0, .int .i64 0, .int .i64 0, .slice none 0 0], none, false⟩])
  (.seq (.reg [⟨(some 15), .mv (.tmp 0), none, false⟩,
   ⟨(some 16), .mv (.tmp 1), none, false⟩,
   ⟨(some 17), .mv (.tmp 2), none, false⟩,
   ⟨(some 18), .mv (.tmp 3), none, false⟩,
   ⟨(some 19), .build [.int .i64 0, .int .i64 0, .int .i64 0, .int .i64 0, .slice none 0 0] [(0, 1, (.tmp 15)), (1, 1, (.tmp 16)), (2, 1, (.tmp 17)), (3, 1, (.tmp 18))], none, false⟩,
   ⟨(some 11), .alloc 24 [.int .i64 0, .int .i64 0, .int .i64 0, .int .i64 0, .slice none 0 0], none, false⟩,
   ⟨none, .store 5 (.tmp 11) (.tmp 19), none, false⟩])
  (.seq (.seq (.reg [⟨(some 20), .mv (.tmp 1), none, false⟩,
   ⟨(some 21), .mv (.const (.int .i64 0)), none, false⟩])
  (.blk 0 (.loop (.seq (.reg [⟨(some 22), .bin .lss (.tmp 21) (.tmp 20), none, false⟩])
  (.seq (.cond (.tmp 22) .skip (.exit 0))
  (.seq (.blk 1 (.seq (.reg [⟨(some 23), .mv (.tmp 21), none, false⟩,
   ⟨(some 12), .mv (.tmp 23), none, false⟩])
  (.seq (.reg [⟨(some 24), .mv (.tmp 2), none, false⟩,
   ⟨(some 25), .mv (.const (.int .i64 0)), none, false⟩])
  (.blk 2 (.loop (.seq (.reg [⟨(some 26), .bin .lss (.tmp 25) (.tmp 24), none, false⟩])
  (.seq (.cond (.tmp 26) .skip (.exit 2))
  (.seq (.blk 3 (.seq (.reg [⟨(some 27), .mv (.tmp 25), none, false⟩,
   ⟨(some 13), .mv (.tmp 27), none, false⟩])
  (.seq (.reg [⟨(some 28), .mv (.tmp 3), none, false⟩,
   ⟨(some 29), .mv (.const (.int .i64 0)), none, false⟩])
  (.blk 4 (.loop (.seq (.reg [⟨(some 30), .bin .lss (.tmp 29) (.tmp 28), none, false⟩])
  (.seq (.cond (.tmp 30) .skip (.exit 4))
  (.seq (.blk 5 (.seq (.reg [⟨(some 31), .mv (.tmp 29), none, false⟩,
   ⟨(some 14), .mv (.tmp 31), none, false⟩])
  (.reg [⟨(some 32), .fadr 4 (.tmp 11), none, false⟩,
   ⟨(some 33), .load1 (.tmp 32), none, false⟩,
   ⟨(some 34), .mv (.tmp 4), none, false⟩,
   ⟨(some 35), .mv (.tmp 12), none, false⟩,
   ⟨(some 36), .mv (.tmp 13), none, false⟩,
   ⟨(some 37), .mv (.tmp 14), none, false⟩,
   ⟨(some 38), .call (.tmp 34) [(.tmp 35), (.tmp 36), (.tmp 37)], none, true⟩,
   ⟨(some 39), .mv (.tmp 0), none, false⟩,
   ⟨(some 40), .bin .rem (.tmp 38) (.tmp 39), none, false⟩,
   ⟨(some 41), .bslice 2 1 1 [.int .i64 0] [(0, 1, (.tmp 40))], none, false⟩,
   ⟨(some 42), .app 2 1 8 (.tmp 33) (.tmp 41), none, false⟩,
   ⟨(some 43), .fadr 4 (.tmp 11), none, false⟩,
   ⟨none, .store 1 (.tmp 43) (.tmp 42), none, false⟩])))
  (.reg [⟨(some 44), .bin .add (.tmp 29) (.const (.int .i64 1)), none, false⟩,
   ⟨(some 29), .mv (.tmp 44), none, false⟩])))))))))
  (.reg [⟨(some 45), .bin .add (.tmp 25) (.const (.int .i64 1)), none, false⟩,
   ⟨(some 25), .mv (.tmp 45), none, false⟩])))))))))
  (.reg [⟨(some 46), .bin .add (.tmp 21) (.const (.int .i64 1)), none, false⟩,
   ⟨(some 21), .mv (.tmp 46), none, false⟩])))))))
  (.seq (.reg [⟨(some 47), .loadn 5 (.tmp 11), none, false⟩,
   ⟨none, .store 5 (.tmp 10) (.tmp 47), none, false⟩])
  .ret))))⟩

theorem s98 : compFn Try.prog Try.f98 = some c98 := by kernel_rfl

/-- loop.example/g01262/impl.tensorOf$1 -/
def c99 : XFn :=
 ⟨[.tmp 7],
  (.seq (.reg [⟨(some 7), .mv (.const (.int .i64 0)), none, false⟩])
  (.seq (.reg [⟨(some 8), .loadn 5 (.tmp 3), none, false⟩,
   ⟨(some 9), .mv (.tmp 0), none, false⟩,
   ⟨(some 10), .mv (.tmp 1), none, false⟩,
   ⟨(some 11), .mv (.tmp 2), none, false⟩,
   ⟨(some 12), .call (.func 100) [(.tmp 8), (.tmp 9), (.tmp 10), (.tmp 11)], none, false⟩,
   ⟨(some 7), .mv (.tmp 12), none, false⟩])
  .ret))⟩

theorem s99 : compFn Try.prog Try.f99 = some c99 := by kernel_rfl

/-- loop.example/g01262/impl.leftSide -/
def c100 : XFn :=
 ⟨[.tmp 8],
  (.seq (.reg [⟨(some 4), .box 49 (.tmp 0), none, false⟩,
   ⟨(some 8), .mv (.const (.int .i64 0)), none, false⟩])
  (.seq (.reg [⟨(some 9), .mv (.const (.int .i64 0)), none, false⟩])
  (.seq (.seq (.reg [⟨(some 12), .fadr 4 (.tmp 4), none, false⟩,
   ⟨(some 13), .load1 (.tmp 12), none, false⟩,
   ⟨(some 14), .len (.tmp 13), none, false⟩,
   ⟨(some 15), .mv (.const (.int .i64 0)), none, false⟩])
  (.blk 0 (.loop (.seq (.reg [⟨(some 16), .bin .lss (.tmp 15) (.tmp 14), none, false⟩])
  (.seq (.cond (.tmp 16) .skip (.exit 0))
  (.seq (.blk 1 (.seq (.reg [⟨(some 17), .ixs 27 (.tmp 13) (.tmp 15), none, false⟩,
   ⟨(some 18), .loadn 27 (.tmp 17), none, false⟩,
   ⟨(some 11), .alloc 114 [.int .u8 0, .int .u8 0, .int .u8 0, .int .u8 0, .int .u8 0, .int .u8 0, .int .u8 0, .int .u8 0, .int .u8 0, .int .u8 0, .int .u8 0, .int .u8 0, .int .u8 0, .int .u8 0, .int .u8 0, .int .u8 0, .int .u8 0, .int .u8 0, .int .u8 0, .int .u8 0, .int .u8 0, .int .u8 0, .int .u8 0, .int .u8 0, .int .u8 0, .int .u8 0, .int .u8 0], none, false⟩,
   ⟨none, .store 27 (.tmp 11) (.tmp 18), none, false⟩])
  (.reg [⟨(some 19), .mv (.tmp 9), none, false⟩,
   ⟨(some 20), .mv (.tmp 1), none, false⟩,
   ⟨(some 21), .fadr 0 (.tmp 11), none, false⟩,
   ⟨(some 22), .ixa 9 1 (.tmp 21) (.tmp 20), none, false⟩,
   ⟨(some 23), .load1 (.tmp 22), none, false⟩,
   ⟨(some 24), .conv .i64 (.tmp 23), none, false⟩,
   ⟨(some 25), .mv (.tmp 2), none, false⟩,
   ⟨(some 26), .fadr 9 (.tmp 11), none, false⟩,
   ⟨(some 27), .ixa 9 1 (.tmp 26) (.tmp 25), none, false⟩,
   ⟨(some 28), .load1 (.tmp 27), none, false⟩,
   ⟨(some 29), .conv .i64 (.tmp 28), none, false⟩,
   ⟨(some 30), .bin .mul (.tmp 24) (.tmp 29), none, false⟩,
   ⟨(some 31), .mv (.tmp 3), none, false⟩,
   ⟨(some 32), .fadr 18 (.tmp 11), none, false⟩,
   ⟨(some 33), .ixa 9 1 (.tmp 32) (.tmp 31), none, false⟩,
   ⟨(some 34), .load1 (.tmp 33), none, false⟩,
   ⟨(some 35), .conv .i64 (.tmp 34), none, false⟩,
   ⟨(some 36), .bin .mul (.tmp 30) (.tmp 35), none, false⟩,
   ⟨(some 37), .bin .add (.tmp 19) (.tmp 36), none, false⟩,
   ⟨(some 9), .mv (.tmp 37), none, false⟩])))
  (.reg [⟨(some 38), .bin .add (.tmp 15) (.const (.int .i64 1)), none, false⟩,
   ⟨(some 15), .mv (.tmp 38), none, false⟩])))))))
  (.seq (.reg [⟨(some 39), .mv (.tmp 9), none, false⟩,
   ⟨(some 40), .fadr 0 (.tmp 4), none, false⟩,
   ⟨(some 41), .load1 (.tmp 40), none, false⟩,
   ⟨(some 42), .bin .rem (.tmp 39) (.tmp 41), none, false⟩,
   ⟨(some 8), .mv (.tmp 42), none, false⟩])
  .ret))))⟩

theorem s100 : compFn Try.prog Try.f100 = some c100 := by kernel_rfl

/-- loop.example/g01262/spec.l08Like -/
def c101 : XFn :=
 ⟨[.celln 2 5],
  (.seq (.reg [⟨(some 1), .box 37 (.tmp 0), none, false⟩,
   ⟨(some 2), .alloc 49 [.int .i64 0, .int .i64 0, .int .i64 0, .int .i64 0, .slice none 0 0], none, false⟩])
  (.seq (.reg [⟨(some 3), .fadr 0 (.tmp 1), none, false⟩,
   ⟨(some 4), .load1 (.tmp 3), none, false⟩,
   ⟨(some 5), .fadr 1 (.tmp 1), none, false⟩,
   ⟨(some 6), .load1 (.tmp 5), none, false⟩,
   ⟨(some 7), .fadr 2 (.tmp 1), none, false⟩,
   ⟨(some 8), .load1 (.tmp 7), none, false⟩,
   ⟨(some 9), .fadr 3 (.tmp 1), none, false⟩,
   ⟨(some 10), .load1 (.tmp 9), none, false⟩,
   ⟨(some 11), .bslice 114 27 0 [.int .u8 0, .int .u8 0, .int .u8 0, .int .u8 0, .int .u8 0, .int .u8 0, .int .u8 0, .int .u8 0, .int .u8 0, .int .u8 0, .int .u8 0, .int .u8 0, .int .u8 0, .int .u8 0, .int .u8 0, .int .u8 0, .int .u8 0, .int .u8 0, .int .u8 0, .int .u8 0, .int .u8 0, .int .u8 0, .int .u8 0, .int .u8 0, .int .u8 0, .int .u8 0, .int .u8 0] [], none, false⟩,
   ⟨(some 12), .build [.int .i64 0, .int .i64 0, .int .i64 0, .int .i64 0, .slice none 0 0] [(0, 1, (.tmp 4)), (1, 1, (.tmp 6)), (2, 1, (.tmp 8)), (3, 1, (.tmp 10)), (4, 1, (.tmp 11))], none, false⟩,
   ⟨none, .store 5 (.tmp 2) (.tmp 12), none, false⟩])
  .ret))⟩

theorem s101 : compFn Try.prog Try.f101 = some c101 := by kernel_rfl

/-- loop.example/g01262/spec.l08Series -/
def c102 : XFn :=
 ⟨[.tmp 6],
  (.seq (.reg [⟨(some 4), .box 80 (.tmp 1), none, false⟩,
   ⟨(some 6), .mv (.const (.bool false)), none, false⟩])
  (.seq (.reg [⟨(some 7), .mv (.const (.bool false)), none, false⟩])
  (.seq (.seq (.reg [⟨(some 8), .mv (.const (.int .i64 0)), none, false⟩])
  (.blk 0 (.loop (.seq (.seq (.reg [⟨(some 10), .mv (.tmp 8), none, false⟩,
   ⟨(some 11), .bin .lss (.tmp 10) (.const (.int .i64 9)), none, false⟩])
  (.cond (.tmp 11) .skip (.exit 0)))
  (.seq (.blk 1 (.seq (.reg [⟨(some 9), .mv (.const (.int .i64 0)), none, false⟩])
  (.blk 2 (.loop (.seq (.seq (.reg [⟨(some 14), .mv (.tmp 9), none, false⟩,
   ⟨(some 15), .bin .lss (.tmp 14) (.const (.int .i64 4)), none, false⟩])
  (.cond (.tmp 15) .skip (.exit 2)))
  (.seq (.blk 3 (.seq (.seq (.reg [⟨(some 18), .mv (.tmp 8), none, false⟩,
   ⟨(some 19), .mv (.tmp 9), none, false⟩,
   ⟨(some 20), .ixa 9 4 (.tmp 4) (.tmp 18), none, false⟩,
   ⟨(some 21), .ixa 4 1 (.tmp 20) (.tmp 19), none, false⟩,
   ⟨(some 22), .load1 (.tmp 21), none, false⟩,
   ⟨(some 23), .conv .i64 (.tmp 22), none, false⟩,
   ⟨(some 24), .mv (.tmp 0), none, false⟩,
   ⟨(some 25), .bin .geq (.tmp 23) (.tmp 24), none, false⟩,
   ⟨(some 26), .mv (.tmp 25), none, false⟩,
   ⟨(some 27), .mv (.tmp 8), (some (26, false)), false⟩,
   ⟨(some 28), .mv (.tmp 2), (some (26, false)), false⟩,
   ⟨(some 29), .bin .geq (.tmp 27) (.tmp 28), (some (26, false)), false⟩,
   ⟨(some 30), .mv (.tmp 29), (some (26, false)), false⟩,
   ⟨(some 31), .mv (.tmp 8), (some (30, true)), false⟩,
   ⟨(some 32), .mv (.tmp 9), (some (30, true)), false⟩,
   ⟨(some 33), .ixa 9 4 (.tmp 4) (.tmp 31), (some (30, true)), false⟩,
   ⟨(some 34), .ixa 4 1 (.tmp 33) (.tmp 32), (some (30, true)), false⟩,
   ⟨(some 35), .load1 (.tmp 34), (some (30, true)), false⟩,
   ⟨(some 36), .bin .neq (.tmp 35) (.const (.int .u8 0)), (some (30, true)), false⟩,
   ⟨(some 37), .pick (.tmp 30) (.tmp 36) (.const (.bool false)), (some (26, false)), false⟩,
   ⟨(some 38), .pick (.tmp 26) (.const (.bool true)) (.tmp 37), none, false⟩])
  (.cond (.tmp 38) (.seq (.reg [⟨(some 6), .mv (.const (.bool false)), none, false⟩])
  .ret) .skip))
  (.reg [⟨(some 39), .mv (.tmp 7), none, false⟩,
   ⟨(some 40), .mv (.tmp 39), none, false⟩,
   ⟨(some 41), .mv (.tmp 8), (some (40, false)), false⟩,
   ⟨(some 42), .mv (.tmp 9), (some (40, false)), false⟩,
   ⟨(some 43), .ixa 9 4 (.tmp 4) (.tmp 41), (some (40, false)), false⟩,
   ⟨(some 44), .ixa 4 1 (.tmp 43) (.tmp 42), (some (40, false)), false⟩,
   ⟨(some 45), .load1 (.tmp 44), (some (40, false)), false⟩,
   ⟨(some 46), .bin .neq (.tmp 45) (.const (.int .u8 0)), (some (40, false)), false⟩,
   ⟨(some 47), .pick (.tmp 40) (.const (.bool true)) (.tmp 46), none, false⟩,
   ⟨(some 7), .mv (.tmp 47), none, false⟩])))
  (.reg [⟨(some 16), .mv (.tmp 9), none, false⟩,
   ⟨(some 17), .bin .add (.tmp 16) (.const (.int .i64 1)), none, false⟩,
   ⟨(some 9), .mv (.tmp 17), none, false⟩])))))))
  (.reg [⟨(some 12), .mv (.tmp 8), none, false⟩,
   ⟨(some 13), .bin .add (.tmp 12) (.const (.int .i64 1)), none, false⟩,
   ⟨(some 8), .mv (.tmp 13), none, false⟩]))))))
  (.seq (.reg [⟨(some 48), .mv (.tmp 7), none, false⟩,
   ⟨(some 6), .mv (.tmp 48), none, false⟩])
  .ret))))⟩

theorem s102 : compFn Try.prog Try.f102 = some c102 := by kernel_rfl

/-- loop.example/g01262/laws.toTwig -/
def c103 : XFn :=
 ⟨[.celln 2 108],
  (.seq (.reg [⟨(some 1), .box 121 (.tmp 0), none, false⟩,
   ⟨(some 2), .alloc 82 [.int .u8 0, .int .u8 0, .int .u8 0, .int .u8 0, .int .u8 0, .int .u8 0, .int .u8 0, .int .u8 0, .int .u8 0, .int .u8 0, .int .u8 0, .int .u8 0, .int .u8 0, .int .u8 0, .int .u8 0, .int .u8 0, .int .u8 0, .int .u8 0, .int .u8 0, .int .u8 0, .int .u8 0, .int .u8 0, .int .u8 0, .int .u8 0, .int .u8 0, .int .u8 0, .int .u8 0, .int .u8 0, .int .u8 0, .int .u8 0, .int .u8 0, .int .u8 0, .int .u8 0, .int .u8 0, .int .u8 0, .int .u8 0, .int .u8 0, .int .u8 0, .int .u8 0, .int .u8 0, .int .u8 0, .int .u8 0, .int .u8 0, .int .u8 0, .int .u8 0, .int .u8 0, .int .u8 0, .int .u8 0, .int .u8 0, .int .u8 0, .int .u8 0, .int .u8 0, .int .u8 0, .int .u8 0, .int .u8 0, .int .u8 0, .int .u8 0, .int .u8 0, .int .u8 0, .int .u8 0, .int .u8 0, .int .u8 0, .int .u8 0, .int .u8 0, .int .u8 0, .int .u8 0, .int .u8 0, .int .u8 0, .int .u8 0, .int .u8 0, .int .u8 0, .int .u8 0, .int .u8 0, .int .u8 0, .int .u8 0, .int .u8 0, .int .u8 0, .int .u8 0, .int .u8 0, .int .u8 0, .int .u8 0, .int .u8 0, .int .u8 0, .int .u8 0, .int .u8 0, .int .u8 0, .int .u8 0, .int .u8 0, .int .u8 0, .int .u8 0, .int .u8 0, .int .u8 0, .int .u8 0, .int .u8 0, .int .u8 0, .int .u8 0, .int .u8 0, .int .u8 0, .int .u8 0, .int .u8 0, .int .u8 0, .int .u8 0, .int .u8 0, .int .u8 0, .int .u8 0, .int .u8 0, .int .u8 0, .int .u8 0], none, false⟩])
  (.seq (.reg [⟨(some 3), .alloc 82 [.int .u8 0, .int .u8 0, .int .u8 0, .int .u8 0, .int .u8 0, .int .u8 0, .int .u8 0, .int .u8 0, .int .u8 0, .int .u8 0, .int .u8 0, .int .u8 0, .int .u8 0, .int .u8 0, .int .u8 0, .int .u8 0, .int .u8 0, .int .u8 0, .int .u8 0, .int .u8 0, .int .u8 0, .int .u8 0, .int .u8 0, .int .u8 0, .int .u8 0, .int .u8 0, .int .u8 0, .int .u8 0, .int .u8 0, .int .u8 0, .int .u8 0, .int .u8 0, .int .u8 0, .int .u8 0, .int .u8 0, .int .u8 0, .int .u8 0, .int .u8 0, .int .u8 0, .int .u8 0, .int .u8 0, .int .u8 0, .int .u8 0, .int .u8 0, .int .u8 0, .int .u8 0, .int .u8 0, .int .u8 0, .int .u8 0, .int .u8 0, .int .u8 0, .int .u8 0, .int .u8 0, .int .u8 0, .int .u8 0, .int .u8 0, .int .u8 0, .int .u8 0, .int .u8 0, .int .u8 0, .int .u8 0, .int .u8 0, .int .u8 0, .int .u8 0, .int .u8 0, .int .u8 0, .int .u8 0, .int .u8 0, .int .u8 0, .int .u8 0, .int .u8 0, .int .u8 0, .int .u8 0, .int .u8 0, .int .u8 0, .int .u8 0, .int .u8 0, .int .u8 0, .int .u8 0, .int .u8 0, .int .u8 0, .int .u8 0, .int .u8 0, .int .u8 0, .int .u8 0, .int .u8 0, .int .u8 0, .int .u8 0, .int .u8 0, .int .u8 0, .int .u8 0, .int .u8 0, .int .u8 0, .int .u8 0, .int .u8 0, .int .u8 0, .int .u8 0, .int .u8 0, .int .u8 0, .int .u8 0, .int .u8 0, .int .u8 0, .int .u8 0, .int .u8 0, .int .u8 0, .int .u8 0, .int .u8 0, .int .u8 0], none, false⟩])
  (.seq (.reg [⟨(some 4), .fadr 0 (.tmp 1), none, false⟩,
   ⟨(some 5), .loadn 36 (.tmp 4), none, false⟩,
   ⟨(some 6), .call (.func 114) [(.tmp 5)], none, false⟩,
   ⟨(some 7), .fadr 0 (.tmp 3), none, false⟩,
   ⟨none, .store 36 (.tmp 7) (.tmp 6), none, false⟩])
  (.seq (.reg [⟨(some 8), .fadr 36 (.tmp 1), none, false⟩,
   ⟨(some 9), .loadn 36 (.tmp 8), none, false⟩,
   ⟨(some 10), .call (.func 114) [(.tmp 9)], none, false⟩,
   ⟨(some 11), .fadr 36 (.tmp 3), none, false⟩,
   ⟨none, .store 36 (.tmp 11) (.tmp 10), none, false⟩])
  (.seq (.reg [⟨(some 12), .fadr 72 (.tmp 1), none, false⟩,
   ⟨(some 13), .loadn 36 (.tmp 12), none, false⟩,
   ⟨(some 14), .call (.func 114) [(.tmp 13)], none, false⟩,
   ⟨(some 15), .fadr 72 (.tmp 3), none, false⟩,
   ⟨none, .store 36 (.tmp 15) (.tmp 14), none, false⟩])
  (.seq (.reg [⟨(some 16), .loadn 108 (.tmp 3), none, false⟩,
   ⟨none, .store 108 (.tmp 2) (.tmp 16), none, false⟩])
  .ret))))))⟩

theorem s103 : compFn Try.prog Try.f103 = some c103 := by kernel_rfl

/-- loop.example/g01262/impl.isProduct -/
def c104 : XFn :=
 ⟨[.tmp 6],
  (.seq (.reg [⟨(some 4), .box 76 (.tmp 1), none, false⟩,
   ⟨(some 5), .box 114 (.tmp 2), none, false⟩,
   ⟨(some 6), .mv (.const (.bool false)), none, false⟩])
  (.seq (.seq (.reg [⟨(some 9), .loadn 27 (.tmp 5), none, false⟩,
   ⟨(some 10), .call (.func 115) [(.tmp 9)], none, false⟩,
   ⟨(some 11), .mv (.const (.int .i64 0)), none, false⟩])
  (.blk 0 (.loop (.seq (.reg [⟨(some 12), .bin .lss (.tmp 11) (.const (.int .i64 3)), none, false⟩])
  (.seq (.cond (.tmp 12) .skip (.exit 0))
  (.seq (.blk 1 (.seq (.reg [⟨(some 13), .mv (.tmp 11), none, false⟩,
   ⟨(some 14), .idxn 3 9 (.tmp 10) (.tmp 11), none, false⟩,
   ⟨(some 8), .alloc 112 [.int .u8 0, .int .u8 0, .int .u8 0, .int .u8 0, .int .u8 0, .int .u8 0, .int .u8 0, .int .u8 0, .int .u8 0], none, false⟩,
   ⟨(some 7), .mv (.tmp 13), none, false⟩,
   ⟨none, .store 9 (.tmp 8) (.tmp 14), none, false⟩])
  (.seq (.reg [⟨(some 15), .mv (.tmp 0), none, false⟩,
   ⟨(some 16), .mv (.tmp 7), none, false⟩,
   ⟨(some 17), .ixa 3 1 (.tmp 4) (.tmp 16), none, false⟩,
   ⟨(some 18), .load1 (.tmp 17), none, false⟩,
   ⟨(some 19), .loadn 9 (.tmp 8), none, false⟩,
   ⟨(some 20), .call (.func 116) [(.tmp 15), (.tmp 18), (.tmp 19)], none, false⟩,
   ⟨(some 21), .un .not (.tmp 20), none, false⟩])
  (.cond (.tmp 21) (.seq (.reg [⟨(some 6), .mv (.const (.bool false)), none, false⟩])
  .ret) .skip))))
  (.reg [⟨(some 22), .bin .add (.tmp 11) (.const (.int .i64 1)), none, false⟩,
   ⟨(some 11), .mv (.tmp 22), none, false⟩])))))))
  (.seq (.reg [⟨(some 23), .loadn 27 (.tmp 5), none, false⟩,
   ⟨(some 24), .call (.func 117) [(.tmp 23)], none, false⟩,
   ⟨(some 25), .un .not (.tmp 24), none, false⟩,
   ⟨(some 6), .mv (.tmp 25), none, false⟩])
  .ret)))⟩

theorem s104 : compFn Try.prog Try.f104 = some c104 := by kernel_rfl

/-- loop.example/g01262/laws.eqTwig -/
def c105 : XFn :=
 ⟨[.tmp 4],
  (.seq (.reg [⟨(some 2), .box 82 (.tmp 0), none, false⟩,
   ⟨(some 3), .box 82 (.tmp 1), none, false⟩,
   ⟨(some 4), .mv (.const (.bool false)), none, false⟩])
  (.seq (.seq (.reg [⟨(some 5), .fadr 0 (.tmp 2), none, false⟩,
   ⟨(some 6), .loadn 36 (.tmp 5), none, false⟩,
   ⟨(some 7), .fadr 0 (.tmp 3), none, false⟩,
   ⟨(some 8), .loadn 36 (.tmp 7), none, false⟩,
   ⟨(some 9), .call (.func 118) [(.tmp 6), (.tmp 8)], none, false⟩,
   ⟨(some 10), .un .not (.tmp 9), none, false⟩])
  (.cond (.tmp 10) (.seq (.reg [⟨(some 4), .mv (.const (.bool false)), none, false⟩])
  .ret) .skip))
  (.seq (.seq (.reg [⟨(some 11), .fadr 36 (.tmp 2), none, false⟩,
   ⟨(some 12), .loadn 36 (.tmp 11), none, false⟩,
   ⟨(some 13), .fadr 36 (.tmp 3), none, false⟩,
   ⟨(some 14), .loadn 36 (.tmp 13), none, false⟩,
   ⟨(some 15), .call (.func 118) [(.tmp 12), (.tmp 14)], none, false⟩,
   ⟨(some 16), .un .not (.tmp 15), none, false⟩])
  (.cond (.tmp 16) (.seq (.reg [⟨(some 4), .mv (.const (.bool false)), none, false⟩])
  .ret) .skip))
  (.seq (.seq (.reg [⟨(some 17), .fadr 72 (.tmp 2), none, false⟩,
   ⟨(some 18), .loadn 36 (.tmp 17), none, false⟩,
   ⟨(some 19), .fadr 72 (.tmp 3), none, false⟩,
   ⟨(some 20), .loadn 36 (.tmp 19), none, false⟩,
   ⟨(some 21), .call (.func 118) [(.tmp 18), (.tmp 20)], none, false⟩,
   ⟨(some 22), .un .not (.tmp 21), none, false⟩])
  (.cond (.tmp 22) (.seq (.reg [⟨(some 4), .mv (.const (.bool false)), none, false⟩])
  .ret) .skip))
  (.seq (.reg [⟨(some 4), .mv (.const (.bool true)), none, false⟩])
  .ret)))))⟩

theorem s105 : compFn Try.prog Try.f105 = some c105 := by kernel_rfl

/-- loop.example/g01262/laws.toProduct -/
def c106 : XFn :=
 ⟨[.celln 2 27],
  (.seq (.reg [⟨(some 1), .box 126 (.tmp 0), none, false⟩,
   ⟨(some 2), .alloc 114 [.int .u8 0, .int .u8 0, .int .u8 0, .int .u8 0, .int .u8 0, .int .u8 0, .int .u8 0, .int .u8 0, .int .u8 0, .int .u8 0, .int .u8 0, .int .u8 0, .int .u8 0, .int .u8 0, .int .u8 0, .int .u8 0, .int .u8 0, .int .u8 0, .int .u8 0, .int .u8 0, .int .u8 0, .int .u8 0, .int .u8 0, .int .u8 0, .int .u8 0, .int .u8 0, .int .u8 0], none, false⟩])
  (.seq (.reg [⟨(some 3), .alloc 114 [.int .u8 0, .int .u8 0, .int .u8 0, .int .u8 0, .int .u8 0, .int .u8 0, .int .u8 0, .int .u8 0, .int .u8 0, .int .u8 0, .int .u8 0, .int .u8 0, .int .u8 0, .int .u8 0, .int .u8 0, .int .u8 0, .int .u8 0, .int .u8 0, .int .u8 0, .int .u8 0, .int .u8 0, .int .u8 0, .int .u8 0, .int .u8 0, .int .u8 0, .int .u8 0, .int .u8 0], none, false⟩])
  (.seq (.reg [⟨(some 4), .fadr 0 (.tmp 1), none, false⟩,
   ⟨(some 5), .loadn 9 (.tmp 4), none, false⟩,
   ⟨(some 6), .call (.func 119) [(.tmp 5)], none, false⟩,
   ⟨(some 7), .fadr 0 (.tmp 3), none, false⟩,
   ⟨none, .store 9 (.tmp 7) (.tmp 6), none, false⟩])
  (.seq (.reg [⟨(some 8), .fadr 9 (.tmp 1), none, false⟩,
   ⟨(some 9), .loadn 9 (.tmp 8), none, false⟩,
   ⟨(some 10), .call (.func 119) [(.tmp 9)], none, false⟩,
   ⟨(some 11), .fadr 9 (.tmp 3), none, false⟩,
   ⟨none, .store 9 (.tmp 11) (.tmp 10), none, false⟩])
  (.seq (.reg [⟨(some 12), .fadr 18 (.tmp 1), none, false⟩,
   ⟨(some 13), .loadn 9 (.tmp 12), none, false⟩,
   ⟨(some 14), .call (.func 119) [(.tmp 13)], none, false⟩,
   ⟨(some 15), .fadr 18 (.tmp 3), none, false⟩,
   ⟨none, .store 9 (.tmp 15) (.tmp 14), none, false⟩])
  (.seq (.reg [⟨(some 16), .loadn 27 (.tmp 3), none, false⟩,
   ⟨none, .store 27 (.tmp 2) (.tmp 16), none, false⟩])
  .ret))))))⟩

theorem s106 : compFn Try.prog Try.f106 = some c106 := by kernel_rfl

/-- loop.example/g01262/laws.eqProduct -/
def c107 : XFn :=
 ⟨[.tmp 4],
  (.seq (.reg [⟨(some 2), .box 114 (.tmp 0), none, false⟩,
   ⟨(some 3), .box 114 (.tmp 1), none, false⟩,
   ⟨(some 4), .mv (.const (.bool false)), none, false⟩])
  (.seq (.seq (.reg [⟨(some 5), .fadr 0 (.tmp 2), none, false⟩,
   ⟨(some 6), .loadn 9 (.tmp 5), none, false⟩,
   ⟨(some 7), .fadr 0 (.tmp 3), none, false⟩,
   ⟨(some 8), .loadn 9 (.tmp 7), none, false⟩,
   ⟨(some 9), .call (.func 120) [(.tmp 6), (.tmp 8)], none, false⟩,
   ⟨(some 10), .un .not (.tmp 9), none, false⟩])
  (.cond (.tmp 10) (.seq (.reg [⟨(some 4), .mv (.const (.bool false)), none, false⟩])
  .ret) .skip))
  (.seq (.seq (.reg [⟨(some 11), .fadr 9 (.tmp 2), none, false⟩,
   ⟨(some 12), .loadn 9 (.tmp 11), none, false⟩,
   ⟨(some 13), .fadr 9 (.tmp 3), none, false⟩,
   ⟨(some 14), .loadn 9 (.tmp 13), none, false⟩,
   ⟨(some 15), .call (.func 120) [(.tmp 12), (.tmp 14)], none, false⟩,
   ⟨(some 16), .un .not (.tmp 15), none, false⟩])
  (.cond (.tmp 16) (.seq (.reg [⟨(some 4), .mv (.const (.bool false)), none, false⟩])
  .ret) .skip))
  (.seq (.seq (.reg [⟨(some 17), .fadr 18 (.tmp 2), none, false⟩,
   ⟨(some 18), .loadn 9 (.tmp 17), none, false⟩,
   ⟨(some 19), .fadr 18 (.tmp 3), none, false⟩,
   ⟨(some 20), .loadn 9 (.tmp 19), none, false⟩,
   ⟨(some 21), .call (.func 120) [(.tmp 18), (.tmp 20)], none, false⟩,
   ⟨(some 22), .un .not (.tmp 21), none, false⟩])
  (.cond (.tmp 22) (.seq (.reg [⟨(some 4), .mv (.const (.bool false)), none, false⟩])
  .ret) .skip))
  (.seq (.reg [⟨(some 4), .mv (.const (.bool true)), none, false⟩])
  .ret)))))⟩

theorem s107 : compFn Try.prog Try.f107 = some c107 := by kernel_rfl

/-- cmp.isNaN[int] -/
def c108 : XFn :=
 ⟨[.tmp 2],
  (.seq (.reg [⟨(some 2), .mv (.const (.bool false)), none, false⟩])
  (.seq (.reg [⟨(some 3), .mv (.tmp 0), none, false⟩,
   ⟨(some 4), .mv (.tmp 0), none, false⟩,
   ⟨(some 5), .bin .neq (.tmp 3) (.tmp 4), none, false⟩,
   ⟨(some 2), .mv (.tmp 5), none, false⟩])
  .ret))⟩

theorem s108 : compFn Try.prog Try.f108 = some c108 := by kernel_rfl

/-- loop.example/g01262/spec.l01Product -/
def c109 : XFn :=
 ⟨[.tmp 4],
  (.seq (.reg [⟨(some 2), .box 49 (.tmp 0), none, false⟩,
   ⟨(some 3), .box 114 (.tmp 1), none, false⟩,
   ⟨(some 4), .mv (.const (.bool false)), none, false⟩])
  (.seq (.reg [⟨(some 9), .loadn 5 (.tmp 2), none, false⟩,
   ⟨(some 10), .call (.func 78) [(.tmp 9)], none, false⟩,
   ⟨(some 8), .mv (.tmp 10), none, false⟩,
   ⟨(some 11), .ext (.tmp 8) 0, none, false⟩,
   ⟨(some 12), .ext (.tmp 8) 1, none, false⟩,
   ⟨(some 13), .ext (.tmp 8) 2, none, false⟩,
   ⟨(some 5), .mv (.tmp 11), none, false⟩,
   ⟨(some 6), .mv (.tmp 12), none, false⟩,
   ⟨(some 7), .mv (.tmp 13), none, false⟩])
  (.seq (.seq (.reg [⟨(some 14), .fadr 0 (.tmp 2), none, false⟩,
   ⟨(some 15), .load1 (.tmp 14), none, false⟩,
   ⟨(some 16), .fadr 0 (.tmp 3), none, false⟩,
   ⟨(some 17), .loadn 9 (.tmp 16), none, false⟩,
   ⟨(some 18), .mv (.tmp 5), none, false⟩,
   ⟨(some 19), .call (.func 121) [(.tmp 15), (.tmp 17), (.tmp 18)], none, false⟩,
   ⟨(some 20), .un .not (.tmp 19), none, false⟩,
   ⟨(some 21), .mv (.tmp 20), none, false⟩,
   ⟨(some 22), .fadr 0 (.tmp 2), (some (21, false)), false⟩,
   ⟨(some 23), .load1 (.tmp 22), (some (21, false)), false⟩,
   ⟨(some 24), .fadr 9 (.tmp 3), (some (21, false)), false⟩,
   ⟨(some 25), .loadn 9 (.tmp 24), (some (21, false)), false⟩,
   ⟨(some 26), .mv (.tmp 6), (some (21, false)), false⟩,
   ⟨(some 27), .call (.func 121) [(.tmp 23), (.tmp 25), (.tmp 26)], (some (21, false)), false⟩,
   ⟨(some 28), .un .not (.tmp 27), (some (21, false)), false⟩,
   ⟨(some 29), .pick (.tmp 21) (.const (.bool true)) (.tmp 28), none, false⟩,
   ⟨(some 30), .mv (.tmp 29), none, false⟩,
   ⟨(some 31), .fadr 0 (.tmp 2), (some (30, false)), false⟩,
   ⟨(some 32), .load1 (.tmp 31), (some (30, false)), false⟩,
   ⟨(some 33), .fadr 18 (.tmp 3), (some (30, false)), false⟩,
   ⟨(some 34), .loadn 9 (.tmp 33), (some (30, false)), false⟩,
   ⟨(some 35), .mv (.tmp 7), (some (30, false)), false⟩,
   ⟨(some 36), .call (.func 121) [(.tmp 32), (.tmp 34), (.tmp 35)], (some (30, false)), false⟩,
   ⟨(some 37), .un .not (.tmp 36), (some (30, false)), false⟩,
   ⟨(some 38), .pick (.tmp 30) (.const (.bool true)) (.tmp 37), none, false⟩])
  (.cond (.tmp 38) (.seq (.reg [⟨(some 4), .mv (.const (.bool false)), none, false⟩])
  .ret) .skip))
  (.seq (.reg [⟨(some 39), .fadr 0 (.tmp 3), none, false⟩,
   ⟨(some 40), .loadn 9 (.tmp 39), none, false⟩,
   ⟨(some 41), .call (.func 122) [(.tmp 40)], none, false⟩,
   ⟨(some 42), .un .not (.tmp 41), none, false⟩,
   ⟨(some 43), .mv (.tmp 42), none, false⟩,
   ⟨(some 44), .fadr 9 (.tmp 3), (some (43, true)), false⟩,
   ⟨(some 45), .loadn 9 (.tmp 44), (some (43, true)), false⟩,
   ⟨(some 46), .call (.func 122) [(.tmp 45)], (some (43, true)), false⟩,
   ⟨(some 47), .un .not (.tmp 46), (some (43, true)), false⟩,
   ⟨(some 48), .pick (.tmp 43) (.tmp 47) (.const (.bool false)), none, false⟩,
   ⟨(some 49), .mv (.tmp 48), none, false⟩,
   ⟨(some 50), .fadr 18 (.tmp 3), (some (49, true)), false⟩,
   ⟨(some 51), .loadn 9 (.tmp 50), (some (49, true)), false⟩,
   ⟨(some 52), .call (.func 122) [(.tmp 51)], (some (49, true)), false⟩,
   ⟨(some 53), .un .not (.tmp 52), (some (49, true)), false⟩,
   ⟨(some 54), .pick (.tmp 49) (.tmp 53) (.const (.bool false)), none, false⟩,
   ⟨(some 4), .mv (.tmp 54), none, false⟩])
  .ret))))⟩

theorem s109 : compFn Try.prog Try.f109 = some c109 := by kernel_rfl

/-- loop.example/g01262/spec.l06Weight -/
def c110 : XFn :=
 ⟨[.tmp 2],
  (.seq (.reg [⟨(some 1), .box 112 (.tmp 0), none, false⟩,
   ⟨(some 2), .mv (.const (.int .i64 0)), none, false⟩])
  (.seq (.reg [⟨(some 3), .mv (.const (.int .i64 0)), none, false⟩])
  (.seq (.seq (.reg [⟨(some 4), .mv (.const (.int .i64 0)), none, false⟩])
  (.blk 0 (.loop (.seq (.seq (.reg [⟨(some 5), .mv (.tmp 4), none, false⟩,
   ⟨(some 6), .bin .lss (.tmp 5) (.const (.int .i64 9)), none, false⟩])
  (.cond (.tmp 6) .skip (.exit 0)))
  (.seq (.blk 1 (.seq (.reg [⟨(some 9), .mv (.tmp 4), none, false⟩,
   ⟨(some 10), .ixa 9 1 (.tmp 1) (.tmp 9), none, false⟩,
   ⟨(some 11), .load1 (.tmp 10), none, false⟩,
   ⟨(some 12), .bin .neq (.tmp 11) (.const (.int .u8 0)), none, false⟩])
  (.cond (.tmp 12) (.reg [⟨(some 13), .mv (.tmp 3), none, false⟩,
   ⟨(some 14), .bin .add (.tmp 13) (.const (.int .i64 1)), none, false⟩,
   ⟨(some 3), .mv (.tmp 14), none, false⟩]) .skip)))
  (.reg [⟨(some 7), .mv (.tmp 4), none, false⟩,
   ⟨(some 8), .bin .add (.tmp 7) (.const (.int .i64 1)), none, false⟩,
   ⟨(some 4), .mv (.tmp 8), none, false⟩]))))))
  (.seq (.reg [⟨(some 15), .mv (.tmp 3), none, false⟩,
   ⟨(some 2), .mv (.tmp 15), none, false⟩])
  .ret))))⟩

theorem s110 : compFn Try.prog Try.f110 = some c110 := by kernel_rfl

/-- loop.example/g01262/impl.weight -/
def c111 : XFn :=
 ⟨[.tmp 2],
  (.seq (.reg [⟨(some 1), .box 112 (.tmp 0), none, false⟩,
   ⟨(some 2), .mv (.const (.int .i64 0)), none, false⟩])
  (.seq (.reg [⟨(some 3), .mv (.const (.int .i64 0)), none, false⟩])
  (.seq (.seq (.reg [⟨(some 6), .loadn 9 (.tmp 1), none, false⟩,
   ⟨(some 7), .mv (.const (.int .i64 0)), none, false⟩])
  (.blk 0 (.loop (.seq (.reg [⟨(some 8), .bin .lss (.tmp 7) (.const (.int .i64 9)), none, false⟩])
  (.seq (.cond (.tmp 8) .skip (.exit 0))
  (.seq (.blk 1 (.seq (.reg [⟨(some 9), .idx1 9 (.tmp 6) (.tmp 7), none, false⟩,
   ⟨(some 5), .mv (.tmp 9), none, false⟩])
  (.seq (.reg [⟨(some 10), .mv (.tmp 5), none, false⟩,
   ⟨(some 11), .bin .neq (.tmp 10) (.const (.int .u8 0)), none, false⟩])
  (.cond (.tmp 11) (.reg [⟨(some 12), .mv (.tmp 3), none, false⟩,
   ⟨(some 13), .bin .add (.tmp 12) (.const (.int .i64 1)), none, false⟩,
   ⟨(some 3), .mv (.tmp 13), none, false⟩]) .skip))))
  (.reg [⟨(some 14), .bin .add (.tmp 7) (.const (.int .i64 1)), none, false⟩,
   ⟨(some 7), .mv (.tmp 14), none, false⟩])))))))
  (.seq (.reg [⟨(some 15), .mv (.tmp 3), none, false⟩,
   ⟨(some 2), .mv (.tmp 15), none, false⟩])
  .ret))))⟩

theorem s111 : compFn Try.prog Try.f111 = some c111 := by kernel_rfl

/-- loop.example/g01262/impl.limited -/
def c112 : XFn :=
 ⟨[.tmp 2],
  (.seq (.reg [⟨(some 2), .mv (.const (.int .i64 0)), none, false⟩])
  (.seq (.reg [⟨(some 3), .mv (.const (.int .i64 0)), none, false⟩])
  (.seq (.seq (.reg [⟨(some 8), .mv (.tmp 0), none, false⟩,
   ⟨(some 9), .len (.tmp 8), none, false⟩,
   ⟨(some 10), .mv (.const (.int .i64 0)), none, false⟩])
  (.blk 0 (.loop (.seq (.reg [⟨(some 11), .bin .lss (.tmp 10) (.tmp 9), none, false⟩])
  (.seq (.cond (.tmp 11) .skip (.exit 0))
  (.seq (.blk 1 (.seq (.reg [⟨(some 12), .ixs 2 (.tmp 8) (.tmp 10), none, false⟩,
   ⟨(some 13), .loadn 2 (.tmp 12), none, false⟩,
   ⟨(some 5), .alloc 134 [.int .i64 0, .int .i64 0], none, false⟩,
   ⟨none, .store 2 (.tmp 5) (.tmp 13), none, false⟩])
  (.seq (.reg [⟨(some 14), .ixa 2 1 (.tmp 5) (.const (.int .i64 0)), none, false⟩,
   ⟨(some 15), .load1 (.tmp 14), none, false⟩,
   ⟨(some 16), .mm false (.tmp 15) [(.const (.int .i64 1000000000000001))], none, false⟩,
   ⟨(some 17), .ixa 2 1 (.tmp 5) (.const (.int .i64 1)), none, false⟩,
   ⟨(some 18), .load1 (.tmp 17), none, false⟩,
   ⟨(some 19), .mm false (.tmp 18) [(.const (.int .i64 1000000000000001))], none, false⟩,
   ⟨(some 6), .mv (.tmp 16), none, false⟩,
   ⟨(some 7), .mv (.tmp 19), none, false⟩])
  (.seq (.seq (.reg [⟨(some 20), .mv (.tmp 7), none, false⟩,
   ⟨(some 21), .bin .gtr (.tmp 20) (.const (.int .i64 0)), none, false⟩,
   ⟨(some 22), .mv (.tmp 21), none, false⟩,
   ⟨(some 23), .mv (.tmp 6), (some (22, true)), false⟩,
   ⟨(some 24), .mv (.tmp 7), (some (22, true)), false⟩,
   ⟨(some 25), .bin .quo (.const (.int .i64 1000000000000000)) (.tmp 24), (some (22, true)), false⟩,
   ⟨(some 26), .bin .gtr (.tmp 23) (.tmp 25), (some (22, true)), false⟩,
   ⟨(some 27), .pick (.tmp 22) (.tmp 26) (.const (.bool false)), none, false⟩])
  (.cond (.tmp 27) (.seq (.reg [⟨(some 2), .mv (.const (.int .i64 1000000000000001)), none, false⟩])
  .ret) .skip))
  (.reg [⟨(some 28), .mv (.tmp 3), none, false⟩,
   ⟨(some 29), .mv (.tmp 6), none, false⟩,
   ⟨(some 30), .mv (.tmp 7), none, false⟩,
   ⟨(some 31), .bin .mul (.tmp 29) (.tmp 30), none, false⟩,
   ⟨(some 32), .bin .add (.tmp 28) (.tmp 31), none, false⟩,
   ⟨(some 33), .mm false (.tmp 32) [(.const (.int .i64 1000000000000001))], none, false⟩,
   ⟨(some 3), .mv (.tmp 33), none, false⟩])))))
  (.reg [⟨(some 34), .bin .add (.tmp 10) (.const (.int .i64 1)), none, false⟩,
   ⟨(some 10), .mv (.tmp 34), none, false⟩])))))))
  (.seq (.reg [⟨(some 35), .mv (.tmp 3), none, false⟩,
   ⟨(some 2), .mv (.tmp 35), none, false⟩])
  .ret))))⟩

theorem s112 : compFn Try.prog Try.f112 = some c112 := by kernel_rfl

/-- loop.example/g01262/impl.unit -/
def c113 : XFn :=
 ⟨[.celln 2 9],
  (.seq (.reg [⟨(some 2), .alloc 112 [.int .u8 0, .int .u8 0, .int .u8 0, .int .u8 0, .int .u8 0, .int .u8 0, .int .u8 0, .int .u8 0, .int .u8 0], none, false⟩])
  (.seq (.reg [⟨(some 4), .build [.int .u8 0, .int .u8 0, .int .u8 0, .int .u8 0, .int .u8 0, .int .u8 0, .int .u8 0, .int .u8 0, .int .u8 0] [], none, false⟩,
   ⟨(some 3), .alloc 112 [.int .u8 0, .int .u8 0, .int .u8 0, .int .u8 0, .int .u8 0, .int .u8 0, .int .u8 0, .int .u8 0, .int .u8 0], none, false⟩,
   ⟨none, .store 9 (.tmp 3) (.tmp 4), none, false⟩])
  (.seq (.reg [⟨(some 5), .mv (.tmp 0), none, false⟩,
   ⟨(some 6), .ixa 9 1 (.tmp 3) (.tmp 5), none, false⟩,
   ⟨none, .store 1 (.tmp 6) (.const (.int .u8 1)), none, false⟩])
  (.seq (.reg [⟨(some 7), .loadn 9 (.tmp 3), none, false⟩,
   ⟨none, .store 9 (.tmp 2) (.tmp 7), none, false⟩])
  .ret))))⟩

theorem s113 : compFn Try.prog Try.f113 = some c113 := by kernel_rfl

/-- loop.example/g01262/laws.toSeries -/
def c114 : XFn :=
 ⟨[.celln 2 36],
  (.seq (.reg [⟨(some 1), .box 79 (.tmp 0), none, false⟩,
   ⟨(some 2), .alloc 80 [.int .u8 0, .int .u8 0, .int .u8 0, .int .u8 0, .int .u8 0, .int .u8 0, .int .u8 0, .int .u8 0, .int .u8 0, .int .u8 0, .int .u8 0, .int .u8 0, .int .u8 0, .int .u8 0, .int .u8 0, .int .u8 0, .int .u8 0, .int .u8 0, .int .u8 0, .int .u8 0, .int .u8 0, .int .u8 0, .int .u8 0, .int .u8 0, .int .u8 0, .int .u8 0, .int .u8 0, .int .u8 0, .int .u8 0, .int .u8 0, .int .u8 0, .int .u8 0, .int .u8 0, .int .u8 0, .int .u8 0, .int .u8 0], none, false⟩])
  (.seq (.reg [⟨(some 3), .alloc 80 [.int .u8 0, .int .u8 0, .int .u8 0, .int .u8 0, .int .u8 0, .int .u8 0, .int .u8 0, .int .u8 0, .int .u8 0, .int .u8 0, .int .u8 0, .int .u8 0, .int .u8 0, .int .u8 0, .int .u8 0, .int .u8 0, .int .u8 0, .int .u8 0, .int .u8 0, .int .u8 0, .int .u8 0, .int .u8 0, .int .u8 0, .int .u8 0, .int .u8 0, .int .u8 0, .int .u8 0, .int .u8 0, .int .u8 0, .int .u8 0, .int .u8 0, .int .u8 0, .int .u8 0, .int .u8 0, .int .u8 0, .int .u8 0], none, false⟩])
  (.seq (.seq (.reg [⟨(some 4), .mv (.const (.int .i64 0)), none, false⟩])
  (.blk 0 (.loop (.seq (.seq (.reg [⟨(some 5), .mv (.tmp 4), none, false⟩,
   ⟨(some 6), .bin .lss (.tmp 5) (.const (.int .i64 9)), none, false⟩])
  (.cond (.tmp 6) .skip (.exit 0)))
  (.seq (.blk 1 (.reg [⟨(some 9), .mv (.tmp 4), none, false⟩,
   ⟨(some 10), .mv (.tmp 4), none, false⟩,
   ⟨(some 11), .ixa 9 4 (.tmp 1) (.tmp 10), none, false⟩,
   ⟨(some 12), .loadn 4 (.tmp 11), none, false⟩,
   ⟨(some 13), .call (.func 123) [(.tmp 12)], none, false⟩,
   ⟨(some 14), .ixa 9 4 (.tmp 3) (.tmp 9), none, false⟩,
   ⟨none, .store 4 (.tmp 14) (.tmp 13), none, false⟩]))
  (.reg [⟨(some 7), .mv (.tmp 4), none, false⟩,
   ⟨(some 8), .bin .add (.tmp 7) (.const (.int .i64 1)), none, false⟩,
   ⟨(some 4), .mv (.tmp 8), none, false⟩]))))))
  (.seq (.reg [⟨(some 15), .loadn 36 (.tmp 3), none, false⟩,
   ⟨none, .store 36 (.tmp 2) (.tmp 15), none, false⟩])
  .ret))))⟩

theorem s114 : compFn Try.prog Try.f114 = some c114 := by kernel_rfl

/-- loop.example/g01262/impl.factors -/
def c115 : XFn :=
 ⟨[.celln 2 27],
  (.seq (.reg [⟨(some 1), .box 114 (.tmp 0), none, false⟩,
   ⟨(some 2), .alloc 137 [.int .u8 0, .int .u8 0, .int .u8 0, .int .u8 0, .int .u8 0, .int .u8 0, .int .u8 0, .int .u8 0, .int .u8 0, .int .u8 0, .int .u8 0, .int .u8 0, .int .u8 0, .int .u8 0, .int .u8 0, .int .u8 0, .int .u8 0, .int .u8 0, .int .u8 0, .int .u8 0, .int .u8 0, .int .u8 0, .int .u8 0, .int .u8 0, .int .u8 0, .int .u8 0, .int .u8 0], none, false⟩])
  (.seq (.reg [⟨(some 3), .fadr 0 (.tmp 1), none, false⟩,
   ⟨(some 4), .loadn 9 (.tmp 3), none, false⟩,
   ⟨(some 5), .fadr 9 (.tmp 1), none, false⟩,
   ⟨(some 6), .loadn 9 (.tmp 5), none, false⟩,
   ⟨(some 7), .fadr 18 (.tmp 1), none, false⟩,
   ⟨(some 8), .loadn 9 (.tmp 7), none, false⟩,
   ⟨(some 9), .build [.int .u8 0, .int .u8 0, .int .u8 0, .int .u8 0, .int .u8 0, .int .u8 0, .int .u8 0, .int .u8 0, .int .u8 0, .int .u8 0, .int .u8 0, .int .u8 0, .int .u8 0, .int .u8 0, .int .u8 0, .int .u8 0, .int .u8 0, .int .u8 0, .int .u8 0, .int .u8 0, .int .u8 0, .int .u8 0, .int .u8 0, .int .u8 0, .int .u8 0, .int .u8 0, .int .u8 0] [(0, 9, (.tmp 4)), (9, 9, (.tmp 6)), (18, 9, (.tmp 8))], none, false⟩,
   ⟨none, .store 27 (.tmp 2) (.tmp 9), none, false⟩])
  .ret))⟩

theorem s115 : compFn Try.prog Try.f115 = some c115 := by kernel_rfl

/-- loop.example/g01262/impl.isForm -/
def c116 : XFn :=
 ⟨[.tmp 6],
  (.seq (.reg [⟨(some 5), .box 112 (.tmp 2), none, false⟩,
   ⟨(some 6), .mv (.const (.bool false)), none, false⟩])
  (.seq (.seq (.reg [⟨(some 9), .loadn 9 (.tmp 5), none, false⟩,
   ⟨(some 10), .mv (.const (.int .i64 0)), none, false⟩])
  (.blk 0 (.loop (.seq (.reg [⟨(some 11), .bin .lss (.tmp 10) (.const (.int .i64 9)), none, false⟩])
  (.seq (.cond (.tmp 11) .skip (.exit 0))
  (.seq (.blk 1 (.seq (.reg [⟨(some 12), .mv (.tmp 10), none, false⟩,
   ⟨(some 13), .idx1 9 (.tmp 9) (.tmp 10), none, false⟩,
   ⟨(some 7), .mv (.tmp 12), none, false⟩,
   ⟨(some 8), .mv (.tmp 13), none, false⟩])
  (.seq (.reg [⟨(some 14), .mv (.tmp 8), none, false⟩,
   ⟨(some 15), .conv .i64 (.tmp 14), none, false⟩,
   ⟨(some 16), .mv (.tmp 0), none, false⟩,
   ⟨(some 17), .bin .geq (.tmp 15) (.tmp 16), none, false⟩,
   ⟨(some 18), .mv (.tmp 17), none, false⟩,
   ⟨(some 19), .mv (.tmp 8), (some (18, false)), false⟩,
   ⟨(some 20), .bin .neq (.tmp 19) (.const (.int .u8 0)), (some (18, false)), false⟩,
   ⟨(some 21), .mv (.tmp 20), (some (18, false)), false⟩,
   ⟨(some 22), .mv (.tmp 7), (some (21, true)), false⟩,
   ⟨(some 23), .mv (.tmp 1), (some (21, true)), false⟩,
   ⟨(some 24), .bin .geq (.tmp 22) (.tmp 23), (some (21, true)), false⟩,
   ⟨(some 25), .pick (.tmp 21) (.tmp 24) (.const (.bool false)), (some (18, false)), false⟩,
   ⟨(some 26), .pick (.tmp 18) (.const (.bool true)) (.tmp 25), none, false⟩])
  (.cond (.tmp 26) (.seq (.reg [⟨(some 6), .mv (.const (.bool false)), none, false⟩])
  .ret) .skip))))
  (.reg [⟨(some 27), .bin .add (.tmp 10) (.const (.int .i64 1)), none, false⟩,
   ⟨(some 10), .mv (.tmp 27), none, false⟩])))))))
  (.seq (.reg [⟨(some 6), .mv (.const (.bool true)), none, false⟩])
  .ret)))⟩

theorem s116 : compFn Try.prog Try.f116 = some c116 := by kernel_rfl

/-- loop.example/g01262/impl.hasZero -/
def c117 : XFn :=
 ⟨[.tmp 2],
  (.seq (.reg [⟨(some 1), .box 114 (.tmp 0), none, false⟩,
   ⟨(some 2), .mv (.const (.bool false)), none, false⟩])
  (.seq (.reg [⟨(some 3), .fadr 0 (.tmp 1), none, false⟩,
   ⟨(some 4), .loadn 9 (.tmp 3), none, false⟩,
   ⟨(some 5), .build [.int .u8 0, .int .u8 0, .int .u8 0, .int .u8 0, .int .u8 0, .int .u8 0, .int .u8 0, .int .u8 0, .int .u8 0] [], none, false⟩,
   ⟨(some 6), .eqa false 9 (.tmp 4) (.tmp 5), none, false⟩,
   ⟨(some 7), .mv (.tmp 6), none, false⟩,
   ⟨(some 8), .fadr 9 (.tmp 1), (some (7, false)), false⟩,
   ⟨(some 9), .loadn 9 (.tmp 8), (some (7, false)), false⟩,
   ⟨(some 10), .build [.int .u8 0, .int .u8 0, .int .u8 0, .int .u8 0, .int .u8 0, .int .u8 0, .int .u8 0, .int .u8 0, .int .u8 0] [], (some (7, false)), false⟩,
   ⟨(some 11), .eqa false 9 (.tmp 9) (.tmp 10), (some (7, false)), false⟩,
   ⟨(some 12), .pick (.tmp 7) (.const (.bool true)) (.tmp 11), none, false⟩,
   ⟨(some 13), .mv (.tmp 12), none, false⟩,
   ⟨(some 14), .fadr 18 (.tmp 1), (some (13, false)), false⟩,
   ⟨(some 15), .loadn 9 (.tmp 14), (some (13, false)), false⟩,
   ⟨(some 16), .build [.int .u8 0, .int .u8 0, .int .u8 0, .int .u8 0, .int .u8 0, .int .u8 0, .int .u8 0, .int .u8 0, .int .u8 0] [], (some (13, false)), false⟩,
   ⟨(some 17), .eqa false 9 (.tmp 15) (.tmp 16), (some (13, false)), false⟩,
   ⟨(some 18), .pick (.tmp 13) (.const (.bool true)) (.tmp 17), none, false⟩,
   ⟨(some 2), .mv (.tmp 18), none, false⟩])
  .ret))⟩

theorem s117 : compFn Try.prog Try.f117 = some c117 := by kernel_rfl

/-- loop.example/g01262/laws.eqSeries -/
def c118 : XFn :=
 ⟨[.tmp 4],
  (.seq (.reg [⟨(some 2), .box 80 (.tmp 0), none, false⟩,
   ⟨(some 3), .box 80 (.tmp 1), none, false⟩,
   ⟨(some 4), .mv (.const (.bool false)), none, false⟩])
  (.seq (.seq (.reg [⟨(some 5), .mv (.const (.int .i64 0)), none, false⟩])
  (.blk 0 (.loop (.seq (.seq (.reg [⟨(some 6), .mv (.tmp 5), none, false⟩,
   ⟨(some 7), .bin .lss (.tmp 6) (.const (.int .i64 9)), none, false⟩])
  (.cond (.tmp 7) .skip (.exit 0)))
  (.seq (.blk 1 (.seq (.reg [⟨(some 10), .mv (.tmp 5), none, false⟩,
   ⟨(some 11), .ixa 9 4 (.tmp 2) (.tmp 10), none, false⟩,
   ⟨(some 12), .loadn 4 (.tmp 11), none, false⟩,
   ⟨(some 13), .mv (.tmp 5), none, false⟩,
   ⟨(some 14), .ixa 9 4 (.tmp 3) (.tmp 13), none, false⟩,
   ⟨(some 15), .loadn 4 (.tmp 14), none, false⟩,
   ⟨(some 16), .call (.func 124) [(.tmp 12), (.tmp 15)], none, false⟩,
   ⟨(some 17), .un .not (.tmp 16), none, false⟩])
  (.cond (.tmp 17) (.seq (.reg [⟨(some 4), .mv (.const (.bool false)), none, false⟩])
  .ret) .skip)))
  (.reg [⟨(some 8), .mv (.tmp 5), none, false⟩,
   ⟨(some 9), .bin .add (.tmp 8) (.const (.int .i64 1)), none, false⟩,
   ⟨(some 5), .mv (.tmp 9), none, false⟩]))))))
  (.seq (.reg [⟨(some 4), .mv (.const (.bool true)), none, false⟩])
  .ret)))⟩

theorem s118 : compFn Try.prog Try.f118 = some c118 := by kernel_rfl

/-- loop.example/g01262/laws.toForm -/
def c119 : XFn :=
 ⟨[.celln 2 9],
  (.seq (.reg [⟨(some 1), .box 111 (.tmp 0), none, false⟩,
   ⟨(some 2), .alloc 112 [.int .u8 0, .int .u8 0, .int .u8 0, .int .u8 0, .int .u8 0, .int .u8 0, .int .u8 0, .int .u8 0, .int .u8 0], none, false⟩])
  (.seq (.reg [⟨(some 3), .alloc 112 [.int .u8 0, .int .u8 0, .int .u8 0, .int .u8 0, .int .u8 0, .int .u8 0, .int .u8 0, .int .u8 0, .int .u8 0], none, false⟩])
  (.seq (.seq (.reg [⟨(some 4), .mv (.const (.int .i64 0)), none, false⟩])
  (.blk 0 (.loop (.seq (.seq (.reg [⟨(some 5), .mv (.tmp 4), none, false⟩,
   ⟨(some 6), .bin .lss (.tmp 5) (.const (.int .i64 9)), none, false⟩])
  (.cond (.tmp 6) .skip (.exit 0)))
  (.seq (.blk 1 (.reg [⟨(some 9), .mv (.tmp 4), none, false⟩,
   ⟨(some 10), .mv (.tmp 4), none, false⟩,
   ⟨(some 11), .ixa 9 1 (.tmp 1) (.tmp 10), none, false⟩,
   ⟨(some 12), .load1 (.tmp 11), none, false⟩,
   ⟨(some 13), .ixa 9 1 (.tmp 3) (.tmp 9), none, false⟩,
   ⟨none, .store 1 (.tmp 13) (.tmp 12), none, false⟩]))
  (.reg [⟨(some 7), .mv (.tmp 4), none, false⟩,
   ⟨(some 8), .bin .add (.tmp 7) (.const (.int .i64 1)), none, false⟩,
   ⟨(some 4), .mv (.tmp 8), none, false⟩]))))))
  (.seq (.reg [⟨(some 14), .loadn 9 (.tmp 3), none, false⟩,
   ⟨none, .store 9 (.tmp 2) (.tmp 14), none, false⟩])
  .ret))))⟩

theorem s119 : compFn Try.prog Try.f119 = some c119 := by kernel_rfl

/-- loop.example/g01262/laws.eqForm -/
def c120 : XFn :=
 ⟨[.tmp 4],
  (.seq (.reg [⟨(some 2), .box 112 (.tmp 0), none, false⟩,
   ⟨(some 3), .box 112 (.tmp 1), none, false⟩,
   ⟨(some 4), .mv (.const (.bool false)), none, false⟩])
  (.seq (.seq (.reg [⟨(some 5), .mv (.const (.int .i64 0)), none, false⟩])
  (.blk 0 (.loop (.seq (.seq (.reg [⟨(some 6), .mv (.tmp 5), none, false⟩,
   ⟨(some 7), .bin .lss (.tmp 6) (.const (.int .i64 9)), none, false⟩])
  (.cond (.tmp 7) .skip (.exit 0)))
  (.seq (.blk 1 (.seq (.reg [⟨(some 10), .mv (.tmp 5), none, false⟩,
   ⟨(some 11), .ixa 9 1 (.tmp 2) (.tmp 10), none, false⟩,
   ⟨(some 12), .load1 (.tmp 11), none, false⟩,
   ⟨(some 13), .mv (.tmp 5), none, false⟩,
   ⟨(some 14), .ixa 9 1 (.tmp 3) (.tmp 13), none, false⟩,
   ⟨(some 15), .load1 (.tmp 14), none, false⟩,
   ⟨(some 16), .bin .neq (.tmp 12) (.tmp 15), none, false⟩])
  (.cond (.tmp 16) (.seq (.reg [⟨(some 4), .mv (.const (.bool false)), none, false⟩])
  .ret) .skip)))
  (.reg [⟨(some 8), .mv (.tmp 5), none, false⟩,
   ⟨(some 9), .bin .add (.tmp 8) (.const (.int .i64 1)), none, false⟩,
   ⟨(some 5), .mv (.tmp 9), none, false⟩]))))))
  (.seq (.reg [⟨(some 4), .mv (.const (.bool true)), none, false⟩])
  .ret)))⟩

theorem s120 : compFn Try.prog Try.f120 = some c120 := by kernel_rfl

/-- loop.example/g01262/spec.l01Form -/
def c121 : XFn :=
 ⟨[.tmp 6],
  (.seq (.reg [⟨(some 4), .box 112 (.tmp 1), none, false⟩,
   ⟨(some 6), .mv (.const (.bool false)), none, false⟩])
  (.seq (.seq (.reg [⟨(some 7), .mv (.const (.int .i64 0)), none, false⟩])
  (.blk 0 (.loop (.seq (.seq (.reg [⟨(some 8), .mv (.tmp 7), none, false⟩,
   ⟨(some 9), .bin .lss (.tmp 8) (.const (.int .i64 9)), none, false⟩])
  (.cond (.tmp 9) .skip (.exit 0)))
  (.seq (.blk 1 (.seq (.reg [⟨(some 12), .mv (.tmp 7), none, false⟩,
   ⟨(some 13), .ixa 9 1 (.tmp 4) (.tmp 12), none, false⟩,
   ⟨(some 14), .load1 (.tmp 13), none, false⟩,
   ⟨(some 15), .conv .i64 (.tmp 14), none, false⟩,
   ⟨(some 16), .mv (.tmp 0), none, false⟩,
   ⟨(some 17), .bin .geq (.tmp 15) (.tmp 16), none, false⟩,
   ⟨(some 18), .mv (.tmp 17), none, false⟩,
   ⟨(some 19), .mv (.tmp 7), (some (18, false)), false⟩,
   ⟨(some 20), .mv (.tmp 2), (some (18, false)), false⟩,
   ⟨(some 21), .bin .geq (.tmp 19) (.tmp 20), (some (18, false)), false⟩,
   ⟨(some 22), .mv (.tmp 21), (some (18, false)), false⟩,
   ⟨(some 23), .mv (.tmp 7), (some (22, true)), false⟩,
   ⟨(some 24), .ixa 9 1 (.tmp 4) (.tmp 23), (some (22, true)), false⟩,
   ⟨(some 25), .load1 (.tmp 24), (some (22, true)), false⟩,
   ⟨(some 26), .bin .neq (.tmp 25) (.const (.int .u8 0)), (some (22, true)), false⟩,
   ⟨(some 27), .pick (.tmp 22) (.tmp 26) (.const (.bool false)), (some (18, false)), false⟩,
   ⟨(some 28), .pick (.tmp 18) (.const (.bool true)) (.tmp 27), none, false⟩])
  (.cond (.tmp 28) (.seq (.reg [⟨(some 6), .mv (.const (.bool false)), none, false⟩])
  .ret) .skip)))
  (.reg [⟨(some 10), .mv (.tmp 7), none, false⟩,
   ⟨(some 11), .bin .add (.tmp 10) (.const (.int .i64 1)), none, false⟩,
   ⟨(some 7), .mv (.tmp 11), none, false⟩]))))))
  (.seq (.reg [⟨(some 6), .mv (.const (.bool true)), none, false⟩])
  .ret)))⟩

theorem s121 : compFn Try.prog Try.f121 = some c121 := by kernel_rfl

/-- loop.example/g01262/spec.l01Zero -/
def c122 : XFn :=
 ⟨[.tmp 2],
  (.seq (.reg [⟨(some 1), .box 112 (.tmp 0), none, false⟩,
   ⟨(some 2), .mv (.const (.bool false)), none, false⟩])
  (.seq (.reg [⟨(some 3), .loadn 9 (.tmp 1), none, false⟩,
   ⟨(some 4), .build [.int .u8 0, .int .u8 0, .int .u8 0, .int .u8 0, .int .u8 0, .int .u8 0, .int .u8 0, .int .u8 0, .int .u8 0] [], none, false⟩,
   ⟨(some 5), .eqa false 9 (.tmp 3) (.tmp 4), none, false⟩,
   ⟨(some 2), .mv (.tmp 5), none, false⟩])
  .ret))⟩

theorem s122 : compFn Try.prog Try.f122 = some c122 := by kernel_rfl

/-- loop.example/g01262/laws.toByteA4 -/
def c123 : XFn :=
 ⟨[.celln 2 4],
  (.seq (.reg [⟨(some 1), .box 78 (.tmp 0), none, false⟩,
   ⟨(some 2), .alloc 78 [.int .u8 0, .int .u8 0, .int .u8 0, .int .u8 0], none, false⟩])
  (.seq (.reg [⟨(some 3), .alloc 78 [.int .u8 0, .int .u8 0, .int .u8 0, .int .u8 0], none, false⟩])
  (.seq (.seq (.reg [⟨(some 4), .mv (.const (.int .i64 0)), none, false⟩])
  (.blk 0 (.loop (.seq (.seq (.reg [⟨(some 5), .mv (.tmp 4), none, false⟩,
   ⟨(some 6), .bin .lss (.tmp 5) (.const (.int .i64 4)), none, false⟩])
  (.cond (.tmp 6) .skip (.exit 0)))
  (.seq (.blk 1 (.reg [⟨(some 9), .mv (.tmp 4), none, false⟩,
   ⟨(some 10), .mv (.tmp 4), none, false⟩,
   ⟨(some 11), .ixa 4 1 (.tmp 1) (.tmp 10), none, false⟩,
   ⟨(some 12), .load1 (.tmp 11), none, false⟩,
   ⟨(some 13), .ixa 4 1 (.tmp 3) (.tmp 9), none, false⟩,
   ⟨none, .store 1 (.tmp 13) (.tmp 12), none, false⟩]))
  (.reg [⟨(some 7), .mv (.tmp 4), none, false⟩,
   ⟨(some 8), .bin .add (.tmp 7) (.const (.int .i64 1)), none, false⟩,
   ⟨(some 4), .mv (.tmp 8), none, false⟩]))))))
  (.seq (.reg [⟨(some 14), .loadn 4 (.tmp 3), none, false⟩,
   ⟨none, .store 4 (.tmp 2) (.tmp 14), none, false⟩])
  .ret))))⟩

theorem s123 : compFn Try.prog Try.f123 = some c123 := by kernel_rfl

/-- loop.example/g01262/laws.eqByteA4 -/
def c124 : XFn :=
 ⟨[.tmp 4],
  (.seq (.reg [⟨(some 2), .box 78 (.tmp 0), none, false⟩,
   ⟨(some 3), .box 78 (.tmp 1), none, false⟩,
   ⟨(some 4), .mv (.const (.bool false)), none, false⟩])
  (.seq (.seq (.reg [⟨(some 5), .mv (.const (.int .i64 0)), none, false⟩])
  (.blk 0 (.loop (.seq (.seq (.reg [⟨(some 6), .mv (.tmp 5), none, false⟩,
   ⟨(some 7), .bin .lss (.tmp 6) (.const (.int .i64 4)), none, false⟩])
  (.cond (.tmp 7) .skip (.exit 0)))
  (.seq (.blk 1 (.seq (.reg [⟨(some 10), .mv (.tmp 5), none, false⟩,
   ⟨(some 11), .ixa 4 1 (.tmp 2) (.tmp 10), none, false⟩,
   ⟨(some 12), .load1 (.tmp 11), none, false⟩,
   ⟨(some 13), .mv (.tmp 5), none, false⟩,
   ⟨(some 14), .ixa 4 1 (.tmp 3) (.tmp 13), none, false⟩,
   ⟨(some 15), .load1 (.tmp 14), none, false⟩,
   ⟨(some 16), .bin .neq (.tmp 12) (.tmp 15), none, false⟩])
  (.cond (.tmp 16) (.seq (.reg [⟨(some 4), .mv (.const (.bool false)), none, false⟩])
  .ret) .skip)))
  (.reg [⟨(some 8), .mv (.tmp 5), none, false⟩,
   ⟨(some 9), .bin .add (.tmp 8) (.const (.int .i64 1)), none, false⟩,
   ⟨(some 5), .mv (.tmp 9), none, false⟩]))))))
  (.seq (.reg [⟨(some 4), .mv (.const (.bool true)), none, false⟩])
  .ret)))⟩

theorem s124 : compFn Try.prog Try.f124 = some c124 := by kernel_rfl

def tab : List (Nat × XFn) := [(2, c2), (3, c3), (4, c4), (5, c5), (6, c6), (7, c7), (8, c8), (9, c9), (10, c10), (11, c11), (12, c12), (13, c13), (14, c14), (15, c15), (16, c16), (17, c17), (18, c18), (19, c19), (20, c20), (21, c21), (22, c22), (23, c23), (24, c24), (25, c25), (26, c26), (27, c27), (28, c28), (29, c29), (30, c30), (31, c31), (32, c32), (33, c33), (34, c34), (35, c35), (36, c36), (37, c37), (38, c38), (39, c39), (40, c40), (41, c41), (42, c42), (43, c43), (44, c44), (45, c45), (46, c46), (47, c47), (48, c48), (49, c49), (50, c50), (51, c51), (52, c52), (53, c53), (54, c54), (55, c55), (56, c56), (57, c57), (58, c58), (59, c59), (60, c60), (61, c61), (62, c62), (63, c63), (64, c64), (65, c65), (66, c66), (67, c67), (68, c68), (69, c69), (70, c70), (71, c71), (72, c72), (73, c73), (74, c74), (75, c75), (76, c76), (77, c77), (78, c78), (79, c79), (80, c80), (81, c81), (82, c82), (83, c83), (84, c84), (85, c85), (86, c86), (87, c87), (88, c88), (89, c89), (90, c90), (91, c91), (92, c92), (93, c93), (94, c94), (95, c95), (96, c96), (97, c97), (98, c98), (99, c99), (100, c100), (101, c101), (102, c102), (103, c103), (104, c104), (105, c105), (106, c106), (107, c107), (108, c108), (109, c109), (110, c110), (111, c111), (112, c112), (113, c113), (114, c114), (115, c115), (116, c116), (117, c117), (118, c118), (119, c119), (120, c120), (121, c121), (122, c122), (123, c123), (124, c124)]
def T (g : FuncId) : Option XFn := tab.lookup g
theorem orders : Try.prog.follows .mixedOrders = true := by kernel_rfl
theorem tsound : TSound Try.prog T := by
  refine tsound_of_all (P := Try.prog) (tab := tab) ?_
  intro p hp
  simp only [tab, List.mem_cons, List.not_mem_nil, or_false] at hp
  rcases hp with rfl | rfl | rfl | rfl | rfl | rfl | rfl | rfl | rfl | rfl | rfl | rfl | rfl | rfl | rfl | rfl | rfl | rfl | rfl | rfl | rfl | rfl | rfl | rfl | rfl | rfl | rfl | rfl | rfl | rfl | rfl | rfl | rfl | rfl | rfl | rfl | rfl | rfl | rfl | rfl | rfl | rfl | rfl | rfl | rfl | rfl | rfl | rfl | rfl | rfl | rfl | rfl | rfl | rfl | rfl | rfl | rfl | rfl | rfl | rfl | rfl | rfl | rfl | rfl | rfl | rfl | rfl | rfl | rfl | rfl | rfl | rfl | rfl | rfl | rfl | rfl | rfl | rfl | rfl | rfl | rfl | rfl | rfl | rfl | rfl | rfl | rfl | rfl | rfl | rfl | rfl | rfl | rfl | rfl | rfl | rfl | rfl | rfl | rfl | rfl | rfl | rfl | rfl | rfl | rfl | rfl | rfl | rfl | rfl | rfl | rfl | rfl | rfl | rfl | rfl | rfl | rfl | rfl | rfl | rfl | rfl | rfl | rfl
  · exact ⟨_, Try.func2, s2⟩
  · exact ⟨_, Try.func3, s3⟩
  · exact ⟨_, Try.func4, s4⟩
  · exact ⟨_, Try.func5, s5⟩
  · exact ⟨_, Try.func6, s6⟩
  · exact ⟨_, Try.func7, s7⟩
  · exact ⟨_, Try.func8, s8⟩
  · exact ⟨_, Try.func9, s9⟩
  · exact ⟨_, Try.func10, s10⟩
  · exact ⟨_, Try.func11, s11⟩
  · exact ⟨_, Try.func12, s12⟩
  · exact ⟨_, Try.func13, s13⟩
  · exact ⟨_, Try.func14, s14⟩
  · exact ⟨_, Try.func15, s15⟩
  · exact ⟨_, Try.func16, s16⟩
  · exact ⟨_, Try.func17, s17⟩
  · exact ⟨_, Try.func18, s18⟩
  · exact ⟨_, Try.func19, s19⟩
  · exact ⟨_, Try.func20, s20⟩
  · exact ⟨_, Try.func21, s21⟩
  · exact ⟨_, Try.func22, s22⟩
  · exact ⟨_, Try.func23, s23⟩
  · exact ⟨_, Try.func24, s24⟩
  · exact ⟨_, Try.func25, s25⟩
  · exact ⟨_, Try.func26, s26⟩
  · exact ⟨_, Try.func27, s27⟩
  · exact ⟨_, Try.func28, s28⟩
  · exact ⟨_, Try.func29, s29⟩
  · exact ⟨_, Try.func30, s30⟩
  · exact ⟨_, Try.func31, s31⟩
  · exact ⟨_, Try.func32, s32⟩
  · exact ⟨_, Try.func33, s33⟩
  · exact ⟨_, Try.func34, s34⟩
  · exact ⟨_, Try.func35, s35⟩
  · exact ⟨_, Try.func36, s36⟩
  · exact ⟨_, Try.func37, s37⟩
  · exact ⟨_, Try.func38, s38⟩
  · exact ⟨_, Try.func39, s39⟩
  · exact ⟨_, Try.func40, s40⟩
  · exact ⟨_, Try.func41, s41⟩
  · exact ⟨_, Try.func42, s42⟩
  · exact ⟨_, Try.func43, s43⟩
  · exact ⟨_, Try.func44, s44⟩
  · exact ⟨_, Try.func45, s45⟩
  · exact ⟨_, Try.func46, s46⟩
  · exact ⟨_, Try.func47, s47⟩
  · exact ⟨_, Try.func48, s48⟩
  · exact ⟨_, Try.func49, s49⟩
  · exact ⟨_, Try.func50, s50⟩
  · exact ⟨_, Try.func51, s51⟩
  · exact ⟨_, Try.func52, s52⟩
  · exact ⟨_, Try.func53, s53⟩
  · exact ⟨_, Try.func54, s54⟩
  · exact ⟨_, Try.func55, s55⟩
  · exact ⟨_, Try.func56, s56⟩
  · exact ⟨_, Try.func57, s57⟩
  · exact ⟨_, Try.func58, s58⟩
  · exact ⟨_, Try.func59, s59⟩
  · exact ⟨_, Try.func60, s60⟩
  · exact ⟨_, Try.func61, s61⟩
  · exact ⟨_, Try.func62, s62⟩
  · exact ⟨_, Try.func63, s63⟩
  · exact ⟨_, Try.func64, s64⟩
  · exact ⟨_, Try.func65, s65⟩
  · exact ⟨_, Try.func66, s66⟩
  · exact ⟨_, Try.func67, s67⟩
  · exact ⟨_, Try.func68, s68⟩
  · exact ⟨_, Try.func69, s69⟩
  · exact ⟨_, Try.func70, s70⟩
  · exact ⟨_, Try.func71, s71⟩
  · exact ⟨_, Try.func72, s72⟩
  · exact ⟨_, Try.func73, s73⟩
  · exact ⟨_, Try.func74, s74⟩
  · exact ⟨_, Try.func75, s75⟩
  · exact ⟨_, Try.func76, s76⟩
  · exact ⟨_, Try.func77, s77⟩
  · exact ⟨_, Try.func78, s78⟩
  · exact ⟨_, Try.func79, s79⟩
  · exact ⟨_, Try.func80, s80⟩
  · exact ⟨_, Try.func81, s81⟩
  · exact ⟨_, Try.func82, s82⟩
  · exact ⟨_, Try.func83, s83⟩
  · exact ⟨_, Try.func84, s84⟩
  · exact ⟨_, Try.func85, s85⟩
  · exact ⟨_, Try.func86, s86⟩
  · exact ⟨_, Try.func87, s87⟩
  · exact ⟨_, Try.func88, s88⟩
  · exact ⟨_, Try.func89, s89⟩
  · exact ⟨_, Try.func90, s90⟩
  · exact ⟨_, Try.func91, s91⟩
  · exact ⟨_, Try.func92, s92⟩
  · exact ⟨_, Try.func93, s93⟩
  · exact ⟨_, Try.func94, s94⟩
  · exact ⟨_, Try.func95, s95⟩
  · exact ⟨_, Try.func96, s96⟩
  · exact ⟨_, Try.func97, s97⟩
  · exact ⟨_, Try.func98, s98⟩
  · exact ⟨_, Try.func99, s99⟩
  · exact ⟨_, Try.func100, s100⟩
  · exact ⟨_, Try.func101, s101⟩
  · exact ⟨_, Try.func102, s102⟩
  · exact ⟨_, Try.func103, s103⟩
  · exact ⟨_, Try.func104, s104⟩
  · exact ⟨_, Try.func105, s105⟩
  · exact ⟨_, Try.func106, s106⟩
  · exact ⟨_, Try.func107, s107⟩
  · exact ⟨_, Try.func108, s108⟩
  · exact ⟨_, Try.func109, s109⟩
  · exact ⟨_, Try.func110, s110⟩
  · exact ⟨_, Try.func111, s111⟩
  · exact ⟨_, Try.func112, s112⟩
  · exact ⟨_, Try.func113, s113⟩
  · exact ⟨_, Try.func114, s114⟩
  · exact ⟨_, Try.func115, s115⟩
  · exact ⟨_, Try.func116, s116⟩
  · exact ⟨_, Try.func117, s117⟩
  · exact ⟨_, Try.func118, s118⟩
  · exact ⟨_, Try.func119, s119⟩
  · exact ⟨_, Try.func120, s120⟩
  · exact ⟨_, Try.func121, s121⟩
  · exact ⟨_, Try.func122, s122⟩
  · exact ⟨_, Try.func123, s123⟩
  · exact ⟨_, Try.func124, s124⟩
theorem t2 : T 2 = some c2 := rfl
theorem t3 : T 3 = some c3 := rfl
theorem t4 : T 4 = some c4 := rfl
theorem t5 : T 5 = some c5 := rfl
theorem t6 : T 6 = some c6 := rfl
theorem t7 : T 7 = some c7 := rfl
theorem t8 : T 8 = some c8 := rfl
theorem t9 : T 9 = some c9 := rfl
theorem t10 : T 10 = some c10 := rfl
theorem t11 : T 11 = some c11 := rfl
theorem t12 : T 12 = some c12 := rfl
theorem t13 : T 13 = some c13 := rfl
theorem t14 : T 14 = some c14 := rfl
theorem t15 : T 15 = some c15 := rfl
theorem t16 : T 16 = some c16 := rfl
theorem t17 : T 17 = some c17 := rfl
theorem t18 : T 18 = some c18 := rfl
theorem t19 : T 19 = some c19 := rfl
theorem t20 : T 20 = some c20 := rfl
theorem t21 : T 21 = some c21 := rfl
theorem t22 : T 22 = some c22 := rfl
theorem t23 : T 23 = some c23 := rfl
theorem t24 : T 24 = some c24 := rfl
theorem t25 : T 25 = some c25 := rfl
theorem t26 : T 26 = some c26 := rfl
theorem t27 : T 27 = some c27 := rfl
theorem t28 : T 28 = some c28 := rfl
theorem t29 : T 29 = some c29 := rfl
theorem t30 : T 30 = some c30 := rfl
theorem t31 : T 31 = some c31 := rfl
theorem t32 : T 32 = some c32 := rfl
theorem t33 : T 33 = some c33 := rfl
theorem t34 : T 34 = some c34 := rfl
theorem t35 : T 35 = some c35 := rfl
theorem t36 : T 36 = some c36 := rfl
theorem t37 : T 37 = some c37 := rfl
theorem t38 : T 38 = some c38 := rfl
theorem t39 : T 39 = some c39 := rfl
theorem t40 : T 40 = some c40 := rfl
theorem t41 : T 41 = some c41 := rfl
theorem t42 : T 42 = some c42 := rfl
theorem t43 : T 43 = some c43 := rfl
theorem t44 : T 44 = some c44 := rfl
theorem t45 : T 45 = some c45 := rfl
theorem t46 : T 46 = some c46 := rfl
theorem t47 : T 47 = some c47 := rfl
theorem t48 : T 48 = some c48 := rfl
theorem t49 : T 49 = some c49 := rfl
theorem t50 : T 50 = some c50 := rfl
theorem t51 : T 51 = some c51 := rfl
theorem t52 : T 52 = some c52 := rfl
theorem t53 : T 53 = some c53 := rfl
theorem t54 : T 54 = some c54 := rfl
theorem t55 : T 55 = some c55 := rfl
theorem t56 : T 56 = some c56 := rfl
theorem t57 : T 57 = some c57 := rfl
theorem t58 : T 58 = some c58 := rfl
theorem t59 : T 59 = some c59 := rfl
theorem t60 : T 60 = some c60 := rfl
theorem t61 : T 61 = some c61 := rfl
theorem t62 : T 62 = some c62 := rfl
theorem t63 : T 63 = some c63 := rfl
theorem t64 : T 64 = some c64 := rfl
theorem t65 : T 65 = some c65 := rfl
theorem t66 : T 66 = some c66 := rfl
theorem t67 : T 67 = some c67 := rfl
theorem t68 : T 68 = some c68 := rfl
theorem t69 : T 69 = some c69 := rfl
theorem t70 : T 70 = some c70 := rfl
theorem t71 : T 71 = some c71 := rfl
theorem t72 : T 72 = some c72 := rfl
theorem t73 : T 73 = some c73 := rfl
theorem t74 : T 74 = some c74 := rfl
theorem t75 : T 75 = some c75 := rfl
theorem t76 : T 76 = some c76 := rfl
theorem t77 : T 77 = some c77 := rfl
theorem t78 : T 78 = some c78 := rfl
theorem t79 : T 79 = some c79 := rfl
theorem t80 : T 80 = some c80 := rfl
theorem t81 : T 81 = some c81 := rfl
theorem t82 : T 82 = some c82 := rfl
theorem t83 : T 83 = some c83 := rfl
theorem t84 : T 84 = some c84 := rfl
theorem t85 : T 85 = some c85 := rfl
theorem t86 : T 86 = some c86 := rfl
theorem t87 : T 87 = some c87 := rfl
theorem t88 : T 88 = some c88 := rfl
theorem t89 : T 89 = some c89 := rfl
theorem t90 : T 90 = some c90 := rfl
theorem t91 : T 91 = some c91 := rfl
theorem t92 : T 92 = some c92 := rfl
theorem t93 : T 93 = some c93 := rfl
theorem t94 : T 94 = some c94 := rfl
theorem t95 : T 95 = some c95 := rfl
theorem t96 : T 96 = some c96 := rfl
theorem t97 : T 97 = some c97 := rfl
theorem t98 : T 98 = some c98 := rfl
theorem t99 : T 99 = some c99 := rfl
theorem t100 : T 100 = some c100 := rfl
theorem t101 : T 101 = some c101 := rfl
theorem t102 : T 102 = some c102 := rfl
theorem t103 : T 103 = some c103 := rfl
theorem t104 : T 104 = some c104 := rfl
theorem t105 : T 105 = some c105 := rfl
theorem t106 : T 106 = some c106 := rfl
theorem t107 : T 107 = some c107 := rfl
theorem t108 : T 108 = some c108 := rfl
theorem t109 : T 109 = some c109 := rfl
theorem t110 : T 110 = some c110 := rfl
theorem t111 : T 111 = some c111 := rfl
theorem t112 : T 112 = some c112 := rfl
theorem t113 : T 113 = some c113 := rfl
theorem t114 : T 114 = some c114 := rfl
theorem t115 : T 115 = some c115 := rfl
theorem t116 : T 116 = some c116 := rfl
theorem t117 : T 117 = some c117 := rfl
theorem t118 : T 118 = some c118 := rfl
theorem t119 : T 119 = some c119 := rfl
theorem t120 : T 120 = some c120 := rfl
theorem t121 : T 121 = some c121 := rfl
theorem t122 : T 122 = some c122 := rfl
theorem t123 : T 123 = some c123 := rfl
theorem t124 : T 124 = some c124 := rfl
end Go.Proofs.Ytphklalbkpohfaa.X
