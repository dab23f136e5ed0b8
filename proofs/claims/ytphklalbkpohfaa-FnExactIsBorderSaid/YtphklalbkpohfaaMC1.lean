/- Texts of one claim, put together by merge.py: XCode1. -/
import Derived.Test.YtphklalbkpohfaaM2
import Derived.Test.YtphklalbkpohfaaProg
/- Part of the abstract code of the seat's functions, printed by a program of this session. -/
set_option linter.unusedVariables false
set_option maxRecDepth 4000
namespace Go.Proofs.Ytphklalbkpohfaa.X
open Go Go.RowKit

/-- gosem.cut.init -/
def c2 : XFn :=
 ⟨[],
  (.reg [⟨(some 0), .call (.func 1) [], none, false⟩])⟩

theorem s2 : compFn Try.prog Try.f2 = some c2 := by kernel_rfl

/-- loop.example/g01262/laws.FnExactMatrixTensor -/
def c3 : XFn :=
 ⟨[.tmp 8],
  (.seq (.reg [⟨(some 8), .mv (.const (.bool false)), none, false⟩])
  (.seq (.reg [⟨(some 18), .mv (.tmp 0), none, false⟩,
   ⟨(some 19), .mv (.tmp 1), none, false⟩,
   ⟨(some 20), .mv (.tmp 2), none, false⟩,
   ⟨(some 21), .mv (.tmp 3), none, false⟩,
   ⟨(some 22), .call (.func 15) [(.tmp 18), (.tmp 19), (.tmp 20), (.tmp 21)], none, false⟩,
   ⟨(some 17), .mv (.tmp 22), none, false⟩,
   ⟨(some 23), .ext (.tmp 17) 0, none, false⟩,
   ⟨(some 24), .ext (.tmp 17) 1, none, false⟩,
   ⟨(some 9), .alloc 24 [.int .i64 0, .int .i64 0, .int .i64 0, .int .i64 0, .slice none 0 0], none, false⟩,
   ⟨none, .store 5 (.tmp 9) (.tmp 23), none, false⟩,
   ⟨(some 10), .mv (.tmp 24), none, false⟩])
  (.seq (.reg [⟨(some 26), .mv (.tmp 0), none, false⟩,
   ⟨(some 27), .mv (.tmp 1), none, false⟩,
   ⟨(some 28), .mv (.tmp 2), none, false⟩,
   ⟨(some 29), .mv (.tmp 3), none, false⟩,
   ⟨(some 30), .call (.func 16) [(.tmp 26), (.tmp 27), (.tmp 28), (.tmp 29)], none, false⟩,
   ⟨(some 25), .mv (.tmp 30), none, false⟩,
   ⟨(some 31), .ext (.tmp 25) 0, none, false⟩,
   ⟨(some 32), .ext (.tmp 25) 1, none, false⟩,
   ⟨(some 11), .alloc 24 [.int .i64 0, .int .i64 0, .int .i64 0, .int .i64 0, .slice none 0 0], none, false⟩,
   ⟨none, .store 5 (.tmp 11) (.tmp 31), none, false⟩,
   ⟨(some 12), .mv (.tmp 32), none, false⟩])
  (.seq (.seq (.reg [⟨(some 33), .loadn 5 (.tmp 11), none, false⟩,
   ⟨(some 34), .loadn 5 (.tmp 9), none, false⟩,
   ⟨(some 35), .call (.func 17) [(.tmp 33), (.tmp 34)], none, false⟩,
   ⟨(some 36), .un .not (.tmp 35), none, false⟩,
   ⟨(some 37), .mv (.tmp 36), none, false⟩,
   ⟨(some 38), .mv (.tmp 12), (some (37, false)), false⟩,
   ⟨(some 39), .mv (.tmp 10), (some (37, false)), false⟩,
   ⟨(some 40), .bin .neq (.tmp 38) (.tmp 39), (some (37, false)), false⟩,
   ⟨(some 41), .pick (.tmp 37) (.const (.bool true)) (.tmp 40), none, false⟩])
  (.cond (.tmp 41) (.seq (.reg [⟨(some 8), .mv (.const (.bool false)), none, false⟩])
  .ret) .skip))
  (.seq (.reg [⟨(some 13), .mv (.const (.int .i64 1)), none, false⟩])
  (.seq (.reg [⟨(some 42), .loadn 5 (.tmp 11), none, false⟩,
   ⟨(some 43), .mv (.tmp 13), none, false⟩,
   ⟨(some 44), .call (.func 18) [(.tmp 42), (.tmp 43)], none, false⟩,
   ⟨(some 13), .mv (.tmp 44), none, false⟩])
  (.seq (.reg [⟨(some 14), .mv (.const (.int .i64 1)), none, false⟩])
  (.seq (.reg [⟨(some 45), .loadn 5 (.tmp 11), none, false⟩,
   ⟨(some 46), .mv (.tmp 14), none, false⟩,
   ⟨(some 47), .call (.func 19) [(.tmp 45), (.tmp 46)], none, false⟩,
   ⟨(some 14), .mv (.tmp 47), none, false⟩])
  (.seq (.seq (.reg [⟨(some 48), .mv (.tmp 14), none, false⟩,
   ⟨(some 49), .bin .lss (.tmp 48) (.const (.int .i64 0)), none, false⟩])
  (.cond (.tmp 49) (.seq (.reg [⟨(some 8), .mv (.const (.bool false)), none, false⟩])
  .ret) .skip))
  (.seq (.seq (.reg [⟨(some 50), .mv (.tmp 14), none, false⟩,
   ⟨(some 51), .mv (.tmp 13), none, false⟩,
   ⟨(some 52), .bin .neq (.tmp 50) (.tmp 51), none, false⟩])
  (.cond (.tmp 52) (.seq (.reg [⟨(some 8), .mv (.const (.bool false)), none, false⟩])
  .ret) .skip))
  (.seq (.reg [⟨(some 54), .mv (.tmp 0), none, false⟩,
   ⟨(some 55), .mv (.tmp 1), none, false⟩,
   ⟨(some 56), .mv (.tmp 2), none, false⟩,
   ⟨(some 57), .mv (.tmp 3), none, false⟩,
   ⟨(some 58), .call (.func 16) [(.tmp 54), (.tmp 55), (.tmp 56), (.tmp 57)], none, false⟩,
   ⟨(some 53), .mv (.tmp 58), none, false⟩,
   ⟨(some 59), .ext (.tmp 53) 0, none, false⟩,
   ⟨(some 60), .ext (.tmp 53) 1, none, false⟩,
   ⟨(some 15), .alloc 24 [.int .i64 0, .int .i64 0, .int .i64 0, .int .i64 0, .slice none 0 0], none, false⟩,
   ⟨none, .store 5 (.tmp 15) (.tmp 59), none, false⟩,
   ⟨(some 16), .mv (.tmp 60), none, false⟩])
  (.seq (.seq (.reg [⟨(some 61), .loadn 5 (.tmp 15), none, false⟩,
   ⟨(some 62), .loadn 5 (.tmp 9), none, false⟩,
   ⟨(some 63), .call (.func 17) [(.tmp 61), (.tmp 62)], none, false⟩,
   ⟨(some 64), .un .not (.tmp 63), none, false⟩,
   ⟨(some 65), .mv (.tmp 64), none, false⟩,
   ⟨(some 66), .mv (.tmp 16), (some (65, false)), false⟩,
   ⟨(some 67), .mv (.tmp 10), (some (65, false)), false⟩,
   ⟨(some 68), .bin .neq (.tmp 66) (.tmp 67), (some (65, false)), false⟩,
   ⟨(some 69), .pick (.tmp 65) (.const (.bool true)) (.tmp 68), none, false⟩])
  (.cond (.tmp 69) (.seq (.reg [⟨(some 8), .mv (.const (.bool false)), none, false⟩])
  .ret) .skip))
  (.seq (.reg [⟨(some 14), .mv (.const (.int .i64 1)), none, false⟩])
  (.seq (.reg [⟨(some 70), .loadn 5 (.tmp 11), none, false⟩,
   ⟨(some 71), .mv (.tmp 14), none, false⟩,
   ⟨(some 72), .call (.func 19) [(.tmp 70), (.tmp 71)], none, false⟩,
   ⟨(some 14), .mv (.tmp 72), none, false⟩])
  (.seq (.seq (.reg [⟨(some 73), .mv (.tmp 14), none, false⟩,
   ⟨(some 74), .bin .lss (.tmp 73) (.const (.int .i64 0)), none, false⟩])
  (.cond (.tmp 74) (.seq (.reg [⟨(some 8), .mv (.const (.bool false)), none, false⟩])
  .ret) .skip))
  (.seq (.seq (.reg [⟨(some 75), .mv (.tmp 14), none, false⟩,
   ⟨(some 76), .mv (.tmp 13), none, false⟩,
   ⟨(some 77), .bin .neq (.tmp 75) (.tmp 76), none, false⟩])
  (.cond (.tmp 77) (.seq (.reg [⟨(some 8), .mv (.const (.bool false)), none, false⟩])
  .ret) .skip))
  (.seq (.reg [⟨(some 8), .mv (.const (.bool true)), none, false⟩])
  .ret)))))))))))))))))⟩

theorem s3 : compFn Try.prog Try.f3 = some c3 := by kernel_rfl

/-- loop.example/g01262/laws.FnExactIsBorder -/
def c4 : XFn :=
 ⟨[.tmp 2],
  (.seq (.reg [⟨(some 1), .box 32 (.tmp 0), none, false⟩,
   ⟨(some 2), .mv (.const (.bool false)), none, false⟩])
  (.seq (.reg [⟨(some 3), .mv (.const (.int .i64 1048576)), none, false⟩])
  (.seq (.reg [⟨(some 7), .loadn 5 (.tmp 1), none, false⟩,
   ⟨(some 8), .mv (.tmp 3), none, false⟩,
   ⟨(some 9), .call (.func 20) [(.tmp 7), (.tmp 8)], none, false⟩,
   ⟨(some 3), .mv (.tmp 9), none, false⟩])
  (.seq (.seq (.reg [⟨(some 10), .mv (.tmp 3), none, false⟩,
   ⟨(some 11), .bin .lss (.tmp 10) (.const (.int .i64 0)), none, false⟩])
  (.cond (.tmp 11) (.seq (.reg [⟨(some 2), .mv (.const (.bool true)), none, false⟩])
  .ret) .skip))
  (.seq (.reg [⟨(some 12), .loadn 5 (.tmp 1), none, false⟩,
   ⟨(some 13), .call (.func 22) [(.tmp 12)], none, false⟩,
   ⟨(some 14), .call (.func 21) [(.tmp 13)], none, false⟩,
   ⟨(some 4), .mv (.tmp 14), none, false⟩])
  (.seq (.reg [⟨(some 15), .loadn 5 (.tmp 1), none, false⟩,
   ⟨(some 16), .call (.func 22) [(.tmp 15)], none, false⟩,
   ⟨(some 5), .alloc 37 [.int .i64 0, .int .i64 0, .int .i64 0, .int .i64 0, .slice none 0 0], none, false⟩,
   ⟨none, .store 5 (.tmp 5) (.tmp 16), none, false⟩])
  (.seq (.reg [⟨(some 17), .loadn 5 (.tmp 5), none, false⟩,
   ⟨(some 18), .call (.func 23) [(.tmp 17)], none, false⟩,
   ⟨(some 6), .mv (.tmp 18), none, false⟩])
  (.seq (.seq (.reg [⟨(some 19), .mv (.tmp 6), none, false⟩,
   ⟨(some 20), .mv (.tmp 4), none, false⟩,
   ⟨(some 21), .eqb true (.tmp 19) (.tmp 20), none, false⟩])
  (.cond (.tmp 21) (.seq (.reg [⟨(some 2), .mv (.const (.bool false)), none, false⟩])
  .ret) .skip))
  (.seq (.seq (.reg [⟨(some 22), .loadn 5 (.tmp 5), none, false⟩,
   ⟨(some 23), .loadn 5 (.tmp 1), none, false⟩,
   ⟨(some 24), .call (.func 22) [(.tmp 23)], none, true⟩,
   ⟨(some 25), .call (.func 24) [(.tmp 22), (.tmp 24)], none, false⟩,
   ⟨(some 26), .un .not (.tmp 25), none, false⟩])
  (.cond (.tmp 26) (.seq (.reg [⟨(some 2), .mv (.const (.bool false)), none, false⟩])
  .ret) .skip))
  (.seq (.reg [⟨(some 2), .mv (.const (.bool true)), none, false⟩])
  .ret))))))))))⟩

theorem s4 : compFn Try.prog Try.f4 = some c4 := by kernel_rfl

/-- loop.example/g01262/laws.FnExactIsExponentAtMost -/
def c5 : XFn :=
 ⟨[.tmp 6],
  (.seq (.reg [⟨(some 3), .box 43 (.tmp 0), none, false⟩,
   ⟨(some 6), .mv (.const (.bool false)), none, false⟩])
  (.seq (.reg [⟨(some 7), .mv (.const (.int .i64 1048576)), none, false⟩])
  (.seq (.reg [⟨(some 13), .loadn 5 (.tmp 3), none, false⟩,
   ⟨(some 14), .mv (.tmp 7), none, false⟩,
   ⟨(some 15), .call (.func 25) [(.tmp 13), (.tmp 14)], none, false⟩,
   ⟨(some 7), .mv (.tmp 15), none, false⟩])
  (.seq (.seq (.reg [⟨(some 16), .mv (.tmp 7), none, false⟩,
   ⟨(some 17), .bin .lss (.tmp 16) (.const (.int .i64 0)), none, false⟩])
  (.cond (.tmp 17) (.seq (.reg [⟨(some 6), .mv (.const (.bool true)), none, false⟩])
  .ret) .skip))
  (.seq (.reg [⟨(some 19), .loadn 5 (.tmp 3), none, false⟩,
   ⟨(some 20), .call (.func 27) [(.tmp 19)], none, false⟩,
   ⟨(some 21), .mv (.tmp 1), none, false⟩,
   ⟨(some 22), .mv (.tmp 2), none, false⟩,
   ⟨(some 23), .call (.func 26) [(.tmp 20), (.tmp 21), (.tmp 22)], none, false⟩,
   ⟨(some 18), .mv (.tmp 23), none, false⟩,
   ⟨(some 24), .ext (.tmp 18) 0, none, false⟩,
   ⟨(some 25), .ext (.tmp 18) 1, none, false⟩,
   ⟨(some 8), .mv (.tmp 24), none, false⟩,
   ⟨(some 9), .mv (.tmp 25), none, false⟩])
  (.seq (.reg [⟨(some 26), .loadn 5 (.tmp 3), none, false⟩,
   ⟨(some 27), .call (.func 27) [(.tmp 26)], none, false⟩,
   ⟨(some 10), .alloc 49 [.int .i64 0, .int .i64 0, .int .i64 0, .int .i64 0, .slice none 0 0], none, false⟩,
   ⟨none, .store 5 (.tmp 10) (.tmp 27), none, false⟩])
  (.seq (.reg [⟨(some 29), .loadn 5 (.tmp 10), none, false⟩,
   ⟨(some 30), .mv (.tmp 1), none, false⟩,
   ⟨(some 31), .mv (.tmp 2), none, false⟩,
   ⟨(some 32), .call (.func 28) [(.tmp 29), (.tmp 30), (.tmp 31)], none, false⟩,
   ⟨(some 28), .mv (.tmp 32), none, false⟩,
   ⟨(some 33), .ext (.tmp 28) 0, none, false⟩,
   ⟨(some 34), .ext (.tmp 28) 1, none, false⟩,
   ⟨(some 11), .mv (.tmp 33), none, false⟩,
   ⟨(some 12), .mv (.tmp 34), none, false⟩])
  (.seq (.seq (.reg [⟨(some 35), .mv (.tmp 11), none, false⟩,
   ⟨(some 36), .mv (.tmp 8), none, false⟩,
   ⟨(some 37), .eqb true (.tmp 35) (.tmp 36), none, false⟩,
   ⟨(some 38), .mv (.tmp 37), none, false⟩,
   ⟨(some 39), .mv (.tmp 12), (some (38, false)), false⟩,
   ⟨(some 40), .mv (.tmp 9), (some (38, false)), false⟩,
   ⟨(some 41), .bin .neq (.tmp 39) (.tmp 40), (some (38, false)), false⟩,
   ⟨(some 42), .pick (.tmp 38) (.const (.bool true)) (.tmp 41), none, false⟩])
  (.cond (.tmp 42) (.seq (.reg [⟨(some 6), .mv (.const (.bool false)), none, false⟩])
  .ret) .skip))
  (.seq (.seq (.reg [⟨(some 43), .loadn 5 (.tmp 10), none, false⟩,
   ⟨(some 44), .loadn 5 (.tmp 3), none, false⟩,
   ⟨(some 45), .call (.func 27) [(.tmp 44)], none, true⟩,
   ⟨(some 46), .call (.func 29) [(.tmp 43), (.tmp 45)], none, false⟩,
   ⟨(some 47), .un .not (.tmp 46), none, false⟩])
  (.cond (.tmp 47) (.seq (.reg [⟨(some 6), .mv (.const (.bool false)), none, false⟩])
  .ret) .skip))
  (.seq (.reg [⟨(some 6), .mv (.const (.bool true)), none, false⟩])
  .ret))))))))))⟩

theorem s5 : compFn Try.prog Try.f5 = some c5 := by kernel_rfl

/-- loop.example/g01262/laws.FnExactGreaterSize -/
def c6 : XFn :=
 ⟨[.tmp 4],
  (.seq (.reg [⟨(some 2), .box 43 (.tmp 0), none, false⟩,
   ⟨(some 4), .mv (.const (.bool false)), none, false⟩])
  (.seq (.reg [⟨(some 5), .mv (.const (.int .i64 1048576)), none, false⟩])
  (.seq (.reg [⟨(some 11), .loadn 5 (.tmp 2), none, false⟩,
   ⟨(some 12), .mv (.tmp 5), none, false⟩,
   ⟨(some 13), .call (.func 25) [(.tmp 11), (.tmp 12)], none, false⟩,
   ⟨(some 5), .mv (.tmp 13), none, false⟩])
  (.seq (.seq (.reg [⟨(some 14), .mv (.tmp 5), none, false⟩,
   ⟨(some 15), .bin .lss (.tmp 14) (.const (.int .i64 0)), none, false⟩])
  (.cond (.tmp 15) (.seq (.reg [⟨(some 4), .mv (.const (.bool true)), none, false⟩])
  .ret) .skip))
  (.seq (.reg [⟨(some 17), .loadn 5 (.tmp 2), none, false⟩,
   ⟨(some 18), .call (.func 27) [(.tmp 17)], none, false⟩,
   ⟨(some 19), .mv (.tmp 1), none, false⟩,
   ⟨(some 20), .call (.func 30) [(.tmp 18), (.tmp 19)], none, false⟩,
   ⟨(some 16), .mv (.tmp 20), none, false⟩,
   ⟨(some 21), .ext (.tmp 16) 0, none, false⟩,
   ⟨(some 22), .ext (.tmp 16) 1, none, false⟩,
   ⟨(some 6), .mv (.tmp 21), none, false⟩,
   ⟨(some 7), .mv (.tmp 22), none, false⟩])
  (.seq (.reg [⟨(some 23), .loadn 5 (.tmp 2), none, false⟩,
   ⟨(some 24), .call (.func 27) [(.tmp 23)], none, false⟩,
   ⟨(some 8), .alloc 49 [.int .i64 0, .int .i64 0, .int .i64 0, .int .i64 0, .slice none 0 0], none, false⟩,
   ⟨none, .store 5 (.tmp 8) (.tmp 24), none, false⟩])
  (.seq (.reg [⟨(some 26), .loadn 5 (.tmp 8), none, false⟩,
   ⟨(some 27), .mv (.tmp 1), none, false⟩,
   ⟨(some 28), .call (.func 31) [(.tmp 26), (.tmp 27)], none, false⟩,
   ⟨(some 25), .mv (.tmp 28), none, false⟩,
   ⟨(some 29), .ext (.tmp 25) 0, none, false⟩,
   ⟨(some 30), .ext (.tmp 25) 1, none, false⟩,
   ⟨(some 9), .mv (.tmp 29), none, false⟩,
   ⟨(some 10), .mv (.tmp 30), none, false⟩])
  (.seq (.seq (.reg [⟨(some 31), .mv (.tmp 9), none, false⟩,
   ⟨(some 32), .mv (.tmp 6), none, false⟩,
   ⟨(some 33), .bin .neq (.tmp 31) (.tmp 32), none, false⟩,
   ⟨(some 34), .mv (.tmp 33), none, false⟩,
   ⟨(some 35), .mv (.tmp 10), (some (34, false)), false⟩,
   ⟨(some 36), .mv (.tmp 7), (some (34, false)), false⟩,
   ⟨(some 37), .bin .neq (.tmp 35) (.tmp 36), (some (34, false)), false⟩,
   ⟨(some 38), .pick (.tmp 34) (.const (.bool true)) (.tmp 37), none, false⟩])
  (.cond (.tmp 38) (.seq (.reg [⟨(some 4), .mv (.const (.bool false)), none, false⟩])
  .ret) .skip))
  (.seq (.seq (.reg [⟨(some 39), .loadn 5 (.tmp 8), none, false⟩,
   ⟨(some 40), .loadn 5 (.tmp 2), none, false⟩,
   ⟨(some 41), .call (.func 27) [(.tmp 40)], none, true⟩,
   ⟨(some 42), .call (.func 29) [(.tmp 39), (.tmp 41)], none, false⟩,
   ⟨(some 43), .un .not (.tmp 42), none, false⟩])
  (.cond (.tmp 43) (.seq (.reg [⟨(some 4), .mv (.const (.bool false)), none, false⟩])
  .ret) .skip))
  (.seq (.reg [⟨(some 4), .mv (.const (.bool true)), none, false⟩])
  .ret))))))))))⟩

theorem s6 : compFn Try.prog Try.f6 = some c6 := by kernel_rfl

/-- loop.example/g01262/laws.FnExactCompareExponents -/
def c7 : XFn :=
 ⟨[.tmp 4],
  (.seq (.reg [⟨(some 2), .box 43 (.tmp 0), none, false⟩,
   ⟨(some 3), .box 43 (.tmp 1), none, false⟩,
   ⟨(some 4), .mv (.const (.bool false)), none, false⟩])
  (.seq (.reg [⟨(some 5), .mv (.const (.int .i64 1048576)), none, false⟩])
  (.seq (.reg [⟨(some 12), .loadn 5 (.tmp 2), none, false⟩,
   ⟨(some 13), .mv (.tmp 5), none, false⟩,
   ⟨(some 14), .call (.func 25) [(.tmp 12), (.tmp 13)], none, false⟩,
   ⟨(some 5), .mv (.tmp 14), none, false⟩])
  (.seq (.seq (.reg [⟨(some 15), .mv (.tmp 5), none, false⟩,
   ⟨(some 16), .bin .lss (.tmp 15) (.const (.int .i64 0)), none, false⟩])
  (.cond (.tmp 16) (.seq (.reg [⟨(some 4), .mv (.const (.bool true)), none, false⟩])
  .ret) .skip))
  (.seq (.reg [⟨(some 17), .loadn 5 (.tmp 3), none, false⟩,
   ⟨(some 18), .mv (.tmp 5), none, false⟩,
   ⟨(some 19), .call (.func 25) [(.tmp 17), (.tmp 18)], none, false⟩,
   ⟨(some 5), .mv (.tmp 19), none, false⟩])
  (.seq (.seq (.reg [⟨(some 20), .mv (.tmp 5), none, false⟩,
   ⟨(some 21), .bin .lss (.tmp 20) (.const (.int .i64 0)), none, false⟩])
  (.cond (.tmp 21) (.seq (.reg [⟨(some 4), .mv (.const (.bool true)), none, false⟩])
  .ret) .skip))
  (.seq (.reg [⟨(some 23), .loadn 5 (.tmp 2), none, false⟩,
   ⟨(some 24), .call (.func 27) [(.tmp 23)], none, true⟩,
   ⟨(some 25), .loadn 5 (.tmp 3), none, false⟩,
   ⟨(some 26), .call (.func 27) [(.tmp 25)], none, false⟩,
   ⟨(some 27), .call (.func 32) [(.tmp 24), (.tmp 26)], none, false⟩,
   ⟨(some 22), .mv (.tmp 27), none, false⟩,
   ⟨(some 28), .ext (.tmp 22) 0, none, false⟩,
   ⟨(some 29), .ext (.tmp 22) 1, none, false⟩,
   ⟨(some 6), .mv (.tmp 28), none, false⟩,
   ⟨(some 7), .mv (.tmp 29), none, false⟩])
  (.seq (.reg [⟨(some 30), .loadn 5 (.tmp 2), none, false⟩,
   ⟨(some 31), .call (.func 27) [(.tmp 30)], none, false⟩,
   ⟨(some 8), .alloc 49 [.int .i64 0, .int .i64 0, .int .i64 0, .int .i64 0, .slice none 0 0], none, false⟩,
   ⟨none, .store 5 (.tmp 8) (.tmp 31), none, false⟩])
  (.seq (.reg [⟨(some 32), .loadn 5 (.tmp 3), none, false⟩,
   ⟨(some 33), .call (.func 27) [(.tmp 32)], none, false⟩,
   ⟨(some 9), .alloc 49 [.int .i64 0, .int .i64 0, .int .i64 0, .int .i64 0, .slice none 0 0], none, false⟩,
   ⟨none, .store 5 (.tmp 9) (.tmp 33), none, false⟩])
  (.seq (.reg [⟨(some 35), .loadn 5 (.tmp 8), none, false⟩,
   ⟨(some 36), .loadn 5 (.tmp 9), none, false⟩,
   ⟨(some 37), .call (.func 33) [(.tmp 35), (.tmp 36)], none, false⟩,
   ⟨(some 34), .mv (.tmp 37), none, false⟩,
   ⟨(some 38), .ext (.tmp 34) 0, none, false⟩,
   ⟨(some 39), .ext (.tmp 34) 1, none, false⟩,
   ⟨(some 10), .mv (.tmp 38), none, false⟩,
   ⟨(some 11), .mv (.tmp 39), none, false⟩])
  (.seq (.seq (.reg [⟨(some 40), .mv (.tmp 10), none, false⟩,
   ⟨(some 41), .mv (.tmp 6), none, false⟩,
   ⟨(some 42), .bin .neq (.tmp 40) (.tmp 41), none, false⟩,
   ⟨(some 43), .mv (.tmp 42), none, false⟩,
   ⟨(some 44), .mv (.tmp 11), (some (43, false)), false⟩,
   ⟨(some 45), .mv (.tmp 7), (some (43, false)), false⟩,
   ⟨(some 46), .bin .neq (.tmp 44) (.tmp 45), (some (43, false)), false⟩,
   ⟨(some 47), .pick (.tmp 43) (.const (.bool true)) (.tmp 46), none, false⟩])
  (.cond (.tmp 47) (.seq (.reg [⟨(some 4), .mv (.const (.bool false)), none, false⟩])
  .ret) .skip))
  (.seq (.seq (.reg [⟨(some 48), .loadn 5 (.tmp 8), none, false⟩,
   ⟨(some 49), .loadn 5 (.tmp 2), none, false⟩,
   ⟨(some 50), .call (.func 27) [(.tmp 49)], none, true⟩,
   ⟨(some 51), .call (.func 29) [(.tmp 48), (.tmp 50)], none, false⟩,
   ⟨(some 52), .un .not (.tmp 51), none, false⟩])
  (.cond (.tmp 52) (.seq (.reg [⟨(some 4), .mv (.const (.bool false)), none, false⟩])
  .ret) .skip))
  (.seq (.seq (.reg [⟨(some 53), .loadn 5 (.tmp 9), none, false⟩,
   ⟨(some 54), .loadn 5 (.tmp 3), none, false⟩,
   ⟨(some 55), .call (.func 27) [(.tmp 54)], none, true⟩,
   ⟨(some 56), .call (.func 29) [(.tmp 53), (.tmp 55)], none, false⟩,
   ⟨(some 57), .un .not (.tmp 56), none, false⟩])
  (.cond (.tmp 57) (.seq (.reg [⟨(some 4), .mv (.const (.bool false)), none, false⟩])
  .ret) .skip))
  (.seq (.reg [⟨(some 4), .mv (.const (.bool true)), none, false⟩])
  .ret))))))))))))))⟩

theorem s7 : compFn Try.prog Try.f7 = some c7 := by kernel_rfl

/-- loop.example/g01262/laws.FnExactHaveEqualSums -/
def c8 : XFn :=
 ⟨[.tmp 4],
  (.seq (.reg [⟨(some 2), .box 43 (.tmp 0), none, false⟩,
   ⟨(some 3), .box 43 (.tmp 1), none, false⟩,
   ⟨(some 4), .mv (.const (.bool false)), none, false⟩])
  (.seq (.reg [⟨(some 5), .mv (.const (.int .i64 1048576)), none, false⟩])
  (.seq (.reg [⟨(some 12), .loadn 5 (.tmp 2), none, false⟩,
   ⟨(some 13), .mv (.tmp 5), none, false⟩,
   ⟨(some 14), .call (.func 25) [(.tmp 12), (.tmp 13)], none, false⟩,
   ⟨(some 5), .mv (.tmp 14), none, false⟩])
  (.seq (.seq (.reg [⟨(some 15), .mv (.tmp 5), none, false⟩,
   ⟨(some 16), .bin .lss (.tmp 15) (.const (.int .i64 0)), none, false⟩])
  (.cond (.tmp 16) (.seq (.reg [⟨(some 4), .mv (.const (.bool true)), none, false⟩])
  .ret) .skip))
  (.seq (.reg [⟨(some 17), .loadn 5 (.tmp 3), none, false⟩,
   ⟨(some 18), .mv (.tmp 5), none, false⟩,
   ⟨(some 19), .call (.func 25) [(.tmp 17), (.tmp 18)], none, false⟩,
   ⟨(some 5), .mv (.tmp 19), none, false⟩])
  (.seq (.seq (.reg [⟨(some 20), .mv (.tmp 5), none, false⟩,
   ⟨(some 21), .bin .lss (.tmp 20) (.const (.int .i64 0)), none, false⟩])
  (.cond (.tmp 21) (.seq (.reg [⟨(some 4), .mv (.const (.bool true)), none, false⟩])
  .ret) .skip))
  (.seq (.reg [⟨(some 23), .loadn 5 (.tmp 2), none, false⟩,
   ⟨(some 24), .call (.func 27) [(.tmp 23)], none, true⟩,
   ⟨(some 25), .loadn 5 (.tmp 3), none, false⟩,
   ⟨(some 26), .call (.func 27) [(.tmp 25)], none, false⟩,
   ⟨(some 27), .call (.func 34) [(.tmp 24), (.tmp 26)], none, false⟩,
   ⟨(some 22), .mv (.tmp 27), none, false⟩,
   ⟨(some 28), .ext (.tmp 22) 0, none, false⟩,
   ⟨(some 29), .ext (.tmp 22) 1, none, false⟩,
   ⟨(some 6), .mv (.tmp 28), none, false⟩,
   ⟨(some 7), .mv (.tmp 29), none, false⟩])
  (.seq (.reg [⟨(some 30), .loadn 5 (.tmp 2), none, false⟩,
   ⟨(some 31), .call (.func 27) [(.tmp 30)], none, false⟩,
   ⟨(some 8), .alloc 49 [.int .i64 0, .int .i64 0, .int .i64 0, .int .i64 0, .slice none 0 0], none, false⟩,
   ⟨none, .store 5 (.tmp 8) (.tmp 31), none, false⟩])
  (.seq (.reg [⟨(some 32), .loadn 5 (.tmp 3), none, false⟩,
   ⟨(some 33), .call (.func 27) [(.tmp 32)], none, false⟩,
   ⟨(some 9), .alloc 49 [.int .i64 0, .int .i64 0, .int .i64 0, .int .i64 0, .slice none 0 0], none, false⟩,
   ⟨none, .store 5 (.tmp 9) (.tmp 33), none, false⟩])
  (.seq (.reg [⟨(some 35), .loadn 5 (.tmp 8), none, false⟩,
   ⟨(some 36), .loadn 5 (.tmp 9), none, false⟩,
   ⟨(some 37), .call (.func 35) [(.tmp 35), (.tmp 36)], none, false⟩,
   ⟨(some 34), .mv (.tmp 37), none, false⟩,
   ⟨(some 38), .ext (.tmp 34) 0, none, false⟩,
   ⟨(some 39), .ext (.tmp 34) 1, none, false⟩,
   ⟨(some 10), .mv (.tmp 38), none, false⟩,
   ⟨(some 11), .mv (.tmp 39), none, false⟩])
  (.seq (.seq (.reg [⟨(some 40), .mv (.tmp 10), none, false⟩,
   ⟨(some 41), .mv (.tmp 6), none, false⟩,
   ⟨(some 42), .eqb true (.tmp 40) (.tmp 41), none, false⟩,
   ⟨(some 43), .mv (.tmp 42), none, false⟩,
   ⟨(some 44), .mv (.tmp 11), (some (43, false)), false⟩,
   ⟨(some 45), .mv (.tmp 7), (some (43, false)), false⟩,
   ⟨(some 46), .bin .neq (.tmp 44) (.tmp 45), (some (43, false)), false⟩,
   ⟨(some 47), .pick (.tmp 43) (.const (.bool true)) (.tmp 46), none, false⟩])
  (.cond (.tmp 47) (.seq (.reg [⟨(some 4), .mv (.const (.bool false)), none, false⟩])
  .ret) .skip))
  (.seq (.seq (.reg [⟨(some 48), .loadn 5 (.tmp 8), none, false⟩,
   ⟨(some 49), .loadn 5 (.tmp 2), none, false⟩,
   ⟨(some 50), .call (.func 27) [(.tmp 49)], none, true⟩,
   ⟨(some 51), .call (.func 29) [(.tmp 48), (.tmp 50)], none, false⟩,
   ⟨(some 52), .un .not (.tmp 51), none, false⟩])
  (.cond (.tmp 52) (.seq (.reg [⟨(some 4), .mv (.const (.bool false)), none, false⟩])
  .ret) .skip))
  (.seq (.seq (.reg [⟨(some 53), .loadn 5 (.tmp 9), none, false⟩,
   ⟨(some 54), .loadn 5 (.tmp 3), none, false⟩,
   ⟨(some 55), .call (.func 27) [(.tmp 54)], none, true⟩,
   ⟨(some 56), .call (.func 29) [(.tmp 53), (.tmp 55)], none, false⟩,
   ⟨(some 57), .un .not (.tmp 56), none, false⟩])
  (.cond (.tmp 57) (.seq (.reg [⟨(some 4), .mv (.const (.bool false)), none, false⟩])
  .ret) .skip))
  (.seq (.reg [⟨(some 4), .mv (.const (.bool true)), none, false⟩])
  .ret))))))))))))))⟩

theorem s8 : compFn Try.prog Try.f8 = some c8 := by kernel_rfl

/-- loop.example/g01262/laws.FnExactCostOf -/
def c9 : XFn :=
 ⟨[.tmp 2],
  (.seq (.reg [⟨(some 1), .box 43 (.tmp 0), none, false⟩,
   ⟨(some 2), .mv (.const (.bool false)), none, false⟩])
  (.seq (.reg [⟨(some 3), .mv (.const (.int .i64 1048576)), none, false⟩])
  (.seq (.reg [⟨(some 14), .loadn 5 (.tmp 1), none, false⟩,
   ⟨(some 15), .mv (.tmp 3), none, false⟩,
   ⟨(some 16), .call (.func 25) [(.tmp 14), (.tmp 15)], none, false⟩,
   ⟨(some 3), .mv (.tmp 16), none, false⟩])
  (.seq (.seq (.reg [⟨(some 17), .mv (.tmp 3), none, false⟩,
   ⟨(some 18), .bin .lss (.tmp 17) (.const (.int .i64 0)), none, false⟩])
  (.cond (.tmp 18) (.seq (.reg [⟨(some 2), .mv (.const (.bool true)), none, false⟩])
  .ret) .skip))
  (.seq (.reg [⟨(some 20), .loadn 5 (.tmp 1), none, false⟩,
   ⟨(some 21), .call (.func 27) [(.tmp 20)], none, false⟩,
   ⟨(some 22), .call (.func 36) [(.tmp 21)], none, false⟩,
   ⟨(some 19), .mv (.tmp 22), none, false⟩,
   ⟨(some 23), .ext (.tmp 19) 0, none, false⟩,
   ⟨(some 24), .ext (.tmp 19) 1, none, false⟩,
   ⟨(some 4), .mv (.tmp 23), none, false⟩,
   ⟨(some 5), .mv (.tmp 24), none, false⟩])
  (.seq (.reg [⟨(some 25), .loadn 5 (.tmp 1), none, false⟩,
   ⟨(some 26), .call (.func 27) [(.tmp 25)], none, false⟩,
   ⟨(some 6), .alloc 49 [.int .i64 0, .int .i64 0, .int .i64 0, .int .i64 0, .slice none 0 0], none, false⟩,
   ⟨none, .store 5 (.tmp 6) (.tmp 26), none, false⟩])
  (.seq (.reg [⟨(some 28), .loadn 5 (.tmp 6), none, false⟩,
   ⟨(some 29), .call (.func 37) [(.tmp 28)], none, false⟩,
   ⟨(some 27), .mv (.tmp 29), none, false⟩,
   ⟨(some 30), .ext (.tmp 27) 0, none, false⟩,
   ⟨(some 31), .ext (.tmp 27) 1, none, false⟩,
   ⟨(some 7), .mv (.tmp 30), none, false⟩,
   ⟨(some 8), .mv (.tmp 31), none, false⟩])
  (.seq (.seq (.reg [⟨(some 32), .mv (.tmp 7), none, false⟩,
   ⟨(some 33), .mv (.tmp 4), none, false⟩,
   ⟨(some 34), .call (.func 38) [(.tmp 32), (.tmp 33)], none, false⟩,
   ⟨(some 35), .un .not (.tmp 34), none, false⟩,
   ⟨(some 36), .mv (.tmp 35), none, false⟩,
   ⟨(some 37), .mv (.tmp 8), (some (36, false)), false⟩,
   ⟨(some 38), .mv (.tmp 5), (some (36, false)), false⟩,
   ⟨(some 39), .bin .neq (.tmp 37) (.tmp 38), (some (36, false)), false⟩,
   ⟨(some 40), .pick (.tmp 36) (.const (.bool true)) (.tmp 39), none, false⟩])
  (.cond (.tmp 40) (.seq (.reg [⟨(some 2), .mv (.const (.bool false)), none, false⟩])
  .ret) .skip))
  (.seq (.seq (.reg [⟨(some 41), .loadn 5 (.tmp 6), none, false⟩,
   ⟨(some 42), .loadn 5 (.tmp 1), none, false⟩,
   ⟨(some 43), .call (.func 27) [(.tmp 42)], none, true⟩,
   ⟨(some 44), .call (.func 29) [(.tmp 41), (.tmp 43)], none, false⟩,
   ⟨(some 45), .un .not (.tmp 44), none, false⟩])
  (.cond (.tmp 45) (.seq (.reg [⟨(some 2), .mv (.const (.bool false)), none, false⟩])
  .ret) .skip))
  (.seq (.reg [⟨(some 9), .mv (.const (.int .i64 1)), none, false⟩])
  (.seq (.reg [⟨(some 46), .loadn 5 (.tmp 6), none, false⟩,
   ⟨(some 47), .mv (.tmp 9), none, false⟩,
   ⟨(some 48), .call (.func 39) [(.tmp 46), (.tmp 47)], none, false⟩,
   ⟨(some 9), .mv (.tmp 48), none, false⟩])
  (.seq (.seq (.reg [⟨(some 49), .mv (.tmp 9), none, false⟩,
   ⟨(some 50), .bin .lss (.tmp 49) (.const (.int .i64 0)), none, false⟩,
   ⟨(some 51), .mv (.tmp 50), none, false⟩,
   ⟨(some 52), .mv (.tmp 7), (some (51, false)), false⟩,
   ⟨(some 53), .mv (.tmp 4), (some (51, false)), false⟩,
   ⟨(some 54), .call (.func 38) [(.tmp 52), (.tmp 53)], (some (51, false)), false⟩,
   ⟨(some 55), .un .not (.tmp 54), (some (51, false)), false⟩,
   ⟨(some 56), .pick (.tmp 51) (.const (.bool true)) (.tmp 55), none, false⟩,
   ⟨(some 57), .mv (.tmp 56), none, false⟩,
   ⟨(some 58), .mv (.tmp 8), (some (57, false)), false⟩,
   ⟨(some 59), .mv (.tmp 5), (some (57, false)), false⟩,
   ⟨(some 60), .bin .neq (.tmp 58) (.tmp 59), (some (57, false)), false⟩,
   ⟨(some 61), .pick (.tmp 57) (.const (.bool true)) (.tmp 60), none, false⟩])
  (.cond (.tmp 61) (.seq (.reg [⟨(some 2), .mv (.const (.bool false)), none, false⟩])
  .ret) .skip))
  (.seq (.reg [⟨(some 10), .mv (.const (.int .i64 1)), none, false⟩])
  (.seq (.reg [⟨(some 62), .mv (.tmp 7), none, false⟩,
   ⟨(some 63), .mv (.tmp 10), none, false⟩,
   ⟨(some 64), .call (.func 40) [(.tmp 62), (.tmp 63)], none, false⟩,
   ⟨(some 10), .mv (.tmp 64), none, false⟩])
  (.seq (.reg [⟨(some 11), .mv (.const (.int .i64 1)), none, false⟩])
  (.seq (.reg [⟨(some 65), .mv (.tmp 7), none, false⟩,
   ⟨(some 66), .mv (.tmp 11), none, false⟩,
   ⟨(some 67), .call (.func 41) [(.tmp 65), (.tmp 66)], none, false⟩,
   ⟨(some 11), .mv (.tmp 67), none, false⟩])
  (.seq (.seq (.reg [⟨(some 68), .mv (.tmp 11), none, false⟩,
   ⟨(some 69), .bin .lss (.tmp 68) (.const (.int .i64 0)), none, false⟩])
  (.cond (.tmp 69) (.seq (.reg [⟨(some 2), .mv (.const (.bool false)), none, false⟩])
  .ret) .skip))
  (.seq (.seq (.reg [⟨(some 70), .mv (.tmp 11), none, false⟩,
   ⟨(some 71), .mv (.tmp 10), none, false⟩,
   ⟨(some 72), .bin .neq (.tmp 70) (.tmp 71), none, false⟩])
  (.cond (.tmp 72) (.seq (.reg [⟨(some 2), .mv (.const (.bool false)), none, false⟩])
  .ret) .skip))
  (.seq (.reg [⟨(some 74), .loadn 5 (.tmp 1), none, false⟩,
   ⟨(some 75), .call (.func 27) [(.tmp 74)], none, false⟩,
   ⟨(some 76), .call (.func 37) [(.tmp 75)], none, false⟩,
   ⟨(some 73), .mv (.tmp 76), none, false⟩,
   ⟨(some 77), .ext (.tmp 73) 0, none, false⟩,
   ⟨(some 78), .ext (.tmp 73) 1, none, false⟩,
   ⟨(some 12), .mv (.tmp 77), none, false⟩,
   ⟨(some 13), .mv (.tmp 78), none, false⟩])
  (.seq (.seq (.reg [⟨(some 79), .mv (.tmp 12), none, false⟩,
   ⟨(some 80), .mv (.tmp 4), none, false⟩,
   ⟨(some 81), .call (.func 38) [(.tmp 79), (.tmp 80)], none, false⟩,
   ⟨(some 82), .un .not (.tmp 81), none, false⟩,
   ⟨(some 83), .mv (.tmp 82), none, false⟩,
   ⟨(some 84), .mv (.tmp 13), (some (83, false)), false⟩,
   ⟨(some 85), .mv (.tmp 5), (some (83, false)), false⟩,
   ⟨(some 86), .bin .neq (.tmp 84) (.tmp 85), (some (83, false)), false⟩,
   ⟨(some 87), .pick (.tmp 83) (.const (.bool true)) (.tmp 86), none, false⟩])
  (.cond (.tmp 87) (.seq (.reg [⟨(some 2), .mv (.const (.bool false)), none, false⟩])
  .ret) .skip))
  (.seq (.reg [⟨(some 11), .mv (.const (.int .i64 1)), none, false⟩])
  (.seq (.reg [⟨(some 88), .mv (.tmp 7), none, false⟩,
   ⟨(some 89), .mv (.tmp 11), none, false⟩,
   ⟨(some 90), .call (.func 41) [(.tmp 88), (.tmp 89)], none, false⟩,
   ⟨(some 11), .mv (.tmp 90), none, false⟩])
  (.seq (.seq (.reg [⟨(some 91), .mv (.tmp 11), none, false⟩,
   ⟨(some 92), .bin .lss (.tmp 91) (.const (.int .i64 0)), none, false⟩])
  (.cond (.tmp 92) (.seq (.reg [⟨(some 2), .mv (.const (.bool false)), none, false⟩])
  .ret) .skip))
  (.seq (.seq (.reg [⟨(some 93), .mv (.tmp 11), none, false⟩,
   ⟨(some 94), .mv (.tmp 10), none, false⟩,
   ⟨(some 95), .bin .neq (.tmp 93) (.tmp 94), none, false⟩])
  (.cond (.tmp 95) (.seq (.reg [⟨(some 2), .mv (.const (.bool false)), none, false⟩])
  .ret) .skip))
  (.seq (.reg [⟨(some 2), .mv (.const (.bool true)), none, false⟩])
  .ret)))))))))))))))))))))))))⟩

theorem s9 : compFn Try.prog Try.f9 = some c9 := by kernel_rfl

/-- loop.example/g01262/laws.FnExactTensorOfScheme -/
def c10 : XFn :=
 ⟨[.tmp 2],
  (.seq (.reg [⟨(some 1), .box 43 (.tmp 0), none, false⟩,
   ⟨(some 2), .mv (.const (.bool false)), none, false⟩])
  (.seq (.reg [⟨(some 3), .mv (.const (.int .i64 1048576)), none, false⟩])
  (.seq (.reg [⟨(some 14), .loadn 5 (.tmp 1), none, false⟩,
   ⟨(some 15), .mv (.tmp 3), none, false⟩,
   ⟨(some 16), .call (.func 25) [(.tmp 14), (.tmp 15)], none, false⟩,
   ⟨(some 3), .mv (.tmp 16), none, false⟩])
  (.seq (.seq (.reg [⟨(some 17), .mv (.tmp 3), none, false⟩,
   ⟨(some 18), .bin .lss (.tmp 17) (.const (.int .i64 0)), none, false⟩])
  (.cond (.tmp 18) (.seq (.reg [⟨(some 2), .mv (.const (.bool true)), none, false⟩])
  .ret) .skip))
  (.seq (.reg [⟨(some 20), .loadn 5 (.tmp 1), none, false⟩,
   ⟨(some 21), .call (.func 27) [(.tmp 20)], none, false⟩,
   ⟨(some 22), .call (.func 42) [(.tmp 21)], none, false⟩,
   ⟨(some 19), .mv (.tmp 22), none, false⟩,
   ⟨(some 23), .ext (.tmp 19) 0, none, false⟩,
   ⟨(some 24), .ext (.tmp 19) 1, none, false⟩,
   ⟨(some 4), .alloc 24 [.int .i64 0, .int .i64 0, .int .i64 0, .int .i64 0, .slice none 0 0], none, false⟩,
   ⟨none, .store 5 (.tmp 4) (.tmp 23), none, false⟩,
   ⟨(some 5), .mv (.tmp 24), none, false⟩])
  (.seq (.reg [⟨(some 25), .loadn 5 (.tmp 1), none, false⟩,
   ⟨(some 26), .call (.func 27) [(.tmp 25)], none, false⟩,
   ⟨(some 6), .alloc 49 [.int .i64 0, .int .i64 0, .int .i64 0, .int .i64 0, .slice none 0 0], none, false⟩,
   ⟨none, .store 5 (.tmp 6) (.tmp 26), none, false⟩])
  (.seq (.reg [⟨(some 28), .loadn 5 (.tmp 6), none, false⟩,
   ⟨(some 29), .call (.func 43) [(.tmp 28)], none, false⟩,
   ⟨(some 27), .mv (.tmp 29), none, false⟩,
   ⟨(some 30), .ext (.tmp 27) 0, none, false⟩,
   ⟨(some 31), .ext (.tmp 27) 1, none, false⟩,
   ⟨(some 7), .alloc 24 [.int .i64 0, .int .i64 0, .int .i64 0, .int .i64 0, .slice none 0 0], none, false⟩,
   ⟨none, .store 5 (.tmp 7) (.tmp 30), none, false⟩,
   ⟨(some 8), .mv (.tmp 31), none, false⟩])
  (.seq (.seq (.reg [⟨(some 32), .loadn 5 (.tmp 7), none, false⟩,
   ⟨(some 33), .loadn 5 (.tmp 4), none, false⟩,
   ⟨(some 34), .call (.func 17) [(.tmp 32), (.tmp 33)], none, false⟩,
   ⟨(some 35), .un .not (.tmp 34), none, false⟩,
   ⟨(some 36), .mv (.tmp 35), none, false⟩,
   ⟨(some 37), .mv (.tmp 8), (some (36, false)), false⟩,
   ⟨(some 38), .mv (.tmp 5), (some (36, false)), false⟩,
   ⟨(some 39), .bin .neq (.tmp 37) (.tmp 38), (some (36, false)), false⟩,
   ⟨(some 40), .pick (.tmp 36) (.const (.bool true)) (.tmp 39), none, false⟩])
  (.cond (.tmp 40) (.seq (.reg [⟨(some 2), .mv (.const (.bool false)), none, false⟩])
  .ret) .skip))
  (.seq (.seq (.reg [⟨(some 41), .loadn 5 (.tmp 6), none, false⟩,
   ⟨(some 42), .loadn 5 (.tmp 1), none, false⟩,
   ⟨(some 43), .call (.func 27) [(.tmp 42)], none, true⟩,
   ⟨(some 44), .call (.func 29) [(.tmp 41), (.tmp 43)], none, false⟩,
   ⟨(some 45), .un .not (.tmp 44), none, false⟩])
  (.cond (.tmp 45) (.seq (.reg [⟨(some 2), .mv (.const (.bool false)), none, false⟩])
  .ret) .skip))
  (.seq (.reg [⟨(some 9), .mv (.const (.int .i64 1)), none, false⟩])
  (.seq (.reg [⟨(some 46), .loadn 5 (.tmp 6), none, false⟩,
   ⟨(some 47), .mv (.tmp 9), none, false⟩,
   ⟨(some 48), .call (.func 39) [(.tmp 46), (.tmp 47)], none, false⟩,
   ⟨(some 9), .mv (.tmp 48), none, false⟩])
  (.seq (.seq (.reg [⟨(some 49), .mv (.tmp 9), none, false⟩,
   ⟨(some 50), .bin .lss (.tmp 49) (.const (.int .i64 0)), none, false⟩,
   ⟨(some 51), .mv (.tmp 50), none, false⟩,
   ⟨(some 52), .loadn 5 (.tmp 7), (some (51, false)), false⟩,
   ⟨(some 53), .loadn 5 (.tmp 4), (some (51, false)), false⟩,
   ⟨(some 54), .call (.func 17) [(.tmp 52), (.tmp 53)], (some (51, false)), false⟩,
   ⟨(some 55), .un .not (.tmp 54), (some (51, false)), false⟩,
   ⟨(some 56), .pick (.tmp 51) (.const (.bool true)) (.tmp 55), none, false⟩,
   ⟨(some 57), .mv (.tmp 56), none, false⟩,
   ⟨(some 58), .mv (.tmp 8), (some (57, false)), false⟩,
   ⟨(some 59), .mv (.tmp 5), (some (57, false)), false⟩,
   ⟨(some 60), .bin .neq (.tmp 58) (.tmp 59), (some (57, false)), false⟩,
   ⟨(some 61), .pick (.tmp 57) (.const (.bool true)) (.tmp 60), none, false⟩])
  (.cond (.tmp 61) (.seq (.reg [⟨(some 2), .mv (.const (.bool false)), none, false⟩])
  .ret) .skip))
  (.seq (.reg [⟨(some 10), .mv (.const (.int .i64 1)), none, false⟩])
  (.seq (.reg [⟨(some 62), .loadn 5 (.tmp 7), none, false⟩,
   ⟨(some 63), .mv (.tmp 10), none, false⟩,
   ⟨(some 64), .call (.func 18) [(.tmp 62), (.tmp 63)], none, false⟩,
   ⟨(some 10), .mv (.tmp 64), none, false⟩])
  (.seq (.reg [⟨(some 11), .mv (.const (.int .i64 1)), none, false⟩])
  (.seq (.reg [⟨(some 65), .loadn 5 (.tmp 7), none, false⟩,
   ⟨(some 66), .mv (.tmp 11), none, false⟩,
   ⟨(some 67), .call (.func 19) [(.tmp 65), (.tmp 66)], none, false⟩,
   ⟨(some 11), .mv (.tmp 67), none, false⟩])
  (.seq (.seq (.reg [⟨(some 68), .mv (.tmp 11), none, false⟩,
   ⟨(some 69), .bin .lss (.tmp 68) (.const (.int .i64 0)), none, false⟩])
  (.cond (.tmp 69) (.seq (.reg [⟨(some 2), .mv (.const (.bool false)), none, false⟩])
  .ret) .skip))
  (.seq (.seq (.reg [⟨(some 70), .mv (.tmp 11), none, false⟩,
   ⟨(some 71), .mv (.tmp 10), none, false⟩,
   ⟨(some 72), .bin .neq (.tmp 70) (.tmp 71), none, false⟩])
  (.cond (.tmp 72) (.seq (.reg [⟨(some 2), .mv (.const (.bool false)), none, false⟩])
  .ret) .skip))
  (.seq (.reg [⟨(some 74), .loadn 5 (.tmp 1), none, false⟩,
   ⟨(some 75), .call (.func 27) [(.tmp 74)], none, false⟩,
   ⟨(some 76), .call (.func 43) [(.tmp 75)], none, false⟩,
   ⟨(some 73), .mv (.tmp 76), none, false⟩,
   ⟨(some 77), .ext (.tmp 73) 0, none, false⟩,
   ⟨(some 78), .ext (.tmp 73) 1, none, false⟩,
   ⟨(some 12), .alloc 24 [.int .i64 0, .int .i64 0, .int .i64 0, .int .i64 0, .slice none 0 0], none, false⟩,
   ⟨none, .store 5 (.tmp 12) (.tmp 77), none, false⟩,
   ⟨(some 13), .mv (.tmp 78), none, false⟩])
  (.seq (.seq (.reg [⟨(some 79), .loadn 5 (.tmp 12), none, false⟩,
   ⟨(some 80), .loadn 5 (.tmp 4), none, false⟩,
   ⟨(some 81), .call (.func 17) [(.tmp 79), (.tmp 80)], none, false⟩,
   ⟨(some 82), .un .not (.tmp 81), none, false⟩,
   ⟨(some 83), .mv (.tmp 82), none, false⟩,
   ⟨(some 84), .mv (.tmp 13), (some (83, false)), false⟩,
   ⟨(some 85), .mv (.tmp 5), (some (83, false)), false⟩,
   ⟨(some 86), .bin .neq (.tmp 84) (.tmp 85), (some (83, false)), false⟩,
   ⟨(some 87), .pick (.tmp 83) (.const (.bool true)) (.tmp 86), none, false⟩])
  (.cond (.tmp 87) (.seq (.reg [⟨(some 2), .mv (.const (.bool false)), none, false⟩])
  .ret) .skip))
  (.seq (.reg [⟨(some 11), .mv (.const (.int .i64 1)), none, false⟩])
  (.seq (.reg [⟨(some 88), .loadn 5 (.tmp 7), none, false⟩,
   ⟨(some 89), .mv (.tmp 11), none, false⟩,
   ⟨(some 90), .call (.func 19) [(.tmp 88), (.tmp 89)], none, false⟩,
   ⟨(some 11), .mv (.tmp 90), none, false⟩])
  (.seq (.seq (.reg [⟨(some 91), .mv (.tmp 11), none, false⟩,
   ⟨(some 92), .bin .lss (.tmp 91) (.const (.int .i64 0)), none, false⟩])
  (.cond (.tmp 92) (.seq (.reg [⟨(some 2), .mv (.const (.bool false)), none, false⟩])
  .ret) .skip))
  (.seq (.seq (.reg [⟨(some 93), .mv (.tmp 11), none, false⟩,
   ⟨(some 94), .mv (.tmp 10), none, false⟩,
   ⟨(some 95), .bin .neq (.tmp 93) (.tmp 94), none, false⟩])
  (.cond (.tmp 95) (.seq (.reg [⟨(some 2), .mv (.const (.bool false)), none, false⟩])
  .ret) .skip))
  (.seq (.reg [⟨(some 2), .mv (.const (.bool true)), none, false⟩])
  .ret)))))))))))))))))))))))))⟩

theorem s10 : compFn Try.prog Try.f10 = some c10 := by kernel_rfl

/-- loop.example/g01262/laws.FnExactMixedCost -/
def c11 : XFn :=
 ⟨[.tmp 6],
  (.seq (.reg [⟨(some 3), .box 43 (.tmp 0), none, false⟩,
   ⟨(some 6), .mv (.const (.bool false)), none, false⟩])
  (.seq (.reg [⟨(some 7), .mv (.const (.int .i64 1048576)), none, false⟩])
  (.seq (.reg [⟨(some 13), .loadn 5 (.tmp 3), none, false⟩,
   ⟨(some 14), .mv (.tmp 7), none, false⟩,
   ⟨(some 15), .call (.func 25) [(.tmp 13), (.tmp 14)], none, false⟩,
   ⟨(some 7), .mv (.tmp 15), none, false⟩])
  (.seq (.seq (.reg [⟨(some 16), .mv (.tmp 7), none, false⟩,
   ⟨(some 17), .bin .lss (.tmp 16) (.const (.int .i64 0)), none, false⟩])
  (.cond (.tmp 17) (.seq (.reg [⟨(some 6), .mv (.const (.bool true)), none, false⟩])
  .ret) .skip))
  (.seq (.reg [⟨(some 19), .loadn 5 (.tmp 3), none, false⟩,
   ⟨(some 20), .call (.func 27) [(.tmp 19)], none, false⟩,
   ⟨(some 21), .mv (.tmp 1), none, false⟩,
   ⟨(some 22), .mv (.tmp 2), none, false⟩,
   ⟨(some 23), .call (.func 44) [(.tmp 20), (.tmp 21), (.tmp 22)], none, false⟩,
   ⟨(some 18), .mv (.tmp 23), none, false⟩,
   ⟨(some 24), .ext (.tmp 18) 0, none, false⟩,
   ⟨(some 25), .ext (.tmp 18) 1, none, false⟩,
   ⟨(some 8), .mv (.tmp 24), none, false⟩,
   ⟨(some 9), .mv (.tmp 25), none, false⟩])
  (.seq (.reg [⟨(some 26), .loadn 5 (.tmp 3), none, false⟩,
   ⟨(some 27), .call (.func 27) [(.tmp 26)], none, false⟩,
   ⟨(some 10), .alloc 49 [.int .i64 0, .int .i64 0, .int .i64 0, .int .i64 0, .slice none 0 0], none, false⟩,
   ⟨none, .store 5 (.tmp 10) (.tmp 27), none, false⟩])
  (.seq (.reg [⟨(some 29), .loadn 5 (.tmp 10), none, false⟩,
   ⟨(some 30), .mv (.tmp 1), none, false⟩,
   ⟨(some 31), .mv (.tmp 2), none, false⟩,
   ⟨(some 32), .call (.func 45) [(.tmp 29), (.tmp 30), (.tmp 31)], none, false⟩,
   ⟨(some 28), .mv (.tmp 32), none, false⟩,
   ⟨(some 33), .ext (.tmp 28) 0, none, false⟩,
   ⟨(some 34), .ext (.tmp 28) 1, none, false⟩,
   ⟨(some 11), .mv (.tmp 33), none, false⟩,
   ⟨(some 12), .mv (.tmp 34), none, false⟩])
  (.seq (.seq (.reg [⟨(some 35), .mv (.tmp 11), none, false⟩,
   ⟨(some 36), .mv (.tmp 8), none, false⟩,
   ⟨(some 37), .bin .neq (.tmp 35) (.tmp 36), none, false⟩,
   ⟨(some 38), .mv (.tmp 37), none, false⟩,
   ⟨(some 39), .mv (.tmp 12), (some (38, false)), false⟩,
   ⟨(some 40), .mv (.tmp 9), (some (38, false)), false⟩,
   ⟨(some 41), .bin .neq (.tmp 39) (.tmp 40), (some (38, false)), false⟩,
   ⟨(some 42), .pick (.tmp 38) (.const (.bool true)) (.tmp 41), none, false⟩])
  (.cond (.tmp 42) (.seq (.reg [⟨(some 6), .mv (.const (.bool false)), none, false⟩])
  .ret) .skip))
  (.seq (.seq (.reg [⟨(some 43), .loadn 5 (.tmp 10), none, false⟩,
   ⟨(some 44), .loadn 5 (.tmp 3), none, false⟩,
   ⟨(some 45), .call (.func 27) [(.tmp 44)], none, true⟩,
   ⟨(some 46), .call (.func 29) [(.tmp 43), (.tmp 45)], none, false⟩,
   ⟨(some 47), .un .not (.tmp 46), none, false⟩])
  (.cond (.tmp 47) (.seq (.reg [⟨(some 6), .mv (.const (.bool false)), none, false⟩])
  .ret) .skip))
  (.seq (.reg [⟨(some 6), .mv (.const (.bool true)), none, false⟩])
  .ret))))))))))⟩

theorem s11 : compFn Try.prog Try.f11 = some c11 := by kernel_rfl

/-- loop.example/g01262/laws.FnExactFirstGain -/
def c12 : XFn :=
 ⟨[.tmp 4],
  (.seq (.reg [⟨(some 2), .box 43 (.tmp 0), none, false⟩,
   ⟨(some 4), .mv (.const (.bool false)), none, false⟩])
  (.seq (.reg [⟨(some 5), .mv (.const (.int .i64 1048576)), none, false⟩])
  (.seq (.reg [⟨(some 11), .loadn 5 (.tmp 2), none, false⟩,
   ⟨(some 12), .mv (.tmp 5), none, false⟩,
   ⟨(some 13), .call (.func 25) [(.tmp 11), (.tmp 12)], none, false⟩,
   ⟨(some 5), .mv (.tmp 13), none, false⟩])
  (.seq (.seq (.reg [⟨(some 14), .mv (.tmp 5), none, false⟩,
   ⟨(some 15), .bin .lss (.tmp 14) (.const (.int .i64 0)), none, false⟩])
  (.cond (.tmp 15) (.seq (.reg [⟨(some 4), .mv (.const (.bool true)), none, false⟩])
  .ret) .skip))
  (.seq (.reg [⟨(some 17), .loadn 5 (.tmp 2), none, false⟩,
   ⟨(some 18), .call (.func 27) [(.tmp 17)], none, false⟩,
   ⟨(some 19), .mv (.tmp 1), none, false⟩,
   ⟨(some 20), .call (.func 46) [(.tmp 18), (.tmp 19)], none, false⟩,
   ⟨(some 16), .mv (.tmp 20), none, false⟩,
   ⟨(some 21), .ext (.tmp 16) 0, none, false⟩,
   ⟨(some 22), .ext (.tmp 16) 1, none, false⟩,
   ⟨(some 6), .mv (.tmp 21), none, false⟩,
   ⟨(some 7), .mv (.tmp 22), none, false⟩])
  (.seq (.reg [⟨(some 23), .loadn 5 (.tmp 2), none, false⟩,
   ⟨(some 24), .call (.func 27) [(.tmp 23)], none, false⟩,
   ⟨(some 8), .alloc 49 [.int .i64 0, .int .i64 0, .int .i64 0, .int .i64 0, .slice none 0 0], none, false⟩,
   ⟨none, .store 5 (.tmp 8) (.tmp 24), none, false⟩])
  (.seq (.reg [⟨(some 26), .loadn 5 (.tmp 8), none, false⟩,
   ⟨(some 27), .mv (.tmp 1), none, false⟩,
   ⟨(some 28), .call (.func 47) [(.tmp 26), (.tmp 27)], none, false⟩,
   ⟨(some 25), .mv (.tmp 28), none, false⟩,
   ⟨(some 29), .ext (.tmp 25) 0, none, false⟩,
   ⟨(some 30), .ext (.tmp 25) 1, none, false⟩,
   ⟨(some 9), .mv (.tmp 29), none, false⟩,
   ⟨(some 10), .mv (.tmp 30), none, false⟩])
  (.seq (.seq (.reg [⟨(some 31), .mv (.tmp 9), none, false⟩,
   ⟨(some 32), .mv (.tmp 6), none, false⟩,
   ⟨(some 33), .bin .neq (.tmp 31) (.tmp 32), none, false⟩,
   ⟨(some 34), .mv (.tmp 33), none, false⟩,
   ⟨(some 35), .mv (.tmp 10), (some (34, false)), false⟩,
   ⟨(some 36), .mv (.tmp 7), (some (34, false)), false⟩,
   ⟨(some 37), .bin .neq (.tmp 35) (.tmp 36), (some (34, false)), false⟩,
   ⟨(some 38), .pick (.tmp 34) (.const (.bool true)) (.tmp 37), none, false⟩])
  (.cond (.tmp 38) (.seq (.reg [⟨(some 4), .mv (.const (.bool false)), none, false⟩])
  .ret) .skip))
  (.seq (.seq (.reg [⟨(some 39), .loadn 5 (.tmp 8), none, false⟩,
   ⟨(some 40), .loadn 5 (.tmp 2), none, false⟩,
   ⟨(some 41), .call (.func 27) [(.tmp 40)], none, true⟩,
   ⟨(some 42), .call (.func 29) [(.tmp 39), (.tmp 41)], none, false⟩,
   ⟨(some 43), .un .not (.tmp 42), none, false⟩])
  (.cond (.tmp 43) (.seq (.reg [⟨(some 4), .mv (.const (.bool false)), none, false⟩])
  .ret) .skip))
  (.seq (.reg [⟨(some 4), .mv (.const (.bool true)), none, false⟩])
  .ret))))))))))⟩

theorem s12 : compFn Try.prog Try.f12 = some c12 := by kernel_rfl

/-- loop.example/g01262/laws.FnExactBestLevels -/
def c13 : XFn :=
 ⟨[.tmp 6],
  (.seq (.reg [⟨(some 3), .box 43 (.tmp 0), none, false⟩,
   ⟨(some 6), .mv (.const (.bool false)), none, false⟩])
  (.seq (.reg [⟨(some 7), .mv (.const (.int .i64 1048576)), none, false⟩])
  (.seq (.reg [⟨(some 13), .loadn 5 (.tmp 3), none, false⟩,
   ⟨(some 14), .mv (.tmp 7), none, false⟩,
   ⟨(some 15), .call (.func 25) [(.tmp 13), (.tmp 14)], none, false⟩,
   ⟨(some 7), .mv (.tmp 15), none, false⟩])
  (.seq (.seq (.reg [⟨(some 16), .mv (.tmp 7), none, false⟩,
   ⟨(some 17), .bin .lss (.tmp 16) (.const (.int .i64 0)), none, false⟩])
  (.cond (.tmp 17) (.seq (.reg [⟨(some 6), .mv (.const (.bool true)), none, false⟩])
  .ret) .skip))
  (.seq (.reg [⟨(some 19), .loadn 5 (.tmp 3), none, false⟩,
   ⟨(some 20), .call (.func 27) [(.tmp 19)], none, false⟩,
   ⟨(some 21), .mv (.tmp 1), none, false⟩,
   ⟨(some 22), .mv (.tmp 2), none, false⟩,
   ⟨(some 23), .call (.func 48) [(.tmp 20), (.tmp 21), (.tmp 22)], none, false⟩,
   ⟨(some 18), .mv (.tmp 23), none, false⟩,
   ⟨(some 24), .ext (.tmp 18) 0, none, false⟩,
   ⟨(some 25), .ext (.tmp 18) 1, none, false⟩,
   ⟨(some 8), .mv (.tmp 24), none, false⟩,
   ⟨(some 9), .mv (.tmp 25), none, false⟩])
  (.seq (.reg [⟨(some 26), .loadn 5 (.tmp 3), none, false⟩,
   ⟨(some 27), .call (.func 27) [(.tmp 26)], none, false⟩,
   ⟨(some 10), .alloc 49 [.int .i64 0, .int .i64 0, .int .i64 0, .int .i64 0, .slice none 0 0], none, false⟩,
   ⟨none, .store 5 (.tmp 10) (.tmp 27), none, false⟩])
  (.seq (.reg [⟨(some 29), .loadn 5 (.tmp 10), none, false⟩,
   ⟨(some 30), .mv (.tmp 1), none, false⟩,
   ⟨(some 31), .mv (.tmp 2), none, false⟩,
   ⟨(some 32), .call (.func 49) [(.tmp 29), (.tmp 30), (.tmp 31)], none, false⟩,
   ⟨(some 28), .mv (.tmp 32), none, false⟩,
   ⟨(some 33), .ext (.tmp 28) 0, none, false⟩,
   ⟨(some 34), .ext (.tmp 28) 1, none, false⟩,
   ⟨(some 11), .mv (.tmp 33), none, false⟩,
   ⟨(some 12), .mv (.tmp 34), none, false⟩])
  (.seq (.seq (.reg [⟨(some 35), .mv (.tmp 11), none, false⟩,
   ⟨(some 36), .mv (.tmp 8), none, false⟩,
   ⟨(some 37), .bin .neq (.tmp 35) (.tmp 36), none, false⟩,
   ⟨(some 38), .mv (.tmp 37), none, false⟩,
   ⟨(some 39), .mv (.tmp 12), (some (38, false)), false⟩,
   ⟨(some 40), .mv (.tmp 9), (some (38, false)), false⟩,
   ⟨(some 41), .bin .neq (.tmp 39) (.tmp 40), (some (38, false)), false⟩,
   ⟨(some 42), .pick (.tmp 38) (.const (.bool true)) (.tmp 41), none, false⟩])
  (.cond (.tmp 42) (.seq (.reg [⟨(some 6), .mv (.const (.bool false)), none, false⟩])
  .ret) .skip))
  (.seq (.seq (.reg [⟨(some 43), .loadn 5 (.tmp 10), none, false⟩,
   ⟨(some 44), .loadn 5 (.tmp 3), none, false⟩,
   ⟨(some 45), .call (.func 27) [(.tmp 44)], none, true⟩,
   ⟨(some 46), .call (.func 29) [(.tmp 43), (.tmp 45)], none, false⟩,
   ⟨(some 47), .un .not (.tmp 46), none, false⟩])
  (.cond (.tmp 47) (.seq (.reg [⟨(some 6), .mv (.const (.bool false)), none, false⟩])
  .ret) .skip))
  (.seq (.reg [⟨(some 6), .mv (.const (.bool true)), none, false⟩])
  .ret))))))))))⟩

theorem s13 : compFn Try.prog Try.f13 = some c13 := by kernel_rfl

/-- loop.example/g01262/laws.FnExactRepeatedCost -/
def c14 : XFn :=
 ⟨[.tmp 4],
  (.seq (.reg [⟨(some 2), .box 43 (.tmp 0), none, false⟩,
   ⟨(some 4), .mv (.const (.bool false)), none, false⟩])
  (.seq (.reg [⟨(some 5), .mv (.const (.int .i64 1048576)), none, false⟩])
  (.seq (.reg [⟨(some 16), .loadn 5 (.tmp 2), none, false⟩,
   ⟨(some 17), .mv (.tmp 5), none, false⟩,
   ⟨(some 18), .call (.func 25) [(.tmp 16), (.tmp 17)], none, false⟩,
   ⟨(some 5), .mv (.tmp 18), none, false⟩])
  (.seq (.seq (.reg [⟨(some 19), .mv (.tmp 5), none, false⟩,
   ⟨(some 20), .bin .lss (.tmp 19) (.const (.int .i64 0)), none, false⟩])
  (.cond (.tmp 20) (.seq (.reg [⟨(some 4), .mv (.const (.bool true)), none, false⟩])
  .ret) .skip))
  (.seq (.reg [⟨(some 22), .loadn 5 (.tmp 2), none, false⟩,
   ⟨(some 23), .call (.func 27) [(.tmp 22)], none, false⟩,
   ⟨(some 24), .mv (.tmp 1), none, false⟩,
   ⟨(some 25), .call (.func 50) [(.tmp 23), (.tmp 24)], none, false⟩,
   ⟨(some 21), .mv (.tmp 25), none, false⟩,
   ⟨(some 26), .ext (.tmp 21) 0, none, false⟩,
   ⟨(some 27), .ext (.tmp 21) 1, none, false⟩,
   ⟨(some 6), .mv (.tmp 26), none, false⟩,
   ⟨(some 7), .mv (.tmp 27), none, false⟩])
  (.seq (.reg [⟨(some 28), .loadn 5 (.tmp 2), none, false⟩,
   ⟨(some 29), .call (.func 27) [(.tmp 28)], none, false⟩,
   ⟨(some 8), .alloc 49 [.int .i64 0, .int .i64 0, .int .i64 0, .int .i64 0, .slice none 0 0], none, false⟩,
   ⟨none, .store 5 (.tmp 8) (.tmp 29), none, false⟩])
  (.seq (.reg [⟨(some 31), .loadn 5 (.tmp 8), none, false⟩,
   ⟨(some 32), .mv (.tmp 1), none, false⟩,
   ⟨(some 33), .call (.func 51) [(.tmp 31), (.tmp 32)], none, false⟩,
   ⟨(some 30), .mv (.tmp 33), none, false⟩,
   ⟨(some 34), .ext (.tmp 30) 0, none, false⟩,
   ⟨(some 35), .ext (.tmp 30) 1, none, false⟩,
   ⟨(some 9), .mv (.tmp 34), none, false⟩,
   ⟨(some 10), .mv (.tmp 35), none, false⟩])
  (.seq (.seq (.reg [⟨(some 36), .mv (.tmp 9), none, false⟩,
   ⟨(some 37), .mv (.tmp 6), none, false⟩,
   ⟨(some 38), .call (.func 38) [(.tmp 36), (.tmp 37)], none, false⟩,
   ⟨(some 39), .un .not (.tmp 38), none, false⟩,
   ⟨(some 40), .mv (.tmp 39), none, false⟩,
   ⟨(some 41), .mv (.tmp 10), (some (40, false)), false⟩,
   ⟨(some 42), .mv (.tmp 7), (some (40, false)), false⟩,
   ⟨(some 43), .bin .neq (.tmp 41) (.tmp 42), (some (40, false)), false⟩,
   ⟨(some 44), .pick (.tmp 40) (.const (.bool true)) (.tmp 43), none, false⟩])
  (.cond (.tmp 44) (.seq (.reg [⟨(some 4), .mv (.const (.bool false)), none, false⟩])
  .ret) .skip))
  (.seq (.seq (.reg [⟨(some 45), .loadn 5 (.tmp 8), none, false⟩,
   ⟨(some 46), .loadn 5 (.tmp 2), none, false⟩,
   ⟨(some 47), .call (.func 27) [(.tmp 46)], none, true⟩,
   ⟨(some 48), .call (.func 29) [(.tmp 45), (.tmp 47)], none, false⟩,
   ⟨(some 49), .un .not (.tmp 48), none, false⟩])
  (.cond (.tmp 49) (.seq (.reg [⟨(some 4), .mv (.const (.bool false)), none, false⟩])
  .ret) .skip))
  (.seq (.reg [⟨(some 11), .mv (.const (.int .i64 1)), none, false⟩])
  (.seq (.reg [⟨(some 50), .loadn 5 (.tmp 8), none, false⟩,
   ⟨(some 51), .mv (.tmp 11), none, false⟩,
   ⟨(some 52), .call (.func 39) [(.tmp 50), (.tmp 51)], none, false⟩,
   ⟨(some 11), .mv (.tmp 52), none, false⟩])
  (.seq (.seq (.reg [⟨(some 53), .mv (.tmp 11), none, false⟩,
   ⟨(some 54), .bin .lss (.tmp 53) (.const (.int .i64 0)), none, false⟩,
   ⟨(some 55), .mv (.tmp 54), none, false⟩,
   ⟨(some 56), .mv (.tmp 9), (some (55, false)), false⟩,
   ⟨(some 57), .mv (.tmp 6), (some (55, false)), false⟩,
   ⟨(some 58), .call (.func 38) [(.tmp 56), (.tmp 57)], (some (55, false)), false⟩,
   ⟨(some 59), .un .not (.tmp 58), (some (55, false)), false⟩,
   ⟨(some 60), .pick (.tmp 55) (.const (.bool true)) (.tmp 59), none, false⟩,
   ⟨(some 61), .mv (.tmp 60), none, false⟩,
   ⟨(some 62), .mv (.tmp 10), (some (61, false)), false⟩,
   ⟨(some 63), .mv (.tmp 7), (some (61, false)), false⟩,
   ⟨(some 64), .bin .neq (.tmp 62) (.tmp 63), (some (61, false)), false⟩,
   ⟨(some 65), .pick (.tmp 61) (.const (.bool true)) (.tmp 64), none, false⟩])
  (.cond (.tmp 65) (.seq (.reg [⟨(some 4), .mv (.const (.bool false)), none, false⟩])
  .ret) .skip))
  (.seq (.reg [⟨(some 12), .mv (.const (.int .i64 1)), none, false⟩])
  (.seq (.reg [⟨(some 66), .mv (.tmp 9), none, false⟩,
   ⟨(some 67), .mv (.tmp 12), none, false⟩,
   ⟨(some 68), .call (.func 40) [(.tmp 66), (.tmp 67)], none, false⟩,
   ⟨(some 12), .mv (.tmp 68), none, false⟩])
  (.seq (.reg [⟨(some 13), .mv (.const (.int .i64 1)), none, false⟩])
  (.seq (.reg [⟨(some 69), .mv (.tmp 9), none, false⟩,
   ⟨(some 70), .mv (.tmp 13), none, false⟩,
   ⟨(some 71), .call (.func 41) [(.tmp 69), (.tmp 70)], none, false⟩,
   ⟨(some 13), .mv (.tmp 71), none, false⟩])
  (.seq (.seq (.reg [⟨(some 72), .mv (.tmp 13), none, false⟩,
   ⟨(some 73), .bin .lss (.tmp 72) (.const (.int .i64 0)), none, false⟩])
  (.cond (.tmp 73) (.seq (.reg [⟨(some 4), .mv (.const (.bool false)), none, false⟩])
  .ret) .skip))
  (.seq (.seq (.reg [⟨(some 74), .mv (.tmp 13), none, false⟩,
   ⟨(some 75), .mv (.tmp 12), none, false⟩,
   ⟨(some 76), .bin .neq (.tmp 74) (.tmp 75), none, false⟩])
  (.cond (.tmp 76) (.seq (.reg [⟨(some 4), .mv (.const (.bool false)), none, false⟩])
  .ret) .skip))
  (.seq (.reg [⟨(some 78), .loadn 5 (.tmp 2), none, false⟩,
   ⟨(some 79), .call (.func 27) [(.tmp 78)], none, false⟩,
   ⟨(some 80), .mv (.tmp 1), none, false⟩,
   ⟨(some 81), .call (.func 51) [(.tmp 79), (.tmp 80)], none, false⟩,
   ⟨(some 77), .mv (.tmp 81), none, false⟩,
   ⟨(some 82), .ext (.tmp 77) 0, none, false⟩,
   ⟨(some 83), .ext (.tmp 77) 1, none, false⟩,
   ⟨(some 14), .mv (.tmp 82), none, false⟩,
   ⟨(some 15), .mv (.tmp 83), none, false⟩])
  (.seq (.seq (.reg [⟨(some 84), .mv (.tmp 14), none, false⟩,
   ⟨(some 85), .mv (.tmp 6), none, false⟩,
   ⟨(some 86), .call (.func 38) [(.tmp 84), (.tmp 85)], none, false⟩,
   ⟨(some 87), .un .not (.tmp 86), none, false⟩,
   ⟨(some 88), .mv (.tmp 87), none, false⟩,
   ⟨(some 89), .mv (.tmp 15), (some (88, false)), false⟩,
   ⟨(some 90), .mv (.tmp 7), (some (88, false)), false⟩,
   ⟨(some 91), .bin .neq (.tmp 89) (.tmp 90), (some (88, false)), false⟩,
   ⟨(some 92), .pick (.tmp 88) (.const (.bool true)) (.tmp 91), none, false⟩])
  (.cond (.tmp 92) (.seq (.reg [⟨(some 4), .mv (.const (.bool false)), none, false⟩])
  .ret) .skip))
  (.seq (.reg [⟨(some 13), .mv (.const (.int .i64 1)), none, false⟩])
  (.seq (.reg [⟨(some 93), .mv (.tmp 9), none, false⟩,
   ⟨(some 94), .mv (.tmp 13), none, false⟩,
   ⟨(some 95), .call (.func 41) [(.tmp 93), (.tmp 94)], none, false⟩,
   ⟨(some 13), .mv (.tmp 95), none, false⟩])
  (.seq (.seq (.reg [⟨(some 96), .mv (.tmp 13), none, false⟩,
   ⟨(some 97), .bin .lss (.tmp 96) (.const (.int .i64 0)), none, false⟩])
  (.cond (.tmp 97) (.seq (.reg [⟨(some 4), .mv (.const (.bool false)), none, false⟩])
  .ret) .skip))
  (.seq (.seq (.reg [⟨(some 98), .mv (.tmp 13), none, false⟩,
   ⟨(some 99), .mv (.tmp 12), none, false⟩,
   ⟨(some 100), .bin .neq (.tmp 98) (.tmp 99), none, false⟩])
  (.cond (.tmp 100) (.seq (.reg [⟨(some 4), .mv (.const (.bool false)), none, false⟩])
  .ret) .skip))
  (.seq (.reg [⟨(some 4), .mv (.const (.bool true)), none, false⟩])
  .ret)))))))))))))))))))))))))⟩

theorem s14 : compFn Try.prog Try.f14 = some c14 := by kernel_rfl

/-- loop.example/g01262/spec.MatrixTensor -/
def c15 : XFn :=
 ⟨[.celln 8 5, .tmp 9],
  (.seq (.reg [⟨(some 8), .alloc 24 [.int .i64 0, .int .i64 0, .int .i64 0, .int .i64 0, .slice none 0 0], none, false⟩,
   ⟨(some 9), .mv (.const (.int .i64 0)), none, false⟩])
  (.seq (.seq (.reg [⟨(some 10), .mv (.tmp 0), none, false⟩,
   ⟨(some 11), .mv (.tmp 1), none, false⟩,
   ⟨(some 12), .mv (.tmp 2), none, false⟩,
   ⟨(some 13), .mv (.tmp 3), none, false⟩,
   ⟨(some 14), .call (.func 52) [(.tmp 10), (.tmp 11), (.tmp 12), (.tmp 13)], none, false⟩,
   ⟨(some 15), .un .not (.tmp 14), none, false⟩])
  (.cond (.tmp 15) (.seq (.reg [⟨(some 16), .build [.int .i64 0, .int .i64 0, .int .i64 0, .int .i64 0, .slice none 0 0] [], none, false⟩,
   ⟨none, .store 5 (.tmp 8) (.tmp 16), none, false⟩,
   ⟨(some 9), .mv (.const (.int .i64 2)), none, false⟩])
  .ret) .skip))
  (.seq (.reg [⟨(some 17), .mv (.tmp 0), none, false⟩,
   ⟨(some 18), .mv (.tmp 1), none, false⟩,
   ⟨(some 19), .mv (.tmp 2), none, false⟩,
   ⟨(some 20), .mv (.tmp 3), none, false⟩,
   ⟨(some 21), .call (.func 54) [(.tmp 17), (.tmp 18), (.tmp 19), (.tmp 20)], none, false⟩,
   ⟨(some 22), .call (.func 53) [(.tmp 21)], none, false⟩,
   ⟨none, .store 5 (.tmp 8) (.tmp 22), none, false⟩,
   ⟨(some 9), .mv (.const (.int .i64 0)), none, false⟩])
  .ret)))⟩

theorem s15 : compFn Try.prog Try.f15 = some c15 := by kernel_rfl

/-- loop.example/g01262/impl.MatrixTensor -/
def c16 : XFn :=
 ⟨[.celln 8 5, .tmp 9],
  (.seq (.reg [⟨(some 8), .alloc 24 [.int .i64 0, .int .i64 0, .int .i64 0, .int .i64 0, .slice none 0 0], none, false⟩,
   ⟨(some 9), .mv (.const (.int .i64 0)), none, false⟩])
  (.seq (.reg [⟨(some 13), .mv (.tmp 0), none, false⟩,
   ⟨(some 14), .mv (.tmp 1), none, false⟩,
   ⟨(some 15), .mv (.tmp 2), none, false⟩,
   ⟨(some 16), .mv (.tmp 3), none, false⟩,
   ⟨(some 17), .call (.func 55) [(.tmp 13), (.tmp 14), (.tmp 15), (.tmp 16)], none, false⟩,
   ⟨(some 12), .mv (.tmp 17), none, false⟩,
   ⟨(some 18), .ext (.tmp 12) 0, none, false⟩,
   ⟨(some 19), .ext (.tmp 12) 1, none, false⟩,
   ⟨(some 10), .alloc 49 [.int .i64 0, .int .i64 0, .int .i64 0, .int .i64 0, .slice none 0 0], none, false⟩,
   ⟨none, .store 5 (.tmp 10) (.tmp 18), none, false⟩,
   ⟨(some 11), .mv (.tmp 19), none, false⟩])
  (.seq (.seq (.reg [⟨(some 20), .mv (.tmp 11), none, false⟩,
   ⟨(some 21), .bin .neq (.tmp 20) (.const (.int .i64 0)), none, false⟩])
  (.cond (.tmp 21) (.seq (.reg [⟨(some 22), .build [.int .i64 0, .int .i64 0, .int .i64 0, .int .i64 0, .slice none 0 0] [], none, false⟩,
   ⟨(some 23), .mv (.tmp 11), none, false⟩,
   ⟨none, .store 5 (.tmp 8) (.tmp 22), none, false⟩,
   ⟨(some 9), .mv (.tmp 23), none, false⟩])
  .ret) .skip))
  (.seq (.reg [⟨(some 24), .loadn 5 (.tmp 10), none, false⟩,
   ⟨(some 25), .call (.func 56) [(.tmp 24)], none, false⟩,
   ⟨none, .store 5 (.tmp 8) (.tmp 25), none, false⟩,
   ⟨(some 9), .mv (.const (.int .i64 0)), none, false⟩])
  .ret))))⟩

theorem s16 : compFn Try.prog Try.f16 = some c16 := by kernel_rfl

/-- loop.example/g01262/laws.eqTensor -/
def c17 : XFn :=
 ⟨[.tmp 4],
  (.seq (.reg [⟨(some 2), .box 24 (.tmp 0), none, false⟩,
   ⟨(some 3), .box 24 (.tmp 1), none, false⟩,
   ⟨(some 4), .mv (.const (.bool false)), none, false⟩])
  (.seq (.seq (.reg [⟨(some 5), .fadr 0 (.tmp 2), none, false⟩,
   ⟨(some 6), .load1 (.tmp 5), none, false⟩,
   ⟨(some 7), .fadr 0 (.tmp 3), none, false⟩,
   ⟨(some 8), .load1 (.tmp 7), none, false⟩,
   ⟨(some 9), .bin .neq (.tmp 6) (.tmp 8), none, false⟩])
  (.cond (.tmp 9) (.seq (.reg [⟨(some 4), .mv (.const (.bool false)), none, false⟩])
  .ret) .skip))
  (.seq (.seq (.reg [⟨(some 10), .fadr 1 (.tmp 2), none, false⟩,
   ⟨(some 11), .load1 (.tmp 10), none, false⟩,
   ⟨(some 12), .fadr 1 (.tmp 3), none, false⟩,
   ⟨(some 13), .load1 (.tmp 12), none, false⟩,
   ⟨(some 14), .bin .neq (.tmp 11) (.tmp 13), none, false⟩])
  (.cond (.tmp 14) (.seq (.reg [⟨(some 4), .mv (.const (.bool false)), none, false⟩])
  .ret) .skip))
  (.seq (.seq (.reg [⟨(some 15), .fadr 2 (.tmp 2), none, false⟩,
   ⟨(some 16), .load1 (.tmp 15), none, false⟩,
   ⟨(some 17), .fadr 2 (.tmp 3), none, false⟩,
   ⟨(some 18), .load1 (.tmp 17), none, false⟩,
   ⟨(some 19), .bin .neq (.tmp 16) (.tmp 18), none, false⟩])
  (.cond (.tmp 19) (.seq (.reg [⟨(some 4), .mv (.const (.bool false)), none, false⟩])
  .ret) .skip))
  (.seq (.seq (.reg [⟨(some 20), .fadr 3 (.tmp 2), none, false⟩,
   ⟨(some 21), .load1 (.tmp 20), none, false⟩,
   ⟨(some 22), .fadr 3 (.tmp 3), none, false⟩,
   ⟨(some 23), .load1 (.tmp 22), none, false⟩,
   ⟨(some 24), .bin .neq (.tmp 21) (.tmp 23), none, false⟩])
  (.cond (.tmp 24) (.seq (.reg [⟨(some 4), .mv (.const (.bool false)), none, false⟩])
  .ret) .skip))
  (.seq (.seq (.reg [⟨(some 25), .fadr 4 (.tmp 2), none, false⟩,
   ⟨(some 26), .load1 (.tmp 25), none, false⟩,
   ⟨(some 27), .fadr 4 (.tmp 3), none, false⟩,
   ⟨(some 28), .load1 (.tmp 27), none, false⟩,
   ⟨(some 29), .call (.func 38) [(.tmp 26), (.tmp 28)], none, false⟩,
   ⟨(some 30), .un .not (.tmp 29), none, false⟩])
  (.cond (.tmp 30) (.seq (.reg [⟨(some 4), .mv (.const (.bool false)), none, false⟩])
  .ret) .skip))
  (.seq (.reg [⟨(some 4), .mv (.const (.bool true)), none, false⟩])
  .ret)))))))⟩

theorem s17 : compFn Try.prog Try.f17 = some c17 := by kernel_rfl

/-- loop.example/g01262/laws.markTensor -/
def c18 : XFn :=
 ⟨[.tmp 4],
  (.seq (.reg [⟨(some 2), .box 24 (.tmp 0), none, false⟩,
   ⟨(some 4), .mv (.const (.int .i64 0)), none, false⟩])
  (.seq (.reg [⟨(some 5), .fadr 4 (.tmp 2), none, false⟩,
   ⟨(some 6), .load1 (.tmp 5), none, false⟩,
   ⟨(some 7), .mv (.tmp 1), none, false⟩,
   ⟨(some 8), .call (.func 40) [(.tmp 6), (.tmp 7)], none, false⟩,
   ⟨(some 1), .mv (.tmp 8), none, false⟩])
  (.seq (.reg [⟨(some 9), .mv (.tmp 1), none, false⟩,
   ⟨(some 4), .mv (.tmp 9), none, false⟩])
  .ret)))⟩

theorem s18 : compFn Try.prog Try.f18 = some c18 := by kernel_rfl

/-- loop.example/g01262/laws.heldTensor -/
def c19 : XFn :=
 ⟨[.tmp 4],
  (.seq (.reg [⟨(some 2), .box 24 (.tmp 0), none, false⟩,
   ⟨(some 4), .mv (.const (.int .i64 0)), none, false⟩])
  (.seq (.reg [⟨(some 5), .fadr 4 (.tmp 2), none, false⟩,
   ⟨(some 6), .load1 (.tmp 5), none, false⟩,
   ⟨(some 7), .mv (.tmp 1), none, false⟩,
   ⟨(some 8), .call (.func 41) [(.tmp 6), (.tmp 7)], none, false⟩,
   ⟨(some 1), .mv (.tmp 8), none, false⟩])
  (.seq (.seq (.reg [⟨(some 9), .mv (.tmp 1), none, false⟩,
   ⟨(some 10), .bin .lss (.tmp 9) (.const (.int .i64 0)), none, false⟩])
  (.cond (.tmp 10) (.seq (.reg [⟨(some 4), .mv (.const (.int .i64 (-1))), none, false⟩])
  .ret) .skip))
  (.seq (.reg [⟨(some 11), .mv (.tmp 1), none, false⟩,
   ⟨(some 4), .mv (.tmp 11), none, false⟩])
  .ret))))⟩

theorem s19 : compFn Try.prog Try.f19 = some c19 := by kernel_rfl

/-- loop.example/g01262/laws.szBorder -/
def c20 : XFn :=
 ⟨[.tmp 4],
  (.seq (.reg [⟨(some 2), .box 32 (.tmp 0), none, false⟩,
   ⟨(some 4), .mv (.const (.int .i64 0)), none, false⟩])
  (.seq (.reg [⟨(some 5), .fadr 4 (.tmp 2), none, false⟩,
   ⟨(some 6), .load1 (.tmp 5), none, false⟩,
   ⟨(some 7), .mv (.tmp 1), none, false⟩,
   ⟨(some 8), .call (.func 57) [(.tmp 6), (.tmp 7)], none, false⟩,
   ⟨(some 1), .mv (.tmp 8), none, false⟩])
  (.seq (.seq (.reg [⟨(some 9), .mv (.tmp 1), none, false⟩,
   ⟨(some 10), .bin .lss (.tmp 9) (.const (.int .i64 0)), none, false⟩])
  (.cond (.tmp 10) (.seq (.reg [⟨(some 4), .mv (.const (.int .i64 (-1))), none, false⟩])
  .ret) .skip))
  (.seq (.reg [⟨(some 11), .mv (.tmp 1), none, false⟩,
   ⟨(some 4), .mv (.tmp 11), none, false⟩])
  .ret))))⟩

theorem s20 : compFn Try.prog Try.f20 = some c20 := by kernel_rfl

/-- loop.example/g01262/spec.IsBorder -/
def c21 : XFn :=
 ⟨[.tmp 2],
  (.seq (.reg [⟨(some 1), .box 37 (.tmp 0), none, false⟩,
   ⟨(some 2), .mv (.const (.bool false)), none, false⟩])
  (.seq (.reg [⟨(some 3), .loadn 5 (.tmp 1), none, false⟩,
   ⟨(some 4), .call (.func 58) [(.tmp 3)], none, false⟩,
   ⟨(some 2), .mv (.tmp 4), none, false⟩])
  .ret))⟩

theorem s21 : compFn Try.prog Try.f21 = some c21 := by kernel_rfl

/-- loop.example/g01262/laws.toBorder -/
def c22 : XFn :=
 ⟨[.celln 2 5],
  (.seq (.reg [⟨(some 1), .box 32 (.tmp 0), none, false⟩,
   ⟨(some 2), .alloc 37 [.int .i64 0, .int .i64 0, .int .i64 0, .int .i64 0, .slice none 0 0], none, false⟩])
  (.seq (.reg [⟨(some 3), .alloc 37 [.int .i64 0, .int .i64 0, .int .i64 0, .int .i64 0, .slice none 0 0], none, false⟩])
  (.seq (.reg [⟨(some 4), .fadr 0 (.tmp 1), none, false⟩,
   ⟨(some 5), .load1 (.tmp 4), none, false⟩,
   ⟨(some 6), .fadr 0 (.tmp 3), none, false⟩,
   ⟨none, .store 1 (.tmp 6) (.tmp 5), none, false⟩])
  (.seq (.reg [⟨(some 7), .fadr 1 (.tmp 1), none, false⟩,
   ⟨(some 8), .load1 (.tmp 7), none, false⟩,
   ⟨(some 9), .fadr 1 (.tmp 3), none, false⟩,
   ⟨none, .store 1 (.tmp 9) (.tmp 8), none, false⟩])
  (.seq (.reg [⟨(some 10), .fadr 2 (.tmp 1), none, false⟩,
   ⟨(some 11), .load1 (.tmp 10), none, false⟩,
   ⟨(some 12), .fadr 2 (.tmp 3), none, false⟩,
   ⟨none, .store 1 (.tmp 12) (.tmp 11), none, false⟩])
  (.seq (.reg [⟨(some 13), .fadr 3 (.tmp 1), none, false⟩,
   ⟨(some 14), .load1 (.tmp 13), none, false⟩,
   ⟨(some 15), .fadr 3 (.tmp 3), none, false⟩,
   ⟨none, .store 1 (.tmp 15) (.tmp 14), none, false⟩])
  (.seq (.reg [⟨(some 16), .fadr 4 (.tmp 1), none, false⟩,
   ⟨(some 17), .load1 (.tmp 16), none, false⟩,
   ⟨(some 18), .call (.func 59) [(.tmp 17)], none, false⟩,
   ⟨(some 19), .fadr 4 (.tmp 3), none, false⟩,
   ⟨none, .store 1 (.tmp 19) (.tmp 18), none, false⟩])
  (.seq (.reg [⟨(some 20), .loadn 5 (.tmp 3), none, false⟩,
   ⟨none, .store 5 (.tmp 2) (.tmp 20), none, false⟩])
  .ret))))))))⟩

theorem s22 : compFn Try.prog Try.f22 = some c22 := by kernel_rfl

/-- loop.example/g01262/impl.IsBorder -/
def c23 : XFn :=
 ⟨[.tmp 2],
  (.seq (.reg [⟨(some 1), .box 37 (.tmp 0), none, false⟩,
   ⟨(some 2), .mv (.const (.bool false)), none, false⟩])
  (.seq (.seq (.reg [⟨(some 8), .loadn 5 (.tmp 1), none, false⟩,
   ⟨(some 9), .call (.func 61) [(.tmp 8)], none, false⟩,
   ⟨(some 10), .call (.func 60) [(.tmp 9)], none, false⟩,
   ⟨(some 11), .un .not (.tmp 10), none, false⟩,
   ⟨(some 12), .mv (.tmp 11), none, false⟩,
   ⟨(some 13), .fadr 4 (.tmp 1), (some (12, false)), false⟩,
   ⟨(some 14), .load1 (.tmp 13), (some (12, false)), false⟩,
   ⟨(some 15), .len (.tmp 14), (some (12, false)), false⟩,
   ⟨(some 16), .bin .gtr (.tmp 15) (.const (.int .i64 30)), (some (12, false)), false⟩,
   ⟨(some 17), .pick (.tmp 12) (.const (.bool true)) (.tmp 16), none, false⟩])
  (.cond (.tmp 17) (.seq (.reg [⟨(some 2), .mv (.const (.bool false)), none, false⟩])
  .ret) .skip))
  (.seq (.reg [⟨(some 18), .loadn 5 (.tmp 1), none, false⟩,
   ⟨(some 19), .call (.func 61) [(.tmp 18)], none, false⟩,
   ⟨(some 20), .call (.func 62) [(.tmp 19)], none, false⟩,
   ⟨(some 3), .alloc 76 [.int .i64 0, .int .i64 0, .int .i64 0], none, false⟩,
   ⟨none, .store 3 (.tmp 3) (.tmp 20), none, false⟩])
  (.seq (.seq (.reg [⟨(some 21), .fadr 4 (.tmp 1), none, false⟩,
   ⟨(some 22), .load1 (.tmp 21), none, false⟩,
   ⟨(some 23), .len (.tmp 22), none, false⟩,
   ⟨(some 24), .mv (.const (.int .i64 0)), none, false⟩])
  (.blk 0 (.loop (.seq (.reg [⟨(some 25), .bin .lss (.tmp 24) (.tmp 23), none, false⟩])
  (.seq (.cond (.tmp 25) .skip (.exit 0))
  (.seq (.blk 1 (.seq (.reg [⟨(some 26), .ixs 108 (.tmp 22) (.tmp 24), none, false⟩,
   ⟨(some 27), .loadn 108 (.tmp 26), none, false⟩,
   ⟨(some 5), .alloc 82 [.int .u8 0, .int .u8 0, .int .u8 0, .int .u8 0, .int .u8 0, .int .u8 0, .int .u8 0, .int .u8 0, .int .u8 0, .int .u8 0, .int .u8 0, .int .u8 0, .int .u8 0, .int .u8 0, .int .u8 0, .int .u8 0, .int .u8 0, .int .u8 0, .int .u8 0, .int .u8 0, .int .u8 0, .int .u8 0, .int .u8 0, .int .u8 0, .int .u8 0, .int .u8 0, .int .u8 0, .int .u8 0, .int .u8 0, .int .u8 0, .int .u8 0, .int .u8 0, .int .u8 0, .int .u8 0, .int .u8 0, .int .u8 0, .int .u8 0, .int .u8 0, .int .u8 0, .int .u8 0, .int .u8 0, .int .u8 0, .int .u8 0, .int .u8 0, .int .u8 0, .int .u8 0, .int .u8 0, .int .u8 0, .int .u8 0, .int .u8 0, .int .u8 0, .int .u8 0, .int .u8 0, .int .u8 0, .int .u8 0, .int .u8 0, .int .u8 0, .int .u8 0, .int .u8 0, .int .u8 0, .int .u8 0, .int .u8 0, .int .u8 0, .int .u8 0, .int .u8 0, .int .u8 0, .int .u8 0, .int .u8 0, .int .u8 0, .int .u8 0, .int .u8 0, .int .u8 0, .int .u8 0, .int .u8 0, .int .u8 0, .int .u8 0, .int .u8 0, .int .u8 0, .int .u8 0, .int .u8 0, .int .u8 0, .int .u8 0, .int .u8 0, .int .u8 0, .int .u8 0, .int .u8 0, .int .u8 0, .int .u8 0, .int .u8 0, .int .u8 0, .int .u8 0, .int .u8 0, .int .u8 0, .int .u8 0, .int .u8 0, .int .u8 0, .int .u8 0, .int .u8 0, .int .u8 0, .int .u8 0, .int .u8 0, .int .u8 0, .int .u8 0, .int .u8 0, .int .u8 0, .int .u8 0, .int .u8 0, .int .u8 0], none, false⟩,
   ⟨none, .store 108 (.tmp 5) (.tmp 27), none, false⟩])
  (.seq (.reg [⟨(some 28), .loadn 108 (.tmp 5), none, false⟩,
   ⟨(some 29), .call (.func 63) [(.tmp 28)], none, false⟩,
   ⟨(some 30), .mv (.const (.int .i64 0)), none, false⟩])
  (.blk 2 (.loop (.seq (.reg [⟨(some 31), .bin .lss (.tmp 30) (.const (.int .i64 3)), none, false⟩])
  (.seq (.cond (.tmp 31) .skip (.exit 2))
  (.seq (.blk 3 (.seq (.reg [⟨(some 32), .mv (.tmp 30), none, false⟩,
   ⟨(some 33), .idxn 3 36 (.tmp 29) (.tmp 30), none, false⟩,
   ⟨(some 7), .alloc 80 [.int .u8 0, .int .u8 0, .int .u8 0, .int .u8 0, .int .u8 0, .int .u8 0, .int .u8 0, .int .u8 0, .int .u8 0, .int .u8 0, .int .u8 0, .int .u8 0, .int .u8 0, .int .u8 0, .int .u8 0, .int .u8 0, .int .u8 0, .int .u8 0, .int .u8 0, .int .u8 0, .int .u8 0, .int .u8 0, .int .u8 0, .int .u8 0, .int .u8 0, .int .u8 0, .int .u8 0, .int .u8 0, .int .u8 0, .int .u8 0, .int .u8 0, .int .u8 0, .int .u8 0, .int .u8 0, .int .u8 0, .int .u8 0], none, false⟩,
   ⟨(some 6), .mv (.tmp 32), none, false⟩,
   ⟨none, .store 36 (.tmp 7) (.tmp 33), none, false⟩])
  (.seq (.reg [⟨(some 34), .fadr 0 (.tmp 1), none, false⟩,
   ⟨(some 35), .load1 (.tmp 34), none, false⟩,
   ⟨(some 36), .mv (.tmp 6), none, false⟩,
   ⟨(some 37), .ixa 3 1 (.tmp 3) (.tmp 36), none, false⟩,
   ⟨(some 38), .load1 (.tmp 37), none, false⟩,
   ⟨(some 39), .loadn 36 (.tmp 7), none, false⟩,
   ⟨(some 40), .call (.func 64) [(.tmp 35), (.tmp 38), (.tmp 39)], none, false⟩,
   ⟨(some 41), .un .not (.tmp 40), none, false⟩])
  (.cond (.tmp 41) (.seq (.reg [⟨(some 2), .mv (.const (.bool false)), none, false⟩])
  .ret) .skip))))
  (.reg [⟨(some 42), .bin .add (.tmp 30) (.const (.int .i64 1)), none, false⟩,
   ⟨(some 30), .mv (.tmp 42), none, false⟩])))))))))
  (.reg [⟨(some 43), .bin .add (.tmp 24) (.const (.int .i64 1)), none, false⟩,
   ⟨(some 24), .mv (.tmp 43), none, false⟩])))))))
  (.seq (.reg [⟨(some 2), .mv (.const (.bool true)), none, false⟩])
  .ret)))))⟩

theorem s23 : compFn Try.prog Try.f23 = some c23 := by kernel_rfl

/-- loop.example/g01262/laws.eqBorder -/
def c24 : XFn :=
 ⟨[.tmp 4],
  (.seq (.reg [⟨(some 2), .box 37 (.tmp 0), none, false⟩,
   ⟨(some 3), .box 37 (.tmp 1), none, false⟩,
   ⟨(some 4), .mv (.const (.bool false)), none, false⟩])
  (.seq (.seq (.reg [⟨(some 5), .fadr 0 (.tmp 2), none, false⟩,
   ⟨(some 6), .load1 (.tmp 5), none, false⟩,
   ⟨(some 7), .fadr 0 (.tmp 3), none, false⟩,
   ⟨(some 8), .load1 (.tmp 7), none, false⟩,
   ⟨(some 9), .bin .neq (.tmp 6) (.tmp 8), none, false⟩])
  (.cond (.tmp 9) (.seq (.reg [⟨(some 4), .mv (.const (.bool false)), none, false⟩])
  .ret) .skip))
  (.seq (.seq (.reg [⟨(some 10), .fadr 1 (.tmp 2), none, false⟩,
   ⟨(some 11), .load1 (.tmp 10), none, false⟩,
   ⟨(some 12), .fadr 1 (.tmp 3), none, false⟩,
   ⟨(some 13), .load1 (.tmp 12), none, false⟩,
   ⟨(some 14), .bin .neq (.tmp 11) (.tmp 13), none, false⟩])
  (.cond (.tmp 14) (.seq (.reg [⟨(some 4), .mv (.const (.bool false)), none, false⟩])
  .ret) .skip))
  (.seq (.seq (.reg [⟨(some 15), .fadr 2 (.tmp 2), none, false⟩,
   ⟨(some 16), .load1 (.tmp 15), none, false⟩,
   ⟨(some 17), .fadr 2 (.tmp 3), none, false⟩,
   ⟨(some 18), .load1 (.tmp 17), none, false⟩,
   ⟨(some 19), .bin .neq (.tmp 16) (.tmp 18), none, false⟩])
  (.cond (.tmp 19) (.seq (.reg [⟨(some 4), .mv (.const (.bool false)), none, false⟩])
  .ret) .skip))
  (.seq (.seq (.reg [⟨(some 20), .fadr 3 (.tmp 2), none, false⟩,
   ⟨(some 21), .load1 (.tmp 20), none, false⟩,
   ⟨(some 22), .fadr 3 (.tmp 3), none, false⟩,
   ⟨(some 23), .load1 (.tmp 22), none, false⟩,
   ⟨(some 24), .bin .neq (.tmp 21) (.tmp 23), none, false⟩])
  (.cond (.tmp 24) (.seq (.reg [⟨(some 4), .mv (.const (.bool false)), none, false⟩])
  .ret) .skip))
  (.seq (.seq (.reg [⟨(some 25), .fadr 4 (.tmp 2), none, false⟩,
   ⟨(some 26), .load1 (.tmp 25), none, false⟩,
   ⟨(some 27), .fadr 4 (.tmp 3), none, false⟩,
   ⟨(some 28), .load1 (.tmp 27), none, false⟩,
   ⟨(some 29), .call (.func 65) [(.tmp 26), (.tmp 28)], none, false⟩,
   ⟨(some 30), .un .not (.tmp 29), none, false⟩])
  (.cond (.tmp 30) (.seq (.reg [⟨(some 4), .mv (.const (.bool false)), none, false⟩])
  .ret) .skip))
  (.seq (.reg [⟨(some 4), .mv (.const (.bool true)), none, false⟩])
  .ret)))))))⟩

theorem s24 : compFn Try.prog Try.f24 = some c24 := by kernel_rfl

/-- loop.example/g01262/laws.szScheme -/
def c25 : XFn :=
 ⟨[.tmp 4],
  (.seq (.reg [⟨(some 2), .box 43 (.tmp 0), none, false⟩,
   ⟨(some 4), .mv (.const (.int .i64 0)), none, false⟩])
  (.seq (.reg [⟨(some 5), .fadr 4 (.tmp 2), none, false⟩,
   ⟨(some 6), .load1 (.tmp 5), none, false⟩,
   ⟨(some 7), .mv (.tmp 1), none, false⟩,
   ⟨(some 8), .call (.func 66) [(.tmp 6), (.tmp 7)], none, false⟩,
   ⟨(some 1), .mv (.tmp 8), none, false⟩])
  (.seq (.seq (.reg [⟨(some 9), .mv (.tmp 1), none, false⟩,
   ⟨(some 10), .bin .lss (.tmp 9) (.const (.int .i64 0)), none, false⟩])
  (.cond (.tmp 10) (.seq (.reg [⟨(some 4), .mv (.const (.int .i64 (-1))), none, false⟩])
  .ret) .skip))
  (.seq (.reg [⟨(some 11), .mv (.tmp 1), none, false⟩,
   ⟨(some 4), .mv (.tmp 11), none, false⟩])
  .ret))))⟩

theorem s25 : compFn Try.prog Try.f25 = some c25 := by kernel_rfl

/-- loop.example/g01262/spec.IsExponentAtMost -/
def c26 : XFn :=
 ⟨[.tmp 6, .tmp 7],
  (.seq (.reg [⟨(some 3), .box 49 (.tmp 0), none, false⟩,
   ⟨(some 6), .mv (.const (.bool false)), none, false⟩,
   ⟨(some 7), .mv (.const (.int .i64 0)), none, false⟩])
  (.seq (.reg [⟨(some 9), .loadn 5 (.tmp 3), none, false⟩,
   ⟨(some 10), .call (.func 67) [(.tmp 9)], none, false⟩,
   ⟨(some 8), .mv (.tmp 10), none, false⟩])
  (.seq (.seq (.reg [⟨(some 11), .mv (.tmp 8), none, false⟩,
   ⟨(some 12), .bin .eql (.tmp 11) (.const (.int .i64 0)), none, false⟩,
   ⟨(some 13), .mv (.tmp 12), none, false⟩,
   ⟨(some 14), .fadr 4 (.tmp 3), (some (13, true)), false⟩,
   ⟨(some 15), .load1 (.tmp 14), (some (13, true)), false⟩,
   ⟨(some 16), .len (.tmp 15), (some (13, true)), false⟩,
   ⟨(some 17), .bin .eql (.tmp 16) (.const (.int .i64 0)), (some (13, true)), false⟩,
   ⟨(some 18), .mv (.tmp 17), (some (13, true)), false⟩,
   ⟨(some 19), .mv (.tmp 1), (some (18, false)), false⟩,
   ⟨(some 20), .call (.func 68) [(.tmp 19), (.const (.int .i64 0)), (.const (.int .i64 24))], (some (18, false)), false⟩,
   ⟨(some 21), .un .not (.tmp 20), (some (18, false)), false⟩,
   ⟨(some 22), .pick (.tmp 18) (.const (.bool true)) (.tmp 21), (some (13, true)), false⟩,
   ⟨(some 23), .mv (.tmp 22), (some (13, true)), false⟩,
   ⟨(some 24), .mv (.tmp 2), (some (23, false)), false⟩,
   ⟨(some 25), .call (.func 68) [(.tmp 24), (.const (.int .i64 1)), (.const (.int .i64 8))], (some (23, false)), false⟩,
   ⟨(some 26), .un .not (.tmp 25), (some (23, false)), false⟩,
   ⟨(some 27), .pick (.tmp 23) (.const (.bool true)) (.tmp 26), (some (13, true)), false⟩,
   ⟨(some 28), .pick (.tmp 13) (.tmp 27) (.const (.bool false)), none, false⟩])
  (.cond (.tmp 28) (.reg [⟨(some 8), .mv (.const (.int .i64 2)), none, false⟩]) .skip))
  (.seq (.seq (.reg [⟨(some 29), .mv (.tmp 8), none, false⟩,
   ⟨(some 30), .bin .neq (.tmp 29) (.const (.int .i64 0)), none, false⟩])
  (.cond (.tmp 30) (.seq (.reg [⟨(some 31), .mv (.tmp 8), none, false⟩,
   ⟨(some 6), .mv (.const (.bool false)), none, false⟩,
   ⟨(some 7), .mv (.tmp 31), none, false⟩])
  .ret) .skip))
  (.seq (.reg [⟨(some 32), .fadr 4 (.tmp 3), none, false⟩,
   ⟨(some 33), .load1 (.tmp 32), none, false⟩,
   ⟨(some 34), .len (.tmp 33), none, false⟩,
   ⟨(some 35), .mv (.tmp 2), none, false⟩,
   ⟨(some 36), .call (.func 69) [(.tmp 34), (.tmp 35)], none, true⟩,
   ⟨(some 37), .fadr 1 (.tmp 3), none, false⟩,
   ⟨(some 38), .load1 (.tmp 37), none, false⟩,
   ⟨(some 39), .mv (.tmp 1), none, false⟩,
   ⟨(some 40), .call (.func 69) [(.tmp 38), (.tmp 39)], none, false⟩,
   ⟨(some 41), .bin .leq (.tmp 36) (.tmp 40), none, false⟩,
   ⟨(some 6), .mv (.tmp 41), none, false⟩,
   ⟨(some 7), .mv (.const (.int .i64 0)), none, false⟩])
  .ret)))))⟩

theorem s26 : compFn Try.prog Try.f26 = some c26 := by kernel_rfl

/-- loop.example/g01262/laws.toScheme -/
def c27 : XFn :=
 ⟨[.celln 2 5],
  (.seq (.reg [⟨(some 1), .box 43 (.tmp 0), none, false⟩,
   ⟨(some 2), .alloc 49 [.int .i64 0, .int .i64 0, .int .i64 0, .int .i64 0, .slice none 0 0], none, false⟩])
  (.seq (.reg [⟨(some 3), .alloc 49 [.int .i64 0, .int .i64 0, .int .i64 0, .int .i64 0, .slice none 0 0], none, false⟩])
  (.seq (.reg [⟨(some 4), .fadr 0 (.tmp 1), none, false⟩,
   ⟨(some 5), .load1 (.tmp 4), none, false⟩,
   ⟨(some 6), .fadr 0 (.tmp 3), none, false⟩,
   ⟨none, .store 1 (.tmp 6) (.tmp 5), none, false⟩])
  (.seq (.reg [⟨(some 7), .fadr 1 (.tmp 1), none, false⟩,
   ⟨(some 8), .load1 (.tmp 7), none, false⟩,
   ⟨(some 9), .fadr 1 (.tmp 3), none, false⟩,
   ⟨none, .store 1 (.tmp 9) (.tmp 8), none, false⟩])
  (.seq (.reg [⟨(some 10), .fadr 2 (.tmp 1), none, false⟩,
   ⟨(some 11), .load1 (.tmp 10), none, false⟩,
   ⟨(some 12), .fadr 2 (.tmp 3), none, false⟩,
   ⟨none, .store 1 (.tmp 12) (.tmp 11), none, false⟩])
  (.seq (.reg [⟨(some 13), .fadr 3 (.tmp 1), none, false⟩,
   ⟨(some 14), .load1 (.tmp 13), none, false⟩,
   ⟨(some 15), .fadr 3 (.tmp 3), none, false⟩,
   ⟨none, .store 1 (.tmp 15) (.tmp 14), none, false⟩])
  (.seq (.reg [⟨(some 16), .fadr 4 (.tmp 1), none, false⟩,
   ⟨(some 17), .load1 (.tmp 16), none, false⟩,
   ⟨(some 18), .call (.func 70) [(.tmp 17)], none, false⟩,
   ⟨(some 19), .fadr 4 (.tmp 3), none, false⟩,
   ⟨none, .store 1 (.tmp 19) (.tmp 18), none, false⟩])
  (.seq (.reg [⟨(some 20), .loadn 5 (.tmp 3), none, false⟩,
   ⟨none, .store 5 (.tmp 2) (.tmp 20), none, false⟩])
  .ret))))))))⟩

theorem s27 : compFn Try.prog Try.f27 = some c27 := by kernel_rfl

/-- loop.example/g01262/impl.IsExponentAtMost -/
def c28 : XFn :=
 ⟨[.tmp 6, .tmp 7],
  (.seq (.reg [⟨(some 3), .box 49 (.tmp 0), none, false⟩,
   ⟨(some 6), .mv (.const (.bool false)), none, false⟩,
   ⟨(some 7), .mv (.const (.int .i64 0)), none, false⟩])
  (.seq (.seq (.reg [⟨(some 9), .loadn 5 (.tmp 3), none, false⟩,
   ⟨(some 10), .mv (.tmp 1), none, false⟩,
   ⟨(some 11), .bin .geq (.tmp 10) (.const (.int .i64 0)), none, false⟩,
   ⟨(some 12), .mv (.tmp 11), none, false⟩,
   ⟨(some 13), .mv (.tmp 1), (some (12, true)), false⟩,
   ⟨(some 14), .bin .leq (.tmp 13) (.const (.int .i64 24)), (some (12, true)), false⟩,
   ⟨(some 15), .pick (.tmp 12) (.tmp 14) (.const (.bool false)), none, false⟩,
   ⟨(some 16), .mv (.tmp 15), none, false⟩,
   ⟨(some 17), .mv (.tmp 2), (some (16, true)), false⟩,
   ⟨(some 18), .bin .geq (.tmp 17) (.const (.int .i64 1)), (some (16, true)), false⟩,
   ⟨(some 19), .pick (.tmp 16) (.tmp 18) (.const (.bool false)), none, false⟩,
   ⟨(some 20), .mv (.tmp 19), none, false⟩,
   ⟨(some 21), .mv (.tmp 2), (some (20, true)), false⟩,
   ⟨(some 22), .bin .leq (.tmp 21) (.const (.int .i64 8)), (some (20, true)), false⟩,
   ⟨(some 23), .pick (.tmp 20) (.tmp 22) (.const (.bool false)), none, false⟩,
   ⟨(some 24), .mv (.tmp 23), none, false⟩,
   ⟨(some 25), .fadr 4 (.tmp 3), (some (24, true)), false⟩,
   ⟨(some 26), .load1 (.tmp 25), (some (24, true)), false⟩,
   ⟨(some 27), .len (.tmp 26), (some (24, true)), false⟩,
   ⟨(some 28), .bin .gtr (.tmp 27) (.const (.int .i64 0)), (some (24, true)), false⟩,
   ⟨(some 29), .pick (.tmp 24) (.tmp 28) (.const (.bool false)), none, false⟩,
   ⟨(some 30), .call (.func 71) [(.tmp 9), (.tmp 29)], none, false⟩,
   ⟨(some 8), .mv (.tmp 30), none, false⟩])
  (.seq (.reg [⟨(some 31), .mv (.tmp 8), none, false⟩,
   ⟨(some 32), .bin .neq (.tmp 31) (.const (.int .i64 0)), none, false⟩])
  (.cond (.tmp 32) (.seq (.reg [⟨(some 33), .mv (.tmp 8), none, false⟩,
   ⟨(some 6), .mv (.const (.bool false)), none, false⟩,
   ⟨(some 7), .mv (.tmp 33), none, false⟩])
  .ret) .skip)))
  (.seq (.reg [⟨(some 34), .fadr 4 (.tmp 3), none, false⟩,
   ⟨(some 35), .load1 (.tmp 34), none, false⟩,
   ⟨(some 36), .len (.tmp 35), none, false⟩,
   ⟨(some 37), .mv (.tmp 2), none, false⟩,
   ⟨(some 38), .call (.func 72) [(.tmp 36), (.tmp 37)], none, true⟩,
   ⟨(some 39), .fadr 1 (.tmp 3), none, false⟩,
   ⟨(some 40), .load1 (.tmp 39), none, false⟩,
   ⟨(some 41), .mv (.tmp 1), none, false⟩,
   ⟨(some 42), .call (.func 72) [(.tmp 40), (.tmp 41)], none, false⟩,
   ⟨(some 43), .bin .leq (.tmp 38) (.tmp 42), none, false⟩,
   ⟨(some 6), .mv (.tmp 43), none, false⟩,
   ⟨(some 7), .mv (.const (.int .i64 0)), none, false⟩])
  .ret)))⟩

theorem s28 : compFn Try.prog Try.f28 = some c28 := by kernel_rfl

/-- loop.example/g01262/laws.eqScheme -/
def c29 : XFn :=
 ⟨[.tmp 4],
  (.seq (.reg [⟨(some 2), .box 49 (.tmp 0), none, false⟩,
   ⟨(some 3), .box 49 (.tmp 1), none, false⟩,
   ⟨(some 4), .mv (.const (.bool false)), none, false⟩])
  (.seq (.seq (.reg [⟨(some 5), .fadr 0 (.tmp 2), none, false⟩,
   ⟨(some 6), .load1 (.tmp 5), none, false⟩,
   ⟨(some 7), .fadr 0 (.tmp 3), none, false⟩,
   ⟨(some 8), .load1 (.tmp 7), none, false⟩,
   ⟨(some 9), .bin .neq (.tmp 6) (.tmp 8), none, false⟩])
  (.cond (.tmp 9) (.seq (.reg [⟨(some 4), .mv (.const (.bool false)), none, false⟩])
  .ret) .skip))
  (.seq (.seq (.reg [⟨(some 10), .fadr 1 (.tmp 2), none, false⟩,
   ⟨(some 11), .load1 (.tmp 10), none, false⟩,
   ⟨(some 12), .fadr 1 (.tmp 3), none, false⟩,
   ⟨(some 13), .load1 (.tmp 12), none, false⟩,
   ⟨(some 14), .bin .neq (.tmp 11) (.tmp 13), none, false⟩])
  (.cond (.tmp 14) (.seq (.reg [⟨(some 4), .mv (.const (.bool false)), none, false⟩])
  .ret) .skip))
  (.seq (.seq (.reg [⟨(some 15), .fadr 2 (.tmp 2), none, false⟩,
   ⟨(some 16), .load1 (.tmp 15), none, false⟩,
   ⟨(some 17), .fadr 2 (.tmp 3), none, false⟩,
   ⟨(some 18), .load1 (.tmp 17), none, false⟩,
   ⟨(some 19), .bin .neq (.tmp 16) (.tmp 18), none, false⟩])
  (.cond (.tmp 19) (.seq (.reg [⟨(some 4), .mv (.const (.bool false)), none, false⟩])
  .ret) .skip))
  (.seq (.seq (.reg [⟨(some 20), .fadr 3 (.tmp 2), none, false⟩,
   ⟨(some 21), .load1 (.tmp 20), none, false⟩,
   ⟨(some 22), .fadr 3 (.tmp 3), none, false⟩,
   ⟨(some 23), .load1 (.tmp 22), none, false⟩,
   ⟨(some 24), .bin .neq (.tmp 21) (.tmp 23), none, false⟩])
  (.cond (.tmp 24) (.seq (.reg [⟨(some 4), .mv (.const (.bool false)), none, false⟩])
  .ret) .skip))
  (.seq (.seq (.reg [⟨(some 25), .fadr 4 (.tmp 2), none, false⟩,
   ⟨(some 26), .load1 (.tmp 25), none, false⟩,
   ⟨(some 27), .fadr 4 (.tmp 3), none, false⟩,
   ⟨(some 28), .load1 (.tmp 27), none, false⟩,
   ⟨(some 29), .call (.func 73) [(.tmp 26), (.tmp 28)], none, false⟩,
   ⟨(some 30), .un .not (.tmp 29), none, false⟩])
  (.cond (.tmp 30) (.seq (.reg [⟨(some 4), .mv (.const (.bool false)), none, false⟩])
  .ret) .skip))
  (.seq (.reg [⟨(some 4), .mv (.const (.bool true)), none, false⟩])
  .ret)))))))⟩

theorem s29 : compFn Try.prog Try.f29 = some c29 := by kernel_rfl

/-- loop.example/g01262/spec.GreaterSize -/
def c30 : XFn :=
 ⟨[.tmp 4, .tmp 5],
  (.seq (.reg [⟨(some 2), .box 49 (.tmp 0), none, false⟩,
   ⟨(some 4), .mv (.const (.int .i64 0)), none, false⟩,
   ⟨(some 5), .mv (.const (.int .i64 0)), none, false⟩])
  (.seq (.reg [⟨(some 9), .loadn 5 (.tmp 2), none, false⟩,
   ⟨(some 10), .call (.func 67) [(.tmp 9)], none, false⟩,
   ⟨(some 6), .mv (.tmp 10), none, false⟩])
  (.seq (.seq (.reg [⟨(some 11), .mv (.tmp 6), none, false⟩,
   ⟨(some 12), .bin .eql (.tmp 11) (.const (.int .i64 0)), none, false⟩,
   ⟨(some 13), .mv (.tmp 12), none, false⟩,
   ⟨(some 14), .mv (.tmp 1), (some (13, true)), false⟩,
   ⟨(some 15), .call (.func 68) [(.tmp 14), (.const (.int .i64 1)), (.const (.int .i64 1000000))], (some (13, true)), false⟩,
   ⟨(some 16), .un .not (.tmp 15), (some (13, true)), false⟩,
   ⟨(some 17), .pick (.tmp 13) (.tmp 16) (.const (.bool false)), none, false⟩])
  (.cond (.tmp 17) (.reg [⟨(some 6), .mv (.const (.int .i64 2)), none, false⟩]) .skip))
  (.seq (.seq (.reg [⟨(some 18), .mv (.tmp 6), none, false⟩,
   ⟨(some 19), .bin .neq (.tmp 18) (.const (.int .i64 0)), none, false⟩])
  (.cond (.tmp 19) (.seq (.reg [⟨(some 20), .mv (.tmp 6), none, false⟩,
   ⟨(some 4), .mv (.const (.int .i64 0)), none, false⟩,
   ⟨(some 5), .mv (.tmp 20), none, false⟩])
  .ret) .skip))
  (.seq (.reg [⟨(some 7), .mv (.const (.int .i64 1)), none, false⟩])
  (.seq (.seq (.reg [⟨(some 8), .mv (.const (.int .i64 0)), none, false⟩])
  (.blk 0 (.loop (.seq (.seq (.reg [⟨(some 21), .mv (.tmp 8), none, false⟩,
   ⟨(some 22), .bin .leq (.tmp 21) (.const (.int .i64 8)), none, false⟩])
  (.cond (.tmp 22) .skip (.exit 0)))
  (.seq (.blk 1 (.seq (.seq (.reg [⟨(some 25), .mv (.tmp 7), none, false⟩,
   ⟨(some 26), .mv (.tmp 1), none, false⟩,
   ⟨(some 27), .bin .geq (.tmp 25) (.tmp 26), none, false⟩])
  (.cond (.tmp 27) (.seq (.reg [⟨(some 28), .mv (.tmp 7), none, false⟩,
   ⟨(some 4), .mv (.tmp 28), none, false⟩,
   ⟨(some 5), .mv (.const (.int .i64 0)), none, false⟩])
  .ret) .skip))
  (.reg [⟨(some 29), .mv (.tmp 7), none, false⟩,
   ⟨(some 30), .fadr 1 (.tmp 2), none, false⟩,
   ⟨(some 31), .load1 (.tmp 30), none, false⟩,
   ⟨(some 32), .bin .mul (.tmp 29) (.tmp 31), none, false⟩,
   ⟨(some 7), .mv (.tmp 32), none, false⟩])))
  (.reg [⟨(some 23), .mv (.tmp 8), none, false⟩,
   ⟨(some 24), .bin .add (.tmp 23) (.const (.int .i64 1)), none, false⟩,
   ⟨(some 8), .mv (.tmp 24), none, false⟩]))))))
  (.seq (.reg [⟨(some 4), .mv (.const (.int .i64 0)), none, false⟩,
   ⟨(some 5), .mv (.const (.int .i64 4)), none, false⟩])
  .ret)))))))⟩

theorem s30 : compFn Try.prog Try.f30 = some c30 := by kernel_rfl

/-- loop.example/g01262/impl.GreaterSize -/
def c31 : XFn :=
 ⟨[.tmp 4, .tmp 5],
  (.seq (.reg [⟨(some 2), .box 49 (.tmp 0), none, false⟩,
   ⟨(some 4), .mv (.const (.int .i64 0)), none, false⟩,
   ⟨(some 5), .mv (.const (.int .i64 0)), none, false⟩])
  (.seq (.seq (.reg [⟨(some 9), .loadn 5 (.tmp 2), none, false⟩,
   ⟨(some 10), .mv (.tmp 1), none, false⟩,
   ⟨(some 11), .bin .geq (.tmp 10) (.const (.int .i64 1)), none, false⟩,
   ⟨(some 12), .mv (.tmp 11), none, false⟩,
   ⟨(some 13), .mv (.tmp 1), (some (12, true)), false⟩,
   ⟨(some 14), .bin .leq (.tmp 13) (.const (.int .i64 1000000)), (some (12, true)), false⟩,
   ⟨(some 15), .pick (.tmp 12) (.tmp 14) (.const (.bool false)), none, false⟩,
   ⟨(some 16), .call (.func 71) [(.tmp 9), (.tmp 15)], none, false⟩,
   ⟨(some 6), .mv (.tmp 16), none, false⟩])
  (.seq (.reg [⟨(some 17), .mv (.tmp 6), none, false⟩,
   ⟨(some 18), .bin .neq (.tmp 17) (.const (.int .i64 0)), none, false⟩])
  (.cond (.tmp 18) (.seq (.reg [⟨(some 19), .mv (.tmp 6), none, false⟩,
   ⟨(some 4), .mv (.const (.int .i64 0)), none, false⟩,
   ⟨(some 5), .mv (.tmp 19), none, false⟩])
  .ret) .skip)))
  (.seq (.seq (.reg [⟨(some 20), .mv (.const (.int .i64 0)), none, false⟩])
  (.blk 0 (.loop (.seq (.reg [⟨(some 21), .bin .lss (.tmp 20) (.const (.int .i64 9)), none, false⟩])
  (.seq (.cond (.tmp 21) .skip (.exit 0))
  (.seq (.blk 1 (.seq (.reg [⟨(some 22), .mv (.tmp 20), none, false⟩,
   ⟨(some 7), .mv (.tmp 22), none, false⟩])
  (.seq (.reg [⟨(some 23), .fadr 1 (.tmp 2), none, false⟩,
   ⟨(some 24), .load1 (.tmp 23), none, false⟩,
   ⟨(some 25), .mv (.tmp 7), none, false⟩,
   ⟨(some 26), .call (.func 72) [(.tmp 24), (.tmp 25)], none, false⟩,
   ⟨(some 8), .mv (.tmp 26), none, false⟩])
  (.seq (.reg [⟨(some 27), .mv (.tmp 8), none, false⟩,
   ⟨(some 28), .mv (.tmp 1), none, false⟩,
   ⟨(some 29), .bin .geq (.tmp 27) (.tmp 28), none, false⟩])
  (.cond (.tmp 29) (.seq (.reg [⟨(some 30), .mv (.tmp 8), none, false⟩,
   ⟨(some 4), .mv (.tmp 30), none, false⟩,
   ⟨(some 5), .mv (.const (.int .i64 0)), none, false⟩])
  .ret) .skip)))))
  (.reg [⟨(some 31), .bin .add (.tmp 20) (.const (.int .i64 1)), none, false⟩,
   ⟨(some 20), .mv (.tmp 31), none, false⟩])))))))
  (.seq (.reg [⟨(some 4), .mv (.const (.int .i64 0)), none, false⟩,
   ⟨(some 5), .mv (.const (.int .i64 4)), none, false⟩])
  .ret))))⟩

theorem s31 : compFn Try.prog Try.f31 = some c31 := by kernel_rfl

/-- loop.example/g01262/spec.CompareExponents -/
def c32 : XFn :=
 ⟨[.tmp 4, .tmp 5],
  (.seq (.reg [⟨(some 2), .box 49 (.tmp 0), none, false⟩,
   ⟨(some 3), .box 49 (.tmp 1), none, false⟩,
   ⟨(some 4), .mv (.const (.int .i64 0)), none, false⟩,
   ⟨(some 5), .mv (.const (.int .i64 0)), none, false⟩])
  (.seq (.reg [⟨(some 8), .loadn 5 (.tmp 2), none, false⟩,
   ⟨(some 9), .call (.func 67) [(.tmp 8)], none, true⟩,
   ⟨(some 10), .loadn 5 (.tmp 3), none, false⟩,
   ⟨(some 11), .call (.func 67) [(.tmp 10)], none, false⟩,
   ⟨(some 6), .mv (.tmp 9), none, false⟩,
   ⟨(some 7), .mv (.tmp 11), none, false⟩])
  (.seq (.blk 0 (.seq (.reg [⟨(some 13), .mv (.tmp 6), none, false⟩,
   ⟨(some 14), .bin .eql (.tmp 13) (.const (.int .i64 1)), none, false⟩,
   ⟨(some 15), .mv (.tmp 14), none, false⟩,
   ⟨(some 16), .mv (.tmp 7), (some (15, false)), false⟩,
   ⟨(some 17), .bin .eql (.tmp 16) (.const (.int .i64 1)), (some (15, false)), false⟩,
   ⟨(some 18), .pick (.tmp 15) (.const (.bool true)) (.tmp 17), none, false⟩,
   ⟨(some 12), .mv (.tmp 18), none, false⟩])
  (.cond (.tmp 12) (.seq (.reg [⟨(some 4), .mv (.const (.int .i64 0)), none, false⟩,
   ⟨(some 5), .mv (.const (.int .i64 1)), none, false⟩])
  .ret) (.seq (.reg [⟨(some 20), .mv (.tmp 6), none, false⟩,
   ⟨(some 21), .bin .neq (.tmp 20) (.const (.int .i64 0)), none, false⟩,
   ⟨(some 22), .mv (.tmp 21), none, false⟩,
   ⟨(some 23), .mv (.tmp 7), (some (22, false)), false⟩,
   ⟨(some 24), .bin .neq (.tmp 23) (.const (.int .i64 0)), (some (22, false)), false⟩,
   ⟨(some 25), .pick (.tmp 22) (.const (.bool true)) (.tmp 24), none, false⟩,
   ⟨(some 26), .mv (.tmp 25), none, false⟩,
   ⟨(some 27), .fadr 1 (.tmp 2), (some (26, false)), false⟩,
   ⟨(some 28), .load1 (.tmp 27), (some (26, false)), false⟩,
   ⟨(some 29), .fadr 1 (.tmp 3), (some (26, false)), false⟩,
   ⟨(some 30), .load1 (.tmp 29), (some (26, false)), false⟩,
   ⟨(some 31), .bin .neq (.tmp 28) (.tmp 30), (some (26, false)), false⟩,
   ⟨(some 32), .pick (.tmp 26) (.const (.bool true)) (.tmp 31), none, false⟩,
   ⟨(some 33), .mv (.tmp 32), none, false⟩,
   ⟨(some 34), .fadr 4 (.tmp 2), (some (33, false)), false⟩,
   ⟨(some 35), .load1 (.tmp 34), (some (33, false)), false⟩,
   ⟨(some 36), .len (.tmp 35), (some (33, false)), false⟩,
   ⟨(some 37), .bin .eql (.tmp 36) (.const (.int .i64 0)), (some (33, false)), false⟩,
   ⟨(some 38), .pick (.tmp 33) (.const (.bool true)) (.tmp 37), none, false⟩,
   ⟨(some 39), .mv (.tmp 38), none, false⟩,
   ⟨(some 40), .fadr 4 (.tmp 3), (some (39, false)), false⟩,
   ⟨(some 41), .load1 (.tmp 40), (some (39, false)), false⟩,
   ⟨(some 42), .len (.tmp 41), (some (39, false)), false⟩,
   ⟨(some 43), .bin .eql (.tmp 42) (.const (.int .i64 0)), (some (39, false)), false⟩,
   ⟨(some 44), .pick (.tmp 39) (.const (.bool true)) (.tmp 43), none, false⟩,
   ⟨(some 19), .mv (.tmp 44), none, false⟩])
  (.cond (.tmp 19) (.seq (.reg [⟨(some 4), .mv (.const (.int .i64 0)), none, false⟩,
   ⟨(some 5), .mv (.const (.int .i64 2)), none, false⟩])
  .ret) (.seq (.reg [⟨(some 46), .fadr 4 (.tmp 2), none, false⟩,
   ⟨(some 47), .load1 (.tmp 46), none, false⟩,
   ⟨(some 48), .len (.tmp 47), none, false⟩,
   ⟨(some 49), .fadr 4 (.tmp 3), none, false⟩,
   ⟨(some 50), .load1 (.tmp 49), none, false⟩,
   ⟨(some 51), .len (.tmp 50), none, false⟩,
   ⟨(some 52), .bin .lss (.tmp 48) (.tmp 51), none, false⟩,
   ⟨(some 45), .mv (.tmp 52), none, false⟩])
  (.cond (.tmp 45) (.seq (.reg [⟨(some 4), .mv (.const (.int .i64 (-1))), none, false⟩,
   ⟨(some 5), .mv (.const (.int .i64 0)), none, false⟩])
  .ret) (.seq (.reg [⟨(some 54), .fadr 4 (.tmp 2), none, false⟩,
   ⟨(some 55), .load1 (.tmp 54), none, false⟩,
   ⟨(some 56), .len (.tmp 55), none, false⟩,
   ⟨(some 57), .fadr 4 (.tmp 3), none, false⟩,
   ⟨(some 58), .load1 (.tmp 57), none, false⟩,
   ⟨(some 59), .len (.tmp 58), none, false⟩,
   ⟨(some 60), .bin .gtr (.tmp 56) (.tmp 59), none, false⟩,
   ⟨(some 53), .mv (.tmp 60), none, false⟩])
  (.cond (.tmp 53) (.seq (.reg [⟨(some 4), .mv (.const (.int .i64 1)), none, false⟩,
   ⟨(some 5), .mv (.const (.int .i64 0)), none, false⟩])
  .ret) .skip)))))))))
  (.seq (.reg [⟨(some 4), .mv (.const (.int .i64 0)), none, false⟩,
   ⟨(some 5), .mv (.const (.int .i64 0)), none, false⟩])
  .ret))))⟩

theorem s32 : compFn Try.prog Try.f32 = some c32 := by kernel_rfl

/-- loop.example/g01262/impl.CompareExponents -/
def c33 : XFn :=
 ⟨[.tmp 4, .tmp 5],
  (.seq (.reg [⟨(some 2), .box 49 (.tmp 0), none, false⟩,
   ⟨(some 3), .box 49 (.tmp 1), none, false⟩,
   ⟨(some 4), .mv (.const (.int .i64 0)), none, false⟩,
   ⟨(some 5), .mv (.const (.int .i64 0)), none, false⟩])
  (.seq (.blk 0 (.seq (.reg [⟨(some 7), .loadn 5 (.tmp 2), none, false⟩,
   ⟨(some 8), .loadn 5 (.tmp 3), none, false⟩,
   ⟨(some 9), .bslice 49 5 2 [.int .i64 0, .int .i64 0, .int .i64 0, .int .i64 0, .slice none 0 0] [(0, 5, (.tmp 7)), (5, 5, (.tmp 8))], none, false⟩,
   ⟨(some 10), .call (.func 74) [(.tmp 9)], none, false⟩,
   ⟨(some 11), .un .not (.tmp 10), none, false⟩,
   ⟨(some 6), .mv (.tmp 11), none, false⟩])
  (.cond (.tmp 6) (.seq (.reg [⟨(some 4), .mv (.const (.int .i64 0)), none, false⟩,
   ⟨(some 5), .mv (.const (.int .i64 1)), none, false⟩])
  .ret) (.seq (.reg [⟨(some 13), .loadn 5 (.tmp 2), none, false⟩,
   ⟨(some 14), .call (.func 75) [(.tmp 13)], none, false⟩,
   ⟨(some 15), .un .not (.tmp 14), none, false⟩,
   ⟨(some 16), .mv (.tmp 15), none, false⟩,
   ⟨(some 17), .loadn 5 (.tmp 3), (some (16, false)), false⟩,
   ⟨(some 18), .call (.func 75) [(.tmp 17)], (some (16, false)), false⟩,
   ⟨(some 19), .un .not (.tmp 18), (some (16, false)), false⟩,
   ⟨(some 20), .pick (.tmp 16) (.const (.bool true)) (.tmp 19), none, false⟩,
   ⟨(some 21), .mv (.tmp 20), none, false⟩,
   ⟨(some 22), .fadr 1 (.tmp 2), (some (21, false)), false⟩,
   ⟨(some 23), .load1 (.tmp 22), (some (21, false)), false⟩,
   ⟨(some 24), .fadr 1 (.tmp 3), (some (21, false)), false⟩,
   ⟨(some 25), .load1 (.tmp 24), (some (21, false)), false⟩,
   ⟨(some 26), .bin .neq (.tmp 23) (.tmp 25), (some (21, false)), false⟩,
   ⟨(some 27), .pick (.tmp 21) (.const (.bool true)) (.tmp 26), none, false⟩,
   ⟨(some 28), .mv (.tmp 27), none, false⟩,
   ⟨(some 29), .fadr 4 (.tmp 2), (some (28, false)), false⟩,
   ⟨(some 30), .load1 (.tmp 29), (some (28, false)), false⟩,
   ⟨(some 31), .len (.tmp 30), (some (28, false)), false⟩,
   ⟨(some 32), .bin .eql (.tmp 31) (.const (.int .i64 0)), (some (28, false)), false⟩,
   ⟨(some 33), .pick (.tmp 28) (.const (.bool true)) (.tmp 32), none, false⟩,
   ⟨(some 34), .mv (.tmp 33), none, false⟩,
   ⟨(some 35), .fadr 4 (.tmp 3), (some (34, false)), false⟩,
   ⟨(some 36), .load1 (.tmp 35), (some (34, false)), false⟩,
   ⟨(some 37), .len (.tmp 36), (some (34, false)), false⟩,
   ⟨(some 38), .bin .eql (.tmp 37) (.const (.int .i64 0)), (some (34, false)), false⟩,
   ⟨(some 39), .pick (.tmp 34) (.const (.bool true)) (.tmp 38), none, false⟩,
   ⟨(some 12), .mv (.tmp 39), none, false⟩])
  (.cond (.tmp 12) (.seq (.reg [⟨(some 4), .mv (.const (.int .i64 0)), none, false⟩,
   ⟨(some 5), .mv (.const (.int .i64 2)), none, false⟩])
  .ret) .skip)))))
  (.seq (.reg [⟨(some 40), .fadr 4 (.tmp 2), none, false⟩,
   ⟨(some 41), .load1 (.tmp 40), none, false⟩,
   ⟨(some 42), .len (.tmp 41), none, false⟩,
   ⟨(some 43), .fadr 4 (.tmp 3), none, false⟩,
   ⟨(some 44), .load1 (.tmp 43), none, false⟩,
   ⟨(some 45), .len (.tmp 44), none, false⟩,
   ⟨(some 46), .call (.func 76) [(.tmp 42), (.tmp 45)], none, false⟩,
   ⟨(some 4), .mv (.tmp 46), none, false⟩,
   ⟨(some 5), .mv (.const (.int .i64 0)), none, false⟩])
  .ret)))⟩

theorem s33 : compFn Try.prog Try.f33 = some c33 := by kernel_rfl

/-- loop.example/g01262/spec.HaveEqualSums -/
def c34 : XFn :=
 ⟨[.tmp 4, .tmp 5],
  (.seq (.reg [⟨(some 2), .box 49 (.tmp 0), none, false⟩,
   ⟨(some 3), .box 49 (.tmp 1), none, false⟩,
   ⟨(some 4), .mv (.const (.bool false)), none, false⟩,
   ⟨(some 5), .mv (.const (.int .i64 0)), none, false⟩])
  (.seq (.seq (.reg [⟨(some 13), .loadn 5 (.tmp 2), none, false⟩,
   ⟨(some 14), .loadn 5 (.tmp 3), none, false⟩,
   ⟨(some 15), .call (.func 77) [(.tmp 13), (.tmp 14)], none, false⟩,
   ⟨(some 6), .mv (.tmp 15), none, false⟩])
  (.seq (.reg [⟨(some 16), .mv (.tmp 6), none, false⟩,
   ⟨(some 17), .bin .neq (.tmp 16) (.const (.int .i64 0)), none, false⟩])
  (.cond (.tmp 17) (.seq (.reg [⟨(some 18), .mv (.tmp 6), none, false⟩,
   ⟨(some 4), .mv (.const (.bool false)), none, false⟩,
   ⟨(some 5), .mv (.tmp 18), none, false⟩])
  .ret) .skip)))
  (.seq (.reg [⟨(some 20), .loadn 5 (.tmp 2), none, false⟩,
   ⟨(some 21), .call (.func 78) [(.tmp 20)], none, false⟩,
   ⟨(some 19), .mv (.tmp 21), none, false⟩,
   ⟨(some 22), .ext (.tmp 19) 0, none, false⟩,
   ⟨(some 23), .ext (.tmp 19) 1, none, false⟩,
   ⟨(some 24), .ext (.tmp 19) 2, none, false⟩,
   ⟨(some 7), .mv (.tmp 22), none, false⟩,
   ⟨(some 8), .mv (.tmp 23), none, false⟩,
   ⟨(some 9), .mv (.tmp 24), none, false⟩])
  (.seq (.seq (.reg [⟨(some 10), .mv (.const (.int .i64 0)), none, false⟩])
  (.blk 0 (.loop (.seq (.seq (.reg [⟨(some 25), .mv (.tmp 10), none, false⟩,
   ⟨(some 26), .mv (.tmp 7), none, false⟩,
   ⟨(some 27), .bin .lss (.tmp 25) (.tmp 26), none, false⟩])
  (.cond (.tmp 27) .skip (.exit 0)))
  (.seq (.blk 1 (.seq (.reg [⟨(some 11), .mv (.const (.int .i64 0)), none, false⟩])
  (.blk 2 (.loop (.seq (.seq (.reg [⟨(some 30), .mv (.tmp 11), none, false⟩,
   ⟨(some 31), .mv (.tmp 8), none, false⟩,
   ⟨(some 32), .bin .lss (.tmp 30) (.tmp 31), none, false⟩])
  (.cond (.tmp 32) .skip (.exit 2)))
  (.seq (.blk 3 (.seq (.reg [⟨(some 12), .mv (.const (.int .i64 0)), none, false⟩])
  (.blk 4 (.loop (.seq (.seq (.reg [⟨(some 35), .mv (.tmp 12), none, false⟩,
   ⟨(some 36), .mv (.tmp 9), none, false⟩,
   ⟨(some 37), .bin .lss (.tmp 35) (.tmp 36), none, false⟩])
  (.cond (.tmp 37) .skip (.exit 4)))
  (.seq (.blk 5 (.seq (.reg [⟨(some 40), .loadn 5 (.tmp 2), none, false⟩,
   ⟨(some 41), .mv (.tmp 10), none, false⟩,
   ⟨(some 42), .mv (.tmp 11), none, false⟩,
   ⟨(some 43), .mv (.tmp 12), none, false⟩,
   ⟨(some 44), .call (.func 79) [(.tmp 40), (.tmp 41), (.tmp 42), (.tmp 43)], none, true⟩,
   ⟨(some 45), .loadn 5 (.tmp 3), none, false⟩,
   ⟨(some 46), .mv (.tmp 10), none, false⟩,
   ⟨(some 47), .mv (.tmp 11), none, false⟩,
   ⟨(some 48), .mv (.tmp 12), none, false⟩,
   ⟨(some 49), .call (.func 79) [(.tmp 45), (.tmp 46), (.tmp 47), (.tmp 48)], none, false⟩,
   ⟨(some 50), .bin .neq (.tmp 44) (.tmp 49), none, false⟩])
  (.cond (.tmp 50) (.seq (.reg [⟨(some 4), .mv (.const (.bool false)), none, false⟩,
   ⟨(some 5), .mv (.const (.int .i64 0)), none, false⟩])
  .ret) .skip)))
  (.reg [⟨(some 38), .mv (.tmp 12), none, false⟩,
   ⟨(some 39), .bin .add (.tmp 38) (.const (.int .i64 1)), none, false⟩,
   ⟨(some 12), .mv (.tmp 39), none, false⟩])))))))
  (.reg [⟨(some 33), .mv (.tmp 11), none, false⟩,
   ⟨(some 34), .bin .add (.tmp 33) (.const (.int .i64 1)), none, false⟩,
   ⟨(some 11), .mv (.tmp 34), none, false⟩])))))))
  (.reg [⟨(some 28), .mv (.tmp 10), none, false⟩,
   ⟨(some 29), .bin .add (.tmp 28) (.const (.int .i64 1)), none, false⟩,
   ⟨(some 10), .mv (.tmp 29), none, false⟩]))))))
  (.seq (.reg [⟨(some 4), .mv (.const (.bool true)), none, false⟩,
   ⟨(some 5), .mv (.const (.int .i64 0)), none, false⟩])
  .ret)))))⟩

theorem s34 : compFn Try.prog Try.f34 = some c34 := by kernel_rfl

/-- loop.example/g01262/impl.HaveEqualSums -/
def c35 : XFn :=
 ⟨[.tmp 4, .tmp 5],
  (.seq (.reg [⟨(some 2), .box 49 (.tmp 0), none, false⟩,
   ⟨(some 3), .box 49 (.tmp 1), none, false⟩,
   ⟨(some 4), .mv (.const (.bool false)), none, false⟩,
   ⟨(some 5), .mv (.const (.int .i64 0)), none, false⟩])
  (.seq (.seq (.reg [⟨(some 7), .loadn 5 (.tmp 2), none, false⟩,
   ⟨(some 8), .loadn 5 (.tmp 3), none, false⟩,
   ⟨(some 9), .call (.func 80) [(.tmp 7), (.tmp 8)], none, false⟩,
   ⟨(some 6), .mv (.tmp 9), none, false⟩])
  (.seq (.reg [⟨(some 10), .mv (.tmp 6), none, false⟩,
   ⟨(some 11), .bin .neq (.tmp 10) (.const (.int .i64 0)), none, false⟩])
  (.cond (.tmp 11) (.seq (.reg [⟨(some 12), .mv (.tmp 6), none, false⟩,
   ⟨(some 4), .mv (.const (.bool false)), none, false⟩,
   ⟨(some 5), .mv (.tmp 12), none, false⟩])
  .ret) .skip)))
  (.seq (.reg [⟨(some 13), .loadn 5 (.tmp 2), none, false⟩,
   ⟨(some 14), .call (.func 56) [(.tmp 13)], none, true⟩,
   ⟨(some 15), .fld1 4 (.tmp 14), none, false⟩,
   ⟨(some 16), .loadn 5 (.tmp 3), none, false⟩,
   ⟨(some 17), .call (.func 56) [(.tmp 16)], none, false⟩,
   ⟨(some 18), .fld1 4 (.tmp 17), none, false⟩,
   ⟨(some 19), .call (.func 81) [(.tmp 15), (.tmp 18)], none, false⟩,
   ⟨(some 4), .mv (.tmp 19), none, false⟩,
   ⟨(some 5), .mv (.const (.int .i64 0)), none, false⟩])
  .ret)))⟩

theorem s35 : compFn Try.prog Try.f35 = some c35 := by kernel_rfl

/-- loop.example/g01262/spec.CostOf -/
def c36 : XFn :=
 ⟨[.tmp 2, .tmp 3],
  (.seq (.reg [⟨(some 1), .box 49 (.tmp 0), none, false⟩,
   ⟨(some 2), .mv (.const (.slice none 0 0)), none, false⟩,
   ⟨(some 3), .mv (.const (.int .i64 0)), none, false⟩])
  (.seq (.seq (.reg [⟨(some 4), .loadn 5 (.tmp 1), none, false⟩,
   ⟨(some 5), .call (.func 82) [(.tmp 4)], none, false⟩,
   ⟨(some 6), .un .not (.tmp 5), none, false⟩])
  (.cond (.tmp 6) (.seq (.reg [⟨(some 2), .mv (.const (.slice none 0 0)), none, false⟩,
   ⟨(some 3), .mv (.const (.int .i64 1)), none, false⟩])
  .ret) .skip))
  (.seq (.reg [⟨(some 7), .loadn 5 (.tmp 1), none, false⟩,
   ⟨(some 8), .call (.func 83) [(.tmp 7)], none, false⟩,
   ⟨(some 2), .mv (.tmp 8), none, false⟩,
   ⟨(some 3), .mv (.const (.int .i64 0)), none, false⟩])
  .ret)))⟩

theorem s36 : compFn Try.prog Try.f36 = some c36 := by kernel_rfl

/-- loop.example/g01262/impl.CostOf -/
def c37 : XFn :=
 ⟨[.tmp 2, .tmp 3],
  (.seq (.reg [⟨(some 1), .box 49 (.tmp 0), none, false⟩,
   ⟨(some 2), .mv (.const (.slice none 0 0)), none, false⟩,
   ⟨(some 3), .mv (.const (.int .i64 0)), none, false⟩])
  (.seq (.seq (.reg [⟨(some 5), .loadn 5 (.tmp 1), none, false⟩,
   ⟨(some 6), .call (.func 60) [(.tmp 5)], none, false⟩,
   ⟨(some 7), .un .not (.tmp 6), none, false⟩])
  (.cond (.tmp 7) (.seq (.reg [⟨(some 2), .mv (.const (.slice none 0 0)), none, false⟩,
   ⟨(some 3), .mv (.const (.int .i64 1)), none, false⟩])
  .ret) .skip))
  (.seq (.reg [⟨(some 8), .loadn 5 (.tmp 1), none, false⟩,
   ⟨(some 9), .call (.func 84) [(.tmp 8)], none, false⟩,
   ⟨(some 4), .alloc 101 [.int .i64 0, .int .i64 0, .int .i64 0, .int .i64 0], none, false⟩,
   ⟨none, .store 4 (.tmp 4) (.tmp 9), none, false⟩])
  (.seq (.reg [⟨(some 10), .slca 4 1 (.tmp 4) none none, none, false⟩,
   ⟨(some 2), .mv (.tmp 10), none, false⟩,
   ⟨(some 3), .mv (.const (.int .i64 0)), none, false⟩])
  .ret))))⟩

theorem s37 : compFn Try.prog Try.f37 = some c37 := by kernel_rfl

/-- loop.example/g01262/laws.eqInt64S -/
def c38 : XFn :=
 ⟨[.tmp 4],
  (.seq (.reg [⟨(some 4), .mv (.const (.bool false)), none, false⟩])
  (.seq (.seq (.reg [⟨(some 6), .mv (.tmp 0), none, false⟩,
   ⟨(some 7), .len (.tmp 6), none, false⟩,
   ⟨(some 8), .mv (.tmp 1), none, false⟩,
   ⟨(some 9), .len (.tmp 8), none, false⟩,
   ⟨(some 10), .bin .neq (.tmp 7) (.tmp 9), none, false⟩])
  (.cond (.tmp 10) (.seq (.reg [⟨(some 4), .mv (.const (.bool false)), none, false⟩])
  .ret) .skip))
  (.seq (.seq (.reg [⟨(some 5), .mv (.const (.int .i64 0)), none, false⟩])
  (.blk 0 (.loop (.seq (.seq (.reg [⟨(some 11), .mv (.tmp 5), none, false⟩,
   ⟨(some 12), .mv (.tmp 0), none, false⟩,
   ⟨(some 13), .len (.tmp 12), none, false⟩,
   ⟨(some 14), .bin .lss (.tmp 11) (.tmp 13), none, false⟩])
  (.cond (.tmp 14) .skip (.exit 0)))
  (.seq (.blk 1 (.seq (.reg [⟨(some 17), .mv (.tmp 0), none, false⟩,
   ⟨(some 18), .mv (.tmp 5), none, false⟩,
   ⟨(some 19), .ixs 1 (.tmp 17) (.tmp 18), none, false⟩,
   ⟨(some 20), .load1 (.tmp 19), none, false⟩,
   ⟨(some 21), .mv (.tmp 1), none, false⟩,
   ⟨(some 22), .mv (.tmp 5), none, false⟩,
   ⟨(some 23), .ixs 1 (.tmp 21) (.tmp 22), none, false⟩,
   ⟨(some 24), .load1 (.tmp 23), none, false⟩,
   ⟨(some 25), .bin .neq (.tmp 20) (.tmp 24), none, false⟩])
  (.cond (.tmp 25) (.seq (.reg [⟨(some 4), .mv (.const (.bool false)), none, false⟩])
  .ret) .skip)))
  (.reg [⟨(some 15), .mv (.tmp 5), none, false⟩,
   ⟨(some 16), .bin .add (.tmp 15) (.const (.int .i64 1)), none, false⟩,
   ⟨(some 5), .mv (.tmp 16), none, false⟩]))))))
  (.seq (.reg [⟨(some 4), .mv (.const (.bool true)), none, false⟩])
  .ret))))⟩

theorem s38 : compFn Try.prog Try.f38 = some c38 := by kernel_rfl

/-- loop.example/g01262/laws.markScheme -/
def c39 : XFn :=
 ⟨[.tmp 4],
  (.seq (.reg [⟨(some 2), .box 49 (.tmp 0), none, false⟩,
   ⟨(some 4), .mv (.const (.int .i64 0)), none, false⟩])
  (.seq (.reg [⟨(some 5), .fadr 4 (.tmp 2), none, false⟩,
   ⟨(some 6), .load1 (.tmp 5), none, false⟩,
   ⟨(some 7), .mv (.tmp 1), none, false⟩,
   ⟨(some 8), .call (.func 85) [(.tmp 6), (.tmp 7)], none, false⟩,
   ⟨(some 1), .mv (.tmp 8), none, false⟩])
  (.seq (.reg [⟨(some 9), .mv (.tmp 1), none, false⟩,
   ⟨(some 4), .mv (.tmp 9), none, false⟩])
  .ret)))⟩

theorem s39 : compFn Try.prog Try.f39 = some c39 := by kernel_rfl

/-- loop.example/g01262/laws.markInt64S -/
def c40 : XFn :=
 ⟨[.tmp 4],
  (.seq (.reg [⟨(some 4), .mv (.const (.int .i64 0)), none, false⟩])
  (.seq (.seq (.reg [⟨(some 5), .mv (.const (.int .i64 0)), none, false⟩])
  (.blk 0 (.loop (.seq (.seq (.reg [⟨(some 6), .mv (.tmp 5), none, false⟩,
   ⟨(some 7), .mv (.tmp 0), none, false⟩,
   ⟨(some 8), .len (.tmp 7), none, false⟩,
   ⟨(some 9), .bin .lss (.tmp 6) (.tmp 8), none, false⟩])
  (.cond (.tmp 9) .skip (.exit 0)))
  (.seq (.blk 1 (.seq (.reg [⟨(some 12), .mv (.tmp 0), none, false⟩,
   ⟨(some 13), .mv (.tmp 5), none, false⟩,
   ⟨(some 14), .mv (.tmp 1), none, false⟩,
   ⟨(some 15), .ixs 1 (.tmp 12) (.tmp 13), none, false⟩,
   ⟨none, .store 1 (.tmp 15) (.tmp 14), none, false⟩])
  (.reg [⟨(some 16), .mv (.tmp 1), none, false⟩,
   ⟨(some 17), .bin .add (.tmp 16) (.const (.int .i64 1)), none, false⟩,
   ⟨(some 1), .mv (.tmp 17), none, false⟩])))
  (.reg [⟨(some 10), .mv (.tmp 5), none, false⟩,
   ⟨(some 11), .bin .add (.tmp 10) (.const (.int .i64 1)), none, false⟩,
   ⟨(some 5), .mv (.tmp 11), none, false⟩]))))))
  (.seq (.reg [⟨(some 18), .mv (.tmp 1), none, false⟩,
   ⟨(some 4), .mv (.tmp 18), none, false⟩])
  .ret)))⟩

theorem s40 : compFn Try.prog Try.f40 = some c40 := by kernel_rfl

/-- loop.example/g01262/laws.heldInt64S -/
def c41 : XFn :=
 ⟨[.tmp 4],
  (.seq (.reg [⟨(some 4), .mv (.const (.int .i64 0)), none, false⟩])
  (.seq (.seq (.reg [⟨(some 5), .mv (.const (.int .i64 0)), none, false⟩])
  (.blk 0 (.loop (.seq (.seq (.reg [⟨(some 6), .mv (.tmp 5), none, false⟩,
   ⟨(some 7), .mv (.tmp 0), none, false⟩,
   ⟨(some 8), .len (.tmp 7), none, false⟩,
   ⟨(some 9), .bin .lss (.tmp 6) (.tmp 8), none, false⟩])
  (.cond (.tmp 9) .skip (.exit 0)))
  (.seq (.blk 1 (.seq (.seq (.reg [⟨(some 12), .mv (.tmp 0), none, false⟩,
   ⟨(some 13), .mv (.tmp 5), none, false⟩,
   ⟨(some 14), .ixs 1 (.tmp 12) (.tmp 13), none, false⟩,
   ⟨(some 15), .load1 (.tmp 14), none, false⟩,
   ⟨(some 16), .mv (.tmp 1), none, false⟩,
   ⟨(some 17), .bin .neq (.tmp 15) (.tmp 16), none, false⟩])
  (.cond (.tmp 17) (.seq (.reg [⟨(some 4), .mv (.const (.int .i64 (-1))), none, false⟩])
  .ret) .skip))
  (.reg [⟨(some 18), .mv (.tmp 1), none, false⟩,
   ⟨(some 19), .bin .add (.tmp 18) (.const (.int .i64 1)), none, false⟩,
   ⟨(some 1), .mv (.tmp 19), none, false⟩])))
  (.reg [⟨(some 10), .mv (.tmp 5), none, false⟩,
   ⟨(some 11), .bin .add (.tmp 10) (.const (.int .i64 1)), none, false⟩,
   ⟨(some 5), .mv (.tmp 11), none, false⟩]))))))
  (.seq (.reg [⟨(some 20), .mv (.tmp 1), none, false⟩,
   ⟨(some 4), .mv (.tmp 20), none, false⟩])
  .ret)))⟩

theorem s41 : compFn Try.prog Try.f41 = some c41 := by kernel_rfl

/-- loop.example/g01262/spec.TensorOfScheme -/
def c42 : XFn :=
 ⟨[.celln 2 5, .tmp 3],
  (.seq (.reg [⟨(some 1), .box 49 (.tmp 0), none, false⟩,
   ⟨(some 2), .alloc 24 [.int .i64 0, .int .i64 0, .int .i64 0, .int .i64 0, .slice none 0 0], none, false⟩,
   ⟨(some 3), .mv (.const (.int .i64 0)), none, false⟩])
  (.seq (.seq (.reg [⟨(some 4), .loadn 5 (.tmp 1), none, false⟩,
   ⟨(some 5), .call (.func 82) [(.tmp 4)], none, false⟩,
   ⟨(some 6), .un .not (.tmp 5), none, false⟩])
  (.cond (.tmp 6) (.seq (.reg [⟨(some 7), .build [.int .i64 0, .int .i64 0, .int .i64 0, .int .i64 0, .slice none 0 0] [], none, false⟩,
   ⟨none, .store 5 (.tmp 2) (.tmp 7), none, false⟩,
   ⟨(some 3), .mv (.const (.int .i64 1)), none, false⟩])
  .ret) .skip))
  (.seq (.reg [⟨(some 8), .loadn 5 (.tmp 1), none, false⟩,
   ⟨(some 9), .call (.func 53) [(.tmp 8)], none, false⟩,
   ⟨none, .store 5 (.tmp 2) (.tmp 9), none, false⟩,
   ⟨(some 3), .mv (.const (.int .i64 0)), none, false⟩])
  .ret)))⟩

theorem s42 : compFn Try.prog Try.f42 = some c42 := by kernel_rfl

/-- loop.example/g01262/impl.TensorOfScheme -/
def c43 : XFn :=
 ⟨[.celln 2 5, .tmp 3],
  (.seq (.reg [⟨(some 1), .box 49 (.tmp 0), none, false⟩,
   ⟨(some 2), .alloc 24 [.int .i64 0, .int .i64 0, .int .i64 0, .int .i64 0, .slice none 0 0], none, false⟩,
   ⟨(some 3), .mv (.const (.int .i64 0)), none, false⟩])
  (.seq (.seq (.reg [⟨(some 4), .loadn 5 (.tmp 1), none, false⟩,
   ⟨(some 5), .call (.func 60) [(.tmp 4)], none, false⟩,
   ⟨(some 6), .un .not (.tmp 5), none, false⟩])
  (.cond (.tmp 6) (.seq (.reg [⟨(some 7), .build [.int .i64 0, .int .i64 0, .int .i64 0, .int .i64 0, .slice none 0 0] [], none, false⟩,
   ⟨none, .store 5 (.tmp 2) (.tmp 7), none, false⟩,
   ⟨(some 3), .mv (.const (.int .i64 1)), none, false⟩])
  .ret) .skip))
  (.seq (.reg [⟨(some 8), .loadn 5 (.tmp 1), none, false⟩,
   ⟨(some 9), .call (.func 56) [(.tmp 8)], none, false⟩,
   ⟨none, .store 5 (.tmp 2) (.tmp 9), none, false⟩,
   ⟨(some 3), .mv (.const (.int .i64 0)), none, false⟩])
  .ret)))⟩

theorem s43 : compFn Try.prog Try.f43 = some c43 := by kernel_rfl

/-- loop.example/g01262/spec.MixedCost -/
def c44 : XFn :=
 ⟨[.tmp 6, .tmp 7],
  (.seq (.reg [⟨(some 3), .box 49 (.tmp 0), none, false⟩,
   ⟨(some 6), .mv (.const (.int .i64 0)), none, false⟩,
   ⟨(some 7), .mv (.const (.int .i64 0)), none, false⟩])
  (.seq (.seq (.reg [⟨(some 11), .loadn 5 (.tmp 3), none, false⟩,
   ⟨(some 12), .mv (.tmp 1), none, false⟩,
   ⟨(some 13), .mv (.tmp 2), none, false⟩,
   ⟨(some 14), .call (.func 86) [(.tmp 11), (.tmp 12), (.tmp 13)], none, false⟩,
   ⟨(some 8), .mv (.tmp 14), none, false⟩])
  (.seq (.reg [⟨(some 15), .mv (.tmp 8), none, false⟩,
   ⟨(some 16), .bin .neq (.tmp 15) (.const (.int .i64 0)), none, false⟩])
  (.cond (.tmp 16) (.seq (.reg [⟨(some 17), .mv (.tmp 8), none, false⟩,
   ⟨(some 6), .mv (.const (.int .i64 0)), none, false⟩,
   ⟨(some 7), .mv (.tmp 17), none, false⟩])
  .ret) .skip)))
  (.seq (.reg [⟨(some 19), .loadn 5 (.tmp 3), none, false⟩,
   ⟨(some 20), .mv (.tmp 1), none, false⟩,
   ⟨(some 21), .mv (.tmp 2), none, false⟩,
   ⟨(some 22), .call (.func 87) [(.tmp 19), (.tmp 20), (.tmp 21)], none, false⟩,
   ⟨(some 18), .mv (.tmp 22), none, false⟩,
   ⟨(some 23), .ext (.tmp 18) 0, none, false⟩,
   ⟨(some 24), .ext (.tmp 18) 1, none, false⟩,
   ⟨(some 9), .mv (.tmp 23), none, false⟩,
   ⟨(some 10), .mv (.tmp 24), none, false⟩])
  (.seq (.seq (.reg [⟨(some 25), .mv (.tmp 10), none, false⟩,
   ⟨(some 26), .un .not (.tmp 25), none, false⟩])
  (.cond (.tmp 26) (.seq (.reg [⟨(some 6), .mv (.const (.int .i64 0)), none, false⟩,
   ⟨(some 7), .mv (.const (.int .i64 3)), none, false⟩])
  .ret) .skip))
  (.seq (.reg [⟨(some 27), .mv (.tmp 9), none, false⟩,
   ⟨(some 6), .mv (.tmp 27), none, false⟩,
   ⟨(some 7), .mv (.const (.int .i64 0)), none, false⟩])
  .ret)))))⟩

theorem s44 : compFn Try.prog Try.f44 = some c44 := by kernel_rfl

/-- loop.example/g01262/impl.MixedCost -/
def c45 : XFn :=
 ⟨[.tmp 6, .tmp 7],
  (.seq (.reg [⟨(some 3), .box 49 (.tmp 0), none, false⟩,
   ⟨(some 6), .mv (.const (.int .i64 0)), none, false⟩,
   ⟨(some 7), .mv (.const (.int .i64 0)), none, false⟩])
  (.seq (.seq (.reg [⟨(some 11), .loadn 5 (.tmp 3), none, false⟩,
   ⟨(some 12), .mv (.tmp 1), none, false⟩,
   ⟨(some 13), .call (.func 88) [(.tmp 12)], none, true⟩,
   ⟨(some 14), .mv (.tmp 13), none, false⟩,
   ⟨(some 15), .mv (.tmp 2), (some (14, true)), false⟩,
   ⟨(some 16), .call (.func 89) [(.tmp 15)], (some (14, true)), true⟩,
   ⟨(some 17), .pick (.tmp 14) (.tmp 16) (.const (.bool false)), none, false⟩,
   ⟨(some 18), .call (.func 71) [(.tmp 11), (.tmp 17)], none, false⟩,
   ⟨(some 8), .mv (.tmp 18), none, false⟩])
  (.seq (.reg [⟨(some 19), .mv (.tmp 8), none, false⟩,
   ⟨(some 20), .bin .neq (.tmp 19) (.const (.int .i64 0)), none, false⟩])
  (.cond (.tmp 20) (.seq (.reg [⟨(some 21), .mv (.tmp 8), none, false⟩,
   ⟨(some 6), .mv (.const (.int .i64 0)), none, false⟩,
   ⟨(some 7), .mv (.tmp 21), none, false⟩])
  .ret) .skip)))
  (.seq (.reg [⟨(some 23), .loadn 5 (.tmp 3), none, false⟩,
   ⟨(some 24), .mv (.tmp 1), none, false⟩,
   ⟨(some 25), .mv (.tmp 2), none, false⟩,
   ⟨(some 26), .call (.func 90) [(.tmp 23), (.tmp 24), (.tmp 25)], none, false⟩,
   ⟨(some 22), .mv (.tmp 26), none, false⟩,
   ⟨(some 27), .ext (.tmp 22) 0, none, false⟩,
   ⟨(some 28), .ext (.tmp 22) 1, none, false⟩,
   ⟨(some 9), .mv (.tmp 27), none, false⟩,
   ⟨(some 10), .mv (.tmp 28), none, false⟩])
  (.seq (.seq (.reg [⟨(some 29), .mv (.tmp 10), none, false⟩,
   ⟨(some 30), .un .not (.tmp 29), none, false⟩])
  (.cond (.tmp 30) (.seq (.reg [⟨(some 6), .mv (.const (.int .i64 0)), none, false⟩,
   ⟨(some 7), .mv (.const (.int .i64 3)), none, false⟩])
  .ret) .skip))
  (.seq (.reg [⟨(some 31), .mv (.tmp 9), none, false⟩,
   ⟨(some 6), .mv (.tmp 31), none, false⟩,
   ⟨(some 7), .mv (.const (.int .i64 0)), none, false⟩])
  .ret)))))⟩

theorem s45 : compFn Try.prog Try.f45 = some c45 := by kernel_rfl

/-- loop.example/g01262/spec.FirstGain -/
def c46 : XFn :=
 ⟨[.tmp 4, .tmp 5],
  (.seq (.reg [⟨(some 2), .box 49 (.tmp 0), none, false⟩,
   ⟨(some 4), .mv (.const (.int .i64 0)), none, false⟩,
   ⟨(some 5), .mv (.const (.int .i64 0)), none, false⟩])
  (.seq (.seq (.reg [⟨(some 11), .loadn 5 (.tmp 2), none, false⟩,
   ⟨(some 12), .mv (.tmp 1), none, false⟩,
   ⟨(some 13), .call (.func 86) [(.tmp 11), (.const (.int .i64 0)), (.tmp 12)], none, false⟩,
   ⟨(some 6), .mv (.tmp 13), none, false⟩])
  (.seq (.reg [⟨(some 14), .mv (.tmp 6), none, false⟩,
   ⟨(some 15), .bin .neq (.tmp 14) (.const (.int .i64 0)), none, false⟩])
  (.cond (.tmp 15) (.seq (.reg [⟨(some 16), .mv (.tmp 6), none, false⟩,
   ⟨(some 4), .mv (.const (.int .i64 0)), none, false⟩,
   ⟨(some 5), .mv (.tmp 16), none, false⟩])
  .ret) .skip)))
  (.seq (.reg [⟨(some 17), .mv (.tmp 1), none, false⟩,
   ⟨(some 7), .mv (.tmp 17), none, false⟩])
  (.seq (.seq (.reg [⟨(some 8), .mv (.const (.int .i64 1)), none, false⟩])
  (.blk 0 (.loop (.seq (.seq (.reg [⟨(some 18), .mv (.tmp 8), none, false⟩,
   ⟨(some 19), .bin .leq (.tmp 18) (.const (.int .i64 8)), none, false⟩])
  (.cond (.tmp 19) .skip (.exit 0)))
  (.seq (.blk 1 (.seq (.reg [⟨(some 22), .mv (.tmp 7), none, false⟩,
   ⟨(some 23), .fadr 1 (.tmp 2), none, false⟩,
   ⟨(some 24), .load1 (.tmp 23), none, false⟩,
   ⟨(some 25), .bin .mul (.tmp 22) (.tmp 24), none, false⟩,
   ⟨(some 7), .mv (.tmp 25), none, false⟩])
  (.seq (.reg [⟨(some 27), .loadn 5 (.tmp 2), none, false⟩,
   ⟨(some 28), .mv (.tmp 8), none, false⟩,
   ⟨(some 29), .mv (.tmp 1), none, false⟩,
   ⟨(some 30), .call (.func 87) [(.tmp 27), (.tmp 28), (.tmp 29)], none, false⟩,
   ⟨(some 26), .mv (.tmp 30), none, false⟩,
   ⟨(some 31), .ext (.tmp 26) 0, none, false⟩,
   ⟨(some 32), .ext (.tmp 26) 1, none, false⟩,
   ⟨(some 9), .mv (.tmp 31), none, false⟩,
   ⟨(some 10), .mv (.tmp 32), none, false⟩])
  (.seq (.seq (.reg [⟨(some 33), .mv (.tmp 10), none, false⟩,
   ⟨(some 34), .un .not (.tmp 33), none, false⟩])
  (.cond (.tmp 34) (.seq (.reg [⟨(some 4), .mv (.const (.int .i64 0)), none, false⟩,
   ⟨(some 5), .mv (.const (.int .i64 3)), none, false⟩])
  .ret) .skip))
  (.seq (.reg [⟨(some 35), .mv (.tmp 7), none, false⟩,
   ⟨(some 36), .bin .gtr (.tmp 35) (.const (.int .i64 80000)), none, false⟩,
   ⟨(some 37), .mv (.tmp 36), none, false⟩,
   ⟨(some 38), .mv (.tmp 9), (some (37, false)), false⟩,
   ⟨(some 39), .mv (.tmp 7), (some (37, false)), false⟩,
   ⟨(some 40), .bin .mul (.const (.int .i64 2)) (.tmp 39), (some (37, false)), false⟩,
   ⟨(some 41), .mv (.tmp 7), (some (37, false)), false⟩,
   ⟨(some 42), .bin .mul (.tmp 40) (.tmp 41), (some (37, false)), false⟩,
   ⟨(some 43), .mv (.tmp 7), (some (37, false)), false⟩,
   ⟨(some 44), .bin .mul (.tmp 42) (.tmp 43), (some (37, false)), false⟩,
   ⟨(some 45), .mv (.tmp 7), (some (37, false)), false⟩,
   ⟨(some 46), .mv (.tmp 7), (some (37, false)), false⟩,
   ⟨(some 47), .bin .mul (.tmp 45) (.tmp 46), (some (37, false)), false⟩,
   ⟨(some 48), .bin .sub (.tmp 44) (.tmp 47), (some (37, false)), false⟩,
   ⟨(some 49), .bin .lss (.tmp 38) (.tmp 48), (some (37, false)), false⟩,
   ⟨(some 50), .pick (.tmp 37) (.const (.bool true)) (.tmp 49), none, false⟩])
  (.cond (.tmp 50) (.seq (.reg [⟨(some 51), .mv (.tmp 8), none, false⟩,
   ⟨(some 4), .mv (.tmp 51), none, false⟩,
   ⟨(some 5), .mv (.const (.int .i64 0)), none, false⟩])
  .ret) .skip))))))
  (.reg [⟨(some 20), .mv (.tmp 8), none, false⟩,
   ⟨(some 21), .bin .add (.tmp 20) (.const (.int .i64 1)), none, false⟩,
   ⟨(some 8), .mv (.tmp 21), none, false⟩]))))))
  (.seq (.reg [⟨(some 4), .mv (.const (.int .i64 0)), none, false⟩,
   ⟨(some 5), .mv (.const (.int .i64 4)), none, false⟩])
  .ret)))))⟩

theorem s46 : compFn Try.prog Try.f46 = some c46 := by kernel_rfl

/-- loop.example/g01262/impl.FirstGain -/
def c47 : XFn :=
 ⟨[.tmp 4, .tmp 5],
  (.seq (.reg [⟨(some 2), .box 49 (.tmp 0), none, false⟩,
   ⟨(some 4), .mv (.const (.int .i64 0)), none, false⟩,
   ⟨(some 5), .mv (.const (.int .i64 0)), none, false⟩])
  (.seq (.seq (.reg [⟨(some 11), .loadn 5 (.tmp 2), none, false⟩,
   ⟨(some 12), .mv (.tmp 1), none, false⟩,
   ⟨(some 13), .call (.func 89) [(.tmp 12)], none, true⟩,
   ⟨(some 14), .call (.func 71) [(.tmp 11), (.tmp 13)], none, false⟩,
   ⟨(some 6), .mv (.tmp 14), none, false⟩])
  (.seq (.reg [⟨(some 15), .mv (.tmp 6), none, false⟩,
   ⟨(some 16), .bin .neq (.tmp 15) (.const (.int .i64 0)), none, false⟩])
  (.cond (.tmp 16) (.seq (.reg [⟨(some 17), .mv (.tmp 6), none, false⟩,
   ⟨(some 4), .mv (.const (.int .i64 0)), none, false⟩,
   ⟨(some 5), .mv (.tmp 17), none, false⟩])
  .ret) .skip)))
  (.seq (.seq (.reg [⟨(some 7), .mv (.const (.int .i64 1)), none, false⟩])
  (.blk 0 (.loop (.seq (.seq (.reg [⟨(some 18), .mv (.tmp 7), none, false⟩,
   ⟨(some 19), .bin .leq (.tmp 18) (.const (.int .i64 8)), none, false⟩])
  (.cond (.tmp 19) .skip (.exit 0)))
  (.seq (.blk 1 (.seq (.reg [⟨(some 23), .loadn 5 (.tmp 2), none, false⟩,
   ⟨(some 24), .mv (.tmp 7), none, false⟩,
   ⟨(some 25), .mv (.tmp 1), none, false⟩,
   ⟨(some 26), .call (.func 90) [(.tmp 23), (.tmp 24), (.tmp 25)], none, false⟩,
   ⟨(some 22), .mv (.tmp 26), none, false⟩,
   ⟨(some 27), .ext (.tmp 22) 0, none, false⟩,
   ⟨(some 28), .ext (.tmp 22) 1, none, false⟩,
   ⟨(some 8), .mv (.tmp 27), none, false⟩,
   ⟨(some 9), .mv (.tmp 28), none, false⟩])
  (.seq (.seq (.reg [⟨(some 29), .mv (.tmp 9), none, false⟩,
   ⟨(some 30), .un .not (.tmp 29), none, false⟩])
  (.cond (.tmp 30) (.seq (.reg [⟨(some 4), .mv (.const (.int .i64 0)), none, false⟩,
   ⟨(some 5), .mv (.const (.int .i64 3)), none, false⟩])
  .ret) .skip))
  (.seq (.reg [⟨(some 31), .fadr 1 (.tmp 2), none, false⟩,
   ⟨(some 32), .load1 (.tmp 31), none, false⟩,
   ⟨(some 33), .mv (.tmp 7), none, false⟩,
   ⟨(some 34), .call (.func 72) [(.tmp 32), (.tmp 33)], none, false⟩,
   ⟨(some 35), .mv (.tmp 1), none, false⟩,
   ⟨(some 36), .bin .mul (.tmp 34) (.tmp 35), none, false⟩,
   ⟨(some 37), .mm false (.tmp 36) [(.const (.int .i64 100000))], none, false⟩,
   ⟨(some 10), .mv (.tmp 37), none, false⟩])
  (.seq (.reg [⟨(some 38), .mv (.tmp 8), none, false⟩,
   ⟨(some 39), .mv (.tmp 10), none, false⟩,
   ⟨(some 40), .bin .mul (.const (.int .i64 2)) (.tmp 39), none, false⟩,
   ⟨(some 41), .mv (.tmp 10), none, false⟩,
   ⟨(some 42), .bin .mul (.tmp 40) (.tmp 41), none, false⟩,
   ⟨(some 43), .mv (.tmp 10), none, false⟩,
   ⟨(some 44), .bin .mul (.tmp 42) (.tmp 43), none, false⟩,
   ⟨(some 45), .mv (.tmp 10), none, false⟩,
   ⟨(some 46), .mv (.tmp 10), none, false⟩,
   ⟨(some 47), .bin .mul (.tmp 45) (.tmp 46), none, false⟩,
   ⟨(some 48), .bin .sub (.tmp 44) (.tmp 47), none, false⟩,
   ⟨(some 49), .bin .lss (.tmp 38) (.tmp 48), none, false⟩])
  (.cond (.tmp 49) (.seq (.reg [⟨(some 50), .mv (.tmp 7), none, false⟩,
   ⟨(some 4), .mv (.tmp 50), none, false⟩,
   ⟨(some 5), .mv (.const (.int .i64 0)), none, false⟩])
  .ret) .skip))))))
  (.reg [⟨(some 20), .mv (.tmp 7), none, false⟩,
   ⟨(some 21), .bin .add (.tmp 20) (.const (.int .i64 1)), none, false⟩,
   ⟨(some 7), .mv (.tmp 21), none, false⟩]))))))
  (.seq (.reg [⟨(some 4), .mv (.const (.int .i64 0)), none, false⟩,
   ⟨(some 5), .mv (.const (.int .i64 4)), none, false⟩])
  .ret))))⟩

theorem s47 : compFn Try.prog Try.f47 = some c47 := by kernel_rfl

/-- loop.example/g01262/spec.BestLevels -/
def c48 : XFn :=
 ⟨[.tmp 6, .tmp 7],
  (.seq (.reg [⟨(some 3), .box 49 (.tmp 0), none, false⟩,
   ⟨(some 6), .mv (.const (.int .i64 0)), none, false⟩,
   ⟨(some 7), .mv (.const (.int .i64 0)), none, false⟩])
  (.seq (.seq (.reg [⟨(some 16), .loadn 5 (.tmp 3), none, false⟩,
   ⟨(some 17), .mv (.tmp 1), none, false⟩,
   ⟨(some 18), .mv (.tmp 2), none, false⟩,
   ⟨(some 19), .call (.func 86) [(.tmp 16), (.tmp 17), (.tmp 18)], none, false⟩,
   ⟨(some 8), .mv (.tmp 19), none, false⟩])
  (.seq (.reg [⟨(some 20), .mv (.tmp 8), none, false⟩,
   ⟨(some 21), .bin .neq (.tmp 20) (.const (.int .i64 0)), none, false⟩])
  (.cond (.tmp 21) (.seq (.reg [⟨(some 22), .mv (.tmp 8), none, false⟩,
   ⟨(some 6), .mv (.const (.int .i64 0)), none, false⟩,
   ⟨(some 7), .mv (.tmp 22), none, false⟩])
  .ret) .skip)))
  (.seq (.reg [⟨(some 23), .mv (.tmp 2), none, false⟩,
   ⟨(some 9), .mv (.const (.int .i64 0)), none, false⟩,
   ⟨(some 10), .mv (.const (.int .i64 0)), none, false⟩,
   ⟨(some 11), .mv (.tmp 23), none, false⟩])
  (.seq (.seq (.reg [⟨(some 12), .mv (.const (.int .i64 0)), none, false⟩])
  (.blk 0 (.loop (.seq (.seq (.reg [⟨(some 24), .mv (.tmp 12), none, false⟩,
   ⟨(some 25), .mv (.tmp 1), none, false⟩,
   ⟨(some 26), .bin .lss (.tmp 24) (.tmp 25), none, false⟩])
  (.cond (.tmp 26) .skip (.exit 0)))
  (.seq (.blk 1 (.reg [⟨(some 29), .mv (.tmp 11), none, false⟩,
   ⟨(some 30), .fadr 1 (.tmp 3), none, false⟩,
   ⟨(some 31), .load1 (.tmp 30), none, false⟩,
   ⟨(some 32), .bin .mul (.tmp 29) (.tmp 31), none, false⟩,
   ⟨(some 11), .mv (.tmp 32), none, false⟩]))
  (.reg [⟨(some 27), .mv (.tmp 12), none, false⟩,
   ⟨(some 28), .bin .add (.tmp 27) (.const (.int .i64 1)), none, false⟩,
   ⟨(some 12), .mv (.tmp 28), none, false⟩]))))))
  (.seq (.seq (.reg [⟨(some 13), .mv (.const (.int .i64 0)), none, false⟩])
  (.blk 2 (.loop (.seq (.seq (.reg [⟨(some 33), .mv (.tmp 13), none, false⟩,
   ⟨(some 34), .mv (.tmp 1), none, false⟩,
   ⟨(some 35), .bin .leq (.tmp 33) (.tmp 34), none, false⟩])
  (.cond (.tmp 35) .skip (.exit 2)))
  (.seq (.blk 3 (.seq (.seq (.reg [⟨(some 38), .mv (.tmp 11), none, false⟩,
   ⟨(some 39), .bin .gtr (.tmp 38) (.const (.int .i64 100000)), none, false⟩])
  (.cond (.tmp 39) (.seq (.reg [⟨(some 6), .mv (.const (.int .i64 0)), none, false⟩,
   ⟨(some 7), .mv (.const (.int .i64 3)), none, false⟩])
  .ret) .skip))
  (.seq (.reg [⟨(some 41), .loadn 5 (.tmp 3), none, false⟩,
   ⟨(some 42), .mv (.tmp 13), none, false⟩,
   ⟨(some 43), .mv (.tmp 11), none, false⟩,
   ⟨(some 44), .call (.func 87) [(.tmp 41), (.tmp 42), (.tmp 43)], none, false⟩,
   ⟨(some 40), .mv (.tmp 44), none, false⟩,
   ⟨(some 45), .ext (.tmp 40) 0, none, false⟩,
   ⟨(some 46), .ext (.tmp 40) 1, none, false⟩,
   ⟨(some 14), .mv (.tmp 45), none, false⟩,
   ⟨(some 15), .mv (.tmp 46), none, false⟩])
  (.seq (.seq (.reg [⟨(some 47), .mv (.tmp 15), none, false⟩,
   ⟨(some 48), .un .not (.tmp 47), none, false⟩])
  (.cond (.tmp 48) (.seq (.reg [⟨(some 6), .mv (.const (.int .i64 0)), none, false⟩,
   ⟨(some 7), .mv (.const (.int .i64 3)), none, false⟩])
  .ret) .skip))
  (.seq (.seq (.reg [⟨(some 49), .mv (.tmp 13), none, false⟩,
   ⟨(some 50), .bin .eql (.tmp 49) (.const (.int .i64 0)), none, false⟩,
   ⟨(some 51), .mv (.tmp 50), none, false⟩,
   ⟨(some 52), .mv (.tmp 14), (some (51, false)), false⟩,
   ⟨(some 53), .mv (.tmp 10), (some (51, false)), false⟩,
   ⟨(some 54), .bin .lss (.tmp 52) (.tmp 53), (some (51, false)), false⟩,
   ⟨(some 55), .pick (.tmp 51) (.const (.bool true)) (.tmp 54), none, false⟩])
  (.cond (.tmp 55) (.seq (.reg [⟨(some 56), .mv (.tmp 13), none, false⟩,
   ⟨(some 9), .mv (.tmp 56), none, false⟩])
  (.reg [⟨(some 57), .mv (.tmp 14), none, false⟩,
   ⟨(some 10), .mv (.tmp 57), none, false⟩])) .skip))
  (.reg [⟨(some 58), .mv (.tmp 11), none, false⟩,
   ⟨(some 59), .fadr 1 (.tmp 3), none, false⟩,
   ⟨(some 60), .load1 (.tmp 59), none, false⟩,
   ⟨(some 61), .bin .quo (.tmp 58) (.tmp 60), none, false⟩,
   ⟨(some 11), .mv (.tmp 61), none, false⟩]))))))
  (.reg [⟨(some 36), .mv (.tmp 13), none, false⟩,
   ⟨(some 37), .bin .add (.tmp 36) (.const (.int .i64 1)), none, false⟩,
   ⟨(some 13), .mv (.tmp 37), none, false⟩]))))))
  (.seq (.reg [⟨(some 62), .mv (.tmp 9), none, false⟩,
   ⟨(some 6), .mv (.tmp 62), none, false⟩,
   ⟨(some 7), .mv (.const (.int .i64 0)), none, false⟩])
  .ret))))))⟩

theorem s48 : compFn Try.prog Try.f48 = some c48 := by kernel_rfl

/-- loop.example/g01262/impl.BestLevels -/
def c49 : XFn :=
 ⟨[.tmp 6, .tmp 7],
  (.seq (.reg [⟨(some 3), .box 49 (.tmp 0), none, false⟩,
   ⟨(some 6), .mv (.const (.int .i64 0)), none, false⟩,
   ⟨(some 7), .mv (.const (.int .i64 0)), none, false⟩])
  (.seq (.seq (.reg [⟨(some 14), .loadn 5 (.tmp 3), none, false⟩,
   ⟨(some 15), .mv (.tmp 1), none, false⟩,
   ⟨(some 16), .call (.func 88) [(.tmp 15)], none, true⟩,
   ⟨(some 17), .mv (.tmp 16), none, false⟩,
   ⟨(some 18), .mv (.tmp 2), (some (17, true)), false⟩,
   ⟨(some 19), .call (.func 89) [(.tmp 18)], (some (17, true)), true⟩,
   ⟨(some 20), .pick (.tmp 17) (.tmp 19) (.const (.bool false)), none, false⟩,
   ⟨(some 21), .call (.func 71) [(.tmp 14), (.tmp 20)], none, false⟩,
   ⟨(some 8), .mv (.tmp 21), none, false⟩])
  (.seq (.reg [⟨(some 22), .mv (.tmp 8), none, false⟩,
   ⟨(some 23), .bin .neq (.tmp 22) (.const (.int .i64 0)), none, false⟩])
  (.cond (.tmp 23) (.seq (.reg [⟨(some 24), .mv (.tmp 8), none, false⟩,
   ⟨(some 6), .mv (.const (.int .i64 0)), none, false⟩,
   ⟨(some 7), .mv (.tmp 24), none, false⟩])
  .ret) .skip)))
  (.seq (.reg [⟨(some 9), .mv (.const (.int .i64 0)), none, false⟩,
   ⟨(some 10), .mv (.const (.int .i64 (-1))), none, false⟩])
  (.seq (.seq (.reg [⟨(some 25), .mv (.tmp 1), none, false⟩,
   ⟨(some 26), .bin .add (.tmp 25) (.const (.int .i64 1)), none, false⟩,
   ⟨(some 27), .mv (.const (.int .i64 0)), none, false⟩])
  (.blk 0 (.loop (.seq (.reg [⟨(some 28), .bin .lss (.tmp 27) (.tmp 26), none, false⟩])
  (.seq (.cond (.tmp 28) .skip (.exit 0))
  (.seq (.blk 1 (.seq (.reg [⟨(some 29), .mv (.tmp 27), none, false⟩,
   ⟨(some 11), .mv (.tmp 29), none, false⟩])
  (.seq (.reg [⟨(some 31), .loadn 5 (.tmp 3), none, false⟩,
   ⟨(some 32), .mv (.tmp 11), none, false⟩,
   ⟨(some 33), .fadr 1 (.tmp 3), none, false⟩,
   ⟨(some 34), .load1 (.tmp 33), none, false⟩,
   ⟨(some 35), .mv (.tmp 1), none, false⟩,
   ⟨(some 36), .mv (.tmp 11), none, false⟩,
   ⟨(some 37), .bin .sub (.tmp 35) (.tmp 36), none, false⟩,
   ⟨(some 38), .call (.func 72) [(.tmp 34), (.tmp 37)], none, true⟩,
   ⟨(some 39), .mv (.tmp 2), none, false⟩,
   ⟨(some 40), .bin .mul (.tmp 38) (.tmp 39), none, false⟩,
   ⟨(some 41), .call (.func 90) [(.tmp 31), (.tmp 32), (.tmp 40)], none, false⟩,
   ⟨(some 30), .mv (.tmp 41), none, false⟩,
   ⟨(some 42), .ext (.tmp 30) 0, none, false⟩,
   ⟨(some 43), .ext (.tmp 30) 1, none, false⟩,
   ⟨(some 12), .mv (.tmp 42), none, false⟩,
   ⟨(some 13), .mv (.tmp 43), none, false⟩])
  (.seq (.seq (.reg [⟨(some 44), .mv (.tmp 13), none, false⟩,
   ⟨(some 45), .un .not (.tmp 44), none, false⟩])
  (.cond (.tmp 45) (.seq (.reg [⟨(some 6), .mv (.const (.int .i64 0)), none, false⟩,
   ⟨(some 7), .mv (.const (.int .i64 3)), none, false⟩])
  .ret) .skip))
  (.seq (.reg [⟨(some 46), .mv (.tmp 10), none, false⟩,
   ⟨(some 47), .bin .lss (.tmp 46) (.const (.int .i64 0)), none, false⟩,
   ⟨(some 48), .mv (.tmp 47), none, false⟩,
   ⟨(some 49), .mv (.tmp 12), (some (48, false)), false⟩,
   ⟨(some 50), .mv (.tmp 10), (some (48, false)), false⟩,
   ⟨(some 51), .bin .lss (.tmp 49) (.tmp 50), (some (48, false)), false⟩,
   ⟨(some 52), .pick (.tmp 48) (.const (.bool true)) (.tmp 51), none, false⟩])
  (.cond (.tmp 52) (.reg [⟨(some 53), .mv (.tmp 11), none, false⟩,
   ⟨(some 54), .mv (.tmp 12), none, false⟩,
   ⟨(some 9), .mv (.tmp 53), none, false⟩,
   ⟨(some 10), .mv (.tmp 54), none, false⟩]) .skip))))))
  (.reg [⟨(some 55), .bin .add (.tmp 27) (.const (.int .i64 1)), none, false⟩,
   ⟨(some 27), .mv (.tmp 55), none, false⟩])))))))
  (.seq (.reg [⟨(some 56), .mv (.tmp 9), none, false⟩,
   ⟨(some 6), .mv (.tmp 56), none, false⟩,
   ⟨(some 7), .mv (.const (.int .i64 0)), none, false⟩])
  .ret)))))⟩

theorem s49 : compFn Try.prog Try.f49 = some c49 := by kernel_rfl

/-- loop.example/g01262/spec.RepeatedCost -/
def c50 : XFn :=
 ⟨[.tmp 4, .tmp 5],
  (.seq (.reg [⟨(some 2), .box 49 (.tmp 0), none, false⟩,
   ⟨(some 4), .mv (.const (.slice none 0 0)), none, false⟩,
   ⟨(some 5), .mv (.const (.int .i64 0)), none, false⟩])
  (.seq (.reg [⟨(some 10), .loadn 5 (.tmp 2), none, false⟩,
   ⟨(some 11), .call (.func 67) [(.tmp 10)], none, false⟩,
   ⟨(some 6), .mv (.tmp 11), none, false⟩])
  (.seq (.seq (.reg [⟨(some 12), .mv (.tmp 6), none, false⟩,
   ⟨(some 13), .bin .eql (.tmp 12) (.const (.int .i64 0)), none, false⟩,
   ⟨(some 14), .mv (.tmp 13), none, false⟩,
   ⟨(some 15), .mv (.tmp 1), (some (14, true)), false⟩,
   ⟨(some 16), .call (.func 68) [(.tmp 15), (.const (.int .i64 0)), (.const (.int .i64 8))], (some (14, true)), false⟩,
   ⟨(some 17), .un .not (.tmp 16), (some (14, true)), false⟩,
   ⟨(some 18), .pick (.tmp 14) (.tmp 17) (.const (.bool false)), none, false⟩])
  (.cond (.tmp 18) (.reg [⟨(some 6), .mv (.const (.int .i64 2)), none, false⟩]) .skip))
  (.seq (.seq (.reg [⟨(some 19), .mv (.tmp 6), none, false⟩,
   ⟨(some 20), .bin .neq (.tmp 19) (.const (.int .i64 0)), none, false⟩])
  (.cond (.tmp 20) (.seq (.reg [⟨(some 21), .mv (.tmp 6), none, false⟩,
   ⟨(some 4), .mv (.const (.slice none 0 0)), none, false⟩,
   ⟨(some 5), .mv (.tmp 21), none, false⟩])
  .ret) .skip))
  (.seq (.reg [⟨(some 23), .loadn 5 (.tmp 2), none, false⟩,
   ⟨(some 24), .mv (.tmp 1), none, false⟩,
   ⟨(some 25), .call (.func 91) [(.tmp 23), (.tmp 24), (.const (.int .i64 1))], none, false⟩,
   ⟨(some 22), .mv (.tmp 25), none, false⟩,
   ⟨(some 26), .ext (.tmp 22) 0, none, false⟩,
   ⟨(some 27), .ext (.tmp 22) 1, none, false⟩,
   ⟨(some 28), .ext (.tmp 22) 2, none, false⟩,
   ⟨(some 7), .mv (.tmp 26), none, false⟩,
   ⟨(some 8), .mv (.tmp 27), none, false⟩,
   ⟨(some 9), .mv (.tmp 28), none, false⟩])
  (.seq (.seq (.reg [⟨(some 29), .mv (.tmp 9), none, false⟩,
   ⟨(some 30), .un .not (.tmp 29), none, false⟩])
  (.cond (.tmp 30) (.seq (.reg [⟨(some 4), .mv (.const (.slice none 0 0)), none, false⟩,
   ⟨(some 5), .mv (.const (.int .i64 3)), none, false⟩])
  .ret) .skip))
  (.seq (.reg [⟨(some 31), .mv (.tmp 7), none, false⟩,
   ⟨(some 32), .mv (.tmp 8), none, false⟩,
   ⟨(some 33), .bslice 2 1 2 [.int .i64 0] [(0, 1, (.tmp 31)), (1, 1, (.tmp 32))], none, false⟩,
   ⟨(some 4), .mv (.tmp 33), none, false⟩,
   ⟨(some 5), .mv (.const (.int .i64 0)), none, false⟩])
  .ret)))))))⟩

theorem s50 : compFn Try.prog Try.f50 = some c50 := by kernel_rfl

/-- loop.example/g01262/impl.RepeatedCost -/
def c51 : XFn :=
 ⟨[.tmp 4, .tmp 5],
  (.seq (.reg [⟨(some 2), .box 49 (.tmp 0), none, false⟩,
   ⟨(some 4), .mv (.const (.slice none 0 0)), none, false⟩,
   ⟨(some 5), .mv (.const (.int .i64 0)), none, false⟩])
  (.seq (.seq (.reg [⟨(some 10), .loadn 5 (.tmp 2), none, false⟩,
   ⟨(some 11), .mv (.tmp 1), none, false⟩,
   ⟨(some 12), .call (.func 88) [(.tmp 11)], none, true⟩,
   ⟨(some 13), .call (.func 71) [(.tmp 10), (.tmp 12)], none, false⟩,
   ⟨(some 6), .mv (.tmp 13), none, false⟩])
  (.seq (.reg [⟨(some 14), .mv (.tmp 6), none, false⟩,
   ⟨(some 15), .bin .neq (.tmp 14) (.const (.int .i64 0)), none, false⟩])
  (.cond (.tmp 15) (.seq (.reg [⟨(some 16), .mv (.tmp 6), none, false⟩,
   ⟨(some 4), .mv (.const (.slice none 0 0)), none, false⟩,
   ⟨(some 5), .mv (.tmp 16), none, false⟩])
  .ret) .skip)))
  (.seq (.reg [⟨(some 18), .loadn 5 (.tmp 2), none, false⟩,
   ⟨(some 19), .mv (.tmp 1), none, false⟩,
   ⟨(some 20), .call (.func 92) [(.tmp 18), (.tmp 19), (.const (.int .i64 1))], none, false⟩,
   ⟨(some 17), .mv (.tmp 20), none, false⟩,
   ⟨(some 21), .ext (.tmp 17) 0, none, false⟩,
   ⟨(some 22), .ext (.tmp 17) 1, none, false⟩,
   ⟨(some 23), .ext (.tmp 17) 2, none, false⟩,
   ⟨(some 7), .mv (.tmp 21), none, false⟩,
   ⟨(some 8), .mv (.tmp 22), none, false⟩,
   ⟨(some 9), .mv (.tmp 23), none, false⟩])
  (.seq (.seq (.reg [⟨(some 24), .mv (.tmp 9), none, false⟩,
   ⟨(some 25), .un .not (.tmp 24), none, false⟩])
  (.cond (.tmp 25) (.seq (.reg [⟨(some 4), .mv (.const (.slice none 0 0)), none, false⟩,
   ⟨(some 5), .mv (.const (.int .i64 3)), none, false⟩])
  .ret) .skip))
  (.seq (.reg [⟨(some 26), .mv (.tmp 7), none, false⟩,
   ⟨(some 27), .mv (.tmp 8), none, false⟩,
   ⟨(some 28), .bslice 2 1 2 [.int .i64 0] [(0, 1, (.tmp 26)), (1, 1, (.tmp 27))], none, false⟩,
   ⟨(some 4), .mv (.tmp 28), none, false⟩,
   ⟨(some 5), .mv (.const (.int .i64 0)), none, false⟩])
  .ret)))))⟩

theorem s51 : compFn Try.prog Try.f51 = some c51 := by kernel_rfl

/-- loop.example/g01262/spec.l01Sizes -/
def c52 : XFn :=
 ⟨[.tmp 8],
  (.seq (.reg [⟨(some 8), .mv (.const (.bool false)), none, false⟩])
  (.seq (.reg [⟨(some 9), .mv (.tmp 0), none, false⟩,
   ⟨(some 10), .call (.func 93) [(.tmp 9)], none, false⟩,
   ⟨(some 11), .mv (.tmp 10), none, false⟩,
   ⟨(some 12), .mv (.tmp 1), (some (11, true)), false⟩,
   ⟨(some 13), .call (.func 68) [(.tmp 12), (.const (.int .i64 1)), (.const (.int .i64 3))], (some (11, true)), false⟩,
   ⟨(some 14), .pick (.tmp 11) (.tmp 13) (.const (.bool false)), none, false⟩,
   ⟨(some 15), .mv (.tmp 14), none, false⟩,
   ⟨(some 16), .mv (.tmp 2), (some (15, true)), false⟩,
   ⟨(some 17), .call (.func 68) [(.tmp 16), (.const (.int .i64 1)), (.const (.int .i64 3))], (some (15, true)), false⟩,
   ⟨(some 18), .pick (.tmp 15) (.tmp 17) (.const (.bool false)), none, false⟩,
   ⟨(some 19), .mv (.tmp 18), none, false⟩,
   ⟨(some 20), .mv (.tmp 3), (some (19, true)), false⟩,
   ⟨(some 21), .call (.func 68) [(.tmp 20), (.const (.int .i64 1)), (.const (.int .i64 3))], (some (19, true)), false⟩,
   ⟨(some 22), .pick (.tmp 19) (.tmp 21) (.const (.bool false)), none, false⟩,
   ⟨(some 8), .mv (.tmp 22), none, false⟩])
  .ret))⟩

theorem s52 : compFn Try.prog Try.f52 = some c52 := by kernel_rfl

/-- loop.example/g01262/spec.l05Of -/
def c53 : XFn :=
 ⟨[.celln 2 5],
  (.seq (.reg [⟨(some 1), .box 49 (.tmp 0), none, false⟩,
   ⟨(some 2), .alloc 24 [.int .i64 0, .int .i64 0, .int .i64 0, .int .i64 0, .slice none 0 0], none, false⟩])
  (.seq (.reg [⟨(some 11), .loadn 5 (.tmp 1), none, false⟩,
   ⟨(some 12), .call (.func 78) [(.tmp 11)], none, false⟩,
   ⟨(some 10), .mv (.tmp 12), none, false⟩,
   ⟨(some 13), .ext (.tmp 10) 0, none, false⟩,
   ⟨(some 14), .ext (.tmp 10) 1, none, false⟩,
   ⟨(some 15), .ext (.tmp 10) 2, none, false⟩,
   ⟨(some 3), .mv (.tmp 13), none, false⟩,
   ⟨(some 4), .mv (.tmp 14), none, false⟩,
   ⟨(some 5), .mv (.tmp 15), none, false⟩])
  (.seq (.reg [⟨(some 16), .fadr 0 (.tmp 1), none, false⟩,
   ⟨(some 17), .load1 (.tmp 16), none, false⟩,
   ⟨(some 18), .mv (.tmp 3), none, false⟩,
   ⟨(some 19), .mv (.tmp 4), none, false⟩,
   ⟨(some 20), .mv (.tmp 5), none, false⟩,
   ⟨(some 21), .call (.func 94) [(.tmp 17), (.tmp 18), (.tmp 19), (.tmp 20)], none, false⟩,
   ⟨(some 6), .alloc 24 [.int .i64 0, .int .i64 0, .int .i64 0, .int .i64 0, .slice none 0 0], none, false⟩,
   ⟨none, .store 5 (.tmp 6) (.tmp 21), none, false⟩])
  (.seq (.seq (.reg [⟨(some 7), .mv (.const (.int .i64 0)), none, false⟩])
  (.blk 0 (.loop (.seq (.seq (.reg [⟨(some 22), .mv (.tmp 7), none, false⟩,
   ⟨(some 23), .mv (.tmp 3), none, false⟩,
   ⟨(some 24), .bin .lss (.tmp 22) (.tmp 23), none, false⟩])
  (.cond (.tmp 24) .skip (.exit 0)))
  (.seq (.blk 1 (.seq (.reg [⟨(some 8), .mv (.const (.int .i64 0)), none, false⟩])
  (.blk 2 (.loop (.seq (.seq (.reg [⟨(some 27), .mv (.tmp 8), none, false⟩,
   ⟨(some 28), .mv (.tmp 4), none, false⟩,
   ⟨(some 29), .bin .lss (.tmp 27) (.tmp 28), none, false⟩])
  (.cond (.tmp 29) .skip (.exit 2)))
  (.seq (.blk 3 (.seq (.reg [⟨(some 9), .mv (.const (.int .i64 0)), none, false⟩])
  (.blk 4 (.loop (.seq (.seq (.reg [⟨(some 32), .mv (.tmp 9), none, false⟩,
   ⟨(some 33), .mv (.tmp 5), none, false⟩,
   ⟨(some 34), .bin .lss (.tmp 32) (.tmp 33), none, false⟩])
  (.cond (.tmp 34) .skip (.exit 4)))
  (.seq (.blk 5 (.reg [⟨(some 37), .fadr 4 (.tmp 6), none, false⟩,
   ⟨(some 38), .load1 (.tmp 37), none, false⟩,
   ⟨(some 39), .mv (.tmp 7), none, false⟩,
   ⟨(some 40), .mv (.tmp 4), none, false⟩,
   ⟨(some 41), .bin .mul (.tmp 39) (.tmp 40), none, false⟩,
   ⟨(some 42), .mv (.tmp 8), none, false⟩,
   ⟨(some 43), .bin .add (.tmp 41) (.tmp 42), none, false⟩,
   ⟨(some 44), .mv (.tmp 5), none, false⟩,
   ⟨(some 45), .bin .mul (.tmp 43) (.tmp 44), none, false⟩,
   ⟨(some 46), .mv (.tmp 9), none, false⟩,
   ⟨(some 47), .bin .add (.tmp 45) (.tmp 46), none, false⟩,
   ⟨(some 48), .loadn 5 (.tmp 1), none, false⟩,
   ⟨(some 49), .mv (.tmp 7), none, false⟩,
   ⟨(some 50), .mv (.tmp 8), none, false⟩,
   ⟨(some 51), .mv (.tmp 9), none, false⟩,
   ⟨(some 52), .call (.func 79) [(.tmp 48), (.tmp 49), (.tmp 50), (.tmp 51)], none, true⟩,
   ⟨(some 53), .ixs 1 (.tmp 38) (.tmp 47), none, false⟩,
   ⟨none, .store 1 (.tmp 53) (.tmp 52), none, false⟩]))
  (.reg [⟨(some 35), .mv (.tmp 9), none, false⟩,
   ⟨(some 36), .bin .add (.tmp 35) (.const (.int .i64 1)), none, false⟩,
   ⟨(some 9), .mv (.tmp 36), none, false⟩])))))))
  (.reg [⟨(some 30), .mv (.tmp 8), none, false⟩,
   ⟨(some 31), .bin .add (.tmp 30) (.const (.int .i64 1)), none, false⟩,
   ⟨(some 8), .mv (.tmp 31), none, false⟩])))))))
  (.reg [⟨(some 25), .mv (.tmp 7), none, false⟩,
   ⟨(some 26), .bin .add (.tmp 25) (.const (.int .i64 1)), none, false⟩,
   ⟨(some 7), .mv (.tmp 26), none, false⟩]))))))
  (.seq (.reg [⟨(some 54), .loadn 5 (.tmp 6), none, false⟩,
   ⟨none, .store 5 (.tmp 2) (.tmp 54), none, false⟩])
  .ret)))))⟩

theorem s53 : compFn Try.prog Try.f53 = some c53 := by kernel_rfl

/-- loop.example/g01262/spec.l01Standard -/
def c54 : XFn :=
 ⟨[.celln 8 5],
  (.seq (.reg [⟨(some 8), .alloc 49 [.int .i64 0, .int .i64 0, .int .i64 0, .int .i64 0, .slice none 0 0], none, false⟩])
  (.seq (.reg [⟨(some 14), .mv (.tmp 0), none, false⟩,
   ⟨(some 15), .mv (.tmp 1), none, false⟩,
   ⟨(some 16), .mv (.tmp 2), none, false⟩,
   ⟨(some 17), .mv (.tmp 3), none, false⟩,
   ⟨(some 18), .bslice 114 27 0 [.int .u8 0, .int .u8 0, .int .u8 0, .int .u8 0, .int .u8 0, .int .u8 0, .int .u8 0, .int .u8 0, .int .u8 0, .int .u8 0, .int .u8 0, .int .u8 0, .int .u8 0, .int .u8 0, .int .u8 0, .int .u8 0, .int .u8 0, .int .u8 0, .int .u8 0, .int .u8 0, .int .u8 0, .int .u8 0, .int .u8 0, .int .u8 0, .int .u8 0, .int .u8 0, .int .u8 0] [], none, false⟩,
   ⟨(some 19), .build [.int .i64 0, .int .i64 0, .int .i64 0, .int .i64 0, .slice none 0 0] [(0, 1, (.tmp 14)), (1, 1, (.tmp 15)), (2, 1, (.tmp 16)), (3, 1, (.tmp 17)), (4, 1, (.tmp 18))], none, false⟩,
   ⟨(some 9), .alloc 49 [.int .i64 0, .int .i64 0, .int .i64 0, .int .i64 0, .slice none 0 0], none, false⟩,
   ⟨none, .store 5 (.tmp 9) (.tmp 19), none, false⟩])
  (.seq (.seq (.reg [⟨(some 10), .mv (.const (.int .i64 0)), none, false⟩])
  (.blk 0 (.loop (.seq (.seq (.reg [⟨(some 20), .mv (.tmp 10), none, false⟩,
   ⟨(some 21), .mv (.tmp 1), none, false⟩,
   ⟨(some 22), .bin .lss (.tmp 20) (.tmp 21), none, false⟩])
  (.cond (.tmp 22) .skip (.exit 0)))
  (.seq (.blk 1 (.seq (.reg [⟨(some 11), .mv (.const (.int .i64 0)), none, false⟩])
  (.blk 2 (.loop (.seq (.seq (.reg [⟨(some 25), .mv (.tmp 11), none, false⟩,
   ⟨(some 26), .mv (.tmp 2), none, false⟩,
   ⟨(some 27), .bin .lss (.tmp 25) (.tmp 26), none, false⟩])
  (.cond (.tmp 27) .skip (.exit 2)))
  (.seq (.blk 3 (.seq (.reg [⟨(some 12), .mv (.const (.int .i64 0)), none, false⟩])
  (.blk 4 (.loop (.seq (.seq (.reg [⟨(some 30), .mv (.tmp 12), none, false⟩,
   ⟨(some 31), .mv (.tmp 3), none, false⟩,
   ⟨(some 32), .bin .lss (.tmp 30) (.tmp 31), none, false⟩])
  (.cond (.tmp 32) .skip (.exit 4)))
  (.seq (.blk 5 (.seq (.reg [⟨(some 35), .build [.int .u8 0, .int .u8 0, .int .u8 0, .int .u8 0, .int .u8 0, .int .u8 0, .int .u8 0, .int .u8 0, .int .u8 0, .int .u8 0, .int .u8 0, .int .u8 0, .int .u8 0, .int .u8 0, .int .u8 0, .int .u8 0, .int .u8 0, .int .u8 0, .int .u8 0, .int .u8 0, .int .u8 0, .int .u8 0, .int .u8 0, .int .u8 0, .int .u8 0, .int .u8 0, .int .u8 0] [], none, false⟩,
   ⟨(some 13), .alloc 114 [.int .u8 0, .int .u8 0, .int .u8 0, .int .u8 0, .int .u8 0, .int .u8 0, .int .u8 0, .int .u8 0, .int .u8 0, .int .u8 0, .int .u8 0, .int .u8 0, .int .u8 0, .int .u8 0, .int .u8 0, .int .u8 0, .int .u8 0, .int .u8 0, .int .u8 0, .int .u8 0, .int .u8 0, .int .u8 0, .int .u8 0, .int .u8 0, .int .u8 0, .int .u8 0, .int .u8 0], none, false⟩,
   ⟨none, .store 27 (.tmp 13) (.tmp 35), none, false⟩])
  (.seq (.reg [⟨(some 36), .mv (.tmp 10), none, false⟩,
   ⟨(some 37), .mv (.tmp 2), none, false⟩,
   ⟨(some 38), .bin .mul (.tmp 36) (.tmp 37), none, false⟩,
   ⟨(some 39), .mv (.tmp 11), none, false⟩,
   ⟨(some 40), .bin .add (.tmp 38) (.tmp 39), none, false⟩,
   ⟨(some 41), .fadr 0 (.tmp 13), none, false⟩,
   ⟨(some 42), .ixa 9 1 (.tmp 41) (.tmp 40), none, false⟩,
   ⟨none, .store 1 (.tmp 42) (.const (.int .u8 1)), none, false⟩])
  (.seq (.reg [⟨(some 43), .mv (.tmp 11), none, false⟩,
   ⟨(some 44), .mv (.tmp 3), none, false⟩,
   ⟨(some 45), .bin .mul (.tmp 43) (.tmp 44), none, false⟩,
   ⟨(some 46), .mv (.tmp 12), none, false⟩,
   ⟨(some 47), .bin .add (.tmp 45) (.tmp 46), none, false⟩,
   ⟨(some 48), .fadr 9 (.tmp 13), none, false⟩,
   ⟨(some 49), .ixa 9 1 (.tmp 48) (.tmp 47), none, false⟩,
   ⟨none, .store 1 (.tmp 49) (.const (.int .u8 1)), none, false⟩])
  (.seq (.reg [⟨(some 50), .mv (.tmp 10), none, false⟩,
   ⟨(some 51), .mv (.tmp 3), none, false⟩,
   ⟨(some 52), .bin .mul (.tmp 50) (.tmp 51), none, false⟩,
   ⟨(some 53), .mv (.tmp 12), none, false⟩,
   ⟨(some 54), .bin .add (.tmp 52) (.tmp 53), none, false⟩,
   ⟨(some 55), .fadr 18 (.tmp 13), none, false⟩,
   ⟨(some 56), .ixa 9 1 (.tmp 55) (.tmp 54), none, false⟩,
   ⟨none, .store 1 (.tmp 56) (.const (.int .u8 1)), none, false⟩])
  (.reg [⟨(some 57), .fadr 4 (.tmp 9), none, false⟩,
   ⟨(some 58), .load1 (.tmp 57), none, false⟩,
   ⟨(some 59), .loadn 27 (.tmp 13), none, false⟩,
   ⟨(some 60), .bslice 114 27 1 [.int .u8 0, .int .u8 0, .int .u8 0, .int .u8 0, .int .u8 0, .int .u8 0, .int .u8 0, .int .u8 0, .int .u8 0, .int .u8 0, .int .u8 0, .int .u8 0, .int .u8 0, .int .u8 0, .int .u8 0, .int .u8 0, .int .u8 0, .int .u8 0, .int .u8 0, .int .u8 0, .int .u8 0, .int .u8 0, .int .u8 0, .int .u8 0, .int .u8 0, .int .u8 0, .int .u8 0] [(0, 27, (.tmp 59))], none, false⟩,
   ⟨(some 61), .app 114 27 27 (.tmp 58) (.tmp 60), none, false⟩,
   ⟨(some 62), .fadr 4 (.tmp 9), none, false⟩,
   ⟨none, .store 1 (.tmp 62) (.tmp 61), none, false⟩]))))))
  (.reg [⟨(some 33), .mv (.tmp 12), none, false⟩,
   ⟨(some 34), .bin .add (.tmp 33) (.const (.int .i64 1)), none, false⟩,
   ⟨(some 12), .mv (.tmp 34), none, false⟩])))))))
  (.reg [⟨(some 28), .mv (.tmp 11), none, false⟩,
   ⟨(some 29), .bin .add (.tmp 28) (.const (.int .i64 1)), none, false⟩,
   ⟨(some 11), .mv (.tmp 29), none, false⟩])))))))
  (.reg [⟨(some 23), .mv (.tmp 10), none, false⟩,
   ⟨(some 24), .bin .add (.tmp 23) (.const (.int .i64 1)), none, false⟩,
   ⟨(some 10), .mv (.tmp 24), none, false⟩]))))))
  (.seq (.reg [⟨(some 63), .loadn 5 (.tmp 9), none, false⟩,
   ⟨none, .store 5 (.tmp 8) (.tmp 63), none, false⟩])
  .ret))))⟩

theorem s54 : compFn Try.prog Try.f54 = some c54 := by kernel_rfl

/-- loop.example/g01262/impl.StandardScheme -/
def c55 : XFn :=
 ⟨[.celln 8 5, .tmp 9],
  (.seq (.reg [⟨(some 8), .alloc 49 [.int .i64 0, .int .i64 0, .int .i64 0, .int .i64 0, .slice none 0 0], none, false⟩,
   ⟨(some 9), .mv (.const (.int .i64 0)), none, false⟩])
  (.seq (.seq (.reg [⟨(some 10), .mv (.tmp 0), none, false⟩,
   ⟨(some 11), .call (.func 95) [(.tmp 10)], none, false⟩,
   ⟨(some 12), .un .not (.tmp 11), none, false⟩,
   ⟨(some 13), .mv (.tmp 12), none, false⟩,
   ⟨(some 14), .mv (.tmp 1), (some (13, false)), false⟩,
   ⟨(some 15), .mv (.tmp 2), (some (13, false)), false⟩,
   ⟨(some 16), .mv (.tmp 3), (some (13, false)), false⟩,
   ⟨(some 17), .bslice 2 1 3 [.int .i64 0] [(0, 1, (.tmp 14)), (1, 1, (.tmp 15)), (2, 1, (.tmp 16))], (some (13, false)), false⟩,
   ⟨(some 18), .call (.func 96) [(.tmp 17)], (some (13, false)), false⟩,
   ⟨(some 19), .un .not (.tmp 18), (some (13, false)), false⟩,
   ⟨(some 20), .pick (.tmp 13) (.const (.bool true)) (.tmp 19), none, false⟩])
  (.cond (.tmp 20) (.seq (.reg [⟨(some 21), .build [.int .i64 0, .int .i64 0, .int .i64 0, .int .i64 0, .slice none 0 0] [], none, false⟩,
   ⟨none, .store 5 (.tmp 8) (.tmp 21), none, false⟩,
   ⟨(some 9), .mv (.const (.int .i64 2)), none, false⟩])
  .ret) .skip))
  (.seq (.reg [⟨(some 22), .mv (.tmp 0), none, false⟩,
   ⟨(some 23), .mv (.tmp 1), none, false⟩,
   ⟨(some 24), .mv (.tmp 2), none, false⟩,
   ⟨(some 25), .mv (.tmp 3), none, false⟩,
   ⟨(some 26), .call (.func 97) [(.tmp 22), (.tmp 23), (.tmp 24), (.tmp 25)], none, false⟩,
   ⟨none, .store 5 (.tmp 8) (.tmp 26), none, false⟩,
   ⟨(some 9), .mv (.const (.int .i64 0)), none, false⟩])
  .ret)))⟩

theorem s55 : compFn Try.prog Try.f55 = some c55 := by kernel_rfl

/-- loop.example/g01262/impl.tensorOf -/
def c56 : XFn :=
 ⟨[.celln 2 5],
  (.seq (.reg [⟨(some 1), .box 49 (.tmp 0), none, false⟩,
   ⟨(some 2), .alloc 24 [.int .i64 0, .int .i64 0, .int .i64 0, .int .i64 0, .slice none 0 0], none, false⟩])
  (.seq (.reg [⟨(some 4), .loadn 5 (.tmp 1), none, false⟩,
   ⟨(some 5), .call (.func 62) [(.tmp 4)], none, false⟩,
   ⟨(some 3), .alloc 76 [.int .i64 0, .int .i64 0, .int .i64 0], none, false⟩,
   ⟨none, .store 3 (.tmp 3) (.tmp 5), none, false⟩])
  (.seq (.reg [⟨(some 6), .fadr 0 (.tmp 1), none, false⟩,
   ⟨(some 7), .load1 (.tmp 6), none, false⟩,
   ⟨(some 8), .ixa 3 1 (.tmp 3) (.const (.int .i64 0)), none, false⟩,
   ⟨(some 9), .load1 (.tmp 8), none, false⟩,
   ⟨(some 10), .ixa 3 1 (.tmp 3) (.const (.int .i64 1)), none, false⟩,
   ⟨(some 11), .load1 (.tmp 10), none, false⟩,
   ⟨(some 12), .ixa 3 1 (.tmp 3) (.const (.int .i64 2)), none, false⟩,
   ⟨(some 13), .load1 (.tmp 12), none, false⟩,
   ⟨(some 14), .mkf 99 [(.tmp 1)], none, false⟩,
   ⟨(some 15), .call (.func 98) [(.tmp 7), (.tmp 9), (.tmp 11), (.tmp 13), (.tmp 14)], none, false⟩,
   ⟨none, .store 5 (.tmp 2) (.tmp 15), none, false⟩])
  .ret)))⟩

theorem s56 : compFn Try.prog Try.f56 = some c56 := by kernel_rfl

/-- loop.example/g01262/laws.szTwigS -/
def c57 : XFn :=
 ⟨[.tmp 4],
  (.seq (.reg [⟨(some 4), .mv (.const (.int .i64 0)), none, false⟩])
  (.seq (.reg [⟨(some 5), .mv (.tmp 1), none, false⟩,
   ⟨(some 6), .mv (.tmp 0), none, false⟩,
   ⟨(some 7), .len (.tmp 6), none, false⟩,
   ⟨(some 8), .bin .sub (.tmp 5) (.tmp 7), none, false⟩,
   ⟨(some 1), .mv (.tmp 8), none, false⟩])
  (.seq (.seq (.reg [⟨(some 9), .mv (.tmp 1), none, false⟩,
   ⟨(some 10), .bin .lss (.tmp 9) (.const (.int .i64 0)), none, false⟩])
  (.cond (.tmp 10) (.seq (.reg [⟨(some 4), .mv (.const (.int .i64 (-1))), none, false⟩])
  .ret) .skip))
  (.seq (.reg [⟨(some 11), .mv (.tmp 1), none, false⟩,
   ⟨(some 4), .mv (.tmp 11), none, false⟩])
  .ret))))⟩

theorem s57 : compFn Try.prog Try.f57 = some c57 := by kernel_rfl

/-- loop.example/g01262/spec.l08Is -/
def c58 : XFn :=
 ⟨[.tmp 2],
  (.seq (.reg [⟨(some 1), .box 37 (.tmp 0), none, false⟩,
   ⟨(some 2), .mv (.const (.bool false)), none, false⟩])
  (.seq (.seq (.reg [⟨(some 7), .fadr 0 (.tmp 1), none, false⟩,
   ⟨(some 8), .load1 (.tmp 7), none, false⟩,
   ⟨(some 9), .fadr 1 (.tmp 1), none, false⟩,
   ⟨(some 10), .load1 (.tmp 9), none, false⟩,
   ⟨(some 11), .fadr 2 (.tmp 1), none, false⟩,
   ⟨(some 12), .load1 (.tmp 11), none, false⟩,
   ⟨(some 13), .fadr 3 (.tmp 1), none, false⟩,
   ⟨(some 14), .load1 (.tmp 13), none, false⟩,
   ⟨(some 15), .call (.func 52) [(.tmp 8), (.tmp 10), (.tmp 12), (.tmp 14)], none, false⟩,
   ⟨(some 16), .un .not (.tmp 15), none, false⟩,
   ⟨(some 17), .mv (.tmp 16), none, false⟩,
   ⟨(some 18), .fadr 4 (.tmp 1), (some (17, false)), false⟩,
   ⟨(some 19), .load1 (.tmp 18), (some (17, false)), false⟩,
   ⟨(some 20), .len (.tmp 19), (some (17, false)), false⟩,
   ⟨(some 21), .bin .gtr (.tmp 20) (.const (.int .i64 30)), (some (17, false)), false⟩,
   ⟨(some 22), .pick (.tmp 17) (.const (.bool true)) (.tmp 21), none, false⟩])
  (.cond (.tmp 22) (.seq (.reg [⟨(some 2), .mv (.const (.bool false)), none, false⟩])
  .ret) .skip))
  (.seq (.reg [⟨(some 24), .loadn 5 (.tmp 1), none, false⟩,
   ⟨(some 25), .call (.func 101) [(.tmp 24)], none, false⟩,
   ⟨(some 26), .call (.func 78) [(.tmp 25)], none, false⟩,
   ⟨(some 23), .mv (.tmp 26), none, false⟩,
   ⟨(some 27), .ext (.tmp 23) 0, none, false⟩,
   ⟨(some 28), .ext (.tmp 23) 1, none, false⟩,
   ⟨(some 29), .ext (.tmp 23) 2, none, false⟩,
   ⟨(some 3), .mv (.tmp 27), none, false⟩,
   ⟨(some 4), .mv (.tmp 28), none, false⟩,
   ⟨(some 5), .mv (.tmp 29), none, false⟩])
  (.seq (.seq (.reg [⟨(some 6), .mv (.const (.int .i64 0)), none, false⟩])
  (.blk 0 (.loop (.seq (.seq (.reg [⟨(some 30), .mv (.tmp 6), none, false⟩,
   ⟨(some 31), .fadr 4 (.tmp 1), none, false⟩,
   ⟨(some 32), .load1 (.tmp 31), none, false⟩,
   ⟨(some 33), .len (.tmp 32), none, false⟩,
   ⟨(some 34), .bin .lss (.tmp 30) (.tmp 33), none, false⟩])
  (.cond (.tmp 34) .skip (.exit 0)))
  (.seq (.blk 1 (.seq (.reg [⟨(some 37), .fadr 0 (.tmp 1), none, false⟩,
   ⟨(some 38), .load1 (.tmp 37), none, false⟩,
   ⟨(some 39), .fadr 4 (.tmp 1), none, false⟩,
   ⟨(some 40), .load1 (.tmp 39), none, false⟩,
   ⟨(some 41), .mv (.tmp 6), none, false⟩,
   ⟨(some 42), .ixs 108 (.tmp 40) (.tmp 41), none, false⟩,
   ⟨(some 43), .fadr 0 (.tmp 42), none, false⟩,
   ⟨(some 44), .loadn 36 (.tmp 43), none, false⟩,
   ⟨(some 45), .mv (.tmp 3), none, false⟩,
   ⟨(some 46), .call (.func 102) [(.tmp 38), (.tmp 44), (.tmp 45)], none, false⟩,
   ⟨(some 47), .un .not (.tmp 46), none, false⟩,
   ⟨(some 48), .mv (.tmp 47), none, false⟩,
   ⟨(some 49), .fadr 0 (.tmp 1), (some (48, false)), false⟩,
   ⟨(some 50), .load1 (.tmp 49), (some (48, false)), false⟩,
   ⟨(some 51), .fadr 4 (.tmp 1), (some (48, false)), false⟩,
   ⟨(some 52), .load1 (.tmp 51), (some (48, false)), false⟩,
   ⟨(some 53), .mv (.tmp 6), (some (48, false)), false⟩,
   ⟨(some 54), .ixs 108 (.tmp 52) (.tmp 53), (some (48, false)), false⟩,
   ⟨(some 55), .fadr 36 (.tmp 54), (some (48, false)), false⟩,
   ⟨(some 56), .loadn 36 (.tmp 55), (some (48, false)), false⟩,
   ⟨(some 57), .mv (.tmp 4), (some (48, false)), false⟩,
   ⟨(some 58), .call (.func 102) [(.tmp 50), (.tmp 56), (.tmp 57)], (some (48, false)), false⟩,
   ⟨(some 59), .un .not (.tmp 58), (some (48, false)), false⟩,
   ⟨(some 60), .pick (.tmp 48) (.const (.bool true)) (.tmp 59), none, false⟩,
   ⟨(some 61), .mv (.tmp 60), none, false⟩,
   ⟨(some 62), .fadr 0 (.tmp 1), (some (61, false)), false⟩,
   ⟨(some 63), .load1 (.tmp 62), (some (61, false)), false⟩,
   ⟨(some 64), .fadr 4 (.tmp 1), (some (61, false)), false⟩,
   ⟨(some 65), .load1 (.tmp 64), (some (61, false)), false⟩,
   ⟨(some 66), .mv (.tmp 6), (some (61, false)), false⟩,
   ⟨(some 67), .ixs 108 (.tmp 65) (.tmp 66), (some (61, false)), false⟩,
   ⟨(some 68), .fadr 72 (.tmp 67), (some (61, false)), false⟩,
   ⟨(some 69), .loadn 36 (.tmp 68), (some (61, false)), false⟩,
   ⟨(some 70), .mv (.tmp 5), (some (61, false)), false⟩,
   ⟨(some 71), .call (.func 102) [(.tmp 63), (.tmp 69), (.tmp 70)], (some (61, false)), false⟩,
   ⟨(some 72), .un .not (.tmp 71), (some (61, false)), false⟩,
   ⟨(some 73), .pick (.tmp 61) (.const (.bool true)) (.tmp 72), none, false⟩])
  (.cond (.tmp 73) (.seq (.reg [⟨(some 2), .mv (.const (.bool false)), none, false⟩])
  .ret) .skip)))
  (.reg [⟨(some 35), .mv (.tmp 6), none, false⟩,
   ⟨(some 36), .bin .add (.tmp 35) (.const (.int .i64 1)), none, false⟩,
   ⟨(some 6), .mv (.tmp 36), none, false⟩]))))))
  (.seq (.reg [⟨(some 2), .mv (.const (.bool true)), none, false⟩])
  .ret)))))⟩

theorem s58 : compFn Try.prog Try.f58 = some c58 := by kernel_rfl

/-- loop.example/g01262/laws.toTwigS -/
def c59 : XFn :=
 ⟨[.tmp 2],
  (.seq (.reg [⟨(some 2), .mv (.const (.slice none 0 0)), none, false⟩])
  (.seq (.reg [⟨(some 5), .mv (.tmp 0), none, false⟩,
   ⟨(some 6), .len (.tmp 5), none, false⟩,
   ⟨(some 7), .mks 82 108 108 [.int .u8 0, .int .u8 0, .int .u8 0, .int .u8 0, .int .u8 0, .int .u8 0, .int .u8 0, .int .u8 0, .int .u8 0, .int .u8 0, .int .u8 0, .int .u8 0, .int .u8 0, .int .u8 0, .int .u8 0, .int .u8 0, .int .u8 0, .int .u8 0, .int .u8 0, .int .u8 0, .int .u8 0, .int .u8 0, .int .u8 0, .int .u8 0, .int .u8 0, .int .u8 0, .int .u8 0, .int .u8 0, .int .u8 0, .int .u8 0, .int .u8 0, .int .u8 0, .int .u8 0, .int .u8 0, .int .u8 0, .int .u8 0, .int .u8 0, .int .u8 0, .int .u8 0, .int .u8 0, .int .u8 0, .int .u8 0, .int .u8 0, .int .u8 0, .int .u8 0, .int .u8 0, .int .u8 0, .int .u8 0, .int .u8 0, .int .u8 0, .int .u8 0, .int .u8 0, .int .u8 0, .int .u8 0, .int .u8 0, .int .u8 0, .int .u8 0, .int .u8 0, .int .u8 0, .int .u8 0, .int .u8 0, .int .u8 0, .int .u8 0, .int .u8 0, .int .u8 0, .int .u8 0, .int .u8 0, .int .u8 0, .int .u8 0, .int .u8 0, .int .u8 0, .int .u8 0, .int .u8 0, .int .u8 0, .int .u8 0, .int .u8 0, .int .u8 0, .int .u8 0, .int .u8 0, .int .u8 0, .int .u8 0, .int .u8 0, .int .u8 0, .int .u8 0, .int .u8 0, .int .u8 0, .int .u8 0, .int .u8 0, .int .u8 0, .int .u8 0, .int .u8 0, .int .u8 0, .int .u8 0, .int .u8 0, .int .u8 0, .int .u8 0, .int .u8 0, .int .u8 0, .int .u8 0, .int .u8 0, .int .u8 0, .int .u8 0, .int .u8 0, .int .u8 0, .int .u8 0, .int .u8 0, .int .u8 0, .int .u8 0] (.tmp 6), none, false⟩,
   ⟨(some 3), .mv (.tmp 7), none, false⟩])
  (.seq (.seq (.reg [⟨(some 4), .mv (.const (.int .i64 0)), none, false⟩])
  (.blk 0 (.loop (.seq (.seq (.reg [⟨(some 8), .mv (.tmp 4), none, false⟩,
   ⟨(some 9), .mv (.tmp 0), none, false⟩,
   ⟨(some 10), .len (.tmp 9), none, false⟩,
   ⟨(some 11), .bin .lss (.tmp 8) (.tmp 10), none, false⟩])
  (.cond (.tmp 11) .skip (.exit 0)))
  (.seq (.blk 1 (.reg [⟨(some 14), .mv (.tmp 3), none, false⟩,
   ⟨(some 15), .mv (.tmp 4), none, false⟩,
   ⟨(some 16), .mv (.tmp 0), none, false⟩,
   ⟨(some 17), .mv (.tmp 4), none, false⟩,
   ⟨(some 18), .ixs 108 (.tmp 16) (.tmp 17), none, false⟩,
   ⟨(some 19), .loadn 108 (.tmp 18), none, false⟩,
   ⟨(some 20), .call (.func 103) [(.tmp 19)], none, false⟩,
   ⟨(some 21), .ixs 108 (.tmp 14) (.tmp 15), none, false⟩,
   ⟨none, .store 108 (.tmp 21) (.tmp 20), none, false⟩]))
  (.reg [⟨(some 12), .mv (.tmp 4), none, false⟩,
   ⟨(some 13), .bin .add (.tmp 12) (.const (.int .i64 1)), none, false⟩,
   ⟨(some 4), .mv (.tmp 13), none, false⟩]))))))
  (.seq (.reg [⟨(some 22), .mv (.tmp 3), none, false⟩,
   ⟨(some 2), .mv (.tmp 22), none, false⟩])
  .ret))))⟩

theorem s59 : compFn Try.prog Try.f59 = some c59 := by kernel_rfl

/-- loop.example/g01262/impl.IsScheme -/
def c60 : XFn :=
 ⟨[.tmp 2],
  (.seq (.reg [⟨(some 1), .box 49 (.tmp 0), none, false⟩,
   ⟨(some 2), .mv (.const (.bool false)), none, false⟩])
  (.seq (.seq (.reg [⟨(some 5), .fadr 0 (.tmp 1), none, false⟩,
   ⟨(some 6), .load1 (.tmp 5), none, false⟩,
   ⟨(some 7), .call (.func 95) [(.tmp 6)], none, false⟩,
   ⟨(some 8), .un .not (.tmp 7), none, false⟩,
   ⟨(some 9), .mv (.tmp 8), none, false⟩,
   ⟨(some 10), .fadr 1 (.tmp 1), (some (9, false)), false⟩,
   ⟨(some 11), .load1 (.tmp 10), (some (9, false)), false⟩,
   ⟨(some 12), .fadr 2 (.tmp 1), (some (9, false)), false⟩,
   ⟨(some 13), .load1 (.tmp 12), (some (9, false)), false⟩,
   ⟨(some 14), .fadr 3 (.tmp 1), (some (9, false)), false⟩,
   ⟨(some 15), .load1 (.tmp 14), (some (9, false)), false⟩,
   ⟨(some 16), .bslice 2 1 3 [.int .i64 0] [(0, 1, (.tmp 11)), (1, 1, (.tmp 13)), (2, 1, (.tmp 15))], (some (9, false)), false⟩,
   ⟨(some 17), .call (.func 96) [(.tmp 16)], (some (9, false)), false⟩,
   ⟨(some 18), .un .not (.tmp 17), (some (9, false)), false⟩,
   ⟨(some 19), .pick (.tmp 9) (.const (.bool true)) (.tmp 18), none, false⟩,
   ⟨(some 20), .mv (.tmp 19), none, false⟩,
   ⟨(some 21), .fadr 4 (.tmp 1), (some (20, false)), false⟩,
   ⟨(some 22), .load1 (.tmp 21), (some (20, false)), false⟩,
   ⟨(some 23), .len (.tmp 22), (some (20, false)), false⟩,
   ⟨(some 24), .bin .gtr (.tmp 23) (.const (.int .i64 30)), (some (20, false)), false⟩,
   ⟨(some 25), .pick (.tmp 20) (.const (.bool true)) (.tmp 24), none, false⟩])
  (.cond (.tmp 25) (.seq (.reg [⟨(some 2), .mv (.const (.bool false)), none, false⟩])
  .ret) .skip))
  (.seq (.seq (.reg [⟨(some 26), .fadr 4 (.tmp 1), none, false⟩,
   ⟨(some 27), .load1 (.tmp 26), none, false⟩,
   ⟨(some 28), .len (.tmp 27), none, false⟩,
   ⟨(some 29), .mv (.const (.int .i64 0)), none, false⟩])
  (.blk 0 (.loop (.seq (.reg [⟨(some 30), .bin .lss (.tmp 29) (.tmp 28), none, false⟩])
  (.seq (.cond (.tmp 30) .skip (.exit 0))
  (.seq (.blk 1 (.seq (.reg [⟨(some 31), .ixs 27 (.tmp 27) (.tmp 29), none, false⟩,
   ⟨(some 32), .loadn 27 (.tmp 31), none, false⟩,
   ⟨(some 4), .alloc 114 [.int .u8 0, .int .u8 0, .int .u8 0, .int .u8 0, .int .u8 0, .int .u8 0, .int .u8 0, .int .u8 0, .int .u8 0, .int .u8 0, .int .u8 0, .int .u8 0, .int .u8 0, .int .u8 0, .int .u8 0, .int .u8 0, .int .u8 0, .int .u8 0, .int .u8 0, .int .u8 0, .int .u8 0, .int .u8 0, .int .u8 0, .int .u8 0, .int .u8 0, .int .u8 0, .int .u8 0], none, false⟩,
   ⟨none, .store 27 (.tmp 4) (.tmp 32), none, false⟩])
  (.seq (.reg [⟨(some 33), .fadr 0 (.tmp 1), none, false⟩,
   ⟨(some 34), .load1 (.tmp 33), none, false⟩,
   ⟨(some 35), .loadn 5 (.tmp 1), none, false⟩,
   ⟨(some 36), .call (.func 62) [(.tmp 35)], none, true⟩,
   ⟨(some 37), .loadn 27 (.tmp 4), none, false⟩,
   ⟨(some 38), .call (.func 104) [(.tmp 34), (.tmp 36), (.tmp 37)], none, false⟩,
   ⟨(some 39), .un .not (.tmp 38), none, false⟩])
  (.cond (.tmp 39) (.seq (.reg [⟨(some 2), .mv (.const (.bool false)), none, false⟩])
  .ret) .skip))))
  (.reg [⟨(some 40), .bin .add (.tmp 29) (.const (.int .i64 1)), none, false⟩,
   ⟨(some 29), .mv (.tmp 40), none, false⟩])))))))
  (.seq (.reg [⟨(some 2), .mv (.const (.bool true)), none, false⟩])
  .ret))))⟩

theorem s60 : compFn Try.prog Try.f60 = some c60 := by kernel_rfl

/-- loop.example/g01262/impl.schemeOf -/
def c61 : XFn :=
 ⟨[.celln 2 5],
  (.seq (.reg [⟨(some 1), .box 37 (.tmp 0), none, false⟩,
   ⟨(some 2), .alloc 49 [.int .i64 0, .int .i64 0, .int .i64 0, .int .i64 0, .slice none 0 0], none, false⟩])
  (.seq (.reg [⟨(some 3), .fadr 0 (.tmp 1), none, false⟩,
   ⟨(some 4), .load1 (.tmp 3), none, false⟩,
   ⟨(some 5), .fadr 1 (.tmp 1), none, false⟩,
   ⟨(some 6), .load1 (.tmp 5), none, false⟩,
   ⟨(some 7), .fadr 2 (.tmp 1), none, false⟩,
   ⟨(some 8), .load1 (.tmp 7), none, false⟩,
   ⟨(some 9), .fadr 3 (.tmp 1), none, false⟩,
   ⟨(some 10), .load1 (.tmp 9), none, false⟩,
   ⟨(some 11), .build [.int .i64 0, .int .i64 0, .int .i64 0, .int .i64 0, .slice none 0 0] [(0, 1, (.tmp 4)), (1, 1, (.tmp 6)), (2, 1, (.tmp 8)), (3, 1, (.tmp 10))], none, false⟩,
   ⟨none, .store 5 (.tmp 2) (.tmp 11), none, false⟩])
  .ret))⟩

theorem s61 : compFn Try.prog Try.f61 = some c61 := by kernel_rfl

/-- loop.example/g01262/impl.placesOf -/
def c62 : XFn :=
 ⟨[.celln 2 3],
  (.seq (.reg [⟨(some 1), .box 49 (.tmp 0), none, false⟩,
   ⟨(some 2), .alloc 76 [.int .i64 0, .int .i64 0, .int .i64 0], none, false⟩])
  (.seq (.reg [⟨(some 3), .fadr 1 (.tmp 1), none, false⟩,
   ⟨(some 4), .load1 (.tmp 3), none, false⟩,
   ⟨(some 5), .fadr 2 (.tmp 1), none, false⟩,
   ⟨(some 6), .load1 (.tmp 5), none, false⟩,
   ⟨(some 7), .bin .mul (.tmp 4) (.tmp 6), none, false⟩,
   ⟨(some 8), .fadr 2 (.tmp 1), none, false⟩,
   ⟨(some 9), .load1 (.tmp 8), none, false⟩,
   ⟨(some 10), .fadr 3 (.tmp 1), none, false⟩,
   ⟨(some 11), .load1 (.tmp 10), none, false⟩,
   ⟨(some 12), .bin .mul (.tmp 9) (.tmp 11), none, false⟩,
   ⟨(some 13), .fadr 1 (.tmp 1), none, false⟩,
   ⟨(some 14), .load1 (.tmp 13), none, false⟩,
   ⟨(some 15), .fadr 3 (.tmp 1), none, false⟩,
   ⟨(some 16), .load1 (.tmp 15), none, false⟩,
   ⟨(some 17), .bin .mul (.tmp 14) (.tmp 16), none, false⟩,
   ⟨(some 18), .build [.int .i64 0, .int .i64 0, .int .i64 0] [(0, 1, (.tmp 7)), (1, 1, (.tmp 12)), (2, 1, (.tmp 17))], none, false⟩,
   ⟨none, .store 3 (.tmp 2) (.tmp 18), none, false⟩])
  .ret))⟩

theorem s62 : compFn Try.prog Try.f62 = some c62 := by kernel_rfl

/-- (loop.example/g01262/impl.Twig).series -/
def c63 : XFn :=
 ⟨[.celln 2 108],
  (.seq (.reg [⟨(some 1), .box 82 (.tmp 0), none, false⟩,
   ⟨(some 2), .alloc 83 [.int .u8 0, .int .u8 0, .int .u8 0, .int .u8 0, .int .u8 0, .int .u8 0, .int .u8 0, .int .u8 0, .int .u8 0, .int .u8 0, .int .u8 0, .int .u8 0, .int .u8 0, .int .u8 0, .int .u8 0, .int .u8 0, .int .u8 0, .int .u8 0, .int .u8 0, .int .u8 0, .int .u8 0, .int .u8 0, .int .u8 0, .int .u8 0, .int .u8 0, .int .u8 0, .int .u8 0, .int .u8 0, .int .u8 0, .int .u8 0, .int .u8 0, .int .u8 0, .int .u8 0, .int .u8 0, .int .u8 0, .int .u8 0, .int .u8 0, .int .u8 0, .int .u8 0, .int .u8 0, .int .u8 0, .int .u8 0, .int .u8 0, .int .u8 0, .int .u8 0, .int .u8 0, .int .u8 0, .int .u8 0, .int .u8 0, .int .u8 0, .int .u8 0, .int .u8 0, .int .u8 0, .int .u8 0, .int .u8 0, .int .u8 0, .int .u8 0, .int .u8 0, .int .u8 0, .int .u8 0, .int .u8 0, .int .u8 0, .int .u8 0, .int .u8 0, .int .u8 0, .int .u8 0, .int .u8 0, .int .u8 0, .int .u8 0, .int .u8 0, .int .u8 0, .int .u8 0, .int .u8 0, .int .u8 0, .int .u8 0, .int .u8 0, .int .u8 0, .int .u8 0, .int .u8 0, .int .u8 0, .int .u8 0, .int .u8 0, .int .u8 0, .int .u8 0, .int .u8 0, .int .u8 0, .int .u8 0, .int .u8 0, .int .u8 0, .int .u8 0, .int .u8 0, .int .u8 0, .int .u8 0, .int .u8 0, .int .u8 0, .int .u8 0, .int .u8 0, .int .u8 0, .int .u8 0, .int .u8 0, .int .u8 0, .int .u8 0, .int .u8 0, .int .u8 0, .int .u8 0, .int .u8 0, .int .u8 0, .int .u8 0], none, false⟩])
  (.seq (.reg [⟨(some 3), .fadr 0 (.tmp 1), none, false⟩,
   ⟨(some 4), .loadn 36 (.tmp 3), none, false⟩,
   ⟨(some 5), .fadr 36 (.tmp 1), none, false⟩,
   ⟨(some 6), .loadn 36 (.tmp 5), none, false⟩,
   ⟨(some 7), .fadr 72 (.tmp 1), none, false⟩,
   ⟨(some 8), .loadn 36 (.tmp 7), none, false⟩,
   ⟨(some 9), .build [.int .u8 0, .int .u8 0, .int .u8 0, .int .u8 0, .int .u8 0, .int .u8 0, .int .u8 0, .int .u8 0, .int .u8 0, .int .u8 0, .int .u8 0, .int .u8 0, .int .u8 0, .int .u8 0, .int .u8 0, .int .u8 0, .int .u8 0, .int .u8 0, .int .u8 0, .int .u8 0, .int .u8 0, .int .u8 0, .int .u8 0, .int .u8 0, .int .u8 0, .int .u8 0, .int .u8 0, .int .u8 0, .int .u8 0, .int .u8 0, .int .u8 0, .int .u8 0, .int .u8 0, .int .u8 0, .int .u8 0, .int .u8 0, .int .u8 0, .int .u8 0, .int .u8 0, .int .u8 0, .int .u8 0, .int .u8 0, .int .u8 0, .int .u8 0, .int .u8 0, .int .u8 0, .int .u8 0, .int .u8 0, .int .u8 0, .int .u8 0, .int .u8 0, .int .u8 0, .int .u8 0, .int .u8 0, .int .u8 0, .int .u8 0, .int .u8 0, .int .u8 0, .int .u8 0, .int .u8 0, .int .u8 0, .int .u8 0, .int .u8 0, .int .u8 0, .int .u8 0, .int .u8 0, .int .u8 0, .int .u8 0, .int .u8 0, .int .u8 0, .int .u8 0, .int .u8 0, .int .u8 0, .int .u8 0, .int .u8 0, .int .u8 0, .int .u8 0, .int .u8 0, .int .u8 0, .int .u8 0, .int .u8 0, .int .u8 0, .int .u8 0, .int .u8 0, .int .u8 0, .int .u8 0, .int .u8 0, .int .u8 0, .int .u8 0, .int .u8 0, .int .u8 0, .int .u8 0, .int .u8 0, .int .u8 0, .int .u8 0, .int .u8 0, .int .u8 0, .int .u8 0, .int .u8 0, .int .u8 0, .int .u8 0, .int .u8 0, .int .u8 0, .int .u8 0, .int .u8 0, .int .u8 0, .int .u8 0, .int .u8 0] [(0, 36, (.tmp 4)), (36, 36, (.tmp 6)), (72, 36, (.tmp 8))], none, false⟩,
   ⟨none, .store 108 (.tmp 2) (.tmp 9), none, false⟩])
  .ret))⟩

theorem s63 : compFn Try.prog Try.f63 = some c63 := by kernel_rfl

/-- loop.example/g01262/impl.isSeries -/
def c64 : XFn :=
 ⟨[.tmp 6],
  (.seq (.reg [⟨(some 5), .box 80 (.tmp 2), none, false⟩,
   ⟨(some 6), .mv (.const (.bool false)), none, false⟩])
  (.seq (.seq (.reg [⟨(some 11), .loadn 36 (.tmp 5), none, false⟩,
   ⟨(some 12), .mv (.const (.int .i64 0)), none, false⟩])
  (.blk 0 (.loop (.seq (.reg [⟨(some 13), .bin .lss (.tmp 12) (.const (.int .i64 9)), none, false⟩])
  (.seq (.cond (.tmp 13) .skip (.exit 0))
  (.seq (.blk 1 (.seq (.reg [⟨(some 14), .mv (.tmp 12), none, false⟩,
   ⟨(some 15), .idxn 9 4 (.tmp 11) (.tmp 12), none, false⟩,
   ⟨(some 8), .alloc 78 [.int .u8 0, .int .u8 0, .int .u8 0, .int .u8 0], none, false⟩,
   ⟨(some 7), .mv (.tmp 14), none, false⟩,
   ⟨none, .store 4 (.tmp 8) (.tmp 15), none, false⟩])
  (.seq (.reg [⟨(some 16), .loadn 4 (.tmp 8), none, false⟩,
   ⟨(some 17), .mv (.const (.int .i64 0)), none, false⟩])
  (.blk 2 (.loop (.seq (.reg [⟨(some 18), .bin .lss (.tmp 17) (.const (.int .i64 4)), none, false⟩])
  (.seq (.cond (.tmp 18) .skip (.exit 2))
  (.seq (.blk 3 (.seq (.reg [⟨(some 19), .idx1 4 (.tmp 16) (.tmp 17), none, false⟩,
   ⟨(some 10), .mv (.tmp 19), none, false⟩])
  (.seq (.reg [⟨(some 20), .mv (.tmp 10), none, false⟩,
   ⟨(some 21), .conv .i64 (.tmp 20), none, false⟩,
   ⟨(some 22), .mv (.tmp 0), none, false⟩,
   ⟨(some 23), .bin .geq (.tmp 21) (.tmp 22), none, false⟩,
   ⟨(some 24), .mv (.tmp 23), none, false⟩,
   ⟨(some 25), .mv (.tmp 10), (some (24, false)), false⟩,
   ⟨(some 26), .bin .neq (.tmp 25) (.const (.int .u8 0)), (some (24, false)), false⟩,
   ⟨(some 27), .mv (.tmp 26), (some (24, false)), false⟩,
   ⟨(some 28), .mv (.tmp 7), (some (27, true)), false⟩,
   ⟨(some 29), .mv (.tmp 1), (some (27, true)), false⟩,
   ⟨(some 30), .bin .geq (.tmp 28) (.tmp 29), (some (27, true)), false⟩,
   ⟨(some 31), .pick (.tmp 27) (.tmp 30) (.const (.bool false)), (some (24, false)), false⟩,
   ⟨(some 32), .pick (.tmp 24) (.const (.bool true)) (.tmp 31), none, false⟩])
  (.cond (.tmp 32) (.seq (.reg [⟨(some 6), .mv (.const (.bool false)), none, false⟩])
  .ret) .skip))))
  (.reg [⟨(some 33), .bin .add (.tmp 17) (.const (.int .i64 1)), none, false⟩,
   ⟨(some 17), .mv (.tmp 33), none, false⟩])))))))))
  (.reg [⟨(some 34), .bin .add (.tmp 12) (.const (.int .i64 1)), none, false⟩,
   ⟨(some 12), .mv (.tmp 34), none, false⟩])))))))
  (.seq (.reg [⟨(some 35), .loadn 36 (.tmp 5), none, false⟩,
   ⟨(some 36), .build [.int .u8 0, .int .u8 0, .int .u8 0, .int .u8 0, .int .u8 0, .int .u8 0, .int .u8 0, .int .u8 0, .int .u8 0, .int .u8 0, .int .u8 0, .int .u8 0, .int .u8 0, .int .u8 0, .int .u8 0, .int .u8 0, .int .u8 0, .int .u8 0, .int .u8 0, .int .u8 0, .int .u8 0, .int .u8 0, .int .u8 0, .int .u8 0, .int .u8 0, .int .u8 0, .int .u8 0, .int .u8 0, .int .u8 0, .int .u8 0, .int .u8 0, .int .u8 0, .int .u8 0, .int .u8 0, .int .u8 0, .int .u8 0] [], none, false⟩,
   ⟨(some 37), .eqa true 36 (.tmp 35) (.tmp 36), none, false⟩,
   ⟨(some 6), .mv (.tmp 37), none, false⟩])
  .ret)))⟩

theorem s64 : compFn Try.prog Try.f64 = some c64 := by kernel_rfl

/-- loop.example/g01262/laws.eqTwigS -/
def c65 : XFn :=
 ⟨[.tmp 4],
  (.seq (.reg [⟨(some 4), .mv (.const (.bool false)), none, false⟩])
  (.seq (.seq (.reg [⟨(some 6), .mv (.tmp 0), none, false⟩,
   ⟨(some 7), .len (.tmp 6), none, false⟩,
   ⟨(some 8), .mv (.tmp 1), none, false⟩,
   ⟨(some 9), .len (.tmp 8), none, false⟩,
   ⟨(some 10), .bin .neq (.tmp 7) (.tmp 9), none, false⟩])
  (.cond (.tmp 10) (.seq (.reg [⟨(some 4), .mv (.const (.bool false)), none, false⟩])
  .ret) .skip))
  (.seq (.seq (.reg [⟨(some 5), .mv (.const (.int .i64 0)), none, false⟩])
  (.blk 0 (.loop (.seq (.seq (.reg [⟨(some 11), .mv (.tmp 5), none, false⟩,
   ⟨(some 12), .mv (.tmp 0), none, false⟩,
   ⟨(some 13), .len (.tmp 12), none, false⟩,
   ⟨(some 14), .bin .lss (.tmp 11) (.tmp 13), none, false⟩])
  (.cond (.tmp 14) .skip (.exit 0)))
  (.seq (.blk 1 (.seq (.reg [⟨(some 17), .mv (.tmp 0), none, false⟩,
   ⟨(some 18), .mv (.tmp 5), none, false⟩,
   ⟨(some 19), .ixs 108 (.tmp 17) (.tmp 18), none, false⟩,
   ⟨(some 20), .loadn 108 (.tmp 19), none, false⟩,
   ⟨(some 21), .mv (.tmp 1), none, false⟩,
   ⟨(some 22), .mv (.tmp 5), none, false⟩,
   ⟨(some 23), .ixs 108 (.tmp 21) (.tmp 22), none, false⟩,
   ⟨(some 24), .loadn 108 (.tmp 23), none, false⟩,
   ⟨(some 25), .call (.func 105) [(.tmp 20), (.tmp 24)], none, false⟩,
   ⟨(some 26), .un .not (.tmp 25), none, false⟩])
  (.cond (.tmp 26) (.seq (.reg [⟨(some 4), .mv (.const (.bool false)), none, false⟩])
  .ret) .skip)))
  (.reg [⟨(some 15), .mv (.tmp 5), none, false⟩,
   ⟨(some 16), .bin .add (.tmp 15) (.const (.int .i64 1)), none, false⟩,
   ⟨(some 5), .mv (.tmp 16), none, false⟩]))))))
  (.seq (.reg [⟨(some 4), .mv (.const (.bool true)), none, false⟩])
  .ret))))⟩

theorem s65 : compFn Try.prog Try.f65 = some c65 := by kernel_rfl

/-- loop.example/g01262/laws.szProductS -/
def c66 : XFn :=
 ⟨[.tmp 4],
  (.seq (.reg [⟨(some 4), .mv (.const (.int .i64 0)), none, false⟩])
  (.seq (.reg [⟨(some 5), .mv (.tmp 1), none, false⟩,
   ⟨(some 6), .mv (.tmp 0), none, false⟩,
   ⟨(some 7), .len (.tmp 6), none, false⟩,
   ⟨(some 8), .bin .sub (.tmp 5) (.tmp 7), none, false⟩,
   ⟨(some 1), .mv (.tmp 8), none, false⟩])
  (.seq (.seq (.reg [⟨(some 9), .mv (.tmp 1), none, false⟩,
   ⟨(some 10), .bin .lss (.tmp 9) (.const (.int .i64 0)), none, false⟩])
  (.cond (.tmp 10) (.seq (.reg [⟨(some 4), .mv (.const (.int .i64 (-1))), none, false⟩])
  .ret) .skip))
  (.seq (.reg [⟨(some 11), .mv (.tmp 1), none, false⟩,
   ⟨(some 4), .mv (.tmp 11), none, false⟩])
  .ret))))⟩

theorem s66 : compFn Try.prog Try.f66 = some c66 := by kernel_rfl

/-- loop.example/g01262/spec.l06Square -/
def c67 : XFn :=
 ⟨[.tmp 2],
  (.seq (.reg [⟨(some 1), .box 49 (.tmp 0), none, false⟩,
   ⟨(some 2), .mv (.const (.int .i64 0)), none, false⟩])
  (.seq (.blk 0 (.seq (.reg [⟨(some 4), .loadn 5 (.tmp 1), none, false⟩,
   ⟨(some 5), .call (.func 82) [(.tmp 4)], none, false⟩,
   ⟨(some 6), .un .not (.tmp 5), none, false⟩,
   ⟨(some 3), .mv (.tmp 6), none, false⟩])
  (.cond (.tmp 3) (.seq (.reg [⟨(some 2), .mv (.const (.int .i64 1)), none, false⟩])
  .ret) (.seq (.reg [⟨(some 8), .fadr 1 (.tmp 1), none, false⟩,
   ⟨(some 9), .load1 (.tmp 8), none, false⟩,
   ⟨(some 10), .bin .lss (.tmp 9) (.const (.int .i64 2)), none, false⟩,
   ⟨(some 11), .mv (.tmp 10), none, false⟩,
   ⟨(some 12), .fadr 2 (.tmp 1), (some (11, false)), false⟩,
   ⟨(some 13), .load1 (.tmp 12), (some (11, false)), false⟩,
   ⟨(some 14), .fadr 1 (.tmp 1), (some (11, false)), false⟩,
   ⟨(some 15), .load1 (.tmp 14), (some (11, false)), false⟩,
   ⟨(some 16), .bin .neq (.tmp 13) (.tmp 15), (some (11, false)), false⟩,
   ⟨(some 17), .pick (.tmp 11) (.const (.bool true)) (.tmp 16), none, false⟩,
   ⟨(some 18), .mv (.tmp 17), none, false⟩,
   ⟨(some 19), .fadr 3 (.tmp 1), (some (18, false)), false⟩,
   ⟨(some 20), .load1 (.tmp 19), (some (18, false)), false⟩,
   ⟨(some 21), .fadr 1 (.tmp 1), (some (18, false)), false⟩,
   ⟨(some 22), .load1 (.tmp 21), (some (18, false)), false⟩,
   ⟨(some 23), .bin .neq (.tmp 20) (.tmp 22), (some (18, false)), false⟩,
   ⟨(some 24), .pick (.tmp 18) (.const (.bool true)) (.tmp 23), none, false⟩,
   ⟨(some 7), .mv (.tmp 24), none, false⟩])
  (.cond (.tmp 7) (.seq (.reg [⟨(some 2), .mv (.const (.int .i64 2)), none, false⟩])
  .ret) .skip)))))
  (.seq (.reg [⟨(some 2), .mv (.const (.int .i64 0)), none, false⟩])
  .ret)))⟩

theorem s67 : compFn Try.prog Try.f67 = some c67 := by kernel_rfl

/-- loop.example/g01262/spec.l01In -/
def c68 : XFn :=
 ⟨[.tmp 6],
  (.seq (.reg [⟨(some 6), .mv (.const (.bool false)), none, false⟩])
  (.seq (.reg [⟨(some 7), .mv (.tmp 0), none, false⟩,
   ⟨(some 8), .mv (.tmp 1), none, false⟩,
   ⟨(some 9), .bin .geq (.tmp 7) (.tmp 8), none, false⟩,
   ⟨(some 10), .mv (.tmp 9), none, false⟩,
   ⟨(some 11), .mv (.tmp 0), (some (10, true)), false⟩,
   ⟨(some 12), .mv (.tmp 2), (some (10, true)), false⟩,
   ⟨(some 13), .bin .leq (.tmp 11) (.tmp 12), (some (10, true)), false⟩,
   ⟨(some 14), .pick (.tmp 10) (.tmp 13) (.const (.bool false)), none, false⟩,
   ⟨(some 6), .mv (.tmp 14), none, false⟩])
  .ret))⟩

theorem s68 : compFn Try.prog Try.f68 = some c68 := by kernel_rfl

/-- loop.example/g01262/spec.l06Power -/
def c69 : XFn :=
 ⟨[.tmp 4],
  (.seq (.reg [⟨(some 4), .mv (.const (.int .i64 0)), none, false⟩])
  (.seq (.reg [⟨(some 5), .mv (.const (.int .i64 1)), none, false⟩])
  (.seq (.blk 0 (.loop (.seq (.seq (.reg [⟨(some 6), .mv (.tmp 1), none, false⟩,
   ⟨(some 7), .bin .gtr (.tmp 6) (.const (.int .i64 0)), none, false⟩])
  (.cond (.tmp 7) .skip (.exit 0)))
  (.seq (.blk 1 (.reg [⟨(some 10), .mv (.tmp 5), none, false⟩,
   ⟨(some 11), .mv (.tmp 0), none, false⟩,
   ⟨(some 12), .bin .mul (.tmp 10) (.tmp 11), none, false⟩,
   ⟨(some 5), .mv (.tmp 12), none, false⟩]))
  (.reg [⟨(some 8), .mv (.tmp 1), none, false⟩,
   ⟨(some 9), .bin .sub (.tmp 8) (.const (.int .i64 1)), none, false⟩,
   ⟨(some 1), .mv (.tmp 9), none, false⟩])))))
  (.seq (.reg [⟨(some 13), .mv (.tmp 5), none, false⟩,
   ⟨(some 4), .mv (.tmp 13), none, false⟩])
  .ret))))⟩

theorem s69 : compFn Try.prog Try.f69 = some c69 := by kernel_rfl

/-- loop.example/g01262/laws.toProductS -/
def c70 : XFn :=
 ⟨[.tmp 2],
  (.seq (.reg [⟨(some 2), .mv (.const (.slice none 0 0)), none, false⟩])
  (.seq (.reg [⟨(some 5), .mv (.tmp 0), none, false⟩,
   ⟨(some 6), .len (.tmp 5), none, false⟩,
   ⟨(some 7), .mks 114 27 27 [.int .u8 0, .int .u8 0, .int .u8 0, .int .u8 0, .int .u8 0, .int .u8 0, .int .u8 0, .int .u8 0, .int .u8 0, .int .u8 0, .int .u8 0, .int .u8 0, .int .u8 0, .int .u8 0, .int .u8 0, .int .u8 0, .int .u8 0, .int .u8 0, .int .u8 0, .int .u8 0, .int .u8 0, .int .u8 0, .int .u8 0, .int .u8 0, .int .u8 0, .int .u8 0, .int .u8 0] (.tmp 6), none, false⟩,
   ⟨(some 3), .mv (.tmp 7), none, false⟩])
  (.seq (.seq (.reg [⟨(some 4), .mv (.const (.int .i64 0)), none, false⟩])
  (.blk 0 (.loop (.seq (.seq (.reg [⟨(some 8), .mv (.tmp 4), none, false⟩,
   ⟨(some 9), .mv (.tmp 0), none, false⟩,
   ⟨(some 10), .len (.tmp 9), none, false⟩,
   ⟨(some 11), .bin .lss (.tmp 8) (.tmp 10), none, false⟩])
  (.cond (.tmp 11) .skip (.exit 0)))
  (.seq (.blk 1 (.reg [⟨(some 14), .mv (.tmp 3), none, false⟩,
   ⟨(some 15), .mv (.tmp 4), none, false⟩,
   ⟨(some 16), .mv (.tmp 0), none, false⟩,
   ⟨(some 17), .mv (.tmp 4), none, false⟩,
   ⟨(some 18), .ixs 27 (.tmp 16) (.tmp 17), none, false⟩,
   ⟨(some 19), .loadn 27 (.tmp 18), none, false⟩,
   ⟨(some 20), .call (.func 106) [(.tmp 19)], none, false⟩,
   ⟨(some 21), .ixs 27 (.tmp 14) (.tmp 15), none, false⟩,
   ⟨none, .store 27 (.tmp 21) (.tmp 20), none, false⟩]))
  (.reg [⟨(some 12), .mv (.tmp 4), none, false⟩,
   ⟨(some 13), .bin .add (.tmp 12) (.const (.int .i64 1)), none, false⟩,
   ⟨(some 4), .mv (.tmp 13), none, false⟩]))))))
  (.seq (.reg [⟨(some 22), .mv (.tmp 3), none, false⟩,
   ⟨(some 2), .mv (.tmp 22), none, false⟩])
  .ret))))⟩

theorem s70 : compFn Try.prog Try.f70 = some c70 := by kernel_rfl

/-- loop.example/g01262/impl.squareCode -/
def c71 : XFn :=
 ⟨[.tmp 4],
  (.seq (.reg [⟨(some 2), .box 49 (.tmp 0), none, false⟩,
   ⟨(some 4), .mv (.const (.int .i64 0)), none, false⟩])
  (.seq (.blk 0 (.seq (.reg [⟨(some 6), .loadn 5 (.tmp 2), none, false⟩,
   ⟨(some 7), .call (.func 60) [(.tmp 6)], none, false⟩,
   ⟨(some 8), .un .not (.tmp 7), none, false⟩,
   ⟨(some 5), .mv (.tmp 8), none, false⟩])
  (.cond (.tmp 5) (.seq (.reg [⟨(some 4), .mv (.const (.int .i64 1)), none, false⟩])
  .ret) (.seq (.reg [⟨(some 10), .loadn 5 (.tmp 2), none, false⟩,
   ⟨(some 11), .call (.func 75) [(.tmp 10)], none, false⟩,
   ⟨(some 12), .un .not (.tmp 11), none, false⟩,
   ⟨(some 13), .mv (.tmp 12), none, false⟩,
   ⟨(some 14), .mv (.tmp 1), (some (13, false)), false⟩,
   ⟨(some 15), .un .not (.tmp 14), (some (13, false)), false⟩,
   ⟨(some 16), .pick (.tmp 13) (.const (.bool true)) (.tmp 15), none, false⟩,
   ⟨(some 9), .mv (.tmp 16), none, false⟩])
  (.cond (.tmp 9) (.seq (.reg [⟨(some 4), .mv (.const (.int .i64 2)), none, false⟩])
  .ret) .skip)))))
  (.seq (.reg [⟨(some 4), .mv (.const (.int .i64 0)), none, false⟩])
  .ret)))⟩

theorem s71 : compFn Try.prog Try.f71 = some c71 := by kernel_rfl

/-- loop.example/g01262/impl.power -/
def c72 : XFn :=
 ⟨[.tmp 4],
  (.seq (.reg [⟨(some 4), .mv (.const (.int .i64 0)), none, false⟩])
  (.seq (.reg [⟨(some 5), .mv (.const (.int .i64 1)), none, false⟩])
  (.seq (.seq (.reg [⟨(some 6), .mv (.tmp 1), none, false⟩,
   ⟨(some 7), .mv (.const (.int .i64 0)), none, false⟩])
  (.blk 0 (.loop (.seq (.reg [⟨(some 8), .bin .lss (.tmp 7) (.tmp 6), none, false⟩])
  (.seq (.cond (.tmp 8) .skip (.exit 0))
  (.seq (.blk 1 (.reg [⟨(some 9), .mv (.tmp 5), none, false⟩,
   ⟨(some 10), .mv (.tmp 0), none, false⟩,
   ⟨(some 11), .bin .mul (.tmp 9) (.tmp 10), none, false⟩,
   ⟨(some 5), .mv (.tmp 11), none, false⟩]))
  (.reg [⟨(some 12), .bin .add (.tmp 7) (.const (.int .i64 1)), none, false⟩,
   ⟨(some 7), .mv (.tmp 12), none, false⟩])))))))
  (.seq (.reg [⟨(some 13), .mv (.tmp 5), none, false⟩,
   ⟨(some 4), .mv (.tmp 13), none, false⟩])
  .ret))))⟩

theorem s72 : compFn Try.prog Try.f72 = some c72 := by kernel_rfl

/-- loop.example/g01262/laws.eqProductS -/
def c73 : XFn :=
 ⟨[.tmp 4],
  (.seq (.reg [⟨(some 4), .mv (.const (.bool false)), none, false⟩])
  (.seq (.seq (.reg [⟨(some 6), .mv (.tmp 0), none, false⟩,
   ⟨(some 7), .len (.tmp 6), none, false⟩,
   ⟨(some 8), .mv (.tmp 1), none, false⟩,
   ⟨(some 9), .len (.tmp 8), none, false⟩,
   ⟨(some 10), .bin .neq (.tmp 7) (.tmp 9), none, false⟩])
  (.cond (.tmp 10) (.seq (.reg [⟨(some 4), .mv (.const (.bool false)), none, false⟩])
  .ret) .skip))
  (.seq (.seq (.reg [⟨(some 5), .mv (.const (.int .i64 0)), none, false⟩])
  (.blk 0 (.loop (.seq (.seq (.reg [⟨(some 11), .mv (.tmp 5), none, false⟩,
   ⟨(some 12), .mv (.tmp 0), none, false⟩,
   ⟨(some 13), .len (.tmp 12), none, false⟩,
   ⟨(some 14), .bin .lss (.tmp 11) (.tmp 13), none, false⟩])
  (.cond (.tmp 14) .skip (.exit 0)))
  (.seq (.blk 1 (.seq (.reg [⟨(some 17), .mv (.tmp 0), none, false⟩,
   ⟨(some 18), .mv (.tmp 5), none, false⟩,
   ⟨(some 19), .ixs 27 (.tmp 17) (.tmp 18), none, false⟩,
   ⟨(some 20), .loadn 27 (.tmp 19), none, false⟩,
   ⟨(some 21), .mv (.tmp 1), none, false⟩,
   ⟨(some 22), .mv (.tmp 5), none, false⟩,
   ⟨(some 23), .ixs 27 (.tmp 21) (.tmp 22), none, false⟩,
   ⟨(some 24), .loadn 27 (.tmp 23), none, false⟩,
   ⟨(some 25), .call (.func 107) [(.tmp 20), (.tmp 24)], none, false⟩,
   ⟨(some 26), .un .not (.tmp 25), none, false⟩])
  (.cond (.tmp 26) (.seq (.reg [⟨(some 4), .mv (.const (.bool false)), none, false⟩])
  .ret) .skip)))
  (.reg [⟨(some 15), .mv (.tmp 5), none, false⟩,
   ⟨(some 16), .bin .add (.tmp 15) (.const (.int .i64 1)), none, false⟩,
   ⟨(some 5), .mv (.tmp 16), none, false⟩]))))))
  (.seq (.reg [⟨(some 4), .mv (.const (.bool true)), none, false⟩])
  .ret))))⟩

theorem s73 : compFn Try.prog Try.f73 = some c73 := by kernel_rfl

/-- loop.example/g01262/impl.areSchemes -/
def c74 : XFn :=
 ⟨[.tmp 2],
  (.seq (.reg [⟨(some 2), .mv (.const (.bool false)), none, false⟩])
  (.seq (.seq (.reg [⟨(some 5), .mv (.tmp 0), none, false⟩,
   ⟨(some 6), .len (.tmp 5), none, false⟩,
   ⟨(some 7), .mv (.const (.int .i64 0)), none, false⟩])
  (.blk 0 (.loop (.seq (.reg [⟨(some 8), .bin .lss (.tmp 7) (.tmp 6), none, false⟩])
  (.seq (.cond (.tmp 8) .skip (.exit 0))
  (.seq (.blk 1 (.seq (.reg [⟨(some 9), .ixs 5 (.tmp 5) (.tmp 7), none, false⟩,
   ⟨(some 10), .loadn 5 (.tmp 9), none, false⟩,
   ⟨(some 4), .alloc 49 [.int .i64 0, .int .i64 0, .int .i64 0, .int .i64 0, .slice none 0 0], none, false⟩,
   ⟨none, .store 5 (.tmp 4) (.tmp 10), none, false⟩])
  (.seq (.reg [⟨(some 11), .loadn 5 (.tmp 4), none, false⟩,
   ⟨(some 12), .call (.func 60) [(.tmp 11)], none, false⟩,
   ⟨(some 13), .un .not (.tmp 12), none, false⟩])
  (.cond (.tmp 13) (.seq (.reg [⟨(some 2), .mv (.const (.bool false)), none, false⟩])
  .ret) .skip))))
  (.reg [⟨(some 14), .bin .add (.tmp 7) (.const (.int .i64 1)), none, false⟩,
   ⟨(some 7), .mv (.tmp 14), none, false⟩])))))))
  (.seq (.reg [⟨(some 2), .mv (.const (.bool true)), none, false⟩])
  .ret)))⟩

theorem s74 : compFn Try.prog Try.f74 = some c74 := by kernel_rfl

/-- loop.example/g01262/impl.isSquareScheme -/
def c75 : XFn :=
 ⟨[.tmp 2],
  (.seq (.reg [⟨(some 1), .box 49 (.tmp 0), none, false⟩,
   ⟨(some 2), .mv (.const (.bool false)), none, false⟩])
  (.seq (.reg [⟨(some 3), .fadr 1 (.tmp 1), none, false⟩,
   ⟨(some 4), .load1 (.tmp 3), none, false⟩,
   ⟨(some 5), .bin .geq (.tmp 4) (.const (.int .i64 2)), none, false⟩,
   ⟨(some 6), .mv (.tmp 5), none, false⟩,
   ⟨(some 7), .fadr 1 (.tmp 1), (some (6, true)), false⟩,
   ⟨(some 8), .load1 (.tmp 7), (some (6, true)), false⟩,
   ⟨(some 9), .fadr 2 (.tmp 1), (some (6, true)), false⟩,
   ⟨(some 10), .load1 (.tmp 9), (some (6, true)), false⟩,
   ⟨(some 11), .bin .eql (.tmp 8) (.tmp 10), (some (6, true)), false⟩,
   ⟨(some 12), .pick (.tmp 6) (.tmp 11) (.const (.bool false)), none, false⟩,
   ⟨(some 13), .mv (.tmp 12), none, false⟩,
   ⟨(some 14), .fadr 2 (.tmp 1), (some (13, true)), false⟩,
   ⟨(some 15), .load1 (.tmp 14), (some (13, true)), false⟩,
   ⟨(some 16), .fadr 3 (.tmp 1), (some (13, true)), false⟩,
   ⟨(some 17), .load1 (.tmp 16), (some (13, true)), false⟩,
   ⟨(some 18), .bin .eql (.tmp 15) (.tmp 17), (some (13, true)), false⟩,
   ⟨(some 19), .pick (.tmp 13) (.tmp 18) (.const (.bool false)), none, false⟩,
   ⟨(some 2), .mv (.tmp 19), none, false⟩])
  .ret))⟩

theorem s75 : compFn Try.prog Try.f75 = some c75 := by kernel_rfl

/-- cmp.Compare[int] -/
def c76 : XFn :=
 ⟨[.tmp 4],
  (.seq (.reg [⟨(some 4), .mv (.const (.int .i64 0)), none, false⟩])
  (.seq (.reg [⟨(some 7), .mv (.tmp 0), none, false⟩,
   ⟨(some 8), .call (.func 108) [(.tmp 7)], none, false⟩,
   ⟨(some 5), .mv (.tmp 8), none, false⟩])
  (.seq (.reg [⟨(some 9), .mv (.tmp 1), none, false⟩,
   ⟨(some 10), .call (.func 108) [(.tmp 9)], none, false⟩,
   ⟨(some 6), .mv (.tmp 10), none, false⟩])
  (.seq (.seq (.reg [⟨(some 11), .mv (.tmp 5), none, false⟩])
  (.cond (.tmp 11) (.seq (.seq (.reg [⟨(some 12), .mv (.tmp 6), none, false⟩])
  (.cond (.tmp 12) (.seq (.reg [⟨(some 4), .mv (.const (.int .i64 0)), none, false⟩])
  .ret) .skip))
  (.seq (.reg [⟨(some 4), .mv (.const (.int .i64 (-1))), none, false⟩])
  .ret)) .skip))
  (.seq (.seq (.reg [⟨(some 13), .mv (.tmp 6), none, false⟩])
  (.cond (.tmp 13) (.seq (.reg [⟨(some 4), .mv (.const (.int .i64 1)), none, false⟩])
  .ret) .skip))
  (.seq (.seq (.reg [⟨(some 14), .mv (.tmp 0), none, false⟩,
   ⟨(some 15), .mv (.tmp 1), none, false⟩,
   ⟨(some 16), .bin .lss (.tmp 14) (.tmp 15), none, false⟩])
  (.cond (.tmp 16) (.seq (.reg [⟨(some 4), .mv (.const (.int .i64 (-1))), none, false⟩])
  .ret) .skip))
  (.seq (.seq (.reg [⟨(some 17), .mv (.tmp 0), none, false⟩,
   ⟨(some 18), .mv (.tmp 1), none, false⟩,
   ⟨(some 19), .bin .gtr (.tmp 17) (.tmp 18), none, false⟩])
  (.cond (.tmp 19) (.seq (.reg [⟨(some 4), .mv (.const (.int .i64 1)), none, false⟩])
  .ret) .skip))
  (.seq (.reg [⟨(some 4), .mv (.const (.int .i64 0)), none, false⟩])
  .ret))))))))⟩

theorem s76 : compFn Try.prog Try.f76 = some c76 := by kernel_rfl

/-- loop.example/g01262/spec.l03Like -/
def c77 : XFn :=
 ⟨[.tmp 4],
  (.seq (.reg [⟨(some 2), .box 49 (.tmp 0), none, false⟩,
   ⟨(some 3), .box 49 (.tmp 1), none, false⟩,
   ⟨(some 4), .mv (.const (.int .i64 0)), none, false⟩])
  (.seq (.blk 0 (.seq (.reg [⟨(some 6), .loadn 5 (.tmp 2), none, false⟩,
   ⟨(some 7), .call (.func 82) [(.tmp 6)], none, false⟩,
   ⟨(some 8), .un .not (.tmp 7), none, false⟩,
   ⟨(some 9), .mv (.tmp 8), none, false⟩,
   ⟨(some 10), .loadn 5 (.tmp 3), (some (9, false)), false⟩,
   ⟨(some 11), .call (.func 82) [(.tmp 10)], (some (9, false)), false⟩,
   ⟨(some 12), .un .not (.tmp 11), (some (9, false)), false⟩,
   ⟨(some 13), .pick (.tmp 9) (.const (.bool true)) (.tmp 12), none, false⟩,
   ⟨(some 5), .mv (.tmp 13), none, false⟩])
  (.cond (.tmp 5) (.seq (.reg [⟨(some 4), .mv (.const (.int .i64 1)), none, false⟩])
  .ret) (.seq (.reg [⟨(some 15), .fadr 0 (.tmp 2), none, false⟩,
   ⟨(some 16), .load1 (.tmp 15), none, false⟩,
   ⟨(some 17), .fadr 0 (.tmp 3), none, false⟩,
   ⟨(some 18), .load1 (.tmp 17), none, false⟩,
   ⟨(some 19), .bin .neq (.tmp 16) (.tmp 18), none, false⟩,
   ⟨(some 20), .mv (.tmp 19), none, false⟩,
   ⟨(some 21), .fadr 1 (.tmp 2), (some (20, false)), false⟩,
   ⟨(some 22), .load1 (.tmp 21), (some (20, false)), false⟩,
   ⟨(some 23), .fadr 1 (.tmp 3), (some (20, false)), false⟩,
   ⟨(some 24), .load1 (.tmp 23), (some (20, false)), false⟩,
   ⟨(some 25), .bin .neq (.tmp 22) (.tmp 24), (some (20, false)), false⟩,
   ⟨(some 26), .pick (.tmp 20) (.const (.bool true)) (.tmp 25), none, false⟩,
   ⟨(some 27), .mv (.tmp 26), none, false⟩,
   ⟨(some 28), .fadr 2 (.tmp 2), (some (27, false)), false⟩,
   ⟨(some 29), .load1 (.tmp 28), (some (27, false)), false⟩,
   ⟨(some 30), .fadr 2 (.tmp 3), (some (27, false)), false⟩,
   ⟨(some 31), .load1 (.tmp 30), (some (27, false)), false⟩,
   ⟨(some 32), .bin .neq (.tmp 29) (.tmp 31), (some (27, false)), false⟩,
   ⟨(some 33), .pick (.tmp 27) (.const (.bool true)) (.tmp 32), none, false⟩,
   ⟨(some 34), .mv (.tmp 33), none, false⟩,
   ⟨(some 35), .fadr 3 (.tmp 2), (some (34, false)), false⟩,
   ⟨(some 36), .load1 (.tmp 35), (some (34, false)), false⟩,
   ⟨(some 37), .fadr 3 (.tmp 3), (some (34, false)), false⟩,
   ⟨(some 38), .load1 (.tmp 37), (some (34, false)), false⟩,
   ⟨(some 39), .bin .neq (.tmp 36) (.tmp 38), (some (34, false)), false⟩,
   ⟨(some 40), .pick (.tmp 34) (.const (.bool true)) (.tmp 39), none, false⟩,
   ⟨(some 14), .mv (.tmp 40), none, false⟩])
  (.cond (.tmp 14) (.seq (.reg [⟨(some 4), .mv (.const (.int .i64 2)), none, false⟩])
  .ret) .skip)))))
  (.seq (.reg [⟨(some 4), .mv (.const (.int .i64 0)), none, false⟩])
  .ret)))⟩

theorem s77 : compFn Try.prog Try.f77 = some c77 := by kernel_rfl

/-- loop.example/g01262/spec.l01Lengths -/
def c78 : XFn :=
 ⟨[.tmp 2, .tmp 3, .tmp 4],
  (.seq (.reg [⟨(some 1), .box 49 (.tmp 0), none, false⟩,
   ⟨(some 2), .mv (.const (.int .i64 0)), none, false⟩,
   ⟨(some 3), .mv (.const (.int .i64 0)), none, false⟩,
   ⟨(some 4), .mv (.const (.int .i64 0)), none, false⟩])
  (.seq (.reg [⟨(some 5), .fadr 1 (.tmp 1), none, false⟩,
   ⟨(some 6), .load1 (.tmp 5), none, false⟩,
   ⟨(some 7), .fadr 2 (.tmp 1), none, false⟩,
   ⟨(some 8), .load1 (.tmp 7), none, false⟩,
   ⟨(some 9), .bin .mul (.tmp 6) (.tmp 8), none, false⟩,
   ⟨(some 10), .fadr 2 (.tmp 1), none, false⟩,
   ⟨(some 11), .load1 (.tmp 10), none, false⟩,
   ⟨(some 12), .fadr 3 (.tmp 1), none, false⟩,
   ⟨(some 13), .load1 (.tmp 12), none, false⟩,
   ⟨(some 14), .bin .mul (.tmp 11) (.tmp 13), none, false⟩,
   ⟨(some 15), .fadr 1 (.tmp 1), none, false⟩,
   ⟨(some 16), .load1 (.tmp 15), none, false⟩,
   ⟨(some 17), .fadr 3 (.tmp 1), none, false⟩,
   ⟨(some 18), .load1 (.tmp 17), none, false⟩,
   ⟨(some 19), .bin .mul (.tmp 16) (.tmp 18), none, false⟩,
   ⟨(some 2), .mv (.tmp 9), none, false⟩,
   ⟨(some 3), .mv (.tmp 14), none, false⟩,
   ⟨(some 4), .mv (.tmp 19), none, false⟩])
  .ret))⟩

theorem s78 : compFn Try.prog Try.f78 = some c78 := by kernel_rfl

/-- loop.example/g01262/spec.l01Sum -/
def c79 : XFn :=
 ⟨[.tmp 8],
  (.seq (.reg [⟨(some 4), .box 49 (.tmp 0), none, false⟩,
   ⟨(some 8), .mv (.const (.int .i64 0)), none, false⟩])
  (.seq (.reg [⟨(some 9), .mv (.const (.int .i64 0)), none, false⟩])
  (.seq (.seq (.reg [⟨(some 10), .mv (.const (.int .i64 0)), none, false⟩])
  (.blk 0 (.loop (.seq (.seq (.reg [⟨(some 12), .mv (.tmp 10), none, false⟩,
   ⟨(some 13), .fadr 4 (.tmp 4), none, false⟩,
   ⟨(some 14), .load1 (.tmp 13), none, false⟩,
   ⟨(some 15), .len (.tmp 14), none, false⟩,
   ⟨(some 16), .bin .lss (.tmp 12) (.tmp 15), none, false⟩])
  (.cond (.tmp 16) .skip (.exit 0)))
  (.seq (.blk 1 (.seq (.reg [⟨(some 19), .fadr 4 (.tmp 4), none, false⟩,
   ⟨(some 20), .load1 (.tmp 19), none, false⟩,
   ⟨(some 21), .mv (.tmp 10), none, false⟩,
   ⟨(some 22), .ixs 27 (.tmp 20) (.tmp 21), none, false⟩,
   ⟨(some 23), .loadn 27 (.tmp 22), none, false⟩,
   ⟨(some 11), .alloc 114 [.int .u8 0, .int .u8 0, .int .u8 0, .int .u8 0, .int .u8 0, .int .u8 0, .int .u8 0, .int .u8 0, .int .u8 0, .int .u8 0, .int .u8 0, .int .u8 0, .int .u8 0, .int .u8 0, .int .u8 0, .int .u8 0, .int .u8 0, .int .u8 0, .int .u8 0, .int .u8 0, .int .u8 0, .int .u8 0, .int .u8 0, .int .u8 0, .int .u8 0, .int .u8 0, .int .u8 0], none, false⟩,
   ⟨none, .store 27 (.tmp 11) (.tmp 23), none, false⟩])
  (.reg [⟨(some 24), .mv (.tmp 9), none, false⟩,
   ⟨(some 25), .mv (.tmp 1), none, false⟩,
   ⟨(some 26), .fadr 0 (.tmp 11), none, false⟩,
   ⟨(some 27), .ixa 9 1 (.tmp 26) (.tmp 25), none, false⟩,
   ⟨(some 28), .load1 (.tmp 27), none, false⟩,
   ⟨(some 29), .conv .i64 (.tmp 28), none, false⟩,
   ⟨(some 30), .mv (.tmp 2), none, false⟩,
   ⟨(some 31), .fadr 9 (.tmp 11), none, false⟩,
   ⟨(some 32), .ixa 9 1 (.tmp 31) (.tmp 30), none, false⟩,
   ⟨(some 33), .load1 (.tmp 32), none, false⟩,
   ⟨(some 34), .conv .i64 (.tmp 33), none, false⟩,
   ⟨(some 35), .bin .mul (.tmp 29) (.tmp 34), none, false⟩,
   ⟨(some 36), .mv (.tmp 3), none, false⟩,
   ⟨(some 37), .fadr 18 (.tmp 11), none, false⟩,
   ⟨(some 38), .ixa 9 1 (.tmp 37) (.tmp 36), none, false⟩,
   ⟨(some 39), .load1 (.tmp 38), none, false⟩,
   ⟨(some 40), .conv .i64 (.tmp 39), none, false⟩,
   ⟨(some 41), .bin .mul (.tmp 35) (.tmp 40), none, false⟩,
   ⟨(some 42), .bin .add (.tmp 24) (.tmp 41), none, false⟩,
   ⟨(some 9), .mv (.tmp 42), none, false⟩])))
  (.reg [⟨(some 17), .mv (.tmp 10), none, false⟩,
   ⟨(some 18), .bin .add (.tmp 17) (.const (.int .i64 1)), none, false⟩,
   ⟨(some 10), .mv (.tmp 18), none, false⟩]))))))
  (.seq (.reg [⟨(some 43), .mv (.tmp 9), none, false⟩,
   ⟨(some 44), .fadr 0 (.tmp 4), none, false⟩,
   ⟨(some 45), .load1 (.tmp 44), none, false⟩,
   ⟨(some 46), .bin .rem (.tmp 43) (.tmp 45), none, false⟩,
   ⟨(some 8), .mv (.tmp 46), none, false⟩])
  .ret))))⟩

theorem s79 : compFn Try.prog Try.f79 = some c79 := by kernel_rfl
end Go.Proofs.Ytphklalbkpohfaa.X
