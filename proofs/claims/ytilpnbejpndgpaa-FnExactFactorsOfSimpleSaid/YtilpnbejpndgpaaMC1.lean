/- Texts of one claim, put together by merge.py: XCode1. -/
import Derived.Test.YtilpnbejpndgpaaM2
import Derived.Test.YtilpnbejpndgpaaProg
/- Part of the abstract code of the seat's functions, printed by a program of this session. -/
set_option linter.unusedVariables false
set_option maxRecDepth 4000
namespace Go.Proofs.Ytilpnbejpndgpaa.X
open Go Go.RowKit

/-- gosem.cut.init -/
def c2 : XFn :=
 ⟨[],
  (.reg [⟨(some 0), .call (.func 1) [], none, false⟩])⟩

theorem s2 : compFn Try.prog Try.f2 = some c2 := by kernel_rfl

/-- loop.example/g01262/laws.FnExactIsSimple -/
def c3 : XFn :=
 ⟨[.tmp 2],
  (.seq (.reg [⟨(some 1), .box 24 (.tmp 0), none, false⟩,
   ⟨(some 2), .mv (.const (.bool false)), none, false⟩])
  (.seq (.reg [⟨(some 3), .mv (.const (.int .i64 1048576)), none, false⟩])
  (.seq (.reg [⟨(some 9), .loadn 5 (.tmp 1), none, false⟩,
   ⟨(some 10), .mv (.tmp 3), none, false⟩,
   ⟨(some 11), .call (.func 15) [(.tmp 9), (.tmp 10)], none, false⟩,
   ⟨(some 3), .mv (.tmp 11), none, false⟩])
  (.seq (.seq (.reg [⟨(some 12), .mv (.tmp 3), none, false⟩,
   ⟨(some 13), .bin .lss (.tmp 12) (.const (.int .i64 0)), none, false⟩])
  (.cond (.tmp 13) (.seq (.reg [⟨(some 2), .mv (.const (.bool true)), none, false⟩])
  .ret) .skip))
  (.seq (.reg [⟨(some 15), .loadn 5 (.tmp 1), none, false⟩,
   ⟨(some 16), .call (.func 17) [(.tmp 15)], none, false⟩,
   ⟨(some 17), .call (.func 16) [(.tmp 16)], none, false⟩,
   ⟨(some 14), .mv (.tmp 17), none, false⟩,
   ⟨(some 18), .ext (.tmp 14) 0, none, false⟩,
   ⟨(some 19), .ext (.tmp 14) 1, none, false⟩,
   ⟨(some 4), .mv (.tmp 18), none, false⟩,
   ⟨(some 5), .mv (.tmp 19), none, false⟩])
  (.seq (.reg [⟨(some 20), .loadn 5 (.tmp 1), none, false⟩,
   ⟨(some 21), .call (.func 17) [(.tmp 20)], none, false⟩,
   ⟨(some 6), .alloc 28 [.int .i64 0, .int .i64 0, .int .i64 0, .int .i64 0, .slice none 0 0], none, false⟩,
   ⟨none, .store 5 (.tmp 6) (.tmp 21), none, false⟩])
  (.seq (.reg [⟨(some 23), .loadn 5 (.tmp 6), none, false⟩,
   ⟨(some 24), .call (.func 18) [(.tmp 23)], none, false⟩,
   ⟨(some 22), .mv (.tmp 24), none, false⟩,
   ⟨(some 25), .ext (.tmp 22) 0, none, false⟩,
   ⟨(some 26), .ext (.tmp 22) 1, none, false⟩,
   ⟨(some 7), .mv (.tmp 25), none, false⟩,
   ⟨(some 8), .mv (.tmp 26), none, false⟩])
  (.seq (.seq (.reg [⟨(some 27), .mv (.tmp 7), none, false⟩,
   ⟨(some 28), .mv (.tmp 4), none, false⟩,
   ⟨(some 29), .eqb true (.tmp 27) (.tmp 28), none, false⟩,
   ⟨(some 30), .mv (.tmp 29), none, false⟩,
   ⟨(some 31), .mv (.tmp 8), (some (30, false)), false⟩,
   ⟨(some 32), .mv (.tmp 5), (some (30, false)), false⟩,
   ⟨(some 33), .bin .neq (.tmp 31) (.tmp 32), (some (30, false)), false⟩,
   ⟨(some 34), .pick (.tmp 30) (.const (.bool true)) (.tmp 33), none, false⟩])
  (.cond (.tmp 34) (.seq (.reg [⟨(some 2), .mv (.const (.bool false)), none, false⟩])
  .ret) .skip))
  (.seq (.seq (.reg [⟨(some 35), .loadn 5 (.tmp 6), none, false⟩,
   ⟨(some 36), .loadn 5 (.tmp 1), none, false⟩,
   ⟨(some 37), .call (.func 17) [(.tmp 36)], none, true⟩,
   ⟨(some 38), .call (.func 19) [(.tmp 35), (.tmp 37)], none, false⟩,
   ⟨(some 39), .un .not (.tmp 38), none, false⟩])
  (.cond (.tmp 39) (.seq (.reg [⟨(some 2), .mv (.const (.bool false)), none, false⟩])
  .ret) .skip))
  (.seq (.reg [⟨(some 2), .mv (.const (.bool true)), none, false⟩])
  .ret))))))))))⟩

theorem s3 : compFn Try.prog Try.f3 = some c3 := by kernel_rfl

/-- loop.example/g01262/laws.FnExactFactorsOfSimple -/
def c4 : XFn :=
 ⟨[.tmp 2],
  (.seq (.reg [⟨(some 1), .box 24 (.tmp 0), none, false⟩,
   ⟨(some 2), .mv (.const (.bool false)), none, false⟩])
  (.seq (.reg [⟨(some 3), .mv (.const (.int .i64 1048576)), none, false⟩])
  (.seq (.reg [⟨(some 14), .loadn 5 (.tmp 1), none, false⟩,
   ⟨(some 15), .mv (.tmp 3), none, false⟩,
   ⟨(some 16), .call (.func 15) [(.tmp 14), (.tmp 15)], none, false⟩,
   ⟨(some 3), .mv (.tmp 16), none, false⟩])
  (.seq (.seq (.reg [⟨(some 17), .mv (.tmp 3), none, false⟩,
   ⟨(some 18), .bin .lss (.tmp 17) (.const (.int .i64 0)), none, false⟩])
  (.cond (.tmp 18) (.seq (.reg [⟨(some 2), .mv (.const (.bool true)), none, false⟩])
  .ret) .skip))
  (.seq (.reg [⟨(some 20), .loadn 5 (.tmp 1), none, false⟩,
   ⟨(some 21), .call (.func 17) [(.tmp 20)], none, false⟩,
   ⟨(some 22), .call (.func 20) [(.tmp 21)], none, false⟩,
   ⟨(some 19), .mv (.tmp 22), none, false⟩,
   ⟨(some 23), .ext (.tmp 19) 0, none, false⟩,
   ⟨(some 24), .ext (.tmp 19) 1, none, false⟩,
   ⟨(some 4), .mv (.tmp 23), none, false⟩,
   ⟨(some 5), .mv (.tmp 24), none, false⟩])
  (.seq (.reg [⟨(some 25), .loadn 5 (.tmp 1), none, false⟩,
   ⟨(some 26), .call (.func 17) [(.tmp 25)], none, false⟩,
   ⟨(some 6), .alloc 28 [.int .i64 0, .int .i64 0, .int .i64 0, .int .i64 0, .slice none 0 0], none, false⟩,
   ⟨none, .store 5 (.tmp 6) (.tmp 26), none, false⟩])
  (.seq (.reg [⟨(some 28), .loadn 5 (.tmp 6), none, false⟩,
   ⟨(some 29), .call (.func 21) [(.tmp 28)], none, false⟩,
   ⟨(some 27), .mv (.tmp 29), none, false⟩,
   ⟨(some 30), .ext (.tmp 27) 0, none, false⟩,
   ⟨(some 31), .ext (.tmp 27) 1, none, false⟩,
   ⟨(some 7), .mv (.tmp 30), none, false⟩,
   ⟨(some 8), .mv (.tmp 31), none, false⟩])
  (.seq (.seq (.reg [⟨(some 32), .mv (.tmp 7), none, false⟩,
   ⟨(some 33), .mv (.tmp 4), none, false⟩,
   ⟨(some 34), .call (.func 22) [(.tmp 32), (.tmp 33)], none, false⟩,
   ⟨(some 35), .un .not (.tmp 34), none, false⟩,
   ⟨(some 36), .mv (.tmp 35), none, false⟩,
   ⟨(some 37), .mv (.tmp 8), (some (36, false)), false⟩,
   ⟨(some 38), .mv (.tmp 5), (some (36, false)), false⟩,
   ⟨(some 39), .bin .neq (.tmp 37) (.tmp 38), (some (36, false)), false⟩,
   ⟨(some 40), .pick (.tmp 36) (.const (.bool true)) (.tmp 39), none, false⟩])
  (.cond (.tmp 40) (.seq (.reg [⟨(some 2), .mv (.const (.bool false)), none, false⟩])
  .ret) .skip))
  (.seq (.seq (.reg [⟨(some 41), .loadn 5 (.tmp 6), none, false⟩,
   ⟨(some 42), .loadn 5 (.tmp 1), none, false⟩,
   ⟨(some 43), .call (.func 17) [(.tmp 42)], none, true⟩,
   ⟨(some 44), .call (.func 19) [(.tmp 41), (.tmp 43)], none, false⟩,
   ⟨(some 45), .un .not (.tmp 44), none, false⟩])
  (.cond (.tmp 45) (.seq (.reg [⟨(some 2), .mv (.const (.bool false)), none, false⟩])
  .ret) .skip))
  (.seq (.reg [⟨(some 9), .mv (.const (.int .i64 1)), none, false⟩])
  (.seq (.reg [⟨(some 46), .loadn 5 (.tmp 6), none, false⟩,
   ⟨(some 47), .mv (.tmp 9), none, false⟩,
   ⟨(some 48), .call (.func 23) [(.tmp 46), (.tmp 47)], none, false⟩,
   ⟨(some 9), .mv (.tmp 48), none, false⟩])
  (.seq (.seq (.reg [⟨(some 49), .mv (.tmp 9), none, false⟩,
   ⟨(some 50), .bin .lss (.tmp 49) (.const (.int .i64 0)), none, false⟩,
   ⟨(some 51), .mv (.tmp 50), none, false⟩,
   ⟨(some 52), .mv (.tmp 7), (some (51, false)), false⟩,
   ⟨(some 53), .mv (.tmp 4), (some (51, false)), false⟩,
   ⟨(some 54), .call (.func 22) [(.tmp 52), (.tmp 53)], (some (51, false)), false⟩,
   ⟨(some 55), .un .not (.tmp 54), (some (51, false)), false⟩,
   ⟨(some 56), .pick (.tmp 51) (.const (.bool true)) (.tmp 55), none, false⟩,
   ⟨(some 57), .mv (.tmp 56), none, false⟩,
   ⟨(some 58), .mv (.tmp 8), (some (57, false)), false⟩,
   ⟨(some 59), .mv (.tmp 5), (some (57, false)), false⟩,
   ⟨(some 60), .bin .neq (.tmp 58) (.tmp 59), (some (57, false)), false⟩,
   ⟨(some 61), .pick (.tmp 57) (.const (.bool true)) (.tmp 60), none, false⟩])
  (.cond (.tmp 61) (.seq (.reg [⟨(some 2), .mv (.const (.bool false)), none, false⟩])
  .ret) .skip))
  (.seq (.reg [⟨(some 10), .mv (.const (.int .i64 1)), none, false⟩])
  (.seq (.reg [⟨(some 62), .mv (.tmp 7), none, false⟩,
   ⟨(some 63), .mv (.tmp 10), none, false⟩,
   ⟨(some 64), .call (.func 24) [(.tmp 62), (.tmp 63)], none, false⟩,
   ⟨(some 10), .mv (.tmp 64), none, false⟩])
  (.seq (.reg [⟨(some 11), .mv (.const (.int .i64 1)), none, false⟩])
  (.seq (.reg [⟨(some 65), .mv (.tmp 7), none, false⟩,
   ⟨(some 66), .mv (.tmp 11), none, false⟩,
   ⟨(some 67), .call (.func 25) [(.tmp 65), (.tmp 66)], none, false⟩,
   ⟨(some 11), .mv (.tmp 67), none, false⟩])
  (.seq (.seq (.reg [⟨(some 68), .mv (.tmp 11), none, false⟩,
   ⟨(some 69), .bin .lss (.tmp 68) (.const (.int .i64 0)), none, false⟩])
  (.cond (.tmp 69) (.seq (.reg [⟨(some 2), .mv (.const (.bool false)), none, false⟩])
  .ret) .skip))
  (.seq (.seq (.reg [⟨(some 70), .mv (.tmp 11), none, false⟩,
   ⟨(some 71), .mv (.tmp 10), none, false⟩,
   ⟨(some 72), .bin .neq (.tmp 70) (.tmp 71), none, false⟩])
  (.cond (.tmp 72) (.seq (.reg [⟨(some 2), .mv (.const (.bool false)), none, false⟩])
  .ret) .skip))
  (.seq (.reg [⟨(some 74), .loadn 5 (.tmp 1), none, false⟩,
   ⟨(some 75), .call (.func 17) [(.tmp 74)], none, false⟩,
   ⟨(some 76), .call (.func 21) [(.tmp 75)], none, false⟩,
   ⟨(some 73), .mv (.tmp 76), none, false⟩,
   ⟨(some 77), .ext (.tmp 73) 0, none, false⟩,
   ⟨(some 78), .ext (.tmp 73) 1, none, false⟩,
   ⟨(some 12), .mv (.tmp 77), none, false⟩,
   ⟨(some 13), .mv (.tmp 78), none, false⟩])
  (.seq (.seq (.reg [⟨(some 79), .mv (.tmp 12), none, false⟩,
   ⟨(some 80), .mv (.tmp 4), none, false⟩,
   ⟨(some 81), .call (.func 22) [(.tmp 79), (.tmp 80)], none, false⟩,
   ⟨(some 82), .un .not (.tmp 81), none, false⟩,
   ⟨(some 83), .mv (.tmp 82), none, false⟩,
   ⟨(some 84), .mv (.tmp 13), (some (83, false)), false⟩,
   ⟨(some 85), .mv (.tmp 5), (some (83, false)), false⟩,
   ⟨(some 86), .bin .neq (.tmp 84) (.tmp 85), (some (83, false)), false⟩,
   ⟨(some 87), .pick (.tmp 83) (.const (.bool true)) (.tmp 86), none, false⟩])
  (.cond (.tmp 87) (.seq (.reg [⟨(some 2), .mv (.const (.bool false)), none, false⟩])
  .ret) .skip))
  (.seq (.reg [⟨(some 11), .mv (.const (.int .i64 1)), none, false⟩])
  (.seq (.reg [⟨(some 88), .mv (.tmp 7), none, false⟩,
   ⟨(some 89), .mv (.tmp 11), none, false⟩,
   ⟨(some 90), .call (.func 25) [(.tmp 88), (.tmp 89)], none, false⟩,
   ⟨(some 11), .mv (.tmp 90), none, false⟩])
  (.seq (.seq (.reg [⟨(some 91), .mv (.tmp 11), none, false⟩,
   ⟨(some 92), .bin .lss (.tmp 91) (.const (.int .i64 0)), none, false⟩])
  (.cond (.tmp 92) (.seq (.reg [⟨(some 2), .mv (.const (.bool false)), none, false⟩])
  .ret) .skip))
  (.seq (.seq (.reg [⟨(some 93), .mv (.tmp 11), none, false⟩,
   ⟨(some 94), .mv (.tmp 10), none, false⟩,
   ⟨(some 95), .bin .neq (.tmp 93) (.tmp 94), none, false⟩])
  (.cond (.tmp 95) (.seq (.reg [⟨(some 2), .mv (.const (.bool false)), none, false⟩])
  .ret) .skip))
  (.seq (.reg [⟨(some 2), .mv (.const (.bool true)), none, false⟩])
  .ret)))))))))))))))))))))))))⟩

theorem s4 : compFn Try.prog Try.f4 = some c4 := by kernel_rfl

/-- loop.example/g01262/laws.FnExactDepthsOf -/
def c5 : XFn :=
 ⟨[.tmp 2],
  (.seq (.reg [⟨(some 1), .box 41 (.tmp 0), none, false⟩,
   ⟨(some 2), .mv (.const (.bool false)), none, false⟩])
  (.seq (.reg [⟨(some 3), .mv (.const (.int .i64 1048576)), none, false⟩])
  (.seq (.reg [⟨(some 14), .loadn 4 (.tmp 1), none, false⟩,
   ⟨(some 15), .mv (.tmp 3), none, false⟩,
   ⟨(some 16), .call (.func 26) [(.tmp 14), (.tmp 15)], none, false⟩,
   ⟨(some 3), .mv (.tmp 16), none, false⟩])
  (.seq (.seq (.reg [⟨(some 17), .mv (.tmp 3), none, false⟩,
   ⟨(some 18), .bin .lss (.tmp 17) (.const (.int .i64 0)), none, false⟩])
  (.cond (.tmp 18) (.seq (.reg [⟨(some 2), .mv (.const (.bool true)), none, false⟩])
  .ret) .skip))
  (.seq (.reg [⟨(some 20), .loadn 4 (.tmp 1), none, false⟩,
   ⟨(some 21), .call (.func 28) [(.tmp 20)], none, false⟩,
   ⟨(some 22), .call (.func 27) [(.tmp 21)], none, false⟩,
   ⟨(some 19), .mv (.tmp 22), none, false⟩,
   ⟨(some 23), .ext (.tmp 19) 0, none, false⟩,
   ⟨(some 24), .ext (.tmp 19) 1, none, false⟩,
   ⟨(some 4), .mv (.tmp 23), none, false⟩,
   ⟨(some 5), .mv (.tmp 24), none, false⟩])
  (.seq (.reg [⟨(some 25), .loadn 4 (.tmp 1), none, false⟩,
   ⟨(some 26), .call (.func 28) [(.tmp 25)], none, false⟩,
   ⟨(some 6), .alloc 48 [.int .i64 0, .int .i64 0, .slice none 0 0, .slice none 0 0], none, false⟩,
   ⟨none, .store 4 (.tmp 6) (.tmp 26), none, false⟩])
  (.seq (.reg [⟨(some 28), .loadn 4 (.tmp 6), none, false⟩,
   ⟨(some 29), .call (.func 29) [(.tmp 28)], none, false⟩,
   ⟨(some 27), .mv (.tmp 29), none, false⟩,
   ⟨(some 30), .ext (.tmp 27) 0, none, false⟩,
   ⟨(some 31), .ext (.tmp 27) 1, none, false⟩,
   ⟨(some 7), .mv (.tmp 30), none, false⟩,
   ⟨(some 8), .mv (.tmp 31), none, false⟩])
  (.seq (.seq (.reg [⟨(some 32), .mv (.tmp 7), none, false⟩,
   ⟨(some 33), .mv (.tmp 4), none, false⟩,
   ⟨(some 34), .call (.func 30) [(.tmp 32), (.tmp 33)], none, false⟩,
   ⟨(some 35), .un .not (.tmp 34), none, false⟩,
   ⟨(some 36), .mv (.tmp 35), none, false⟩,
   ⟨(some 37), .mv (.tmp 8), (some (36, false)), false⟩,
   ⟨(some 38), .mv (.tmp 5), (some (36, false)), false⟩,
   ⟨(some 39), .bin .neq (.tmp 37) (.tmp 38), (some (36, false)), false⟩,
   ⟨(some 40), .pick (.tmp 36) (.const (.bool true)) (.tmp 39), none, false⟩])
  (.cond (.tmp 40) (.seq (.reg [⟨(some 2), .mv (.const (.bool false)), none, false⟩])
  .ret) .skip))
  (.seq (.seq (.reg [⟨(some 41), .loadn 4 (.tmp 6), none, false⟩,
   ⟨(some 42), .loadn 4 (.tmp 1), none, false⟩,
   ⟨(some 43), .call (.func 28) [(.tmp 42)], none, true⟩,
   ⟨(some 44), .call (.func 31) [(.tmp 41), (.tmp 43)], none, false⟩,
   ⟨(some 45), .un .not (.tmp 44), none, false⟩])
  (.cond (.tmp 45) (.seq (.reg [⟨(some 2), .mv (.const (.bool false)), none, false⟩])
  .ret) .skip))
  (.seq (.reg [⟨(some 9), .mv (.const (.int .i64 1)), none, false⟩])
  (.seq (.reg [⟨(some 46), .loadn 4 (.tmp 6), none, false⟩,
   ⟨(some 47), .mv (.tmp 9), none, false⟩,
   ⟨(some 48), .call (.func 32) [(.tmp 46), (.tmp 47)], none, false⟩,
   ⟨(some 9), .mv (.tmp 48), none, false⟩])
  (.seq (.seq (.reg [⟨(some 49), .mv (.tmp 9), none, false⟩,
   ⟨(some 50), .bin .lss (.tmp 49) (.const (.int .i64 0)), none, false⟩,
   ⟨(some 51), .mv (.tmp 50), none, false⟩,
   ⟨(some 52), .mv (.tmp 7), (some (51, false)), false⟩,
   ⟨(some 53), .mv (.tmp 4), (some (51, false)), false⟩,
   ⟨(some 54), .call (.func 30) [(.tmp 52), (.tmp 53)], (some (51, false)), false⟩,
   ⟨(some 55), .un .not (.tmp 54), (some (51, false)), false⟩,
   ⟨(some 56), .pick (.tmp 51) (.const (.bool true)) (.tmp 55), none, false⟩,
   ⟨(some 57), .mv (.tmp 56), none, false⟩,
   ⟨(some 58), .mv (.tmp 8), (some (57, false)), false⟩,
   ⟨(some 59), .mv (.tmp 5), (some (57, false)), false⟩,
   ⟨(some 60), .bin .neq (.tmp 58) (.tmp 59), (some (57, false)), false⟩,
   ⟨(some 61), .pick (.tmp 57) (.const (.bool true)) (.tmp 60), none, false⟩])
  (.cond (.tmp 61) (.seq (.reg [⟨(some 2), .mv (.const (.bool false)), none, false⟩])
  .ret) .skip))
  (.seq (.reg [⟨(some 10), .mv (.const (.int .i64 1)), none, false⟩])
  (.seq (.reg [⟨(some 62), .mv (.tmp 7), none, false⟩,
   ⟨(some 63), .mv (.tmp 10), none, false⟩,
   ⟨(some 64), .call (.func 33) [(.tmp 62), (.tmp 63)], none, false⟩,
   ⟨(some 10), .mv (.tmp 64), none, false⟩])
  (.seq (.reg [⟨(some 11), .mv (.const (.int .i64 1)), none, false⟩])
  (.seq (.reg [⟨(some 65), .mv (.tmp 7), none, false⟩,
   ⟨(some 66), .mv (.tmp 11), none, false⟩,
   ⟨(some 67), .call (.func 34) [(.tmp 65), (.tmp 66)], none, false⟩,
   ⟨(some 11), .mv (.tmp 67), none, false⟩])
  (.seq (.seq (.reg [⟨(some 68), .mv (.tmp 11), none, false⟩,
   ⟨(some 69), .bin .lss (.tmp 68) (.const (.int .i64 0)), none, false⟩])
  (.cond (.tmp 69) (.seq (.reg [⟨(some 2), .mv (.const (.bool false)), none, false⟩])
  .ret) .skip))
  (.seq (.seq (.reg [⟨(some 70), .mv (.tmp 11), none, false⟩,
   ⟨(some 71), .mv (.tmp 10), none, false⟩,
   ⟨(some 72), .bin .neq (.tmp 70) (.tmp 71), none, false⟩])
  (.cond (.tmp 72) (.seq (.reg [⟨(some 2), .mv (.const (.bool false)), none, false⟩])
  .ret) .skip))
  (.seq (.reg [⟨(some 74), .loadn 4 (.tmp 1), none, false⟩,
   ⟨(some 75), .call (.func 28) [(.tmp 74)], none, false⟩,
   ⟨(some 76), .call (.func 29) [(.tmp 75)], none, false⟩,
   ⟨(some 73), .mv (.tmp 76), none, false⟩,
   ⟨(some 77), .ext (.tmp 73) 0, none, false⟩,
   ⟨(some 78), .ext (.tmp 73) 1, none, false⟩,
   ⟨(some 12), .mv (.tmp 77), none, false⟩,
   ⟨(some 13), .mv (.tmp 78), none, false⟩])
  (.seq (.seq (.reg [⟨(some 79), .mv (.tmp 12), none, false⟩,
   ⟨(some 80), .mv (.tmp 4), none, false⟩,
   ⟨(some 81), .call (.func 30) [(.tmp 79), (.tmp 80)], none, false⟩,
   ⟨(some 82), .un .not (.tmp 81), none, false⟩,
   ⟨(some 83), .mv (.tmp 82), none, false⟩,
   ⟨(some 84), .mv (.tmp 13), (some (83, false)), false⟩,
   ⟨(some 85), .mv (.tmp 5), (some (83, false)), false⟩,
   ⟨(some 86), .bin .neq (.tmp 84) (.tmp 85), (some (83, false)), false⟩,
   ⟨(some 87), .pick (.tmp 83) (.const (.bool true)) (.tmp 86), none, false⟩])
  (.cond (.tmp 87) (.seq (.reg [⟨(some 2), .mv (.const (.bool false)), none, false⟩])
  .ret) .skip))
  (.seq (.reg [⟨(some 11), .mv (.const (.int .i64 1)), none, false⟩])
  (.seq (.reg [⟨(some 88), .mv (.tmp 7), none, false⟩,
   ⟨(some 89), .mv (.tmp 11), none, false⟩,
   ⟨(some 90), .call (.func 34) [(.tmp 88), (.tmp 89)], none, false⟩,
   ⟨(some 11), .mv (.tmp 90), none, false⟩])
  (.seq (.seq (.reg [⟨(some 91), .mv (.tmp 11), none, false⟩,
   ⟨(some 92), .bin .lss (.tmp 91) (.const (.int .i64 0)), none, false⟩])
  (.cond (.tmp 92) (.seq (.reg [⟨(some 2), .mv (.const (.bool false)), none, false⟩])
  .ret) .skip))
  (.seq (.seq (.reg [⟨(some 93), .mv (.tmp 11), none, false⟩,
   ⟨(some 94), .mv (.tmp 10), none, false⟩,
   ⟨(some 95), .bin .neq (.tmp 93) (.tmp 94), none, false⟩])
  (.cond (.tmp 95) (.seq (.reg [⟨(some 2), .mv (.const (.bool false)), none, false⟩])
  .ret) .skip))
  (.seq (.reg [⟨(some 2), .mv (.const (.bool true)), none, false⟩])
  .ret)))))))))))))))))))))))))⟩

theorem s5 : compFn Try.prog Try.f5 = some c5 := by kernel_rfl

/-- loop.example/g01262/laws.FnExactRunProgram -/
def c6 : XFn :=
 ⟨[.tmp 4],
  (.seq (.reg [⟨(some 2), .box 41 (.tmp 0), none, false⟩,
   ⟨(some 4), .mv (.const (.bool false)), none, false⟩])
  (.seq (.seq (.reg [⟨(some 17), .mv (.tmp 1), none, false⟩,
   ⟨(some 18), .len (.tmp 17), none, false⟩,
   ⟨(some 19), .bin .gtr (.tmp 18) (.const (.int .i64 1048576)), none, false⟩])
  (.cond (.tmp 19) (.seq (.reg [⟨(some 4), .mv (.const (.bool true)), none, false⟩])
  .ret) .skip))
  (.seq (.reg [⟨(some 5), .mv (.const (.int .i64 1048576)), none, false⟩])
  (.seq (.reg [⟨(some 20), .loadn 4 (.tmp 2), none, false⟩,
   ⟨(some 21), .mv (.tmp 5), none, false⟩,
   ⟨(some 22), .call (.func 26) [(.tmp 20), (.tmp 21)], none, false⟩,
   ⟨(some 5), .mv (.tmp 22), none, false⟩])
  (.seq (.seq (.reg [⟨(some 23), .mv (.tmp 5), none, false⟩,
   ⟨(some 24), .bin .lss (.tmp 23) (.const (.int .i64 0)), none, false⟩])
  (.cond (.tmp 24) (.seq (.reg [⟨(some 4), .mv (.const (.bool true)), none, false⟩])
  .ret) .skip))
  (.seq (.reg [⟨(some 26), .loadn 4 (.tmp 2), none, false⟩,
   ⟨(some 27), .call (.func 28) [(.tmp 26)], none, false⟩,
   ⟨(some 28), .mv (.tmp 1), none, false⟩,
   ⟨(some 29), .call (.func 36) [(.tmp 28)], none, false⟩,
   ⟨(some 30), .call (.func 35) [(.tmp 27), (.tmp 29)], none, false⟩,
   ⟨(some 25), .mv (.tmp 30), none, false⟩,
   ⟨(some 31), .ext (.tmp 25) 0, none, false⟩,
   ⟨(some 32), .ext (.tmp 25) 1, none, false⟩,
   ⟨(some 6), .mv (.tmp 31), none, false⟩,
   ⟨(some 7), .mv (.tmp 32), none, false⟩])
  (.seq (.reg [⟨(some 33), .loadn 4 (.tmp 2), none, false⟩,
   ⟨(some 34), .call (.func 28) [(.tmp 33)], none, false⟩,
   ⟨(some 8), .alloc 48 [.int .i64 0, .int .i64 0, .slice none 0 0, .slice none 0 0], none, false⟩,
   ⟨none, .store 4 (.tmp 8) (.tmp 34), none, false⟩])
  (.seq (.reg [⟨(some 35), .mv (.tmp 1), none, false⟩,
   ⟨(some 36), .call (.func 36) [(.tmp 35)], none, false⟩,
   ⟨(some 9), .mv (.tmp 36), none, false⟩])
  (.seq (.reg [⟨(some 38), .loadn 4 (.tmp 8), none, false⟩,
   ⟨(some 39), .mv (.tmp 9), none, false⟩,
   ⟨(some 40), .call (.func 37) [(.tmp 38), (.tmp 39)], none, false⟩,
   ⟨(some 37), .mv (.tmp 40), none, false⟩,
   ⟨(some 41), .ext (.tmp 37) 0, none, false⟩,
   ⟨(some 42), .ext (.tmp 37) 1, none, false⟩,
   ⟨(some 10), .mv (.tmp 41), none, false⟩,
   ⟨(some 11), .mv (.tmp 42), none, false⟩])
  (.seq (.seq (.reg [⟨(some 43), .mv (.tmp 10), none, false⟩,
   ⟨(some 44), .mv (.tmp 6), none, false⟩,
   ⟨(some 45), .call (.func 30) [(.tmp 43), (.tmp 44)], none, false⟩,
   ⟨(some 46), .un .not (.tmp 45), none, false⟩,
   ⟨(some 47), .mv (.tmp 46), none, false⟩,
   ⟨(some 48), .mv (.tmp 11), (some (47, false)), false⟩,
   ⟨(some 49), .mv (.tmp 7), (some (47, false)), false⟩,
   ⟨(some 50), .bin .neq (.tmp 48) (.tmp 49), (some (47, false)), false⟩,
   ⟨(some 51), .pick (.tmp 47) (.const (.bool true)) (.tmp 50), none, false⟩])
  (.cond (.tmp 51) (.seq (.reg [⟨(some 4), .mv (.const (.bool false)), none, false⟩])
  .ret) .skip))
  (.seq (.seq (.reg [⟨(some 52), .loadn 4 (.tmp 8), none, false⟩,
   ⟨(some 53), .loadn 4 (.tmp 2), none, false⟩,
   ⟨(some 54), .call (.func 28) [(.tmp 53)], none, true⟩,
   ⟨(some 55), .call (.func 31) [(.tmp 52), (.tmp 54)], none, false⟩,
   ⟨(some 56), .un .not (.tmp 55), none, false⟩])
  (.cond (.tmp 56) (.seq (.reg [⟨(some 4), .mv (.const (.bool false)), none, false⟩])
  .ret) .skip))
  (.seq (.seq (.reg [⟨(some 57), .mv (.tmp 9), none, false⟩,
   ⟨(some 58), .mv (.tmp 1), none, false⟩,
   ⟨(some 59), .call (.func 36) [(.tmp 58)], none, false⟩,
   ⟨(some 60), .call (.func 30) [(.tmp 57), (.tmp 59)], none, false⟩,
   ⟨(some 61), .un .not (.tmp 60), none, false⟩])
  (.cond (.tmp 61) (.seq (.reg [⟨(some 4), .mv (.const (.bool false)), none, false⟩])
  .ret) .skip))
  (.seq (.reg [⟨(some 12), .mv (.const (.int .i64 1)), none, false⟩])
  (.seq (.reg [⟨(some 62), .loadn 4 (.tmp 8), none, false⟩,
   ⟨(some 63), .mv (.tmp 12), none, false⟩,
   ⟨(some 64), .call (.func 32) [(.tmp 62), (.tmp 63)], none, false⟩,
   ⟨(some 12), .mv (.tmp 64), none, false⟩])
  (.seq (.reg [⟨(some 65), .mv (.tmp 9), none, false⟩,
   ⟨(some 66), .mv (.tmp 12), none, false⟩,
   ⟨(some 67), .call (.func 33) [(.tmp 65), (.tmp 66)], none, false⟩,
   ⟨(some 12), .mv (.tmp 67), none, false⟩])
  (.seq (.seq (.reg [⟨(some 68), .mv (.tmp 12), none, false⟩,
   ⟨(some 69), .bin .lss (.tmp 68) (.const (.int .i64 0)), none, false⟩,
   ⟨(some 70), .mv (.tmp 69), none, false⟩,
   ⟨(some 71), .mv (.tmp 10), (some (70, false)), false⟩,
   ⟨(some 72), .mv (.tmp 6), (some (70, false)), false⟩,
   ⟨(some 73), .call (.func 30) [(.tmp 71), (.tmp 72)], (some (70, false)), false⟩,
   ⟨(some 74), .un .not (.tmp 73), (some (70, false)), false⟩,
   ⟨(some 75), .pick (.tmp 70) (.const (.bool true)) (.tmp 74), none, false⟩,
   ⟨(some 76), .mv (.tmp 75), none, false⟩,
   ⟨(some 77), .mv (.tmp 11), (some (76, false)), false⟩,
   ⟨(some 78), .mv (.tmp 7), (some (76, false)), false⟩,
   ⟨(some 79), .bin .neq (.tmp 77) (.tmp 78), (some (76, false)), false⟩,
   ⟨(some 80), .pick (.tmp 76) (.const (.bool true)) (.tmp 79), none, false⟩])
  (.cond (.tmp 80) (.seq (.reg [⟨(some 4), .mv (.const (.bool false)), none, false⟩])
  .ret) .skip))
  (.seq (.reg [⟨(some 13), .mv (.const (.int .i64 1)), none, false⟩])
  (.seq (.reg [⟨(some 81), .mv (.tmp 10), none, false⟩,
   ⟨(some 82), .mv (.tmp 13), none, false⟩,
   ⟨(some 83), .call (.func 33) [(.tmp 81), (.tmp 82)], none, false⟩,
   ⟨(some 13), .mv (.tmp 83), none, false⟩])
  (.seq (.reg [⟨(some 14), .mv (.const (.int .i64 1)), none, false⟩])
  (.seq (.reg [⟨(some 84), .mv (.tmp 10), none, false⟩,
   ⟨(some 85), .mv (.tmp 14), none, false⟩,
   ⟨(some 86), .call (.func 34) [(.tmp 84), (.tmp 85)], none, false⟩,
   ⟨(some 14), .mv (.tmp 86), none, false⟩])
  (.seq (.seq (.reg [⟨(some 87), .mv (.tmp 14), none, false⟩,
   ⟨(some 88), .bin .lss (.tmp 87) (.const (.int .i64 0)), none, false⟩])
  (.cond (.tmp 88) (.seq (.reg [⟨(some 4), .mv (.const (.bool false)), none, false⟩])
  .ret) .skip))
  (.seq (.seq (.reg [⟨(some 89), .mv (.tmp 14), none, false⟩,
   ⟨(some 90), .mv (.tmp 13), none, false⟩,
   ⟨(some 91), .bin .neq (.tmp 89) (.tmp 90), none, false⟩])
  (.cond (.tmp 91) (.seq (.reg [⟨(some 4), .mv (.const (.bool false)), none, false⟩])
  .ret) .skip))
  (.seq (.reg [⟨(some 93), .loadn 4 (.tmp 2), none, false⟩,
   ⟨(some 94), .call (.func 28) [(.tmp 93)], none, false⟩,
   ⟨(some 95), .mv (.tmp 1), none, false⟩,
   ⟨(some 96), .call (.func 36) [(.tmp 95)], none, false⟩,
   ⟨(some 97), .call (.func 37) [(.tmp 94), (.tmp 96)], none, false⟩,
   ⟨(some 92), .mv (.tmp 97), none, false⟩,
   ⟨(some 98), .ext (.tmp 92) 0, none, false⟩,
   ⟨(some 99), .ext (.tmp 92) 1, none, false⟩,
   ⟨(some 15), .mv (.tmp 98), none, false⟩,
   ⟨(some 16), .mv (.tmp 99), none, false⟩])
  (.seq (.seq (.reg [⟨(some 100), .mv (.tmp 15), none, false⟩,
   ⟨(some 101), .mv (.tmp 6), none, false⟩,
   ⟨(some 102), .call (.func 30) [(.tmp 100), (.tmp 101)], none, false⟩,
   ⟨(some 103), .un .not (.tmp 102), none, false⟩,
   ⟨(some 104), .mv (.tmp 103), none, false⟩,
   ⟨(some 105), .mv (.tmp 16), (some (104, false)), false⟩,
   ⟨(some 106), .mv (.tmp 7), (some (104, false)), false⟩,
   ⟨(some 107), .bin .neq (.tmp 105) (.tmp 106), (some (104, false)), false⟩,
   ⟨(some 108), .pick (.tmp 104) (.const (.bool true)) (.tmp 107), none, false⟩])
  (.cond (.tmp 108) (.seq (.reg [⟨(some 4), .mv (.const (.bool false)), none, false⟩])
  .ret) .skip))
  (.seq (.reg [⟨(some 14), .mv (.const (.int .i64 1)), none, false⟩])
  (.seq (.reg [⟨(some 109), .mv (.tmp 10), none, false⟩,
   ⟨(some 110), .mv (.tmp 14), none, false⟩,
   ⟨(some 111), .call (.func 34) [(.tmp 109), (.tmp 110)], none, false⟩,
   ⟨(some 14), .mv (.tmp 111), none, false⟩])
  (.seq (.seq (.reg [⟨(some 112), .mv (.tmp 14), none, false⟩,
   ⟨(some 113), .bin .lss (.tmp 112) (.const (.int .i64 0)), none, false⟩])
  (.cond (.tmp 113) (.seq (.reg [⟨(some 4), .mv (.const (.bool false)), none, false⟩])
  .ret) .skip))
  (.seq (.seq (.reg [⟨(some 114), .mv (.tmp 14), none, false⟩,
   ⟨(some 115), .mv (.tmp 13), none, false⟩,
   ⟨(some 116), .bin .neq (.tmp 114) (.tmp 115), none, false⟩])
  (.cond (.tmp 116) (.seq (.reg [⟨(some 4), .mv (.const (.bool false)), none, false⟩])
  .ret) .skip))
  (.seq (.reg [⟨(some 4), .mv (.const (.bool true)), none, false⟩])
  .ret)))))))))))))))))))))))))))))⟩

theorem s6 : compFn Try.prog Try.f6 = some c6 := by kernel_rfl

/-- loop.example/g01262/laws.FnExactWithoutNeedless -/
def c7 : XFn :=
 ⟨[.tmp 2],
  (.seq (.reg [⟨(some 1), .box 41 (.tmp 0), none, false⟩,
   ⟨(some 2), .mv (.const (.bool false)), none, false⟩])
  (.seq (.reg [⟨(some 3), .mv (.const (.int .i64 1048576)), none, false⟩])
  (.seq (.reg [⟨(some 14), .loadn 4 (.tmp 1), none, false⟩,
   ⟨(some 15), .mv (.tmp 3), none, false⟩,
   ⟨(some 16), .call (.func 26) [(.tmp 14), (.tmp 15)], none, false⟩,
   ⟨(some 3), .mv (.tmp 16), none, false⟩])
  (.seq (.seq (.reg [⟨(some 17), .mv (.tmp 3), none, false⟩,
   ⟨(some 18), .bin .lss (.tmp 17) (.const (.int .i64 0)), none, false⟩])
  (.cond (.tmp 18) (.seq (.reg [⟨(some 2), .mv (.const (.bool true)), none, false⟩])
  .ret) .skip))
  (.seq (.reg [⟨(some 20), .loadn 4 (.tmp 1), none, false⟩,
   ⟨(some 21), .call (.func 28) [(.tmp 20)], none, false⟩,
   ⟨(some 22), .call (.func 38) [(.tmp 21)], none, false⟩,
   ⟨(some 19), .mv (.tmp 22), none, false⟩,
   ⟨(some 23), .ext (.tmp 19) 0, none, false⟩,
   ⟨(some 24), .ext (.tmp 19) 1, none, false⟩,
   ⟨(some 4), .alloc 48 [.int .i64 0, .int .i64 0, .slice none 0 0, .slice none 0 0], none, false⟩,
   ⟨none, .store 4 (.tmp 4) (.tmp 23), none, false⟩,
   ⟨(some 5), .mv (.tmp 24), none, false⟩])
  (.seq (.reg [⟨(some 25), .loadn 4 (.tmp 1), none, false⟩,
   ⟨(some 26), .call (.func 28) [(.tmp 25)], none, false⟩,
   ⟨(some 6), .alloc 48 [.int .i64 0, .int .i64 0, .slice none 0 0, .slice none 0 0], none, false⟩,
   ⟨none, .store 4 (.tmp 6) (.tmp 26), none, false⟩])
  (.seq (.reg [⟨(some 28), .loadn 4 (.tmp 6), none, false⟩,
   ⟨(some 29), .call (.func 39) [(.tmp 28)], none, false⟩,
   ⟨(some 27), .mv (.tmp 29), none, false⟩,
   ⟨(some 30), .ext (.tmp 27) 0, none, false⟩,
   ⟨(some 31), .ext (.tmp 27) 1, none, false⟩,
   ⟨(some 7), .alloc 48 [.int .i64 0, .int .i64 0, .slice none 0 0, .slice none 0 0], none, false⟩,
   ⟨none, .store 4 (.tmp 7) (.tmp 30), none, false⟩,
   ⟨(some 8), .mv (.tmp 31), none, false⟩])
  (.seq (.seq (.reg [⟨(some 32), .loadn 4 (.tmp 7), none, false⟩,
   ⟨(some 33), .loadn 4 (.tmp 4), none, false⟩,
   ⟨(some 34), .call (.func 31) [(.tmp 32), (.tmp 33)], none, false⟩,
   ⟨(some 35), .un .not (.tmp 34), none, false⟩,
   ⟨(some 36), .mv (.tmp 35), none, false⟩,
   ⟨(some 37), .mv (.tmp 8), (some (36, false)), false⟩,
   ⟨(some 38), .mv (.tmp 5), (some (36, false)), false⟩,
   ⟨(some 39), .bin .neq (.tmp 37) (.tmp 38), (some (36, false)), false⟩,
   ⟨(some 40), .pick (.tmp 36) (.const (.bool true)) (.tmp 39), none, false⟩])
  (.cond (.tmp 40) (.seq (.reg [⟨(some 2), .mv (.const (.bool false)), none, false⟩])
  .ret) .skip))
  (.seq (.seq (.reg [⟨(some 41), .loadn 4 (.tmp 6), none, false⟩,
   ⟨(some 42), .loadn 4 (.tmp 1), none, false⟩,
   ⟨(some 43), .call (.func 28) [(.tmp 42)], none, true⟩,
   ⟨(some 44), .call (.func 31) [(.tmp 41), (.tmp 43)], none, false⟩,
   ⟨(some 45), .un .not (.tmp 44), none, false⟩])
  (.cond (.tmp 45) (.seq (.reg [⟨(some 2), .mv (.const (.bool false)), none, false⟩])
  .ret) .skip))
  (.seq (.reg [⟨(some 9), .mv (.const (.int .i64 1)), none, false⟩])
  (.seq (.reg [⟨(some 46), .loadn 4 (.tmp 6), none, false⟩,
   ⟨(some 47), .mv (.tmp 9), none, false⟩,
   ⟨(some 48), .call (.func 32) [(.tmp 46), (.tmp 47)], none, false⟩,
   ⟨(some 9), .mv (.tmp 48), none, false⟩])
  (.seq (.seq (.reg [⟨(some 49), .mv (.tmp 9), none, false⟩,
   ⟨(some 50), .bin .lss (.tmp 49) (.const (.int .i64 0)), none, false⟩,
   ⟨(some 51), .mv (.tmp 50), none, false⟩,
   ⟨(some 52), .loadn 4 (.tmp 7), (some (51, false)), false⟩,
   ⟨(some 53), .loadn 4 (.tmp 4), (some (51, false)), false⟩,
   ⟨(some 54), .call (.func 31) [(.tmp 52), (.tmp 53)], (some (51, false)), false⟩,
   ⟨(some 55), .un .not (.tmp 54), (some (51, false)), false⟩,
   ⟨(some 56), .pick (.tmp 51) (.const (.bool true)) (.tmp 55), none, false⟩,
   ⟨(some 57), .mv (.tmp 56), none, false⟩,
   ⟨(some 58), .mv (.tmp 8), (some (57, false)), false⟩,
   ⟨(some 59), .mv (.tmp 5), (some (57, false)), false⟩,
   ⟨(some 60), .bin .neq (.tmp 58) (.tmp 59), (some (57, false)), false⟩,
   ⟨(some 61), .pick (.tmp 57) (.const (.bool true)) (.tmp 60), none, false⟩])
  (.cond (.tmp 61) (.seq (.reg [⟨(some 2), .mv (.const (.bool false)), none, false⟩])
  .ret) .skip))
  (.seq (.reg [⟨(some 10), .mv (.const (.int .i64 1)), none, false⟩])
  (.seq (.reg [⟨(some 62), .loadn 4 (.tmp 7), none, false⟩,
   ⟨(some 63), .mv (.tmp 10), none, false⟩,
   ⟨(some 64), .call (.func 32) [(.tmp 62), (.tmp 63)], none, false⟩,
   ⟨(some 10), .mv (.tmp 64), none, false⟩])
  (.seq (.reg [⟨(some 11), .mv (.const (.int .i64 1)), none, false⟩])
  (.seq (.reg [⟨(some 65), .loadn 4 (.tmp 7), none, false⟩,
   ⟨(some 66), .mv (.tmp 11), none, false⟩,
   ⟨(some 67), .call (.func 40) [(.tmp 65), (.tmp 66)], none, false⟩,
   ⟨(some 11), .mv (.tmp 67), none, false⟩])
  (.seq (.seq (.reg [⟨(some 68), .mv (.tmp 11), none, false⟩,
   ⟨(some 69), .bin .lss (.tmp 68) (.const (.int .i64 0)), none, false⟩])
  (.cond (.tmp 69) (.seq (.reg [⟨(some 2), .mv (.const (.bool false)), none, false⟩])
  .ret) .skip))
  (.seq (.seq (.reg [⟨(some 70), .mv (.tmp 11), none, false⟩,
   ⟨(some 71), .mv (.tmp 10), none, false⟩,
   ⟨(some 72), .bin .neq (.tmp 70) (.tmp 71), none, false⟩])
  (.cond (.tmp 72) (.seq (.reg [⟨(some 2), .mv (.const (.bool false)), none, false⟩])
  .ret) .skip))
  (.seq (.reg [⟨(some 74), .loadn 4 (.tmp 1), none, false⟩,
   ⟨(some 75), .call (.func 28) [(.tmp 74)], none, false⟩,
   ⟨(some 76), .call (.func 39) [(.tmp 75)], none, false⟩,
   ⟨(some 73), .mv (.tmp 76), none, false⟩,
   ⟨(some 77), .ext (.tmp 73) 0, none, false⟩,
   ⟨(some 78), .ext (.tmp 73) 1, none, false⟩,
   ⟨(some 12), .alloc 48 [.int .i64 0, .int .i64 0, .slice none 0 0, .slice none 0 0], none, false⟩,
   ⟨none, .store 4 (.tmp 12) (.tmp 77), none, false⟩,
   ⟨(some 13), .mv (.tmp 78), none, false⟩])
  (.seq (.seq (.reg [⟨(some 79), .loadn 4 (.tmp 12), none, false⟩,
   ⟨(some 80), .loadn 4 (.tmp 4), none, false⟩,
   ⟨(some 81), .call (.func 31) [(.tmp 79), (.tmp 80)], none, false⟩,
   ⟨(some 82), .un .not (.tmp 81), none, false⟩,
   ⟨(some 83), .mv (.tmp 82), none, false⟩,
   ⟨(some 84), .mv (.tmp 13), (some (83, false)), false⟩,
   ⟨(some 85), .mv (.tmp 5), (some (83, false)), false⟩,
   ⟨(some 86), .bin .neq (.tmp 84) (.tmp 85), (some (83, false)), false⟩,
   ⟨(some 87), .pick (.tmp 83) (.const (.bool true)) (.tmp 86), none, false⟩])
  (.cond (.tmp 87) (.seq (.reg [⟨(some 2), .mv (.const (.bool false)), none, false⟩])
  .ret) .skip))
  (.seq (.reg [⟨(some 11), .mv (.const (.int .i64 1)), none, false⟩])
  (.seq (.reg [⟨(some 88), .loadn 4 (.tmp 7), none, false⟩,
   ⟨(some 89), .mv (.tmp 11), none, false⟩,
   ⟨(some 90), .call (.func 40) [(.tmp 88), (.tmp 89)], none, false⟩,
   ⟨(some 11), .mv (.tmp 90), none, false⟩])
  (.seq (.seq (.reg [⟨(some 91), .mv (.tmp 11), none, false⟩,
   ⟨(some 92), .bin .lss (.tmp 91) (.const (.int .i64 0)), none, false⟩])
  (.cond (.tmp 92) (.seq (.reg [⟨(some 2), .mv (.const (.bool false)), none, false⟩])
  .ret) .skip))
  (.seq (.seq (.reg [⟨(some 93), .mv (.tmp 11), none, false⟩,
   ⟨(some 94), .mv (.tmp 10), none, false⟩,
   ⟨(some 95), .bin .neq (.tmp 93) (.tmp 94), none, false⟩])
  (.cond (.tmp 95) (.seq (.reg [⟨(some 2), .mv (.const (.bool false)), none, false⟩])
  .ret) .skip))
  (.seq (.reg [⟨(some 2), .mv (.const (.bool true)), none, false⟩])
  .ret)))))))))))))))))))))))))⟩

theorem s7 : compFn Try.prog Try.f7 = some c7 := by kernel_rfl

/-- loop.example/g01262/laws.FnExactPlainProgram -/
def c8 : XFn :=
 ⟨[.tmp 6],
  (.seq (.reg [⟨(some 6), .mv (.const (.bool false)), none, false⟩])
  (.seq (.reg [⟨(some 7), .mv (.const (.int .i64 1048576)), none, false⟩])
  (.seq (.reg [⟨(some 18), .mv (.tmp 2), none, false⟩,
   ⟨(some 19), .mv (.tmp 7), none, false⟩,
   ⟨(some 20), .call (.func 41) [(.tmp 18), (.tmp 19)], none, false⟩,
   ⟨(some 7), .mv (.tmp 20), none, false⟩])
  (.seq (.seq (.reg [⟨(some 21), .mv (.tmp 7), none, false⟩,
   ⟨(some 22), .bin .lss (.tmp 21) (.const (.int .i64 0)), none, false⟩])
  (.cond (.tmp 22) (.seq (.reg [⟨(some 6), .mv (.const (.bool true)), none, false⟩])
  .ret) .skip))
  (.seq (.reg [⟨(some 24), .mv (.tmp 0), none, false⟩,
   ⟨(some 25), .mv (.tmp 1), none, false⟩,
   ⟨(some 26), .mv (.tmp 2), none, false⟩,
   ⟨(some 27), .call (.func 43) [(.tmp 26)], none, false⟩,
   ⟨(some 28), .call (.func 42) [(.tmp 24), (.tmp 25), (.tmp 27)], none, false⟩,
   ⟨(some 23), .mv (.tmp 28), none, false⟩,
   ⟨(some 29), .ext (.tmp 23) 0, none, false⟩,
   ⟨(some 30), .ext (.tmp 23) 1, none, false⟩,
   ⟨(some 8), .alloc 48 [.int .i64 0, .int .i64 0, .slice none 0 0, .slice none 0 0], none, false⟩,
   ⟨none, .store 4 (.tmp 8) (.tmp 29), none, false⟩,
   ⟨(some 9), .mv (.tmp 30), none, false⟩])
  (.seq (.reg [⟨(some 31), .mv (.tmp 2), none, false⟩,
   ⟨(some 32), .call (.func 43) [(.tmp 31)], none, false⟩,
   ⟨(some 10), .mv (.tmp 32), none, false⟩])
  (.seq (.reg [⟨(some 34), .mv (.tmp 0), none, false⟩,
   ⟨(some 35), .mv (.tmp 1), none, false⟩,
   ⟨(some 36), .mv (.tmp 10), none, false⟩,
   ⟨(some 37), .call (.func 44) [(.tmp 34), (.tmp 35), (.tmp 36)], none, false⟩,
   ⟨(some 33), .mv (.tmp 37), none, false⟩,
   ⟨(some 38), .ext (.tmp 33) 0, none, false⟩,
   ⟨(some 39), .ext (.tmp 33) 1, none, false⟩,
   ⟨(some 11), .alloc 48 [.int .i64 0, .int .i64 0, .slice none 0 0, .slice none 0 0], none, false⟩,
   ⟨none, .store 4 (.tmp 11) (.tmp 38), none, false⟩,
   ⟨(some 12), .mv (.tmp 39), none, false⟩])
  (.seq (.seq (.reg [⟨(some 40), .loadn 4 (.tmp 11), none, false⟩,
   ⟨(some 41), .loadn 4 (.tmp 8), none, false⟩,
   ⟨(some 42), .call (.func 31) [(.tmp 40), (.tmp 41)], none, false⟩,
   ⟨(some 43), .un .not (.tmp 42), none, false⟩,
   ⟨(some 44), .mv (.tmp 43), none, false⟩,
   ⟨(some 45), .mv (.tmp 12), (some (44, false)), false⟩,
   ⟨(some 46), .mv (.tmp 9), (some (44, false)), false⟩,
   ⟨(some 47), .bin .neq (.tmp 45) (.tmp 46), (some (44, false)), false⟩,
   ⟨(some 48), .pick (.tmp 44) (.const (.bool true)) (.tmp 47), none, false⟩])
  (.cond (.tmp 48) (.seq (.reg [⟨(some 6), .mv (.const (.bool false)), none, false⟩])
  .ret) .skip))
  (.seq (.seq (.reg [⟨(some 49), .mv (.tmp 10), none, false⟩,
   ⟨(some 50), .mv (.tmp 2), none, false⟩,
   ⟨(some 51), .call (.func 43) [(.tmp 50)], none, false⟩,
   ⟨(some 52), .call (.func 22) [(.tmp 49), (.tmp 51)], none, false⟩,
   ⟨(some 53), .un .not (.tmp 52), none, false⟩])
  (.cond (.tmp 53) (.seq (.reg [⟨(some 6), .mv (.const (.bool false)), none, false⟩])
  .ret) .skip))
  (.seq (.reg [⟨(some 13), .mv (.const (.int .i64 1)), none, false⟩])
  (.seq (.reg [⟨(some 54), .mv (.tmp 10), none, false⟩,
   ⟨(some 55), .mv (.tmp 13), none, false⟩,
   ⟨(some 56), .call (.func 24) [(.tmp 54), (.tmp 55)], none, false⟩,
   ⟨(some 13), .mv (.tmp 56), none, false⟩])
  (.seq (.seq (.reg [⟨(some 57), .mv (.tmp 13), none, false⟩,
   ⟨(some 58), .bin .lss (.tmp 57) (.const (.int .i64 0)), none, false⟩,
   ⟨(some 59), .mv (.tmp 58), none, false⟩,
   ⟨(some 60), .loadn 4 (.tmp 11), (some (59, false)), false⟩,
   ⟨(some 61), .loadn 4 (.tmp 8), (some (59, false)), false⟩,
   ⟨(some 62), .call (.func 31) [(.tmp 60), (.tmp 61)], (some (59, false)), false⟩,
   ⟨(some 63), .un .not (.tmp 62), (some (59, false)), false⟩,
   ⟨(some 64), .pick (.tmp 59) (.const (.bool true)) (.tmp 63), none, false⟩,
   ⟨(some 65), .mv (.tmp 64), none, false⟩,
   ⟨(some 66), .mv (.tmp 12), (some (65, false)), false⟩,
   ⟨(some 67), .mv (.tmp 9), (some (65, false)), false⟩,
   ⟨(some 68), .bin .neq (.tmp 66) (.tmp 67), (some (65, false)), false⟩,
   ⟨(some 69), .pick (.tmp 65) (.const (.bool true)) (.tmp 68), none, false⟩])
  (.cond (.tmp 69) (.seq (.reg [⟨(some 6), .mv (.const (.bool false)), none, false⟩])
  .ret) .skip))
  (.seq (.reg [⟨(some 14), .mv (.const (.int .i64 1)), none, false⟩])
  (.seq (.reg [⟨(some 70), .loadn 4 (.tmp 11), none, false⟩,
   ⟨(some 71), .mv (.tmp 14), none, false⟩,
   ⟨(some 72), .call (.func 32) [(.tmp 70), (.tmp 71)], none, false⟩,
   ⟨(some 14), .mv (.tmp 72), none, false⟩])
  (.seq (.reg [⟨(some 15), .mv (.const (.int .i64 1)), none, false⟩])
  (.seq (.reg [⟨(some 73), .loadn 4 (.tmp 11), none, false⟩,
   ⟨(some 74), .mv (.tmp 15), none, false⟩,
   ⟨(some 75), .call (.func 40) [(.tmp 73), (.tmp 74)], none, false⟩,
   ⟨(some 15), .mv (.tmp 75), none, false⟩])
  (.seq (.seq (.reg [⟨(some 76), .mv (.tmp 15), none, false⟩,
   ⟨(some 77), .bin .lss (.tmp 76) (.const (.int .i64 0)), none, false⟩])
  (.cond (.tmp 77) (.seq (.reg [⟨(some 6), .mv (.const (.bool false)), none, false⟩])
  .ret) .skip))
  (.seq (.seq (.reg [⟨(some 78), .mv (.tmp 15), none, false⟩,
   ⟨(some 79), .mv (.tmp 14), none, false⟩,
   ⟨(some 80), .bin .neq (.tmp 78) (.tmp 79), none, false⟩])
  (.cond (.tmp 80) (.seq (.reg [⟨(some 6), .mv (.const (.bool false)), none, false⟩])
  .ret) .skip))
  (.seq (.reg [⟨(some 82), .mv (.tmp 0), none, false⟩,
   ⟨(some 83), .mv (.tmp 1), none, false⟩,
   ⟨(some 84), .mv (.tmp 2), none, false⟩,
   ⟨(some 85), .call (.func 43) [(.tmp 84)], none, false⟩,
   ⟨(some 86), .call (.func 44) [(.tmp 82), (.tmp 83), (.tmp 85)], none, false⟩,
   ⟨(some 81), .mv (.tmp 86), none, false⟩,
   ⟨(some 87), .ext (.tmp 81) 0, none, false⟩,
   ⟨(some 88), .ext (.tmp 81) 1, none, false⟩,
   ⟨(some 16), .alloc 48 [.int .i64 0, .int .i64 0, .slice none 0 0, .slice none 0 0], none, false⟩,
   ⟨none, .store 4 (.tmp 16) (.tmp 87), none, false⟩,
   ⟨(some 17), .mv (.tmp 88), none, false⟩])
  (.seq (.seq (.reg [⟨(some 89), .loadn 4 (.tmp 16), none, false⟩,
   ⟨(some 90), .loadn 4 (.tmp 8), none, false⟩,
   ⟨(some 91), .call (.func 31) [(.tmp 89), (.tmp 90)], none, false⟩,
   ⟨(some 92), .un .not (.tmp 91), none, false⟩,
   ⟨(some 93), .mv (.tmp 92), none, false⟩,
   ⟨(some 94), .mv (.tmp 17), (some (93, false)), false⟩,
   ⟨(some 95), .mv (.tmp 9), (some (93, false)), false⟩,
   ⟨(some 96), .bin .neq (.tmp 94) (.tmp 95), (some (93, false)), false⟩,
   ⟨(some 97), .pick (.tmp 93) (.const (.bool true)) (.tmp 96), none, false⟩])
  (.cond (.tmp 97) (.seq (.reg [⟨(some 6), .mv (.const (.bool false)), none, false⟩])
  .ret) .skip))
  (.seq (.reg [⟨(some 15), .mv (.const (.int .i64 1)), none, false⟩])
  (.seq (.reg [⟨(some 98), .loadn 4 (.tmp 11), none, false⟩,
   ⟨(some 99), .mv (.tmp 15), none, false⟩,
   ⟨(some 100), .call (.func 40) [(.tmp 98), (.tmp 99)], none, false⟩,
   ⟨(some 15), .mv (.tmp 100), none, false⟩])
  (.seq (.seq (.reg [⟨(some 101), .mv (.tmp 15), none, false⟩,
   ⟨(some 102), .bin .lss (.tmp 101) (.const (.int .i64 0)), none, false⟩])
  (.cond (.tmp 102) (.seq (.reg [⟨(some 6), .mv (.const (.bool false)), none, false⟩])
  .ret) .skip))
  (.seq (.seq (.reg [⟨(some 103), .mv (.tmp 15), none, false⟩,
   ⟨(some 104), .mv (.tmp 14), none, false⟩,
   ⟨(some 105), .bin .neq (.tmp 103) (.tmp 104), none, false⟩])
  (.cond (.tmp 105) (.seq (.reg [⟨(some 6), .mv (.const (.bool false)), none, false⟩])
  .ret) .skip))
  (.seq (.reg [⟨(some 6), .mv (.const (.bool true)), none, false⟩])
  .ret)))))))))))))))))))))))))⟩

theorem s8 : compFn Try.prog Try.f8 = some c8 := by kernel_rfl

/-- loop.example/g01262/laws.FnExactFormsOf -/
def c9 : XFn :=
 ⟨[.tmp 2],
  (.seq (.reg [⟨(some 1), .box 41 (.tmp 0), none, false⟩,
   ⟨(some 2), .mv (.const (.bool false)), none, false⟩])
  (.seq (.reg [⟨(some 3), .mv (.const (.int .i64 1048576)), none, false⟩])
  (.seq (.reg [⟨(some 14), .loadn 4 (.tmp 1), none, false⟩,
   ⟨(some 15), .mv (.tmp 3), none, false⟩,
   ⟨(some 16), .call (.func 26) [(.tmp 14), (.tmp 15)], none, false⟩,
   ⟨(some 3), .mv (.tmp 16), none, false⟩])
  (.seq (.seq (.reg [⟨(some 17), .mv (.tmp 3), none, false⟩,
   ⟨(some 18), .bin .lss (.tmp 17) (.const (.int .i64 0)), none, false⟩])
  (.cond (.tmp 18) (.seq (.reg [⟨(some 2), .mv (.const (.bool true)), none, false⟩])
  .ret) .skip))
  (.seq (.reg [⟨(some 20), .loadn 4 (.tmp 1), none, false⟩,
   ⟨(some 21), .call (.func 28) [(.tmp 20)], none, false⟩,
   ⟨(some 22), .call (.func 45) [(.tmp 21)], none, false⟩,
   ⟨(some 19), .mv (.tmp 22), none, false⟩,
   ⟨(some 23), .ext (.tmp 19) 0, none, false⟩,
   ⟨(some 24), .ext (.tmp 19) 1, none, false⟩,
   ⟨(some 4), .mv (.tmp 23), none, false⟩,
   ⟨(some 5), .mv (.tmp 24), none, false⟩])
  (.seq (.reg [⟨(some 25), .loadn 4 (.tmp 1), none, false⟩,
   ⟨(some 26), .call (.func 28) [(.tmp 25)], none, false⟩,
   ⟨(some 6), .alloc 48 [.int .i64 0, .int .i64 0, .slice none 0 0, .slice none 0 0], none, false⟩,
   ⟨none, .store 4 (.tmp 6) (.tmp 26), none, false⟩])
  (.seq (.reg [⟨(some 28), .loadn 4 (.tmp 6), none, false⟩,
   ⟨(some 29), .call (.func 46) [(.tmp 28)], none, false⟩,
   ⟨(some 27), .mv (.tmp 29), none, false⟩,
   ⟨(some 30), .ext (.tmp 27) 0, none, false⟩,
   ⟨(some 31), .ext (.tmp 27) 1, none, false⟩,
   ⟨(some 7), .mv (.tmp 30), none, false⟩,
   ⟨(some 8), .mv (.tmp 31), none, false⟩])
  (.seq (.seq (.reg [⟨(some 32), .mv (.tmp 7), none, false⟩,
   ⟨(some 33), .mv (.tmp 4), none, false⟩,
   ⟨(some 34), .call (.func 22) [(.tmp 32), (.tmp 33)], none, false⟩,
   ⟨(some 35), .un .not (.tmp 34), none, false⟩,
   ⟨(some 36), .mv (.tmp 35), none, false⟩,
   ⟨(some 37), .mv (.tmp 8), (some (36, false)), false⟩,
   ⟨(some 38), .mv (.tmp 5), (some (36, false)), false⟩,
   ⟨(some 39), .bin .neq (.tmp 37) (.tmp 38), (some (36, false)), false⟩,
   ⟨(some 40), .pick (.tmp 36) (.const (.bool true)) (.tmp 39), none, false⟩])
  (.cond (.tmp 40) (.seq (.reg [⟨(some 2), .mv (.const (.bool false)), none, false⟩])
  .ret) .skip))
  (.seq (.seq (.reg [⟨(some 41), .loadn 4 (.tmp 6), none, false⟩,
   ⟨(some 42), .loadn 4 (.tmp 1), none, false⟩,
   ⟨(some 43), .call (.func 28) [(.tmp 42)], none, true⟩,
   ⟨(some 44), .call (.func 31) [(.tmp 41), (.tmp 43)], none, false⟩,
   ⟨(some 45), .un .not (.tmp 44), none, false⟩])
  (.cond (.tmp 45) (.seq (.reg [⟨(some 2), .mv (.const (.bool false)), none, false⟩])
  .ret) .skip))
  (.seq (.reg [⟨(some 9), .mv (.const (.int .i64 1)), none, false⟩])
  (.seq (.reg [⟨(some 46), .loadn 4 (.tmp 6), none, false⟩,
   ⟨(some 47), .mv (.tmp 9), none, false⟩,
   ⟨(some 48), .call (.func 32) [(.tmp 46), (.tmp 47)], none, false⟩,
   ⟨(some 9), .mv (.tmp 48), none, false⟩])
  (.seq (.seq (.reg [⟨(some 49), .mv (.tmp 9), none, false⟩,
   ⟨(some 50), .bin .lss (.tmp 49) (.const (.int .i64 0)), none, false⟩,
   ⟨(some 51), .mv (.tmp 50), none, false⟩,
   ⟨(some 52), .mv (.tmp 7), (some (51, false)), false⟩,
   ⟨(some 53), .mv (.tmp 4), (some (51, false)), false⟩,
   ⟨(some 54), .call (.func 22) [(.tmp 52), (.tmp 53)], (some (51, false)), false⟩,
   ⟨(some 55), .un .not (.tmp 54), (some (51, false)), false⟩,
   ⟨(some 56), .pick (.tmp 51) (.const (.bool true)) (.tmp 55), none, false⟩,
   ⟨(some 57), .mv (.tmp 56), none, false⟩,
   ⟨(some 58), .mv (.tmp 8), (some (57, false)), false⟩,
   ⟨(some 59), .mv (.tmp 5), (some (57, false)), false⟩,
   ⟨(some 60), .bin .neq (.tmp 58) (.tmp 59), (some (57, false)), false⟩,
   ⟨(some 61), .pick (.tmp 57) (.const (.bool true)) (.tmp 60), none, false⟩])
  (.cond (.tmp 61) (.seq (.reg [⟨(some 2), .mv (.const (.bool false)), none, false⟩])
  .ret) .skip))
  (.seq (.reg [⟨(some 10), .mv (.const (.int .i64 1)), none, false⟩])
  (.seq (.reg [⟨(some 62), .mv (.tmp 7), none, false⟩,
   ⟨(some 63), .mv (.tmp 10), none, false⟩,
   ⟨(some 64), .call (.func 24) [(.tmp 62), (.tmp 63)], none, false⟩,
   ⟨(some 10), .mv (.tmp 64), none, false⟩])
  (.seq (.reg [⟨(some 11), .mv (.const (.int .i64 1)), none, false⟩])
  (.seq (.reg [⟨(some 65), .mv (.tmp 7), none, false⟩,
   ⟨(some 66), .mv (.tmp 11), none, false⟩,
   ⟨(some 67), .call (.func 25) [(.tmp 65), (.tmp 66)], none, false⟩,
   ⟨(some 11), .mv (.tmp 67), none, false⟩])
  (.seq (.seq (.reg [⟨(some 68), .mv (.tmp 11), none, false⟩,
   ⟨(some 69), .bin .lss (.tmp 68) (.const (.int .i64 0)), none, false⟩])
  (.cond (.tmp 69) (.seq (.reg [⟨(some 2), .mv (.const (.bool false)), none, false⟩])
  .ret) .skip))
  (.seq (.seq (.reg [⟨(some 70), .mv (.tmp 11), none, false⟩,
   ⟨(some 71), .mv (.tmp 10), none, false⟩,
   ⟨(some 72), .bin .neq (.tmp 70) (.tmp 71), none, false⟩])
  (.cond (.tmp 72) (.seq (.reg [⟨(some 2), .mv (.const (.bool false)), none, false⟩])
  .ret) .skip))
  (.seq (.reg [⟨(some 74), .loadn 4 (.tmp 1), none, false⟩,
   ⟨(some 75), .call (.func 28) [(.tmp 74)], none, false⟩,
   ⟨(some 76), .call (.func 46) [(.tmp 75)], none, false⟩,
   ⟨(some 73), .mv (.tmp 76), none, false⟩,
   ⟨(some 77), .ext (.tmp 73) 0, none, false⟩,
   ⟨(some 78), .ext (.tmp 73) 1, none, false⟩,
   ⟨(some 12), .mv (.tmp 77), none, false⟩,
   ⟨(some 13), .mv (.tmp 78), none, false⟩])
  (.seq (.seq (.reg [⟨(some 79), .mv (.tmp 12), none, false⟩,
   ⟨(some 80), .mv (.tmp 4), none, false⟩,
   ⟨(some 81), .call (.func 22) [(.tmp 79), (.tmp 80)], none, false⟩,
   ⟨(some 82), .un .not (.tmp 81), none, false⟩,
   ⟨(some 83), .mv (.tmp 82), none, false⟩,
   ⟨(some 84), .mv (.tmp 13), (some (83, false)), false⟩,
   ⟨(some 85), .mv (.tmp 5), (some (83, false)), false⟩,
   ⟨(some 86), .bin .neq (.tmp 84) (.tmp 85), (some (83, false)), false⟩,
   ⟨(some 87), .pick (.tmp 83) (.const (.bool true)) (.tmp 86), none, false⟩])
  (.cond (.tmp 87) (.seq (.reg [⟨(some 2), .mv (.const (.bool false)), none, false⟩])
  .ret) .skip))
  (.seq (.reg [⟨(some 11), .mv (.const (.int .i64 1)), none, false⟩])
  (.seq (.reg [⟨(some 88), .mv (.tmp 7), none, false⟩,
   ⟨(some 89), .mv (.tmp 11), none, false⟩,
   ⟨(some 90), .call (.func 25) [(.tmp 88), (.tmp 89)], none, false⟩,
   ⟨(some 11), .mv (.tmp 90), none, false⟩])
  (.seq (.seq (.reg [⟨(some 91), .mv (.tmp 11), none, false⟩,
   ⟨(some 92), .bin .lss (.tmp 91) (.const (.int .i64 0)), none, false⟩])
  (.cond (.tmp 92) (.seq (.reg [⟨(some 2), .mv (.const (.bool false)), none, false⟩])
  .ret) .skip))
  (.seq (.seq (.reg [⟨(some 93), .mv (.tmp 11), none, false⟩,
   ⟨(some 94), .mv (.tmp 10), none, false⟩,
   ⟨(some 95), .bin .neq (.tmp 93) (.tmp 94), none, false⟩])
  (.cond (.tmp 95) (.seq (.reg [⟨(some 2), .mv (.const (.bool false)), none, false⟩])
  .ret) .skip))
  (.seq (.reg [⟨(some 2), .mv (.const (.bool true)), none, false⟩])
  .ret)))))))))))))))))))))))))⟩

theorem s9 : compFn Try.prog Try.f9 = some c9 := by kernel_rfl

/-- loop.example/g01262/laws.FnExactSharedProgram -/
def c10 : XFn :=
 ⟨[.tmp 6],
  (.seq (.reg [⟨(some 6), .mv (.const (.bool false)), none, false⟩])
  (.seq (.reg [⟨(some 7), .mv (.const (.int .i64 1048576)), none, false⟩])
  (.seq (.reg [⟨(some 18), .mv (.tmp 2), none, false⟩,
   ⟨(some 19), .mv (.tmp 7), none, false⟩,
   ⟨(some 20), .call (.func 41) [(.tmp 18), (.tmp 19)], none, false⟩,
   ⟨(some 7), .mv (.tmp 20), none, false⟩])
  (.seq (.seq (.reg [⟨(some 21), .mv (.tmp 7), none, false⟩,
   ⟨(some 22), .bin .lss (.tmp 21) (.const (.int .i64 0)), none, false⟩])
  (.cond (.tmp 22) (.seq (.reg [⟨(some 6), .mv (.const (.bool true)), none, false⟩])
  .ret) .skip))
  (.seq (.reg [⟨(some 24), .mv (.tmp 0), none, false⟩,
   ⟨(some 25), .mv (.tmp 1), none, false⟩,
   ⟨(some 26), .mv (.tmp 2), none, false⟩,
   ⟨(some 27), .call (.func 43) [(.tmp 26)], none, false⟩,
   ⟨(some 28), .call (.func 47) [(.tmp 24), (.tmp 25), (.tmp 27)], none, false⟩,
   ⟨(some 23), .mv (.tmp 28), none, false⟩,
   ⟨(some 29), .ext (.tmp 23) 0, none, false⟩,
   ⟨(some 30), .ext (.tmp 23) 1, none, false⟩,
   ⟨(some 8), .alloc 48 [.int .i64 0, .int .i64 0, .slice none 0 0, .slice none 0 0], none, false⟩,
   ⟨none, .store 4 (.tmp 8) (.tmp 29), none, false⟩,
   ⟨(some 9), .mv (.tmp 30), none, false⟩])
  (.seq (.reg [⟨(some 31), .mv (.tmp 2), none, false⟩,
   ⟨(some 32), .call (.func 43) [(.tmp 31)], none, false⟩,
   ⟨(some 10), .mv (.tmp 32), none, false⟩])
  (.seq (.reg [⟨(some 34), .mv (.tmp 0), none, false⟩,
   ⟨(some 35), .mv (.tmp 1), none, false⟩,
   ⟨(some 36), .mv (.tmp 10), none, false⟩,
   ⟨(some 37), .call (.func 48) [(.tmp 34), (.tmp 35), (.tmp 36)], none, false⟩,
   ⟨(some 33), .mv (.tmp 37), none, false⟩,
   ⟨(some 38), .ext (.tmp 33) 0, none, false⟩,
   ⟨(some 39), .ext (.tmp 33) 1, none, false⟩,
   ⟨(some 11), .alloc 48 [.int .i64 0, .int .i64 0, .slice none 0 0, .slice none 0 0], none, false⟩,
   ⟨none, .store 4 (.tmp 11) (.tmp 38), none, false⟩,
   ⟨(some 12), .mv (.tmp 39), none, false⟩])
  (.seq (.seq (.reg [⟨(some 40), .loadn 4 (.tmp 11), none, false⟩,
   ⟨(some 41), .loadn 4 (.tmp 8), none, false⟩,
   ⟨(some 42), .call (.func 31) [(.tmp 40), (.tmp 41)], none, false⟩,
   ⟨(some 43), .un .not (.tmp 42), none, false⟩,
   ⟨(some 44), .mv (.tmp 43), none, false⟩,
   ⟨(some 45), .mv (.tmp 12), (some (44, false)), false⟩,
   ⟨(some 46), .mv (.tmp 9), (some (44, false)), false⟩,
   ⟨(some 47), .bin .neq (.tmp 45) (.tmp 46), (some (44, false)), false⟩,
   ⟨(some 48), .pick (.tmp 44) (.const (.bool true)) (.tmp 47), none, false⟩])
  (.cond (.tmp 48) (.seq (.reg [⟨(some 6), .mv (.const (.bool false)), none, false⟩])
  .ret) .skip))
  (.seq (.seq (.reg [⟨(some 49), .mv (.tmp 10), none, false⟩,
   ⟨(some 50), .mv (.tmp 2), none, false⟩,
   ⟨(some 51), .call (.func 43) [(.tmp 50)], none, false⟩,
   ⟨(some 52), .call (.func 22) [(.tmp 49), (.tmp 51)], none, false⟩,
   ⟨(some 53), .un .not (.tmp 52), none, false⟩])
  (.cond (.tmp 53) (.seq (.reg [⟨(some 6), .mv (.const (.bool false)), none, false⟩])
  .ret) .skip))
  (.seq (.reg [⟨(some 13), .mv (.const (.int .i64 1)), none, false⟩])
  (.seq (.reg [⟨(some 54), .mv (.tmp 10), none, false⟩,
   ⟨(some 55), .mv (.tmp 13), none, false⟩,
   ⟨(some 56), .call (.func 24) [(.tmp 54), (.tmp 55)], none, false⟩,
   ⟨(some 13), .mv (.tmp 56), none, false⟩])
  (.seq (.seq (.reg [⟨(some 57), .mv (.tmp 13), none, false⟩,
   ⟨(some 58), .bin .lss (.tmp 57) (.const (.int .i64 0)), none, false⟩,
   ⟨(some 59), .mv (.tmp 58), none, false⟩,
   ⟨(some 60), .loadn 4 (.tmp 11), (some (59, false)), false⟩,
   ⟨(some 61), .loadn 4 (.tmp 8), (some (59, false)), false⟩,
   ⟨(some 62), .call (.func 31) [(.tmp 60), (.tmp 61)], (some (59, false)), false⟩,
   ⟨(some 63), .un .not (.tmp 62), (some (59, false)), false⟩,
   ⟨(some 64), .pick (.tmp 59) (.const (.bool true)) (.tmp 63), none, false⟩,
   ⟨(some 65), .mv (.tmp 64), none, false⟩,
   ⟨(some 66), .mv (.tmp 12), (some (65, false)), false⟩,
   ⟨(some 67), .mv (.tmp 9), (some (65, false)), false⟩,
   ⟨(some 68), .bin .neq (.tmp 66) (.tmp 67), (some (65, false)), false⟩,
   ⟨(some 69), .pick (.tmp 65) (.const (.bool true)) (.tmp 68), none, false⟩])
  (.cond (.tmp 69) (.seq (.reg [⟨(some 6), .mv (.const (.bool false)), none, false⟩])
  .ret) .skip))
  (.seq (.reg [⟨(some 14), .mv (.const (.int .i64 1)), none, false⟩])
  (.seq (.reg [⟨(some 70), .loadn 4 (.tmp 11), none, false⟩,
   ⟨(some 71), .mv (.tmp 14), none, false⟩,
   ⟨(some 72), .call (.func 32) [(.tmp 70), (.tmp 71)], none, false⟩,
   ⟨(some 14), .mv (.tmp 72), none, false⟩])
  (.seq (.reg [⟨(some 15), .mv (.const (.int .i64 1)), none, false⟩])
  (.seq (.reg [⟨(some 73), .loadn 4 (.tmp 11), none, false⟩,
   ⟨(some 74), .mv (.tmp 15), none, false⟩,
   ⟨(some 75), .call (.func 40) [(.tmp 73), (.tmp 74)], none, false⟩,
   ⟨(some 15), .mv (.tmp 75), none, false⟩])
  (.seq (.seq (.reg [⟨(some 76), .mv (.tmp 15), none, false⟩,
   ⟨(some 77), .bin .lss (.tmp 76) (.const (.int .i64 0)), none, false⟩])
  (.cond (.tmp 77) (.seq (.reg [⟨(some 6), .mv (.const (.bool false)), none, false⟩])
  .ret) .skip))
  (.seq (.seq (.reg [⟨(some 78), .mv (.tmp 15), none, false⟩,
   ⟨(some 79), .mv (.tmp 14), none, false⟩,
   ⟨(some 80), .bin .neq (.tmp 78) (.tmp 79), none, false⟩])
  (.cond (.tmp 80) (.seq (.reg [⟨(some 6), .mv (.const (.bool false)), none, false⟩])
  .ret) .skip))
  (.seq (.reg [⟨(some 82), .mv (.tmp 0), none, false⟩,
   ⟨(some 83), .mv (.tmp 1), none, false⟩,
   ⟨(some 84), .mv (.tmp 2), none, false⟩,
   ⟨(some 85), .call (.func 43) [(.tmp 84)], none, false⟩,
   ⟨(some 86), .call (.func 48) [(.tmp 82), (.tmp 83), (.tmp 85)], none, false⟩,
   ⟨(some 81), .mv (.tmp 86), none, false⟩,
   ⟨(some 87), .ext (.tmp 81) 0, none, false⟩,
   ⟨(some 88), .ext (.tmp 81) 1, none, false⟩,
   ⟨(some 16), .alloc 48 [.int .i64 0, .int .i64 0, .slice none 0 0, .slice none 0 0], none, false⟩,
   ⟨none, .store 4 (.tmp 16) (.tmp 87), none, false⟩,
   ⟨(some 17), .mv (.tmp 88), none, false⟩])
  (.seq (.seq (.reg [⟨(some 89), .loadn 4 (.tmp 16), none, false⟩,
   ⟨(some 90), .loadn 4 (.tmp 8), none, false⟩,
   ⟨(some 91), .call (.func 31) [(.tmp 89), (.tmp 90)], none, false⟩,
   ⟨(some 92), .un .not (.tmp 91), none, false⟩,
   ⟨(some 93), .mv (.tmp 92), none, false⟩,
   ⟨(some 94), .mv (.tmp 17), (some (93, false)), false⟩,
   ⟨(some 95), .mv (.tmp 9), (some (93, false)), false⟩,
   ⟨(some 96), .bin .neq (.tmp 94) (.tmp 95), (some (93, false)), false⟩,
   ⟨(some 97), .pick (.tmp 93) (.const (.bool true)) (.tmp 96), none, false⟩])
  (.cond (.tmp 97) (.seq (.reg [⟨(some 6), .mv (.const (.bool false)), none, false⟩])
  .ret) .skip))
  (.seq (.reg [⟨(some 15), .mv (.const (.int .i64 1)), none, false⟩])
  (.seq (.reg [⟨(some 98), .loadn 4 (.tmp 11), none, false⟩,
   ⟨(some 99), .mv (.tmp 15), none, false⟩,
   ⟨(some 100), .call (.func 40) [(.tmp 98), (.tmp 99)], none, false⟩,
   ⟨(some 15), .mv (.tmp 100), none, false⟩])
  (.seq (.seq (.reg [⟨(some 101), .mv (.tmp 15), none, false⟩,
   ⟨(some 102), .bin .lss (.tmp 101) (.const (.int .i64 0)), none, false⟩])
  (.cond (.tmp 102) (.seq (.reg [⟨(some 6), .mv (.const (.bool false)), none, false⟩])
  .ret) .skip))
  (.seq (.seq (.reg [⟨(some 103), .mv (.tmp 15), none, false⟩,
   ⟨(some 104), .mv (.tmp 14), none, false⟩,
   ⟨(some 105), .bin .neq (.tmp 103) (.tmp 104), none, false⟩])
  (.cond (.tmp 105) (.seq (.reg [⟨(some 6), .mv (.const (.bool false)), none, false⟩])
  .ret) .skip))
  (.seq (.reg [⟨(some 6), .mv (.const (.bool true)), none, false⟩])
  .ret)))))))))))))))))))))))))⟩

theorem s10 : compFn Try.prog Try.f10 = some c10 := by kernel_rfl

/-- loop.example/g01262/laws.FnExactMakeProduct -/
def c11 : XFn :=
 ⟨[.tmp 6],
  (.seq (.reg [⟨(some 3), .box 66 (.tmp 0), none, false⟩,
   ⟨(some 6), .mv (.const (.bool false)), none, false⟩])
  (.seq (.reg [⟨(some 7), .mv (.const (.int .i64 1048576)), none, false⟩])
  (.seq (.reg [⟨(some 20), .loadn 5 (.tmp 3), none, false⟩,
   ⟨(some 21), .mv (.tmp 7), none, false⟩,
   ⟨(some 22), .call (.func 49) [(.tmp 20), (.tmp 21)], none, false⟩,
   ⟨(some 7), .mv (.tmp 22), none, false⟩])
  (.seq (.seq (.reg [⟨(some 23), .mv (.tmp 7), none, false⟩,
   ⟨(some 24), .bin .lss (.tmp 23) (.const (.int .i64 0)), none, false⟩])
  (.cond (.tmp 24) (.seq (.reg [⟨(some 6), .mv (.const (.bool true)), none, false⟩])
  .ret) .skip))
  (.seq (.reg [⟨(some 25), .mv (.tmp 1), none, false⟩,
   ⟨(some 26), .mv (.tmp 7), none, false⟩,
   ⟨(some 27), .call (.func 41) [(.tmp 25), (.tmp 26)], none, false⟩,
   ⟨(some 7), .mv (.tmp 27), none, false⟩])
  (.seq (.seq (.reg [⟨(some 28), .mv (.tmp 7), none, false⟩,
   ⟨(some 29), .bin .lss (.tmp 28) (.const (.int .i64 0)), none, false⟩])
  (.cond (.tmp 29) (.seq (.reg [⟨(some 6), .mv (.const (.bool true)), none, false⟩])
  .ret) .skip))
  (.seq (.reg [⟨(some 30), .mv (.tmp 2), none, false⟩,
   ⟨(some 31), .mv (.tmp 7), none, false⟩,
   ⟨(some 32), .call (.func 41) [(.tmp 30), (.tmp 31)], none, false⟩,
   ⟨(some 7), .mv (.tmp 32), none, false⟩])
  (.seq (.seq (.reg [⟨(some 33), .mv (.tmp 7), none, false⟩,
   ⟨(some 34), .bin .lss (.tmp 33) (.const (.int .i64 0)), none, false⟩])
  (.cond (.tmp 34) (.seq (.reg [⟨(some 6), .mv (.const (.bool true)), none, false⟩])
  .ret) .skip))
  (.seq (.reg [⟨(some 36), .loadn 5 (.tmp 3), none, false⟩,
   ⟨(some 37), .call (.func 51) [(.tmp 36)], none, false⟩,
   ⟨(some 38), .mv (.tmp 1), none, false⟩,
   ⟨(some 39), .call (.func 43) [(.tmp 38)], none, false⟩,
   ⟨(some 40), .mv (.tmp 2), none, false⟩,
   ⟨(some 41), .call (.func 43) [(.tmp 40)], none, false⟩,
   ⟨(some 42), .call (.func 50) [(.tmp 37), (.tmp 39), (.tmp 41)], none, false⟩,
   ⟨(some 35), .mv (.tmp 42), none, false⟩,
   ⟨(some 43), .ext (.tmp 35) 0, none, false⟩,
   ⟨(some 44), .ext (.tmp 35) 1, none, false⟩,
   ⟨(some 8), .mv (.tmp 43), none, false⟩,
   ⟨(some 9), .mv (.tmp 44), none, false⟩])
  (.seq (.reg [⟨(some 45), .loadn 5 (.tmp 3), none, false⟩,
   ⟨(some 46), .call (.func 51) [(.tmp 45)], none, false⟩,
   ⟨(some 10), .alloc 71 [.int .i64 0, .int .i64 0, .int .i64 0, .int .i64 0, .slice none 0 0], none, false⟩,
   ⟨none, .store 5 (.tmp 10) (.tmp 46), none, false⟩])
  (.seq (.reg [⟨(some 47), .mv (.tmp 1), none, false⟩,
   ⟨(some 48), .call (.func 43) [(.tmp 47)], none, false⟩,
   ⟨(some 11), .mv (.tmp 48), none, false⟩])
  (.seq (.reg [⟨(some 49), .mv (.tmp 2), none, false⟩,
   ⟨(some 50), .call (.func 43) [(.tmp 49)], none, false⟩,
   ⟨(some 12), .mv (.tmp 50), none, false⟩])
  (.seq (.reg [⟨(some 52), .loadn 5 (.tmp 10), none, false⟩,
   ⟨(some 53), .mv (.tmp 11), none, false⟩,
   ⟨(some 54), .mv (.tmp 12), none, false⟩,
   ⟨(some 55), .call (.func 52) [(.tmp 52), (.tmp 53), (.tmp 54)], none, false⟩,
   ⟨(some 51), .mv (.tmp 55), none, false⟩,
   ⟨(some 56), .ext (.tmp 51) 0, none, false⟩,
   ⟨(some 57), .ext (.tmp 51) 1, none, false⟩,
   ⟨(some 13), .mv (.tmp 56), none, false⟩,
   ⟨(some 14), .mv (.tmp 57), none, false⟩])
  (.seq (.seq (.reg [⟨(some 58), .mv (.tmp 13), none, false⟩,
   ⟨(some 59), .mv (.tmp 8), none, false⟩,
   ⟨(some 60), .call (.func 22) [(.tmp 58), (.tmp 59)], none, false⟩,
   ⟨(some 61), .un .not (.tmp 60), none, false⟩,
   ⟨(some 62), .mv (.tmp 61), none, false⟩,
   ⟨(some 63), .mv (.tmp 14), (some (62, false)), false⟩,
   ⟨(some 64), .mv (.tmp 9), (some (62, false)), false⟩,
   ⟨(some 65), .bin .neq (.tmp 63) (.tmp 64), (some (62, false)), false⟩,
   ⟨(some 66), .pick (.tmp 62) (.const (.bool true)) (.tmp 65), none, false⟩])
  (.cond (.tmp 66) (.seq (.reg [⟨(some 6), .mv (.const (.bool false)), none, false⟩])
  .ret) .skip))
  (.seq (.seq (.reg [⟨(some 67), .loadn 5 (.tmp 10), none, false⟩,
   ⟨(some 68), .loadn 5 (.tmp 3), none, false⟩,
   ⟨(some 69), .call (.func 51) [(.tmp 68)], none, true⟩,
   ⟨(some 70), .call (.func 53) [(.tmp 67), (.tmp 69)], none, false⟩,
   ⟨(some 71), .un .not (.tmp 70), none, false⟩])
  (.cond (.tmp 71) (.seq (.reg [⟨(some 6), .mv (.const (.bool false)), none, false⟩])
  .ret) .skip))
  (.seq (.seq (.reg [⟨(some 72), .mv (.tmp 11), none, false⟩,
   ⟨(some 73), .mv (.tmp 1), none, false⟩,
   ⟨(some 74), .call (.func 43) [(.tmp 73)], none, false⟩,
   ⟨(some 75), .call (.func 22) [(.tmp 72), (.tmp 74)], none, false⟩,
   ⟨(some 76), .un .not (.tmp 75), none, false⟩])
  (.cond (.tmp 76) (.seq (.reg [⟨(some 6), .mv (.const (.bool false)), none, false⟩])
  .ret) .skip))
  (.seq (.seq (.reg [⟨(some 77), .mv (.tmp 12), none, false⟩,
   ⟨(some 78), .mv (.tmp 2), none, false⟩,
   ⟨(some 79), .call (.func 43) [(.tmp 78)], none, false⟩,
   ⟨(some 80), .call (.func 22) [(.tmp 77), (.tmp 79)], none, false⟩,
   ⟨(some 81), .un .not (.tmp 80), none, false⟩])
  (.cond (.tmp 81) (.seq (.reg [⟨(some 6), .mv (.const (.bool false)), none, false⟩])
  .ret) .skip))
  (.seq (.reg [⟨(some 15), .mv (.const (.int .i64 1)), none, false⟩])
  (.seq (.reg [⟨(some 82), .loadn 5 (.tmp 10), none, false⟩,
   ⟨(some 83), .mv (.tmp 15), none, false⟩,
   ⟨(some 84), .call (.func 54) [(.tmp 82), (.tmp 83)], none, false⟩,
   ⟨(some 15), .mv (.tmp 84), none, false⟩])
  (.seq (.reg [⟨(some 85), .mv (.tmp 11), none, false⟩,
   ⟨(some 86), .mv (.tmp 15), none, false⟩,
   ⟨(some 87), .call (.func 24) [(.tmp 85), (.tmp 86)], none, false⟩,
   ⟨(some 15), .mv (.tmp 87), none, false⟩])
  (.seq (.reg [⟨(some 88), .mv (.tmp 12), none, false⟩,
   ⟨(some 89), .mv (.tmp 15), none, false⟩,
   ⟨(some 90), .call (.func 24) [(.tmp 88), (.tmp 89)], none, false⟩,
   ⟨(some 15), .mv (.tmp 90), none, false⟩])
  (.seq (.seq (.reg [⟨(some 91), .mv (.tmp 15), none, false⟩,
   ⟨(some 92), .bin .lss (.tmp 91) (.const (.int .i64 0)), none, false⟩,
   ⟨(some 93), .mv (.tmp 92), none, false⟩,
   ⟨(some 94), .mv (.tmp 13), (some (93, false)), false⟩,
   ⟨(some 95), .mv (.tmp 8), (some (93, false)), false⟩,
   ⟨(some 96), .call (.func 22) [(.tmp 94), (.tmp 95)], (some (93, false)), false⟩,
   ⟨(some 97), .un .not (.tmp 96), (some (93, false)), false⟩,
   ⟨(some 98), .pick (.tmp 93) (.const (.bool true)) (.tmp 97), none, false⟩,
   ⟨(some 99), .mv (.tmp 98), none, false⟩,
   ⟨(some 100), .mv (.tmp 14), (some (99, false)), false⟩,
   ⟨(some 101), .mv (.tmp 9), (some (99, false)), false⟩,
   ⟨(some 102), .bin .neq (.tmp 100) (.tmp 101), (some (99, false)), false⟩,
   ⟨(some 103), .pick (.tmp 99) (.const (.bool true)) (.tmp 102), none, false⟩])
  (.cond (.tmp 103) (.seq (.reg [⟨(some 6), .mv (.const (.bool false)), none, false⟩])
  .ret) .skip))
  (.seq (.reg [⟨(some 16), .mv (.const (.int .i64 1)), none, false⟩])
  (.seq (.reg [⟨(some 104), .mv (.tmp 13), none, false⟩,
   ⟨(some 105), .mv (.tmp 16), none, false⟩,
   ⟨(some 106), .call (.func 24) [(.tmp 104), (.tmp 105)], none, false⟩,
   ⟨(some 16), .mv (.tmp 106), none, false⟩])
  (.seq (.reg [⟨(some 17), .mv (.const (.int .i64 1)), none, false⟩])
  (.seq (.reg [⟨(some 107), .mv (.tmp 13), none, false⟩,
   ⟨(some 108), .mv (.tmp 17), none, false⟩,
   ⟨(some 109), .call (.func 25) [(.tmp 107), (.tmp 108)], none, false⟩,
   ⟨(some 17), .mv (.tmp 109), none, false⟩])
  (.seq (.seq (.reg [⟨(some 110), .mv (.tmp 17), none, false⟩,
   ⟨(some 111), .bin .lss (.tmp 110) (.const (.int .i64 0)), none, false⟩])
  (.cond (.tmp 111) (.seq (.reg [⟨(some 6), .mv (.const (.bool false)), none, false⟩])
  .ret) .skip))
  (.seq (.seq (.reg [⟨(some 112), .mv (.tmp 17), none, false⟩,
   ⟨(some 113), .mv (.tmp 16), none, false⟩,
   ⟨(some 114), .bin .neq (.tmp 112) (.tmp 113), none, false⟩])
  (.cond (.tmp 114) (.seq (.reg [⟨(some 6), .mv (.const (.bool false)), none, false⟩])
  .ret) .skip))
  (.seq (.reg [⟨(some 116), .loadn 5 (.tmp 3), none, false⟩,
   ⟨(some 117), .call (.func 51) [(.tmp 116)], none, false⟩,
   ⟨(some 118), .mv (.tmp 1), none, false⟩,
   ⟨(some 119), .call (.func 43) [(.tmp 118)], none, false⟩,
   ⟨(some 120), .mv (.tmp 2), none, false⟩,
   ⟨(some 121), .call (.func 43) [(.tmp 120)], none, false⟩,
   ⟨(some 122), .call (.func 52) [(.tmp 117), (.tmp 119), (.tmp 121)], none, false⟩,
   ⟨(some 115), .mv (.tmp 122), none, false⟩,
   ⟨(some 123), .ext (.tmp 115) 0, none, false⟩,
   ⟨(some 124), .ext (.tmp 115) 1, none, false⟩,
   ⟨(some 18), .mv (.tmp 123), none, false⟩,
   ⟨(some 19), .mv (.tmp 124), none, false⟩])
  (.seq (.seq (.reg [⟨(some 125), .mv (.tmp 18), none, false⟩,
   ⟨(some 126), .mv (.tmp 8), none, false⟩,
   ⟨(some 127), .call (.func 22) [(.tmp 125), (.tmp 126)], none, false⟩,
   ⟨(some 128), .un .not (.tmp 127), none, false⟩,
   ⟨(some 129), .mv (.tmp 128), none, false⟩,
   ⟨(some 130), .mv (.tmp 19), (some (129, false)), false⟩,
   ⟨(some 131), .mv (.tmp 9), (some (129, false)), false⟩,
   ⟨(some 132), .bin .neq (.tmp 130) (.tmp 131), (some (129, false)), false⟩,
   ⟨(some 133), .pick (.tmp 129) (.const (.bool true)) (.tmp 132), none, false⟩])
  (.cond (.tmp 133) (.seq (.reg [⟨(some 6), .mv (.const (.bool false)), none, false⟩])
  .ret) .skip))
  (.seq (.reg [⟨(some 17), .mv (.const (.int .i64 1)), none, false⟩])
  (.seq (.reg [⟨(some 134), .mv (.tmp 13), none, false⟩,
   ⟨(some 135), .mv (.tmp 17), none, false⟩,
   ⟨(some 136), .call (.func 25) [(.tmp 134), (.tmp 135)], none, false⟩,
   ⟨(some 17), .mv (.tmp 136), none, false⟩])
  (.seq (.seq (.reg [⟨(some 137), .mv (.tmp 17), none, false⟩,
   ⟨(some 138), .bin .lss (.tmp 137) (.const (.int .i64 0)), none, false⟩])
  (.cond (.tmp 138) (.seq (.reg [⟨(some 6), .mv (.const (.bool false)), none, false⟩])
  .ret) .skip))
  (.seq (.seq (.reg [⟨(some 139), .mv (.tmp 17), none, false⟩,
   ⟨(some 140), .mv (.tmp 16), none, false⟩,
   ⟨(some 141), .bin .neq (.tmp 139) (.tmp 140), none, false⟩])
  (.cond (.tmp 141) (.seq (.reg [⟨(some 6), .mv (.const (.bool false)), none, false⟩])
  .ret) .skip))
  (.seq (.reg [⟨(some 6), .mv (.const (.bool true)), none, false⟩])
  .ret)))))))))))))))))))))))))))))))))))⟩

theorem s11 : compFn Try.prog Try.f11 = some c11 := by kernel_rfl

/-- loop.example/g01262/laws.FnExactStepsOf -/
def c12 : XFn :=
 ⟨[.tmp 4],
  (.seq (.reg [⟨(some 2), .box 66 (.tmp 0), none, false⟩,
   ⟨(some 4), .mv (.const (.bool false)), none, false⟩])
  (.seq (.reg [⟨(some 5), .mv (.const (.int .i64 1048576)), none, false⟩])
  (.seq (.reg [⟨(some 16), .loadn 5 (.tmp 2), none, false⟩,
   ⟨(some 17), .mv (.tmp 5), none, false⟩,
   ⟨(some 18), .call (.func 49) [(.tmp 16), (.tmp 17)], none, false⟩,
   ⟨(some 5), .mv (.tmp 18), none, false⟩])
  (.seq (.seq (.reg [⟨(some 19), .mv (.tmp 5), none, false⟩,
   ⟨(some 20), .bin .lss (.tmp 19) (.const (.int .i64 0)), none, false⟩])
  (.cond (.tmp 20) (.seq (.reg [⟨(some 4), .mv (.const (.bool true)), none, false⟩])
  .ret) .skip))
  (.seq (.reg [⟨(some 22), .loadn 5 (.tmp 2), none, false⟩,
   ⟨(some 23), .call (.func 51) [(.tmp 22)], none, false⟩,
   ⟨(some 24), .mv (.tmp 1), none, false⟩,
   ⟨(some 25), .call (.func 55) [(.tmp 23), (.tmp 24)], none, false⟩,
   ⟨(some 21), .mv (.tmp 25), none, false⟩,
   ⟨(some 26), .ext (.tmp 21) 0, none, false⟩,
   ⟨(some 27), .ext (.tmp 21) 1, none, false⟩,
   ⟨(some 6), .mv (.tmp 26), none, false⟩,
   ⟨(some 7), .mv (.tmp 27), none, false⟩])
  (.seq (.reg [⟨(some 28), .loadn 5 (.tmp 2), none, false⟩,
   ⟨(some 29), .call (.func 51) [(.tmp 28)], none, false⟩,
   ⟨(some 8), .alloc 71 [.int .i64 0, .int .i64 0, .int .i64 0, .int .i64 0, .slice none 0 0], none, false⟩,
   ⟨none, .store 5 (.tmp 8) (.tmp 29), none, false⟩])
  (.seq (.reg [⟨(some 31), .loadn 5 (.tmp 8), none, false⟩,
   ⟨(some 32), .mv (.tmp 1), none, false⟩,
   ⟨(some 33), .call (.func 56) [(.tmp 31), (.tmp 32)], none, false⟩,
   ⟨(some 30), .mv (.tmp 33), none, false⟩,
   ⟨(some 34), .ext (.tmp 30) 0, none, false⟩,
   ⟨(some 35), .ext (.tmp 30) 1, none, false⟩,
   ⟨(some 9), .mv (.tmp 34), none, false⟩,
   ⟨(some 10), .mv (.tmp 35), none, false⟩])
  (.seq (.seq (.reg [⟨(some 36), .mv (.tmp 9), none, false⟩,
   ⟨(some 37), .mv (.tmp 6), none, false⟩,
   ⟨(some 38), .call (.func 30) [(.tmp 36), (.tmp 37)], none, false⟩,
   ⟨(some 39), .un .not (.tmp 38), none, false⟩,
   ⟨(some 40), .mv (.tmp 39), none, false⟩,
   ⟨(some 41), .mv (.tmp 10), (some (40, false)), false⟩,
   ⟨(some 42), .mv (.tmp 7), (some (40, false)), false⟩,
   ⟨(some 43), .bin .neq (.tmp 41) (.tmp 42), (some (40, false)), false⟩,
   ⟨(some 44), .pick (.tmp 40) (.const (.bool true)) (.tmp 43), none, false⟩])
  (.cond (.tmp 44) (.seq (.reg [⟨(some 4), .mv (.const (.bool false)), none, false⟩])
  .ret) .skip))
  (.seq (.seq (.reg [⟨(some 45), .loadn 5 (.tmp 8), none, false⟩,
   ⟨(some 46), .loadn 5 (.tmp 2), none, false⟩,
   ⟨(some 47), .call (.func 51) [(.tmp 46)], none, true⟩,
   ⟨(some 48), .call (.func 53) [(.tmp 45), (.tmp 47)], none, false⟩,
   ⟨(some 49), .un .not (.tmp 48), none, false⟩])
  (.cond (.tmp 49) (.seq (.reg [⟨(some 4), .mv (.const (.bool false)), none, false⟩])
  .ret) .skip))
  (.seq (.reg [⟨(some 11), .mv (.const (.int .i64 1)), none, false⟩])
  (.seq (.reg [⟨(some 50), .loadn 5 (.tmp 8), none, false⟩,
   ⟨(some 51), .mv (.tmp 11), none, false⟩,
   ⟨(some 52), .call (.func 54) [(.tmp 50), (.tmp 51)], none, false⟩,
   ⟨(some 11), .mv (.tmp 52), none, false⟩])
  (.seq (.seq (.reg [⟨(some 53), .mv (.tmp 11), none, false⟩,
   ⟨(some 54), .bin .lss (.tmp 53) (.const (.int .i64 0)), none, false⟩,
   ⟨(some 55), .mv (.tmp 54), none, false⟩,
   ⟨(some 56), .mv (.tmp 9), (some (55, false)), false⟩,
   ⟨(some 57), .mv (.tmp 6), (some (55, false)), false⟩,
   ⟨(some 58), .call (.func 30) [(.tmp 56), (.tmp 57)], (some (55, false)), false⟩,
   ⟨(some 59), .un .not (.tmp 58), (some (55, false)), false⟩,
   ⟨(some 60), .pick (.tmp 55) (.const (.bool true)) (.tmp 59), none, false⟩,
   ⟨(some 61), .mv (.tmp 60), none, false⟩,
   ⟨(some 62), .mv (.tmp 10), (some (61, false)), false⟩,
   ⟨(some 63), .mv (.tmp 7), (some (61, false)), false⟩,
   ⟨(some 64), .bin .neq (.tmp 62) (.tmp 63), (some (61, false)), false⟩,
   ⟨(some 65), .pick (.tmp 61) (.const (.bool true)) (.tmp 64), none, false⟩])
  (.cond (.tmp 65) (.seq (.reg [⟨(some 4), .mv (.const (.bool false)), none, false⟩])
  .ret) .skip))
  (.seq (.reg [⟨(some 12), .mv (.const (.int .i64 1)), none, false⟩])
  (.seq (.reg [⟨(some 66), .mv (.tmp 9), none, false⟩,
   ⟨(some 67), .mv (.tmp 12), none, false⟩,
   ⟨(some 68), .call (.func 33) [(.tmp 66), (.tmp 67)], none, false⟩,
   ⟨(some 12), .mv (.tmp 68), none, false⟩])
  (.seq (.reg [⟨(some 13), .mv (.const (.int .i64 1)), none, false⟩])
  (.seq (.reg [⟨(some 69), .mv (.tmp 9), none, false⟩,
   ⟨(some 70), .mv (.tmp 13), none, false⟩,
   ⟨(some 71), .call (.func 34) [(.tmp 69), (.tmp 70)], none, false⟩,
   ⟨(some 13), .mv (.tmp 71), none, false⟩])
  (.seq (.seq (.reg [⟨(some 72), .mv (.tmp 13), none, false⟩,
   ⟨(some 73), .bin .lss (.tmp 72) (.const (.int .i64 0)), none, false⟩])
  (.cond (.tmp 73) (.seq (.reg [⟨(some 4), .mv (.const (.bool false)), none, false⟩])
  .ret) .skip))
  (.seq (.seq (.reg [⟨(some 74), .mv (.tmp 13), none, false⟩,
   ⟨(some 75), .mv (.tmp 12), none, false⟩,
   ⟨(some 76), .bin .neq (.tmp 74) (.tmp 75), none, false⟩])
  (.cond (.tmp 76) (.seq (.reg [⟨(some 4), .mv (.const (.bool false)), none, false⟩])
  .ret) .skip))
  (.seq (.reg [⟨(some 78), .loadn 5 (.tmp 2), none, false⟩,
   ⟨(some 79), .call (.func 51) [(.tmp 78)], none, false⟩,
   ⟨(some 80), .mv (.tmp 1), none, false⟩,
   ⟨(some 81), .call (.func 56) [(.tmp 79), (.tmp 80)], none, false⟩,
   ⟨(some 77), .mv (.tmp 81), none, false⟩,
   ⟨(some 82), .ext (.tmp 77) 0, none, false⟩,
   ⟨(some 83), .ext (.tmp 77) 1, none, false⟩,
   ⟨(some 14), .mv (.tmp 82), none, false⟩,
   ⟨(some 15), .mv (.tmp 83), none, false⟩])
  (.seq (.seq (.reg [⟨(some 84), .mv (.tmp 14), none, false⟩,
   ⟨(some 85), .mv (.tmp 6), none, false⟩,
   ⟨(some 86), .call (.func 30) [(.tmp 84), (.tmp 85)], none, false⟩,
   ⟨(some 87), .un .not (.tmp 86), none, false⟩,
   ⟨(some 88), .mv (.tmp 87), none, false⟩,
   ⟨(some 89), .mv (.tmp 15), (some (88, false)), false⟩,
   ⟨(some 90), .mv (.tmp 7), (some (88, false)), false⟩,
   ⟨(some 91), .bin .neq (.tmp 89) (.tmp 90), (some (88, false)), false⟩,
   ⟨(some 92), .pick (.tmp 88) (.const (.bool true)) (.tmp 91), none, false⟩])
  (.cond (.tmp 92) (.seq (.reg [⟨(some 4), .mv (.const (.bool false)), none, false⟩])
  .ret) .skip))
  (.seq (.reg [⟨(some 13), .mv (.const (.int .i64 1)), none, false⟩])
  (.seq (.reg [⟨(some 93), .mv (.tmp 9), none, false⟩,
   ⟨(some 94), .mv (.tmp 13), none, false⟩,
   ⟨(some 95), .call (.func 34) [(.tmp 93), (.tmp 94)], none, false⟩,
   ⟨(some 13), .mv (.tmp 95), none, false⟩])
  (.seq (.seq (.reg [⟨(some 96), .mv (.tmp 13), none, false⟩,
   ⟨(some 97), .bin .lss (.tmp 96) (.const (.int .i64 0)), none, false⟩])
  (.cond (.tmp 97) (.seq (.reg [⟨(some 4), .mv (.const (.bool false)), none, false⟩])
  .ret) .skip))
  (.seq (.seq (.reg [⟨(some 98), .mv (.tmp 13), none, false⟩,
   ⟨(some 99), .mv (.tmp 12), none, false⟩,
   ⟨(some 100), .bin .neq (.tmp 98) (.tmp 99), none, false⟩])
  (.cond (.tmp 100) (.seq (.reg [⟨(some 4), .mv (.const (.bool false)), none, false⟩])
  .ret) .skip))
  (.seq (.reg [⟨(some 4), .mv (.const (.bool true)), none, false⟩])
  .ret)))))))))))))))))))))))))⟩

theorem s12 : compFn Try.prog Try.f12 = some c12 := by kernel_rfl

/-- loop.example/g01262/laws.FnExactProgramsOf -/
def c13 : XFn :=
 ⟨[.tmp 4],
  (.seq (.reg [⟨(some 2), .box 66 (.tmp 0), none, false⟩,
   ⟨(some 4), .mv (.const (.bool false)), none, false⟩])
  (.seq (.reg [⟨(some 5), .mv (.const (.int .i64 1048576)), none, false⟩])
  (.seq (.reg [⟨(some 16), .loadn 5 (.tmp 2), none, false⟩,
   ⟨(some 17), .mv (.tmp 5), none, false⟩,
   ⟨(some 18), .call (.func 49) [(.tmp 16), (.tmp 17)], none, false⟩,
   ⟨(some 5), .mv (.tmp 18), none, false⟩])
  (.seq (.seq (.reg [⟨(some 19), .mv (.tmp 5), none, false⟩,
   ⟨(some 20), .bin .lss (.tmp 19) (.const (.int .i64 0)), none, false⟩])
  (.cond (.tmp 20) (.seq (.reg [⟨(some 4), .mv (.const (.bool true)), none, false⟩])
  .ret) .skip))
  (.seq (.reg [⟨(some 22), .loadn 5 (.tmp 2), none, false⟩,
   ⟨(some 23), .call (.func 51) [(.tmp 22)], none, false⟩,
   ⟨(some 24), .mv (.tmp 1), none, false⟩,
   ⟨(some 25), .call (.func 57) [(.tmp 23), (.tmp 24)], none, false⟩,
   ⟨(some 21), .mv (.tmp 25), none, false⟩,
   ⟨(some 26), .ext (.tmp 21) 0, none, false⟩,
   ⟨(some 27), .ext (.tmp 21) 1, none, false⟩,
   ⟨(some 6), .mv (.tmp 26), none, false⟩,
   ⟨(some 7), .mv (.tmp 27), none, false⟩])
  (.seq (.reg [⟨(some 28), .loadn 5 (.tmp 2), none, false⟩,
   ⟨(some 29), .call (.func 51) [(.tmp 28)], none, false⟩,
   ⟨(some 8), .alloc 71 [.int .i64 0, .int .i64 0, .int .i64 0, .int .i64 0, .slice none 0 0], none, false⟩,
   ⟨none, .store 5 (.tmp 8) (.tmp 29), none, false⟩])
  (.seq (.reg [⟨(some 31), .loadn 5 (.tmp 8), none, false⟩,
   ⟨(some 32), .mv (.tmp 1), none, false⟩,
   ⟨(some 33), .call (.func 58) [(.tmp 31), (.tmp 32)], none, false⟩,
   ⟨(some 30), .mv (.tmp 33), none, false⟩,
   ⟨(some 34), .ext (.tmp 30) 0, none, false⟩,
   ⟨(some 35), .ext (.tmp 30) 1, none, false⟩,
   ⟨(some 9), .mv (.tmp 34), none, false⟩,
   ⟨(some 10), .mv (.tmp 35), none, false⟩])
  (.seq (.seq (.reg [⟨(some 36), .mv (.tmp 9), none, false⟩,
   ⟨(some 37), .mv (.tmp 6), none, false⟩,
   ⟨(some 38), .call (.func 59) [(.tmp 36), (.tmp 37)], none, false⟩,
   ⟨(some 39), .un .not (.tmp 38), none, false⟩,
   ⟨(some 40), .mv (.tmp 39), none, false⟩,
   ⟨(some 41), .mv (.tmp 10), (some (40, false)), false⟩,
   ⟨(some 42), .mv (.tmp 7), (some (40, false)), false⟩,
   ⟨(some 43), .bin .neq (.tmp 41) (.tmp 42), (some (40, false)), false⟩,
   ⟨(some 44), .pick (.tmp 40) (.const (.bool true)) (.tmp 43), none, false⟩])
  (.cond (.tmp 44) (.seq (.reg [⟨(some 4), .mv (.const (.bool false)), none, false⟩])
  .ret) .skip))
  (.seq (.seq (.reg [⟨(some 45), .loadn 5 (.tmp 8), none, false⟩,
   ⟨(some 46), .loadn 5 (.tmp 2), none, false⟩,
   ⟨(some 47), .call (.func 51) [(.tmp 46)], none, true⟩,
   ⟨(some 48), .call (.func 53) [(.tmp 45), (.tmp 47)], none, false⟩,
   ⟨(some 49), .un .not (.tmp 48), none, false⟩])
  (.cond (.tmp 49) (.seq (.reg [⟨(some 4), .mv (.const (.bool false)), none, false⟩])
  .ret) .skip))
  (.seq (.reg [⟨(some 11), .mv (.const (.int .i64 1)), none, false⟩])
  (.seq (.reg [⟨(some 50), .loadn 5 (.tmp 8), none, false⟩,
   ⟨(some 51), .mv (.tmp 11), none, false⟩,
   ⟨(some 52), .call (.func 54) [(.tmp 50), (.tmp 51)], none, false⟩,
   ⟨(some 11), .mv (.tmp 52), none, false⟩])
  (.seq (.seq (.reg [⟨(some 53), .mv (.tmp 11), none, false⟩,
   ⟨(some 54), .bin .lss (.tmp 53) (.const (.int .i64 0)), none, false⟩,
   ⟨(some 55), .mv (.tmp 54), none, false⟩,
   ⟨(some 56), .mv (.tmp 9), (some (55, false)), false⟩,
   ⟨(some 57), .mv (.tmp 6), (some (55, false)), false⟩,
   ⟨(some 58), .call (.func 59) [(.tmp 56), (.tmp 57)], (some (55, false)), false⟩,
   ⟨(some 59), .un .not (.tmp 58), (some (55, false)), false⟩,
   ⟨(some 60), .pick (.tmp 55) (.const (.bool true)) (.tmp 59), none, false⟩,
   ⟨(some 61), .mv (.tmp 60), none, false⟩,
   ⟨(some 62), .mv (.tmp 10), (some (61, false)), false⟩,
   ⟨(some 63), .mv (.tmp 7), (some (61, false)), false⟩,
   ⟨(some 64), .bin .neq (.tmp 62) (.tmp 63), (some (61, false)), false⟩,
   ⟨(some 65), .pick (.tmp 61) (.const (.bool true)) (.tmp 64), none, false⟩])
  (.cond (.tmp 65) (.seq (.reg [⟨(some 4), .mv (.const (.bool false)), none, false⟩])
  .ret) .skip))
  (.seq (.reg [⟨(some 12), .mv (.const (.int .i64 1)), none, false⟩])
  (.seq (.reg [⟨(some 66), .mv (.tmp 9), none, false⟩,
   ⟨(some 67), .mv (.tmp 12), none, false⟩,
   ⟨(some 68), .call (.func 60) [(.tmp 66), (.tmp 67)], none, false⟩,
   ⟨(some 12), .mv (.tmp 68), none, false⟩])
  (.seq (.reg [⟨(some 13), .mv (.const (.int .i64 1)), none, false⟩])
  (.seq (.reg [⟨(some 69), .mv (.tmp 9), none, false⟩,
   ⟨(some 70), .mv (.tmp 13), none, false⟩,
   ⟨(some 71), .call (.func 61) [(.tmp 69), (.tmp 70)], none, false⟩,
   ⟨(some 13), .mv (.tmp 71), none, false⟩])
  (.seq (.seq (.reg [⟨(some 72), .mv (.tmp 13), none, false⟩,
   ⟨(some 73), .bin .lss (.tmp 72) (.const (.int .i64 0)), none, false⟩])
  (.cond (.tmp 73) (.seq (.reg [⟨(some 4), .mv (.const (.bool false)), none, false⟩])
  .ret) .skip))
  (.seq (.seq (.reg [⟨(some 74), .mv (.tmp 13), none, false⟩,
   ⟨(some 75), .mv (.tmp 12), none, false⟩,
   ⟨(some 76), .bin .neq (.tmp 74) (.tmp 75), none, false⟩])
  (.cond (.tmp 76) (.seq (.reg [⟨(some 4), .mv (.const (.bool false)), none, false⟩])
  .ret) .skip))
  (.seq (.reg [⟨(some 78), .loadn 5 (.tmp 2), none, false⟩,
   ⟨(some 79), .call (.func 51) [(.tmp 78)], none, false⟩,
   ⟨(some 80), .mv (.tmp 1), none, false⟩,
   ⟨(some 81), .call (.func 58) [(.tmp 79), (.tmp 80)], none, false⟩,
   ⟨(some 77), .mv (.tmp 81), none, false⟩,
   ⟨(some 82), .ext (.tmp 77) 0, none, false⟩,
   ⟨(some 83), .ext (.tmp 77) 1, none, false⟩,
   ⟨(some 14), .mv (.tmp 82), none, false⟩,
   ⟨(some 15), .mv (.tmp 83), none, false⟩])
  (.seq (.seq (.reg [⟨(some 84), .mv (.tmp 14), none, false⟩,
   ⟨(some 85), .mv (.tmp 6), none, false⟩,
   ⟨(some 86), .call (.func 59) [(.tmp 84), (.tmp 85)], none, false⟩,
   ⟨(some 87), .un .not (.tmp 86), none, false⟩,
   ⟨(some 88), .mv (.tmp 87), none, false⟩,
   ⟨(some 89), .mv (.tmp 15), (some (88, false)), false⟩,
   ⟨(some 90), .mv (.tmp 7), (some (88, false)), false⟩,
   ⟨(some 91), .bin .neq (.tmp 89) (.tmp 90), (some (88, false)), false⟩,
   ⟨(some 92), .pick (.tmp 88) (.const (.bool true)) (.tmp 91), none, false⟩])
  (.cond (.tmp 92) (.seq (.reg [⟨(some 4), .mv (.const (.bool false)), none, false⟩])
  .ret) .skip))
  (.seq (.reg [⟨(some 13), .mv (.const (.int .i64 1)), none, false⟩])
  (.seq (.reg [⟨(some 93), .mv (.tmp 9), none, false⟩,
   ⟨(some 94), .mv (.tmp 13), none, false⟩,
   ⟨(some 95), .call (.func 61) [(.tmp 93), (.tmp 94)], none, false⟩,
   ⟨(some 13), .mv (.tmp 95), none, false⟩])
  (.seq (.seq (.reg [⟨(some 96), .mv (.tmp 13), none, false⟩,
   ⟨(some 97), .bin .lss (.tmp 96) (.const (.int .i64 0)), none, false⟩])
  (.cond (.tmp 97) (.seq (.reg [⟨(some 4), .mv (.const (.bool false)), none, false⟩])
  .ret) .skip))
  (.seq (.seq (.reg [⟨(some 98), .mv (.tmp 13), none, false⟩,
   ⟨(some 99), .mv (.tmp 12), none, false⟩,
   ⟨(some 100), .bin .neq (.tmp 98) (.tmp 99), none, false⟩])
  (.cond (.tmp 100) (.seq (.reg [⟨(some 4), .mv (.const (.bool false)), none, false⟩])
  .ret) .skip))
  (.seq (.reg [⟨(some 4), .mv (.const (.bool true)), none, false⟩])
  .ret)))))))))))))))))))))))))⟩

theorem s13 : compFn Try.prog Try.f13 = some c13 := by kernel_rfl

/-- loop.example/g01262/laws.FnExactRunScheme -/
def c14 : XFn :=
 ⟨[.tmp 8],
  (.seq (.reg [⟨(some 4), .box 66 (.tmp 0), none, false⟩,
   ⟨(some 8), .mv (.const (.bool false)), none, false⟩])
  (.seq (.reg [⟨(some 9), .mv (.const (.int .i64 1048576)), none, false⟩])
  (.seq (.reg [⟨(some 22), .loadn 5 (.tmp 4), none, false⟩,
   ⟨(some 23), .mv (.tmp 9), none, false⟩,
   ⟨(some 24), .call (.func 49) [(.tmp 22), (.tmp 23)], none, false⟩,
   ⟨(some 9), .mv (.tmp 24), none, false⟩])
  (.seq (.seq (.reg [⟨(some 25), .mv (.tmp 9), none, false⟩,
   ⟨(some 26), .bin .lss (.tmp 25) (.const (.int .i64 0)), none, false⟩])
  (.cond (.tmp 26) (.seq (.reg [⟨(some 8), .mv (.const (.bool true)), none, false⟩])
  .ret) .skip))
  (.seq (.reg [⟨(some 27), .mv (.tmp 2), none, false⟩,
   ⟨(some 28), .mv (.tmp 9), none, false⟩,
   ⟨(some 29), .call (.func 41) [(.tmp 27), (.tmp 28)], none, false⟩,
   ⟨(some 9), .mv (.tmp 29), none, false⟩])
  (.seq (.seq (.reg [⟨(some 30), .mv (.tmp 9), none, false⟩,
   ⟨(some 31), .bin .lss (.tmp 30) (.const (.int .i64 0)), none, false⟩])
  (.cond (.tmp 31) (.seq (.reg [⟨(some 8), .mv (.const (.bool true)), none, false⟩])
  .ret) .skip))
  (.seq (.reg [⟨(some 32), .mv (.tmp 3), none, false⟩,
   ⟨(some 33), .mv (.tmp 9), none, false⟩,
   ⟨(some 34), .call (.func 41) [(.tmp 32), (.tmp 33)], none, false⟩,
   ⟨(some 9), .mv (.tmp 34), none, false⟩])
  (.seq (.seq (.reg [⟨(some 35), .mv (.tmp 9), none, false⟩,
   ⟨(some 36), .bin .lss (.tmp 35) (.const (.int .i64 0)), none, false⟩])
  (.cond (.tmp 36) (.seq (.reg [⟨(some 8), .mv (.const (.bool true)), none, false⟩])
  .ret) .skip))
  (.seq (.reg [⟨(some 38), .loadn 5 (.tmp 4), none, false⟩,
   ⟨(some 39), .call (.func 51) [(.tmp 38)], none, false⟩,
   ⟨(some 40), .mv (.tmp 1), none, false⟩,
   ⟨(some 41), .mv (.tmp 2), none, false⟩,
   ⟨(some 42), .call (.func 43) [(.tmp 41)], none, false⟩,
   ⟨(some 43), .mv (.tmp 3), none, false⟩,
   ⟨(some 44), .call (.func 43) [(.tmp 43)], none, false⟩,
   ⟨(some 45), .call (.func 62) [(.tmp 39), (.tmp 40), (.tmp 42), (.tmp 44)], none, false⟩,
   ⟨(some 37), .mv (.tmp 45), none, false⟩,
   ⟨(some 46), .ext (.tmp 37) 0, none, false⟩,
   ⟨(some 47), .ext (.tmp 37) 1, none, false⟩,
   ⟨(some 10), .mv (.tmp 46), none, false⟩,
   ⟨(some 11), .mv (.tmp 47), none, false⟩])
  (.seq (.reg [⟨(some 48), .loadn 5 (.tmp 4), none, false⟩,
   ⟨(some 49), .call (.func 51) [(.tmp 48)], none, false⟩,
   ⟨(some 12), .alloc 71 [.int .i64 0, .int .i64 0, .int .i64 0, .int .i64 0, .slice none 0 0], none, false⟩,
   ⟨none, .store 5 (.tmp 12) (.tmp 49), none, false⟩])
  (.seq (.reg [⟨(some 50), .mv (.tmp 2), none, false⟩,
   ⟨(some 51), .call (.func 43) [(.tmp 50)], none, false⟩,
   ⟨(some 13), .mv (.tmp 51), none, false⟩])
  (.seq (.reg [⟨(some 52), .mv (.tmp 3), none, false⟩,
   ⟨(some 53), .call (.func 43) [(.tmp 52)], none, false⟩,
   ⟨(some 14), .mv (.tmp 53), none, false⟩])
  (.seq (.reg [⟨(some 55), .loadn 5 (.tmp 12), none, false⟩,
   ⟨(some 56), .mv (.tmp 1), none, false⟩,
   ⟨(some 57), .mv (.tmp 13), none, false⟩,
   ⟨(some 58), .mv (.tmp 14), none, false⟩,
   ⟨(some 59), .call (.func 63) [(.tmp 55), (.tmp 56), (.tmp 57), (.tmp 58)], none, false⟩,
   ⟨(some 54), .mv (.tmp 59), none, false⟩,
   ⟨(some 60), .ext (.tmp 54) 0, none, false⟩,
   ⟨(some 61), .ext (.tmp 54) 1, none, false⟩,
   ⟨(some 15), .mv (.tmp 60), none, false⟩,
   ⟨(some 16), .mv (.tmp 61), none, false⟩])
  (.seq (.seq (.reg [⟨(some 62), .mv (.tmp 15), none, false⟩,
   ⟨(some 63), .mv (.tmp 10), none, false⟩,
   ⟨(some 64), .call (.func 22) [(.tmp 62), (.tmp 63)], none, false⟩,
   ⟨(some 65), .un .not (.tmp 64), none, false⟩,
   ⟨(some 66), .mv (.tmp 65), none, false⟩,
   ⟨(some 67), .mv (.tmp 16), (some (66, false)), false⟩,
   ⟨(some 68), .mv (.tmp 11), (some (66, false)), false⟩,
   ⟨(some 69), .bin .neq (.tmp 67) (.tmp 68), (some (66, false)), false⟩,
   ⟨(some 70), .pick (.tmp 66) (.const (.bool true)) (.tmp 69), none, false⟩])
  (.cond (.tmp 70) (.seq (.reg [⟨(some 8), .mv (.const (.bool false)), none, false⟩])
  .ret) .skip))
  (.seq (.seq (.reg [⟨(some 71), .loadn 5 (.tmp 12), none, false⟩,
   ⟨(some 72), .loadn 5 (.tmp 4), none, false⟩,
   ⟨(some 73), .call (.func 51) [(.tmp 72)], none, true⟩,
   ⟨(some 74), .call (.func 53) [(.tmp 71), (.tmp 73)], none, false⟩,
   ⟨(some 75), .un .not (.tmp 74), none, false⟩])
  (.cond (.tmp 75) (.seq (.reg [⟨(some 8), .mv (.const (.bool false)), none, false⟩])
  .ret) .skip))
  (.seq (.seq (.reg [⟨(some 76), .mv (.tmp 13), none, false⟩,
   ⟨(some 77), .mv (.tmp 2), none, false⟩,
   ⟨(some 78), .call (.func 43) [(.tmp 77)], none, false⟩,
   ⟨(some 79), .call (.func 22) [(.tmp 76), (.tmp 78)], none, false⟩,
   ⟨(some 80), .un .not (.tmp 79), none, false⟩])
  (.cond (.tmp 80) (.seq (.reg [⟨(some 8), .mv (.const (.bool false)), none, false⟩])
  .ret) .skip))
  (.seq (.seq (.reg [⟨(some 81), .mv (.tmp 14), none, false⟩,
   ⟨(some 82), .mv (.tmp 3), none, false⟩,
   ⟨(some 83), .call (.func 43) [(.tmp 82)], none, false⟩,
   ⟨(some 84), .call (.func 22) [(.tmp 81), (.tmp 83)], none, false⟩,
   ⟨(some 85), .un .not (.tmp 84), none, false⟩])
  (.cond (.tmp 85) (.seq (.reg [⟨(some 8), .mv (.const (.bool false)), none, false⟩])
  .ret) .skip))
  (.seq (.reg [⟨(some 17), .mv (.const (.int .i64 1)), none, false⟩])
  (.seq (.reg [⟨(some 86), .loadn 5 (.tmp 12), none, false⟩,
   ⟨(some 87), .mv (.tmp 17), none, false⟩,
   ⟨(some 88), .call (.func 54) [(.tmp 86), (.tmp 87)], none, false⟩,
   ⟨(some 17), .mv (.tmp 88), none, false⟩])
  (.seq (.reg [⟨(some 89), .mv (.tmp 13), none, false⟩,
   ⟨(some 90), .mv (.tmp 17), none, false⟩,
   ⟨(some 91), .call (.func 24) [(.tmp 89), (.tmp 90)], none, false⟩,
   ⟨(some 17), .mv (.tmp 91), none, false⟩])
  (.seq (.reg [⟨(some 92), .mv (.tmp 14), none, false⟩,
   ⟨(some 93), .mv (.tmp 17), none, false⟩,
   ⟨(some 94), .call (.func 24) [(.tmp 92), (.tmp 93)], none, false⟩,
   ⟨(some 17), .mv (.tmp 94), none, false⟩])
  (.seq (.seq (.reg [⟨(some 95), .mv (.tmp 17), none, false⟩,
   ⟨(some 96), .bin .lss (.tmp 95) (.const (.int .i64 0)), none, false⟩,
   ⟨(some 97), .mv (.tmp 96), none, false⟩,
   ⟨(some 98), .mv (.tmp 15), (some (97, false)), false⟩,
   ⟨(some 99), .mv (.tmp 10), (some (97, false)), false⟩,
   ⟨(some 100), .call (.func 22) [(.tmp 98), (.tmp 99)], (some (97, false)), false⟩,
   ⟨(some 101), .un .not (.tmp 100), (some (97, false)), false⟩,
   ⟨(some 102), .pick (.tmp 97) (.const (.bool true)) (.tmp 101), none, false⟩,
   ⟨(some 103), .mv (.tmp 102), none, false⟩,
   ⟨(some 104), .mv (.tmp 16), (some (103, false)), false⟩,
   ⟨(some 105), .mv (.tmp 11), (some (103, false)), false⟩,
   ⟨(some 106), .bin .neq (.tmp 104) (.tmp 105), (some (103, false)), false⟩,
   ⟨(some 107), .pick (.tmp 103) (.const (.bool true)) (.tmp 106), none, false⟩])
  (.cond (.tmp 107) (.seq (.reg [⟨(some 8), .mv (.const (.bool false)), none, false⟩])
  .ret) .skip))
  (.seq (.reg [⟨(some 18), .mv (.const (.int .i64 1)), none, false⟩])
  (.seq (.reg [⟨(some 108), .mv (.tmp 15), none, false⟩,
   ⟨(some 109), .mv (.tmp 18), none, false⟩,
   ⟨(some 110), .call (.func 24) [(.tmp 108), (.tmp 109)], none, false⟩,
   ⟨(some 18), .mv (.tmp 110), none, false⟩])
  (.seq (.reg [⟨(some 19), .mv (.const (.int .i64 1)), none, false⟩])
  (.seq (.reg [⟨(some 111), .mv (.tmp 15), none, false⟩,
   ⟨(some 112), .mv (.tmp 19), none, false⟩,
   ⟨(some 113), .call (.func 25) [(.tmp 111), (.tmp 112)], none, false⟩,
   ⟨(some 19), .mv (.tmp 113), none, false⟩])
  (.seq (.seq (.reg [⟨(some 114), .mv (.tmp 19), none, false⟩,
   ⟨(some 115), .bin .lss (.tmp 114) (.const (.int .i64 0)), none, false⟩])
  (.cond (.tmp 115) (.seq (.reg [⟨(some 8), .mv (.const (.bool false)), none, false⟩])
  .ret) .skip))
  (.seq (.seq (.reg [⟨(some 116), .mv (.tmp 19), none, false⟩,
   ⟨(some 117), .mv (.tmp 18), none, false⟩,
   ⟨(some 118), .bin .neq (.tmp 116) (.tmp 117), none, false⟩])
  (.cond (.tmp 118) (.seq (.reg [⟨(some 8), .mv (.const (.bool false)), none, false⟩])
  .ret) .skip))
  (.seq (.reg [⟨(some 120), .loadn 5 (.tmp 4), none, false⟩,
   ⟨(some 121), .call (.func 51) [(.tmp 120)], none, false⟩,
   ⟨(some 122), .mv (.tmp 1), none, false⟩,
   ⟨(some 123), .mv (.tmp 2), none, false⟩,
   ⟨(some 124), .call (.func 43) [(.tmp 123)], none, false⟩,
   ⟨(some 125), .mv (.tmp 3), none, false⟩,
   ⟨(some 126), .call (.func 43) [(.tmp 125)], none, false⟩,
   ⟨(some 127), .call (.func 63) [(.tmp 121), (.tmp 122), (.tmp 124), (.tmp 126)], none, false⟩,
   ⟨(some 119), .mv (.tmp 127), none, false⟩,
   ⟨(some 128), .ext (.tmp 119) 0, none, false⟩,
   ⟨(some 129), .ext (.tmp 119) 1, none, false⟩,
   ⟨(some 20), .mv (.tmp 128), none, false⟩,
   ⟨(some 21), .mv (.tmp 129), none, false⟩])
  (.seq (.seq (.reg [⟨(some 130), .mv (.tmp 20), none, false⟩,
   ⟨(some 131), .mv (.tmp 10), none, false⟩,
   ⟨(some 132), .call (.func 22) [(.tmp 130), (.tmp 131)], none, false⟩,
   ⟨(some 133), .un .not (.tmp 132), none, false⟩,
   ⟨(some 134), .mv (.tmp 133), none, false⟩,
   ⟨(some 135), .mv (.tmp 21), (some (134, false)), false⟩,
   ⟨(some 136), .mv (.tmp 11), (some (134, false)), false⟩,
   ⟨(some 137), .bin .neq (.tmp 135) (.tmp 136), (some (134, false)), false⟩,
   ⟨(some 138), .pick (.tmp 134) (.const (.bool true)) (.tmp 137), none, false⟩])
  (.cond (.tmp 138) (.seq (.reg [⟨(some 8), .mv (.const (.bool false)), none, false⟩])
  .ret) .skip))
  (.seq (.reg [⟨(some 19), .mv (.const (.int .i64 1)), none, false⟩])
  (.seq (.reg [⟨(some 139), .mv (.tmp 15), none, false⟩,
   ⟨(some 140), .mv (.tmp 19), none, false⟩,
   ⟨(some 141), .call (.func 25) [(.tmp 139), (.tmp 140)], none, false⟩,
   ⟨(some 19), .mv (.tmp 141), none, false⟩])
  (.seq (.seq (.reg [⟨(some 142), .mv (.tmp 19), none, false⟩,
   ⟨(some 143), .bin .lss (.tmp 142) (.const (.int .i64 0)), none, false⟩])
  (.cond (.tmp 143) (.seq (.reg [⟨(some 8), .mv (.const (.bool false)), none, false⟩])
  .ret) .skip))
  (.seq (.seq (.reg [⟨(some 144), .mv (.tmp 19), none, false⟩,
   ⟨(some 145), .mv (.tmp 18), none, false⟩,
   ⟨(some 146), .bin .neq (.tmp 144) (.tmp 145), none, false⟩])
  (.cond (.tmp 146) (.seq (.reg [⟨(some 8), .mv (.const (.bool false)), none, false⟩])
  .ret) .skip))
  (.seq (.reg [⟨(some 8), .mv (.const (.bool true)), none, false⟩])
  .ret)))))))))))))))))))))))))))))))))))⟩

theorem s14 : compFn Try.prog Try.f14 = some c14 := by kernel_rfl

/-- loop.example/g01262/laws.szTensor -/
def c15 : XFn :=
 ⟨[.tmp 4],
  (.seq (.reg [⟨(some 2), .box 24 (.tmp 0), none, false⟩,
   ⟨(some 4), .mv (.const (.int .i64 0)), none, false⟩])
  (.seq (.reg [⟨(some 5), .fadr 4 (.tmp 2), none, false⟩,
   ⟨(some 6), .load1 (.tmp 5), none, false⟩,
   ⟨(some 7), .mv (.tmp 1), none, false⟩,
   ⟨(some 8), .call (.func 64) [(.tmp 6), (.tmp 7)], none, false⟩,
   ⟨(some 1), .mv (.tmp 8), none, false⟩])
  (.seq (.seq (.reg [⟨(some 9), .mv (.tmp 1), none, false⟩,
   ⟨(some 10), .bin .lss (.tmp 9) (.const (.int .i64 0)), none, false⟩])
  (.cond (.tmp 10) (.seq (.reg [⟨(some 4), .mv (.const (.int .i64 (-1))), none, false⟩])
  .ret) .skip))
  (.seq (.reg [⟨(some 11), .mv (.tmp 1), none, false⟩,
   ⟨(some 4), .mv (.tmp 11), none, false⟩])
  .ret))))⟩

theorem s15 : compFn Try.prog Try.f15 = some c15 := by kernel_rfl

/-- loop.example/g01262/spec.IsSimple -/
def c16 : XFn :=
 ⟨[.tmp 2, .tmp 3],
  (.seq (.reg [⟨(some 1), .box 28 (.tmp 0), none, false⟩,
   ⟨(some 2), .mv (.const (.bool false)), none, false⟩,
   ⟨(some 3), .mv (.const (.int .i64 0)), none, false⟩])
  (.seq (.seq (.reg [⟨(some 6), .loadn 5 (.tmp 1), none, false⟩,
   ⟨(some 7), .call (.func 65) [(.tmp 6)], none, false⟩,
   ⟨(some 8), .un .not (.tmp 7), none, false⟩])
  (.cond (.tmp 8) (.seq (.reg [⟨(some 2), .mv (.const (.bool false)), none, false⟩,
   ⟨(some 3), .mv (.const (.int .i64 1)), none, false⟩])
  .ret) .skip))
  (.seq (.reg [⟨(some 10), .loadn 5 (.tmp 1), none, false⟩,
   ⟨(some 11), .call (.func 66) [(.tmp 10)], none, false⟩,
   ⟨(some 9), .mv (.tmp 11), none, false⟩,
   ⟨(some 12), .ext (.tmp 9) 0, none, false⟩,
   ⟨(some 13), .ext (.tmp 9) 1, none, false⟩,
   ⟨(some 4), .mv (.tmp 12), none, false⟩,
   ⟨(some 5), .mv (.tmp 13), none, false⟩])
  (.seq (.reg [⟨(some 14), .mv (.tmp 5), none, false⟩,
   ⟨(some 2), .mv (.tmp 14), none, false⟩,
   ⟨(some 3), .mv (.const (.int .i64 0)), none, false⟩])
  .ret))))⟩

theorem s16 : compFn Try.prog Try.f16 = some c16 := by kernel_rfl

/-- loop.example/g01262/laws.toTensor -/
def c17 : XFn :=
 ⟨[.celln 2 5],
  (.seq (.reg [⟨(some 1), .box 24 (.tmp 0), none, false⟩,
   ⟨(some 2), .alloc 28 [.int .i64 0, .int .i64 0, .int .i64 0, .int .i64 0, .slice none 0 0], none, false⟩])
  (.seq (.reg [⟨(some 3), .alloc 28 [.int .i64 0, .int .i64 0, .int .i64 0, .int .i64 0, .slice none 0 0], none, false⟩])
  (.seq (.reg [⟨(some 4), .fadr 0 (.tmp 1), none, false⟩,
   ⟨(some 5), .load1 (.tmp 4), none, false⟩,
   ⟨(some 6), .fadr 0 (.tmp 3), none, false⟩,
   ⟨none, .store 1 (.tmp 6) (.tmp 5), none, false⟩])
  (.seq (.reg [⟨(some 7), .fadr 1 (.tmp 1), none, false⟩,
   ⟨(some 8), .load1 (.tmp 7), none, false⟩,
   ⟨(some 9), .fadr 1 (.tmp 3), none, false⟩,
   ⟨none, .store 1 (.tmp 9) (.tmp 8), none, false⟩])
  (.seq (.reg [⟨(some 10), .fadr 2 (.tmp 1), none, false⟩,
   ⟨(some 11), .load1 (.tmp 10), none, false⟩,
   ⟨(some 12), .fadr 2 (.tmp 3), none, false⟩,
   ⟨none, .store 1 (.tmp 12) (.tmp 11), none, false⟩])
  (.seq (.reg [⟨(some 13), .fadr 3 (.tmp 1), none, false⟩,
   ⟨(some 14), .load1 (.tmp 13), none, false⟩,
   ⟨(some 15), .fadr 3 (.tmp 3), none, false⟩,
   ⟨none, .store 1 (.tmp 15) (.tmp 14), none, false⟩])
  (.seq (.reg [⟨(some 16), .fadr 4 (.tmp 1), none, false⟩,
   ⟨(some 17), .load1 (.tmp 16), none, false⟩,
   ⟨(some 18), .call (.func 36) [(.tmp 17)], none, false⟩,
   ⟨(some 19), .fadr 4 (.tmp 3), none, false⟩,
   ⟨none, .store 1 (.tmp 19) (.tmp 18), none, false⟩])
  (.seq (.reg [⟨(some 20), .loadn 5 (.tmp 3), none, false⟩,
   ⟨none, .store 5 (.tmp 2) (.tmp 20), none, false⟩])
  .ret))))))))⟩

theorem s17 : compFn Try.prog Try.f17 = some c17 := by kernel_rfl

/-- loop.example/g01262/impl.IsSimple -/
def c18 : XFn :=
 ⟨[.tmp 2, .tmp 3],
  (.seq (.reg [⟨(some 1), .box 28 (.tmp 0), none, false⟩,
   ⟨(some 2), .mv (.const (.bool false)), none, false⟩,
   ⟨(some 3), .mv (.const (.int .i64 0)), none, false⟩])
  (.seq (.seq (.reg [⟨(some 4), .loadn 5 (.tmp 1), none, false⟩,
   ⟨(some 5), .call (.func 67) [(.tmp 4)], none, false⟩,
   ⟨(some 6), .un .not (.tmp 5), none, false⟩])
  (.cond (.tmp 6) (.seq (.reg [⟨(some 2), .mv (.const (.bool false)), none, false⟩,
   ⟨(some 3), .mv (.const (.int .i64 1)), none, false⟩])
  .ret) .skip))
  (.seq (.reg [⟨(some 7), .loadn 5 (.tmp 1), none, false⟩,
   ⟨(some 8), .call (.func 68) [(.tmp 7)], none, false⟩,
   ⟨(some 2), .mv (.tmp 8), none, false⟩,
   ⟨(some 3), .mv (.const (.int .i64 0)), none, false⟩])
  .ret)))⟩

theorem s18 : compFn Try.prog Try.f18 = some c18 := by kernel_rfl

/-- loop.example/g01262/laws.eqTensor -/
def c19 : XFn :=
 ⟨[.tmp 4],
  (.seq (.reg [⟨(some 2), .box 28 (.tmp 0), none, false⟩,
   ⟨(some 3), .box 28 (.tmp 1), none, false⟩,
   ⟨(some 4), .mv (.const (.bool false)), none, false⟩])
  (.seq (.seq (.reg [⟨(some 5), .fadr 0 (.tmp 2), none, false⟩,
   ⟨(some 6), .load1 (.tmp 5), none, false⟩,
   ⟨(some 7), .fadr 0 (.tmp 3), none, false⟩,
   ⟨(some 8), .load1 (.tmp 7), none, false⟩,
   ⟨(some 9), .bin .neq (.tmp 6) (.tmp 8), none, false⟩])
  (.cond (.tmp 9) (.seq (.reg [⟨(some 4), .mv (.const (.bool false)), none, false⟩])
  .ret) .skip))
  (.seq (.seq (.reg [⟨(some 10), .fadr 1 (.tmp 2), none, false⟩,
   ⟨(some 11), .load1 (.tmp 10), none, false⟩,
   ⟨(some 12), .fadr 1 (.tmp 3), none, false⟩,
   ⟨(some 13), .load1 (.tmp 12), none, false⟩,
   ⟨(some 14), .bin .neq (.tmp 11) (.tmp 13), none, false⟩])
  (.cond (.tmp 14) (.seq (.reg [⟨(some 4), .mv (.const (.bool false)), none, false⟩])
  .ret) .skip))
  (.seq (.seq (.reg [⟨(some 15), .fadr 2 (.tmp 2), none, false⟩,
   ⟨(some 16), .load1 (.tmp 15), none, false⟩,
   ⟨(some 17), .fadr 2 (.tmp 3), none, false⟩,
   ⟨(some 18), .load1 (.tmp 17), none, false⟩,
   ⟨(some 19), .bin .neq (.tmp 16) (.tmp 18), none, false⟩])
  (.cond (.tmp 19) (.seq (.reg [⟨(some 4), .mv (.const (.bool false)), none, false⟩])
  .ret) .skip))
  (.seq (.seq (.reg [⟨(some 20), .fadr 3 (.tmp 2), none, false⟩,
   ⟨(some 21), .load1 (.tmp 20), none, false⟩,
   ⟨(some 22), .fadr 3 (.tmp 3), none, false⟩,
   ⟨(some 23), .load1 (.tmp 22), none, false⟩,
   ⟨(some 24), .bin .neq (.tmp 21) (.tmp 23), none, false⟩])
  (.cond (.tmp 24) (.seq (.reg [⟨(some 4), .mv (.const (.bool false)), none, false⟩])
  .ret) .skip))
  (.seq (.seq (.reg [⟨(some 25), .fadr 4 (.tmp 2), none, false⟩,
   ⟨(some 26), .load1 (.tmp 25), none, false⟩,
   ⟨(some 27), .fadr 4 (.tmp 3), none, false⟩,
   ⟨(some 28), .load1 (.tmp 27), none, false⟩,
   ⟨(some 29), .call (.func 30) [(.tmp 26), (.tmp 28)], none, false⟩,
   ⟨(some 30), .un .not (.tmp 29), none, false⟩])
  (.cond (.tmp 30) (.seq (.reg [⟨(some 4), .mv (.const (.bool false)), none, false⟩])
  .ret) .skip))
  (.seq (.reg [⟨(some 4), .mv (.const (.bool true)), none, false⟩])
  .ret)))))))⟩

theorem s19 : compFn Try.prog Try.f19 = some c19 := by kernel_rfl

/-- loop.example/g01262/spec.FactorsOfSimple -/
def c20 : XFn :=
 ⟨[.tmp 2, .tmp 3],
  (.seq (.reg [⟨(some 1), .box 28 (.tmp 0), none, false⟩,
   ⟨(some 2), .mv (.const (.slice none 0 0)), none, false⟩,
   ⟨(some 3), .mv (.const (.int .i64 0)), none, false⟩])
  (.seq (.seq (.reg [⟨(some 6), .loadn 5 (.tmp 1), none, false⟩,
   ⟨(some 7), .call (.func 65) [(.tmp 6)], none, false⟩,
   ⟨(some 8), .un .not (.tmp 7), none, false⟩])
  (.cond (.tmp 8) (.seq (.reg [⟨(some 2), .mv (.const (.slice none 0 0)), none, false⟩,
   ⟨(some 3), .mv (.const (.int .i64 1)), none, false⟩])
  .ret) .skip))
  (.seq (.reg [⟨(some 10), .loadn 5 (.tmp 1), none, false⟩,
   ⟨(some 11), .call (.func 66) [(.tmp 10)], none, false⟩,
   ⟨(some 9), .mv (.tmp 11), none, false⟩,
   ⟨(some 12), .ext (.tmp 9) 0, none, false⟩,
   ⟨(some 13), .ext (.tmp 9) 1, none, false⟩,
   ⟨(some 4), .mv (.tmp 12), none, false⟩,
   ⟨(some 5), .mv (.tmp 13), none, false⟩])
  (.seq (.seq (.reg [⟨(some 14), .mv (.tmp 5), none, false⟩,
   ⟨(some 15), .un .not (.tmp 14), none, false⟩])
  (.cond (.tmp 15) (.seq (.reg [⟨(some 2), .mv (.const (.slice none 0 0)), none, false⟩,
   ⟨(some 3), .mv (.const (.int .i64 5)), none, false⟩])
  .ret) .skip))
  (.seq (.reg [⟨(some 16), .mv (.tmp 4), none, false⟩,
   ⟨(some 2), .mv (.tmp 16), none, false⟩,
   ⟨(some 3), .mv (.const (.int .i64 0)), none, false⟩])
  .ret)))))⟩

theorem s20 : compFn Try.prog Try.f20 = some c20 := by kernel_rfl

/-- loop.example/g01262/impl.FactorsOfSimple -/
def c21 : XFn :=
 ⟨[.tmp 2, .tmp 3],
  (.seq (.reg [⟨(some 1), .box 28 (.tmp 0), none, false⟩,
   ⟨(some 2), .mv (.const (.slice none 0 0)), none, false⟩,
   ⟨(some 3), .mv (.const (.int .i64 0)), none, false⟩])
  (.seq (.blk 0 (.seq (.reg [⟨(some 16), .loadn 5 (.tmp 1), none, false⟩,
   ⟨(some 17), .call (.func 67) [(.tmp 16)], none, false⟩,
   ⟨(some 18), .un .not (.tmp 17), none, false⟩,
   ⟨(some 15), .mv (.tmp 18), none, false⟩])
  (.cond (.tmp 15) (.seq (.reg [⟨(some 2), .mv (.const (.slice none 0 0)), none, false⟩,
   ⟨(some 3), .mv (.const (.int .i64 1)), none, false⟩])
  .ret) (.seq (.reg [⟨(some 20), .loadn 5 (.tmp 1), none, false⟩,
   ⟨(some 21), .call (.func 68) [(.tmp 20)], none, false⟩,
   ⟨(some 22), .un .not (.tmp 21), none, false⟩,
   ⟨(some 19), .mv (.tmp 22), none, false⟩])
  (.cond (.tmp 19) (.seq (.reg [⟨(some 2), .mv (.const (.slice none 0 0)), none, false⟩,
   ⟨(some 3), .mv (.const (.int .i64 5)), none, false⟩])
  .ret) .skip)))))
  (.seq (.reg [⟨(some 23), .fadr 4 (.tmp 1), none, false⟩,
   ⟨(some 24), .load1 (.tmp 23), none, false⟩,
   ⟨(some 25), .call (.func 69) [(.tmp 24), (.func 70)], none, false⟩,
   ⟨(some 4), .mv (.tmp 25), none, false⟩])
  (.seq (.reg [⟨(some 26), .mv (.tmp 4), none, false⟩,
   ⟨(some 27), .fadr 3 (.tmp 1), none, false⟩,
   ⟨(some 28), .load1 (.tmp 27), none, false⟩,
   ⟨(some 29), .bin .quo (.tmp 26) (.tmp 28), none, false⟩,
   ⟨(some 30), .fadr 2 (.tmp 1), none, false⟩,
   ⟨(some 31), .load1 (.tmp 30), none, false⟩,
   ⟨(some 32), .bin .quo (.tmp 29) (.tmp 31), none, false⟩,
   ⟨(some 33), .mv (.tmp 4), none, false⟩,
   ⟨(some 34), .fadr 3 (.tmp 1), none, false⟩,
   ⟨(some 35), .load1 (.tmp 34), none, false⟩,
   ⟨(some 36), .bin .quo (.tmp 33) (.tmp 35), none, false⟩,
   ⟨(some 37), .fadr 2 (.tmp 1), none, false⟩,
   ⟨(some 38), .load1 (.tmp 37), none, false⟩,
   ⟨(some 39), .bin .rem (.tmp 36) (.tmp 38), none, false⟩,
   ⟨(some 40), .mv (.tmp 4), none, false⟩,
   ⟨(some 41), .fadr 3 (.tmp 1), none, false⟩,
   ⟨(some 42), .load1 (.tmp 41), none, false⟩,
   ⟨(some 43), .bin .rem (.tmp 40) (.tmp 42), none, false⟩,
   ⟨(some 5), .mv (.tmp 32), none, false⟩,
   ⟨(some 6), .mv (.tmp 39), none, false⟩,
   ⟨(some 7), .mv (.tmp 43), none, false⟩])
  (.seq (.reg [⟨(some 44), .fadr 0 (.tmp 1), none, false⟩,
   ⟨(some 45), .load1 (.tmp 44), none, false⟩,
   ⟨(some 46), .fadr 4 (.tmp 1), none, false⟩,
   ⟨(some 47), .load1 (.tmp 46), none, false⟩,
   ⟨(some 48), .mv (.tmp 4), none, false⟩,
   ⟨(some 49), .ixs 1 (.tmp 47) (.tmp 48), none, false⟩,
   ⟨(some 50), .load1 (.tmp 49), none, false⟩,
   ⟨(some 51), .call (.func 71) [(.tmp 45), (.tmp 50)], none, false⟩,
   ⟨(some 8), .mv (.tmp 51), none, false⟩])
  (.seq (.reg [⟨(some 52), .bslice 2 1 0 [.int .i64 0] [], none, false⟩,
   ⟨(some 53), .bslice 2 1 0 [.int .i64 0] [], none, false⟩,
   ⟨(some 54), .bslice 2 1 0 [.int .i64 0] [], none, false⟩,
   ⟨(some 9), .mv (.tmp 52), none, false⟩,
   ⟨(some 10), .mv (.tmp 53), none, false⟩,
   ⟨(some 11), .mv (.tmp 54), none, false⟩])
  (.seq (.seq (.reg [⟨(some 55), .fadr 1 (.tmp 1), none, false⟩,
   ⟨(some 56), .load1 (.tmp 55), none, false⟩,
   ⟨(some 57), .mv (.const (.int .i64 0)), none, false⟩])
  (.blk 1 (.loop (.seq (.reg [⟨(some 58), .bin .lss (.tmp 57) (.tmp 56), none, false⟩])
  (.seq (.cond (.tmp 58) .skip (.exit 1))
  (.seq (.blk 2 (.seq (.reg [⟨(some 59), .mv (.tmp 57), none, false⟩,
   ⟨(some 12), .mv (.tmp 59), none, false⟩])
  (.reg [⟨(some 60), .mv (.tmp 9), none, false⟩,
   ⟨(some 61), .loadn 5 (.tmp 1), none, false⟩,
   ⟨(some 62), .mv (.tmp 12), none, false⟩,
   ⟨(some 63), .mv (.tmp 6), none, false⟩,
   ⟨(some 64), .mv (.tmp 7), none, false⟩,
   ⟨(some 65), .call (.func 72) [(.tmp 61), (.tmp 62), (.tmp 63), (.tmp 64)], none, true⟩,
   ⟨(some 66), .mv (.tmp 8), none, false⟩,
   ⟨(some 67), .bin .mul (.tmp 65) (.tmp 66), none, false⟩,
   ⟨(some 68), .fadr 0 (.tmp 1), none, false⟩,
   ⟨(some 69), .load1 (.tmp 68), none, false⟩,
   ⟨(some 70), .bin .rem (.tmp 67) (.tmp 69), none, false⟩,
   ⟨(some 71), .bslice 2 1 1 [.int .i64 0] [(0, 1, (.tmp 70))], none, false⟩,
   ⟨(some 72), .app 2 1 8 (.tmp 60) (.tmp 71), none, false⟩,
   ⟨(some 9), .mv (.tmp 72), none, false⟩])))
  (.reg [⟨(some 73), .bin .add (.tmp 57) (.const (.int .i64 1)), none, false⟩,
   ⟨(some 57), .mv (.tmp 73), none, false⟩])))))))
  (.seq (.seq (.reg [⟨(some 74), .fadr 2 (.tmp 1), none, false⟩,
   ⟨(some 75), .load1 (.tmp 74), none, false⟩,
   ⟨(some 76), .mv (.const (.int .i64 0)), none, false⟩])
  (.blk 3 (.loop (.seq (.reg [⟨(some 77), .bin .lss (.tmp 76) (.tmp 75), none, false⟩])
  (.seq (.cond (.tmp 77) .skip (.exit 3))
  (.seq (.blk 4 (.seq (.reg [⟨(some 78), .mv (.tmp 76), none, false⟩,
   ⟨(some 13), .mv (.tmp 78), none, false⟩])
  (.reg [⟨(some 79), .mv (.tmp 10), none, false⟩,
   ⟨(some 80), .loadn 5 (.tmp 1), none, false⟩,
   ⟨(some 81), .mv (.tmp 5), none, false⟩,
   ⟨(some 82), .mv (.tmp 13), none, false⟩,
   ⟨(some 83), .mv (.tmp 7), none, false⟩,
   ⟨(some 84), .call (.func 72) [(.tmp 80), (.tmp 81), (.tmp 82), (.tmp 83)], none, true⟩,
   ⟨(some 85), .mv (.tmp 8), none, false⟩,
   ⟨(some 86), .bin .mul (.tmp 84) (.tmp 85), none, false⟩,
   ⟨(some 87), .fadr 0 (.tmp 1), none, false⟩,
   ⟨(some 88), .load1 (.tmp 87), none, false⟩,
   ⟨(some 89), .bin .rem (.tmp 86) (.tmp 88), none, false⟩,
   ⟨(some 90), .bslice 2 1 1 [.int .i64 0] [(0, 1, (.tmp 89))], none, false⟩,
   ⟨(some 91), .app 2 1 8 (.tmp 79) (.tmp 90), none, false⟩,
   ⟨(some 10), .mv (.tmp 91), none, false⟩])))
  (.reg [⟨(some 92), .bin .add (.tmp 76) (.const (.int .i64 1)), none, false⟩,
   ⟨(some 76), .mv (.tmp 92), none, false⟩])))))))
  (.seq (.seq (.reg [⟨(some 93), .fadr 3 (.tmp 1), none, false⟩,
   ⟨(some 94), .load1 (.tmp 93), none, false⟩,
   ⟨(some 95), .mv (.const (.int .i64 0)), none, false⟩])
  (.blk 5 (.loop (.seq (.reg [⟨(some 96), .bin .lss (.tmp 95) (.tmp 94), none, false⟩])
  (.seq (.cond (.tmp 96) .skip (.exit 5))
  (.seq (.blk 6 (.seq (.reg [⟨(some 97), .mv (.tmp 95), none, false⟩,
   ⟨(some 14), .mv (.tmp 97), none, false⟩])
  (.reg [⟨(some 98), .mv (.tmp 11), none, false⟩,
   ⟨(some 99), .loadn 5 (.tmp 1), none, false⟩,
   ⟨(some 100), .mv (.tmp 5), none, false⟩,
   ⟨(some 101), .mv (.tmp 6), none, false⟩,
   ⟨(some 102), .mv (.tmp 14), none, false⟩,
   ⟨(some 103), .call (.func 72) [(.tmp 99), (.tmp 100), (.tmp 101), (.tmp 102)], none, false⟩,
   ⟨(some 104), .bslice 2 1 1 [.int .i64 0] [(0, 1, (.tmp 103))], none, false⟩,
   ⟨(some 105), .app 2 1 8 (.tmp 98) (.tmp 104), none, false⟩,
   ⟨(some 11), .mv (.tmp 105), none, false⟩])))
  (.reg [⟨(some 106), .bin .add (.tmp 95) (.const (.int .i64 1)), none, false⟩,
   ⟨(some 95), .mv (.tmp 106), none, false⟩])))))))
  (.seq (.reg [⟨(some 107), .mv (.tmp 9), none, false⟩,
   ⟨(some 108), .mv (.tmp 10), none, false⟩,
   ⟨(some 109), .mv (.tmp 11), none, false⟩,
   ⟨(some 110), .bslice 22 1 3 [.slice none 0 0] [(0, 1, (.tmp 107)), (1, 1, (.tmp 108)), (2, 1, (.tmp 109))], none, false⟩,
   ⟨(some 2), .mv (.tmp 110), none, false⟩,
   ⟨(some 3), .mv (.const (.int .i64 0)), none, false⟩])
  .ret))))))))))⟩

theorem s21 : compFn Try.prog Try.f21 = some c21 := by kernel_rfl

/-- loop.example/g01262/laws.eqInt64SS -/
def c22 : XFn :=
 ⟨[.tmp 4],
  (.seq (.reg [⟨(some 4), .mv (.const (.bool false)), none, false⟩])
  (.seq (.seq (.reg [⟨(some 6), .mv (.tmp 0), none, false⟩,
   ⟨(some 7), .len (.tmp 6), none, false⟩,
   ⟨(some 8), .mv (.tmp 1), none, false⟩,
   ⟨(some 9), .len (.tmp 8), none, false⟩,
   ⟨(some 10), .bin .neq (.tmp 7) (.tmp 9), none, false⟩])
  (.cond (.tmp 10) (.seq (.reg [⟨(some 4), .mv (.const (.bool false)), none, false⟩])
  .ret) .skip))
  (.seq (.seq (.reg [⟨(some 5), .mv (.const (.int .i64 0)), none, false⟩])
  (.blk 0 (.loop (.seq (.seq (.reg [⟨(some 11), .mv (.tmp 5), none, false⟩,
   ⟨(some 12), .mv (.tmp 0), none, false⟩,
   ⟨(some 13), .len (.tmp 12), none, false⟩,
   ⟨(some 14), .bin .lss (.tmp 11) (.tmp 13), none, false⟩])
  (.cond (.tmp 14) .skip (.exit 0)))
  (.seq (.blk 1 (.seq (.reg [⟨(some 17), .mv (.tmp 0), none, false⟩,
   ⟨(some 18), .mv (.tmp 5), none, false⟩,
   ⟨(some 19), .ixs 1 (.tmp 17) (.tmp 18), none, false⟩,
   ⟨(some 20), .load1 (.tmp 19), none, false⟩,
   ⟨(some 21), .mv (.tmp 1), none, false⟩,
   ⟨(some 22), .mv (.tmp 5), none, false⟩,
   ⟨(some 23), .ixs 1 (.tmp 21) (.tmp 22), none, false⟩,
   ⟨(some 24), .load1 (.tmp 23), none, false⟩,
   ⟨(some 25), .call (.func 30) [(.tmp 20), (.tmp 24)], none, false⟩,
   ⟨(some 26), .un .not (.tmp 25), none, false⟩])
  (.cond (.tmp 26) (.seq (.reg [⟨(some 4), .mv (.const (.bool false)), none, false⟩])
  .ret) .skip)))
  (.reg [⟨(some 15), .mv (.tmp 5), none, false⟩,
   ⟨(some 16), .bin .add (.tmp 15) (.const (.int .i64 1)), none, false⟩,
   ⟨(some 5), .mv (.tmp 16), none, false⟩]))))))
  (.seq (.reg [⟨(some 4), .mv (.const (.bool true)), none, false⟩])
  .ret))))⟩

theorem s22 : compFn Try.prog Try.f22 = some c22 := by kernel_rfl

/-- loop.example/g01262/laws.markTensor -/
def c23 : XFn :=
 ⟨[.tmp 4],
  (.seq (.reg [⟨(some 2), .box 28 (.tmp 0), none, false⟩,
   ⟨(some 4), .mv (.const (.int .i64 0)), none, false⟩])
  (.seq (.reg [⟨(some 5), .fadr 4 (.tmp 2), none, false⟩,
   ⟨(some 6), .load1 (.tmp 5), none, false⟩,
   ⟨(some 7), .mv (.tmp 1), none, false⟩,
   ⟨(some 8), .call (.func 33) [(.tmp 6), (.tmp 7)], none, false⟩,
   ⟨(some 1), .mv (.tmp 8), none, false⟩])
  (.seq (.reg [⟨(some 9), .mv (.tmp 1), none, false⟩,
   ⟨(some 4), .mv (.tmp 9), none, false⟩])
  .ret)))⟩

theorem s23 : compFn Try.prog Try.f23 = some c23 := by kernel_rfl

/-- loop.example/g01262/laws.markInt64SS -/
def c24 : XFn :=
 ⟨[.tmp 4],
  (.seq (.reg [⟨(some 4), .mv (.const (.int .i64 0)), none, false⟩])
  (.seq (.seq (.reg [⟨(some 5), .mv (.const (.int .i64 0)), none, false⟩])
  (.blk 0 (.loop (.seq (.seq (.reg [⟨(some 6), .mv (.tmp 5), none, false⟩,
   ⟨(some 7), .mv (.tmp 0), none, false⟩,
   ⟨(some 8), .len (.tmp 7), none, false⟩,
   ⟨(some 9), .bin .lss (.tmp 6) (.tmp 8), none, false⟩])
  (.cond (.tmp 9) .skip (.exit 0)))
  (.seq (.blk 1 (.reg [⟨(some 12), .mv (.tmp 0), none, false⟩,
   ⟨(some 13), .mv (.tmp 5), none, false⟩,
   ⟨(some 14), .ixs 1 (.tmp 12) (.tmp 13), none, false⟩,
   ⟨(some 15), .load1 (.tmp 14), none, false⟩,
   ⟨(some 16), .mv (.tmp 1), none, false⟩,
   ⟨(some 17), .call (.func 33) [(.tmp 15), (.tmp 16)], none, false⟩,
   ⟨(some 1), .mv (.tmp 17), none, false⟩]))
  (.reg [⟨(some 10), .mv (.tmp 5), none, false⟩,
   ⟨(some 11), .bin .add (.tmp 10) (.const (.int .i64 1)), none, false⟩,
   ⟨(some 5), .mv (.tmp 11), none, false⟩]))))))
  (.seq (.reg [⟨(some 18), .mv (.tmp 1), none, false⟩,
   ⟨(some 4), .mv (.tmp 18), none, false⟩])
  .ret)))⟩

theorem s24 : compFn Try.prog Try.f24 = some c24 := by kernel_rfl

/-- loop.example/g01262/laws.heldInt64SS -/
def c25 : XFn :=
 ⟨[.tmp 4],
  (.seq (.reg [⟨(some 4), .mv (.const (.int .i64 0)), none, false⟩])
  (.seq (.seq (.reg [⟨(some 5), .mv (.const (.int .i64 0)), none, false⟩])
  (.blk 0 (.loop (.seq (.seq (.reg [⟨(some 6), .mv (.tmp 5), none, false⟩,
   ⟨(some 7), .mv (.tmp 0), none, false⟩,
   ⟨(some 8), .len (.tmp 7), none, false⟩,
   ⟨(some 9), .bin .lss (.tmp 6) (.tmp 8), none, false⟩])
  (.cond (.tmp 9) .skip (.exit 0)))
  (.seq (.blk 1 (.seq (.reg [⟨(some 12), .mv (.tmp 0), none, false⟩,
   ⟨(some 13), .mv (.tmp 5), none, false⟩,
   ⟨(some 14), .ixs 1 (.tmp 12) (.tmp 13), none, false⟩,
   ⟨(some 15), .load1 (.tmp 14), none, false⟩,
   ⟨(some 16), .mv (.tmp 1), none, false⟩,
   ⟨(some 17), .call (.func 34) [(.tmp 15), (.tmp 16)], none, false⟩,
   ⟨(some 1), .mv (.tmp 17), none, false⟩])
  (.seq (.reg [⟨(some 18), .mv (.tmp 1), none, false⟩,
   ⟨(some 19), .bin .lss (.tmp 18) (.const (.int .i64 0)), none, false⟩])
  (.cond (.tmp 19) (.seq (.reg [⟨(some 4), .mv (.const (.int .i64 (-1))), none, false⟩])
  .ret) .skip))))
  (.reg [⟨(some 10), .mv (.tmp 5), none, false⟩,
   ⟨(some 11), .bin .add (.tmp 10) (.const (.int .i64 1)), none, false⟩,
   ⟨(some 5), .mv (.tmp 11), none, false⟩]))))))
  (.seq (.reg [⟨(some 20), .mv (.tmp 1), none, false⟩,
   ⟨(some 4), .mv (.tmp 20), none, false⟩])
  .ret)))⟩

theorem s25 : compFn Try.prog Try.f25 = some c25 := by kernel_rfl

/-- loop.example/g01262/laws.szProgram -/
def c26 : XFn :=
 ⟨[.tmp 4],
  (.seq (.reg [⟨(some 2), .box 41 (.tmp 0), none, false⟩,
   ⟨(some 4), .mv (.const (.int .i64 0)), none, false⟩])
  (.seq (.reg [⟨(some 5), .fadr 2 (.tmp 2), none, false⟩,
   ⟨(some 6), .load1 (.tmp 5), none, false⟩,
   ⟨(some 7), .mv (.tmp 1), none, false⟩,
   ⟨(some 8), .call (.func 73) [(.tmp 6), (.tmp 7)], none, false⟩,
   ⟨(some 1), .mv (.tmp 8), none, false⟩])
  (.seq (.seq (.reg [⟨(some 9), .mv (.tmp 1), none, false⟩,
   ⟨(some 10), .bin .lss (.tmp 9) (.const (.int .i64 0)), none, false⟩])
  (.cond (.tmp 10) (.seq (.reg [⟨(some 4), .mv (.const (.int .i64 (-1))), none, false⟩])
  .ret) .skip))
  (.seq (.reg [⟨(some 11), .fadr 3 (.tmp 2), none, false⟩,
   ⟨(some 12), .load1 (.tmp 11), none, false⟩,
   ⟨(some 13), .mv (.tmp 1), none, false⟩,
   ⟨(some 14), .call (.func 74) [(.tmp 12), (.tmp 13)], none, false⟩,
   ⟨(some 1), .mv (.tmp 14), none, false⟩])
  (.seq (.seq (.reg [⟨(some 15), .mv (.tmp 1), none, false⟩,
   ⟨(some 16), .bin .lss (.tmp 15) (.const (.int .i64 0)), none, false⟩])
  (.cond (.tmp 16) (.seq (.reg [⟨(some 4), .mv (.const (.int .i64 (-1))), none, false⟩])
  .ret) .skip))
  (.seq (.reg [⟨(some 17), .mv (.tmp 1), none, false⟩,
   ⟨(some 4), .mv (.tmp 17), none, false⟩])
  .ret))))))⟩

theorem s26 : compFn Try.prog Try.f26 = some c26 := by kernel_rfl

/-- loop.example/g01262/spec.DepthsOf -/
def c27 : XFn :=
 ⟨[.tmp 2, .tmp 3],
  (.seq (.reg [⟨(some 1), .box 48 (.tmp 0), none, false⟩,
   ⟨(some 2), .mv (.const (.slice none 0 0)), none, false⟩,
   ⟨(some 3), .mv (.const (.int .i64 0)), none, false⟩])
  (.seq (.seq (.reg [⟨(some 8), .loadn 4 (.tmp 1), none, false⟩,
   ⟨(some 9), .call (.func 75) [(.tmp 8)], none, false⟩,
   ⟨(some 10), .un .not (.tmp 9), none, false⟩])
  (.cond (.tmp 10) (.seq (.reg [⟨(some 2), .mv (.const (.slice none 0 0)), none, false⟩,
   ⟨(some 3), .mv (.const (.int .i64 1)), none, false⟩])
  .ret) .skip))
  (.seq (.reg [⟨(some 11), .fadr 1 (.tmp 1), none, false⟩,
   ⟨(some 12), .load1 (.tmp 11), none, false⟩,
   ⟨(some 13), .mks 2 1 8 [.int .i64 0] (.tmp 12), none, false⟩,
   ⟨(some 14), .bslice 2 1 0 [.int .i64 0] [], none, false⟩,
   ⟨(some 4), .mv (.tmp 13), none, false⟩,
   ⟨(some 5), .mv (.tmp 14), none, false⟩])
  (.seq (.seq (.reg [⟨(some 6), .mv (.const (.int .i64 0)), none, false⟩])
  (.blk 0 (.loop (.seq (.seq (.reg [⟨(some 15), .mv (.tmp 6), none, false⟩,
   ⟨(some 16), .fadr 2 (.tmp 1), none, false⟩,
   ⟨(some 17), .load1 (.tmp 16), none, false⟩,
   ⟨(some 18), .len (.tmp 17), none, false⟩,
   ⟨(some 19), .bin .lss (.tmp 15) (.tmp 18), none, false⟩])
  (.cond (.tmp 19) .skip (.exit 0)))
  (.seq (.blk 1 (.reg [⟨(some 22), .mv (.tmp 4), none, false⟩,
   ⟨(some 23), .mv (.tmp 4), none, false⟩,
   ⟨(some 24), .fadr 2 (.tmp 1), none, false⟩,
   ⟨(some 25), .load1 (.tmp 24), none, false⟩,
   ⟨(some 26), .mv (.tmp 6), none, false⟩,
   ⟨(some 27), .ixs 3 (.tmp 25) (.tmp 26), none, false⟩,
   ⟨(some 28), .fadr 0 (.tmp 27), none, false⟩,
   ⟨(some 29), .load1 (.tmp 28), none, false⟩,
   ⟨(some 30), .ixs 1 (.tmp 23) (.tmp 29), none, false⟩,
   ⟨(some 31), .load1 (.tmp 30), none, false⟩,
   ⟨(some 32), .mv (.tmp 4), none, false⟩,
   ⟨(some 33), .fadr 2 (.tmp 1), none, false⟩,
   ⟨(some 34), .load1 (.tmp 33), none, false⟩,
   ⟨(some 35), .mv (.tmp 6), none, false⟩,
   ⟨(some 36), .ixs 3 (.tmp 34) (.tmp 35), none, false⟩,
   ⟨(some 37), .fadr 1 (.tmp 36), none, false⟩,
   ⟨(some 38), .load1 (.tmp 37), none, false⟩,
   ⟨(some 39), .ixs 1 (.tmp 32) (.tmp 38), none, false⟩,
   ⟨(some 40), .load1 (.tmp 39), none, false⟩,
   ⟨(some 41), .mm true (.tmp 31) [(.tmp 40)], none, false⟩,
   ⟨(some 42), .bin .add (.const (.int .i64 1)) (.tmp 41), none, false⟩,
   ⟨(some 43), .bslice 2 1 1 [.int .i64 0] [(0, 1, (.tmp 42))], none, false⟩,
   ⟨(some 44), .app 2 1 8 (.tmp 22) (.tmp 43), none, false⟩,
   ⟨(some 4), .mv (.tmp 44), none, false⟩]))
  (.reg [⟨(some 20), .mv (.tmp 6), none, false⟩,
   ⟨(some 21), .bin .add (.tmp 20) (.const (.int .i64 1)), none, false⟩,
   ⟨(some 6), .mv (.tmp 21), none, false⟩]))))))
  (.seq (.seq (.reg [⟨(some 7), .mv (.const (.int .i64 0)), none, false⟩])
  (.blk 2 (.loop (.seq (.seq (.reg [⟨(some 45), .mv (.tmp 7), none, false⟩,
   ⟨(some 46), .fadr 3 (.tmp 1), none, false⟩,
   ⟨(some 47), .load1 (.tmp 46), none, false⟩,
   ⟨(some 48), .len (.tmp 47), none, false⟩,
   ⟨(some 49), .bin .lss (.tmp 45) (.tmp 48), none, false⟩])
  (.cond (.tmp 49) .skip (.exit 2)))
  (.seq (.blk 3 (.seq (.reg [⟨(some 52), .fadr 3 (.tmp 1), none, false⟩,
   ⟨(some 53), .load1 (.tmp 52), none, false⟩,
   ⟨(some 54), .mv (.tmp 7), none, false⟩,
   ⟨(some 55), .ixs 2 (.tmp 53) (.tmp 54), none, false⟩,
   ⟨(some 56), .fadr 1 (.tmp 55), none, false⟩,
   ⟨(some 57), .load1 (.tmp 56), none, false⟩,
   ⟨(some 58), .bin .eql (.tmp 57) (.const (.int .i64 0)), none, false⟩])
  (.cond (.tmp 58) (.reg [⟨(some 59), .mv (.tmp 5), none, false⟩,
   ⟨(some 60), .bslice 2 1 1 [.int .i64 0] [(0, 1, (.const (.int .i64 0)))], none, false⟩,
   ⟨(some 61), .app 2 1 8 (.tmp 59) (.tmp 60), none, false⟩,
   ⟨(some 5), .mv (.tmp 61), none, false⟩]) (.reg [⟨(some 62), .mv (.tmp 5), none, false⟩,
   ⟨(some 63), .mv (.tmp 4), none, false⟩,
   ⟨(some 64), .fadr 3 (.tmp 1), none, false⟩,
   ⟨(some 65), .load1 (.tmp 64), none, false⟩,
   ⟨(some 66), .mv (.tmp 7), none, false⟩,
   ⟨(some 67), .ixs 2 (.tmp 65) (.tmp 66), none, false⟩,
   ⟨(some 68), .fadr 0 (.tmp 67), none, false⟩,
   ⟨(some 69), .load1 (.tmp 68), none, false⟩,
   ⟨(some 70), .ixs 1 (.tmp 63) (.tmp 69), none, false⟩,
   ⟨(some 71), .load1 (.tmp 70), none, false⟩,
   ⟨(some 72), .bslice 2 1 1 [.int .i64 0] [(0, 1, (.tmp 71))], none, false⟩,
   ⟨(some 73), .app 2 1 8 (.tmp 62) (.tmp 72), none, false⟩,
   ⟨(some 5), .mv (.tmp 73), none, false⟩]))))
  (.reg [⟨(some 50), .mv (.tmp 7), none, false⟩,
   ⟨(some 51), .bin .add (.tmp 50) (.const (.int .i64 1)), none, false⟩,
   ⟨(some 7), .mv (.tmp 51), none, false⟩]))))))
  (.seq (.reg [⟨(some 74), .mv (.tmp 5), none, false⟩,
   ⟨(some 2), .mv (.tmp 74), none, false⟩,
   ⟨(some 3), .mv (.const (.int .i64 0)), none, false⟩])
  .ret))))))⟩

theorem s27 : compFn Try.prog Try.f27 = some c27 := by kernel_rfl

/-- loop.example/g01262/laws.toProgram -/
def c28 : XFn :=
 ⟨[.celln 2 4],
  (.seq (.reg [⟨(some 1), .box 41 (.tmp 0), none, false⟩,
   ⟨(some 2), .alloc 48 [.int .i64 0, .int .i64 0, .slice none 0 0, .slice none 0 0], none, false⟩])
  (.seq (.reg [⟨(some 3), .alloc 48 [.int .i64 0, .int .i64 0, .slice none 0 0, .slice none 0 0], none, false⟩])
  (.seq (.reg [⟨(some 4), .fadr 0 (.tmp 1), none, false⟩,
   ⟨(some 5), .load1 (.tmp 4), none, false⟩,
   ⟨(some 6), .fadr 0 (.tmp 3), none, false⟩,
   ⟨none, .store 1 (.tmp 6) (.tmp 5), none, false⟩])
  (.seq (.reg [⟨(some 7), .fadr 1 (.tmp 1), none, false⟩,
   ⟨(some 8), .load1 (.tmp 7), none, false⟩,
   ⟨(some 9), .fadr 1 (.tmp 3), none, false⟩,
   ⟨none, .store 1 (.tmp 9) (.tmp 8), none, false⟩])
  (.seq (.reg [⟨(some 10), .fadr 2 (.tmp 1), none, false⟩,
   ⟨(some 11), .load1 (.tmp 10), none, false⟩,
   ⟨(some 12), .call (.func 76) [(.tmp 11)], none, false⟩,
   ⟨(some 13), .fadr 2 (.tmp 3), none, false⟩,
   ⟨none, .store 1 (.tmp 13) (.tmp 12), none, false⟩])
  (.seq (.reg [⟨(some 14), .fadr 3 (.tmp 1), none, false⟩,
   ⟨(some 15), .load1 (.tmp 14), none, false⟩,
   ⟨(some 16), .call (.func 77) [(.tmp 15)], none, false⟩,
   ⟨(some 17), .fadr 3 (.tmp 3), none, false⟩,
   ⟨none, .store 1 (.tmp 17) (.tmp 16), none, false⟩])
  (.seq (.reg [⟨(some 18), .loadn 4 (.tmp 3), none, false⟩,
   ⟨none, .store 4 (.tmp 2) (.tmp 18), none, false⟩])
  .ret)))))))⟩

theorem s28 : compFn Try.prog Try.f28 = some c28 := by kernel_rfl

/-- loop.example/g01262/impl.DepthsOf -/
def c29 : XFn :=
 ⟨[.tmp 2, .tmp 3],
  (.seq (.reg [⟨(some 1), .box 48 (.tmp 0), none, false⟩,
   ⟨(some 2), .mv (.const (.slice none 0 0)), none, false⟩,
   ⟨(some 3), .mv (.const (.int .i64 0)), none, false⟩])
  (.seq (.seq (.reg [⟨(some 10), .loadn 4 (.tmp 1), none, false⟩,
   ⟨(some 11), .call (.func 78) [(.tmp 10)], none, false⟩,
   ⟨(some 12), .un .not (.tmp 11), none, false⟩])
  (.cond (.tmp 12) (.seq (.reg [⟨(some 2), .mv (.const (.slice none 0 0)), none, false⟩,
   ⟨(some 3), .mv (.const (.int .i64 1)), none, false⟩])
  .ret) .skip))
  (.seq (.reg [⟨(some 13), .fadr 1 (.tmp 1), none, false⟩,
   ⟨(some 14), .load1 (.tmp 13), none, false⟩,
   ⟨(some 15), .mks 2 1 8 [.int .i64 0] (.tmp 14), none, false⟩,
   ⟨(some 4), .mv (.tmp 15), none, false⟩])
  (.seq (.seq (.reg [⟨(some 16), .fadr 2 (.tmp 1), none, false⟩,
   ⟨(some 17), .load1 (.tmp 16), none, false⟩,
   ⟨(some 18), .len (.tmp 17), none, false⟩,
   ⟨(some 19), .mv (.const (.int .i64 0)), none, false⟩])
  (.blk 0 (.loop (.seq (.reg [⟨(some 20), .bin .lss (.tmp 19) (.tmp 18), none, false⟩])
  (.seq (.cond (.tmp 20) .skip (.exit 0))
  (.seq (.blk 1 (.seq (.reg [⟨(some 21), .ixs 3 (.tmp 17) (.tmp 19), none, false⟩,
   ⟨(some 22), .loadn 3 (.tmp 21), none, false⟩,
   ⟨(some 6), .alloc 96 [.int .i64 0, .int .i64 0, .int .i64 0], none, false⟩,
   ⟨none, .store 3 (.tmp 6) (.tmp 22), none, false⟩])
  (.reg [⟨(some 23), .mv (.tmp 4), none, false⟩,
   ⟨(some 24), .mv (.tmp 4), none, false⟩,
   ⟨(some 25), .fadr 0 (.tmp 6), none, false⟩,
   ⟨(some 26), .load1 (.tmp 25), none, false⟩,
   ⟨(some 27), .ixs 1 (.tmp 24) (.tmp 26), none, false⟩,
   ⟨(some 28), .load1 (.tmp 27), none, false⟩,
   ⟨(some 29), .mv (.tmp 4), none, false⟩,
   ⟨(some 30), .fadr 1 (.tmp 6), none, false⟩,
   ⟨(some 31), .load1 (.tmp 30), none, false⟩,
   ⟨(some 32), .ixs 1 (.tmp 29) (.tmp 31), none, false⟩,
   ⟨(some 33), .load1 (.tmp 32), none, false⟩,
   ⟨(some 34), .mm true (.tmp 28) [(.tmp 33)], none, false⟩,
   ⟨(some 35), .bin .add (.const (.int .i64 1)) (.tmp 34), none, false⟩,
   ⟨(some 36), .bslice 2 1 1 [.int .i64 0] [(0, 1, (.tmp 35))], none, false⟩,
   ⟨(some 37), .app 2 1 8 (.tmp 23) (.tmp 36), none, false⟩,
   ⟨(some 4), .mv (.tmp 37), none, false⟩])))
  (.reg [⟨(some 38), .bin .add (.tmp 19) (.const (.int .i64 1)), none, false⟩,
   ⟨(some 19), .mv (.tmp 38), none, false⟩])))))))
  (.seq (.reg [⟨(some 39), .bslice 2 1 0 [.int .i64 0] [], none, false⟩,
   ⟨(some 7), .mv (.tmp 39), none, false⟩])
  (.seq (.seq (.reg [⟨(some 40), .fadr 3 (.tmp 1), none, false⟩,
   ⟨(some 41), .load1 (.tmp 40), none, false⟩,
   ⟨(some 42), .len (.tmp 41), none, false⟩,
   ⟨(some 43), .mv (.const (.int .i64 0)), none, false⟩])
  (.blk 2 (.loop (.seq (.reg [⟨(some 44), .bin .lss (.tmp 43) (.tmp 42), none, false⟩])
  (.seq (.cond (.tmp 44) .skip (.exit 2))
  (.seq (.blk 3 (.seq (.reg [⟨(some 45), .ixs 2 (.tmp 41) (.tmp 43), none, false⟩,
   ⟨(some 46), .loadn 2 (.tmp 45), none, false⟩,
   ⟨(some 9), .alloc 98 [.int .i64 0, .int .i64 0], none, false⟩,
   ⟨none, .store 2 (.tmp 9) (.tmp 46), none, false⟩])
  (.seq (.reg [⟨(some 47), .fadr 1 (.tmp 9), none, false⟩,
   ⟨(some 48), .load1 (.tmp 47), none, false⟩,
   ⟨(some 49), .bin .eql (.tmp 48) (.const (.int .i64 0)), none, false⟩])
  (.cond (.tmp 49) (.reg [⟨(some 50), .mv (.tmp 7), none, false⟩,
   ⟨(some 51), .bslice 2 1 1 [.int .i64 0] [(0, 1, (.const (.int .i64 0)))], none, false⟩,
   ⟨(some 52), .app 2 1 8 (.tmp 50) (.tmp 51), none, false⟩,
   ⟨(some 7), .mv (.tmp 52), none, false⟩]) (.reg [⟨(some 53), .mv (.tmp 7), none, false⟩,
   ⟨(some 54), .mv (.tmp 4), none, false⟩,
   ⟨(some 55), .fadr 0 (.tmp 9), none, false⟩,
   ⟨(some 56), .load1 (.tmp 55), none, false⟩,
   ⟨(some 57), .ixs 1 (.tmp 54) (.tmp 56), none, false⟩,
   ⟨(some 58), .load1 (.tmp 57), none, false⟩,
   ⟨(some 59), .bslice 2 1 1 [.int .i64 0] [(0, 1, (.tmp 58))], none, false⟩,
   ⟨(some 60), .app 2 1 8 (.tmp 53) (.tmp 59), none, false⟩,
   ⟨(some 7), .mv (.tmp 60), none, false⟩])))))
  (.reg [⟨(some 61), .bin .add (.tmp 43) (.const (.int .i64 1)), none, false⟩,
   ⟨(some 43), .mv (.tmp 61), none, false⟩])))))))
  (.seq (.reg [⟨(some 62), .mv (.tmp 7), none, false⟩,
   ⟨(some 2), .mv (.tmp 62), none, false⟩,
   ⟨(some 3), .mv (.const (.int .i64 0)), none, false⟩])
  .ret)))))))⟩

theorem s29 : compFn Try.prog Try.f29 = some c29 := by kernel_rfl

/-- loop.example/g01262/laws.eqInt64S -/
def c30 : XFn :=
 ⟨[.tmp 4],
  (.seq (.reg [⟨(some 4), .mv (.const (.bool false)), none, false⟩])
  (.seq (.seq (.reg [⟨(some 6), .mv (.tmp 0), none, false⟩,
   ⟨(some 7), .len (.tmp 6), none, false⟩,
   ⟨(some 8), .mv (.tmp 1), none, false⟩,
   ⟨(some 9), .len (.tmp 8), none, false⟩,
   ⟨(some 10), .bin .neq (.tmp 7) (.tmp 9), none, false⟩])
  (.cond (.tmp 10) (.seq (.reg [⟨(some 4), .mv (.const (.bool false)), none, false⟩])
  .ret) .skip))
  (.seq (.seq (.reg [⟨(some 5), .mv (.const (.int .i64 0)), none, false⟩])
  (.blk 0 (.loop (.seq (.seq (.reg [⟨(some 11), .mv (.tmp 5), none, false⟩,
   ⟨(some 12), .mv (.tmp 0), none, false⟩,
   ⟨(some 13), .len (.tmp 12), none, false⟩,
   ⟨(some 14), .bin .lss (.tmp 11) (.tmp 13), none, false⟩])
  (.cond (.tmp 14) .skip (.exit 0)))
  (.seq (.blk 1 (.seq (.reg [⟨(some 17), .mv (.tmp 0), none, false⟩,
   ⟨(some 18), .mv (.tmp 5), none, false⟩,
   ⟨(some 19), .ixs 1 (.tmp 17) (.tmp 18), none, false⟩,
   ⟨(some 20), .load1 (.tmp 19), none, false⟩,
   ⟨(some 21), .mv (.tmp 1), none, false⟩,
   ⟨(some 22), .mv (.tmp 5), none, false⟩,
   ⟨(some 23), .ixs 1 (.tmp 21) (.tmp 22), none, false⟩,
   ⟨(some 24), .load1 (.tmp 23), none, false⟩,
   ⟨(some 25), .bin .neq (.tmp 20) (.tmp 24), none, false⟩])
  (.cond (.tmp 25) (.seq (.reg [⟨(some 4), .mv (.const (.bool false)), none, false⟩])
  .ret) .skip)))
  (.reg [⟨(some 15), .mv (.tmp 5), none, false⟩,
   ⟨(some 16), .bin .add (.tmp 15) (.const (.int .i64 1)), none, false⟩,
   ⟨(some 5), .mv (.tmp 16), none, false⟩]))))))
  (.seq (.reg [⟨(some 4), .mv (.const (.bool true)), none, false⟩])
  .ret))))⟩

theorem s30 : compFn Try.prog Try.f30 = some c30 := by kernel_rfl

/-- loop.example/g01262/laws.eqProgram -/
def c31 : XFn :=
 ⟨[.tmp 4],
  (.seq (.reg [⟨(some 2), .box 48 (.tmp 0), none, false⟩,
   ⟨(some 3), .box 48 (.tmp 1), none, false⟩,
   ⟨(some 4), .mv (.const (.bool false)), none, false⟩])
  (.seq (.seq (.reg [⟨(some 5), .fadr 0 (.tmp 2), none, false⟩,
   ⟨(some 6), .load1 (.tmp 5), none, false⟩,
   ⟨(some 7), .fadr 0 (.tmp 3), none, false⟩,
   ⟨(some 8), .load1 (.tmp 7), none, false⟩,
   ⟨(some 9), .bin .neq (.tmp 6) (.tmp 8), none, false⟩])
  (.cond (.tmp 9) (.seq (.reg [⟨(some 4), .mv (.const (.bool false)), none, false⟩])
  .ret) .skip))
  (.seq (.seq (.reg [⟨(some 10), .fadr 1 (.tmp 2), none, false⟩,
   ⟨(some 11), .load1 (.tmp 10), none, false⟩,
   ⟨(some 12), .fadr 1 (.tmp 3), none, false⟩,
   ⟨(some 13), .load1 (.tmp 12), none, false⟩,
   ⟨(some 14), .bin .neq (.tmp 11) (.tmp 13), none, false⟩])
  (.cond (.tmp 14) (.seq (.reg [⟨(some 4), .mv (.const (.bool false)), none, false⟩])
  .ret) .skip))
  (.seq (.seq (.reg [⟨(some 15), .fadr 2 (.tmp 2), none, false⟩,
   ⟨(some 16), .load1 (.tmp 15), none, false⟩,
   ⟨(some 17), .fadr 2 (.tmp 3), none, false⟩,
   ⟨(some 18), .load1 (.tmp 17), none, false⟩,
   ⟨(some 19), .call (.func 79) [(.tmp 16), (.tmp 18)], none, false⟩,
   ⟨(some 20), .un .not (.tmp 19), none, false⟩])
  (.cond (.tmp 20) (.seq (.reg [⟨(some 4), .mv (.const (.bool false)), none, false⟩])
  .ret) .skip))
  (.seq (.seq (.reg [⟨(some 21), .fadr 3 (.tmp 2), none, false⟩,
   ⟨(some 22), .load1 (.tmp 21), none, false⟩,
   ⟨(some 23), .fadr 3 (.tmp 3), none, false⟩,
   ⟨(some 24), .load1 (.tmp 23), none, false⟩,
   ⟨(some 25), .call (.func 80) [(.tmp 22), (.tmp 24)], none, false⟩,
   ⟨(some 26), .un .not (.tmp 25), none, false⟩])
  (.cond (.tmp 26) (.seq (.reg [⟨(some 4), .mv (.const (.bool false)), none, false⟩])
  .ret) .skip))
  (.seq (.reg [⟨(some 4), .mv (.const (.bool true)), none, false⟩])
  .ret))))))⟩

theorem s31 : compFn Try.prog Try.f31 = some c31 := by kernel_rfl

/-- loop.example/g01262/laws.markProgram -/
def c32 : XFn :=
 ⟨[.tmp 4],
  (.seq (.reg [⟨(some 2), .box 48 (.tmp 0), none, false⟩,
   ⟨(some 4), .mv (.const (.int .i64 0)), none, false⟩])
  (.seq (.reg [⟨(some 5), .fadr 2 (.tmp 2), none, false⟩,
   ⟨(some 6), .load1 (.tmp 5), none, false⟩,
   ⟨(some 7), .mv (.tmp 1), none, false⟩,
   ⟨(some 8), .call (.func 81) [(.tmp 6), (.tmp 7)], none, false⟩,
   ⟨(some 1), .mv (.tmp 8), none, false⟩])
  (.seq (.reg [⟨(some 9), .fadr 3 (.tmp 2), none, false⟩,
   ⟨(some 10), .load1 (.tmp 9), none, false⟩,
   ⟨(some 11), .mv (.tmp 1), none, false⟩,
   ⟨(some 12), .call (.func 82) [(.tmp 10), (.tmp 11)], none, false⟩,
   ⟨(some 1), .mv (.tmp 12), none, false⟩])
  (.seq (.reg [⟨(some 13), .mv (.tmp 1), none, false⟩,
   ⟨(some 4), .mv (.tmp 13), none, false⟩])
  .ret))))⟩

theorem s32 : compFn Try.prog Try.f32 = some c32 := by kernel_rfl

/-- loop.example/g01262/laws.markInt64S -/
def c33 : XFn :=
 ⟨[.tmp 4],
  (.seq (.reg [⟨(some 4), .mv (.const (.int .i64 0)), none, false⟩])
  (.seq (.seq (.reg [⟨(some 5), .mv (.const (.int .i64 0)), none, false⟩])
  (.blk 0 (.loop (.seq (.seq (.reg [⟨(some 6), .mv (.tmp 5), none, false⟩,
   ⟨(some 7), .mv (.tmp 0), none, false⟩,
   ⟨(some 8), .len (.tmp 7), none, false⟩,
   ⟨(some 9), .bin .lss (.tmp 6) (.tmp 8), none, false⟩])
  (.cond (.tmp 9) .skip (.exit 0)))
  (.seq (.blk 1 (.seq (.reg [⟨(some 12), .mv (.tmp 0), none, false⟩,
   ⟨(some 13), .mv (.tmp 5), none, false⟩,
   ⟨(some 14), .mv (.tmp 1), none, false⟩,
   ⟨(some 15), .ixs 1 (.tmp 12) (.tmp 13), none, false⟩,
   ⟨none, .store 1 (.tmp 15) (.tmp 14), none, false⟩])
  (.reg [⟨(some 16), .mv (.tmp 1), none, false⟩,
   ⟨(some 17), .bin .add (.tmp 16) (.const (.int .i64 1)), none, false⟩,
   ⟨(some 1), .mv (.tmp 17), none, false⟩])))
  (.reg [⟨(some 10), .mv (.tmp 5), none, false⟩,
   ⟨(some 11), .bin .add (.tmp 10) (.const (.int .i64 1)), none, false⟩,
   ⟨(some 5), .mv (.tmp 11), none, false⟩]))))))
  (.seq (.reg [⟨(some 18), .mv (.tmp 1), none, false⟩,
   ⟨(some 4), .mv (.tmp 18), none, false⟩])
  .ret)))⟩

theorem s33 : compFn Try.prog Try.f33 = some c33 := by kernel_rfl

/-- loop.example/g01262/laws.heldInt64S -/
def c34 : XFn :=
 ⟨[.tmp 4],
  (.seq (.reg [⟨(some 4), .mv (.const (.int .i64 0)), none, false⟩])
  (.seq (.seq (.reg [⟨(some 5), .mv (.const (.int .i64 0)), none, false⟩])
  (.blk 0 (.loop (.seq (.seq (.reg [⟨(some 6), .mv (.tmp 5), none, false⟩,
   ⟨(some 7), .mv (.tmp 0), none, false⟩,
   ⟨(some 8), .len (.tmp 7), none, false⟩,
   ⟨(some 9), .bin .lss (.tmp 6) (.tmp 8), none, false⟩])
  (.cond (.tmp 9) .skip (.exit 0)))
  (.seq (.blk 1 (.seq (.seq (.reg [⟨(some 12), .mv (.tmp 0), none, false⟩,
   ⟨(some 13), .mv (.tmp 5), none, false⟩,
   ⟨(some 14), .ixs 1 (.tmp 12) (.tmp 13), none, false⟩,
   ⟨(some 15), .load1 (.tmp 14), none, false⟩,
   ⟨(some 16), .mv (.tmp 1), none, false⟩,
   ⟨(some 17), .bin .neq (.tmp 15) (.tmp 16), none, false⟩])
  (.cond (.tmp 17) (.seq (.reg [⟨(some 4), .mv (.const (.int .i64 (-1))), none, false⟩])
  .ret) .skip))
  (.reg [⟨(some 18), .mv (.tmp 1), none, false⟩,
   ⟨(some 19), .bin .add (.tmp 18) (.const (.int .i64 1)), none, false⟩,
   ⟨(some 1), .mv (.tmp 19), none, false⟩])))
  (.reg [⟨(some 10), .mv (.tmp 5), none, false⟩,
   ⟨(some 11), .bin .add (.tmp 10) (.const (.int .i64 1)), none, false⟩,
   ⟨(some 5), .mv (.tmp 11), none, false⟩]))))))
  (.seq (.reg [⟨(some 20), .mv (.tmp 1), none, false⟩,
   ⟨(some 4), .mv (.tmp 20), none, false⟩])
  .ret)))⟩

theorem s34 : compFn Try.prog Try.f34 = some c34 := by kernel_rfl

/-- loop.example/g01262/spec.RunProgram -/
def c35 : XFn :=
 ⟨[.tmp 4, .tmp 5],
  (.seq (.reg [⟨(some 2), .box 48 (.tmp 0), none, false⟩,
   ⟨(some 4), .mv (.const (.slice none 0 0)), none, false⟩,
   ⟨(some 5), .mv (.const (.int .i64 0)), none, false⟩])
  (.seq (.blk 0 (.seq (.reg [⟨(some 7), .loadn 4 (.tmp 2), none, false⟩,
   ⟨(some 8), .call (.func 75) [(.tmp 7)], none, false⟩,
   ⟨(some 9), .un .not (.tmp 8), none, false⟩,
   ⟨(some 6), .mv (.tmp 9), none, false⟩])
  (.cond (.tmp 6) (.seq (.reg [⟨(some 4), .mv (.const (.slice none 0 0)), none, false⟩,
   ⟨(some 5), .mv (.const (.int .i64 1)), none, false⟩])
  .ret) (.seq (.reg [⟨(some 11), .fadr 0 (.tmp 2), none, false⟩,
   ⟨(some 12), .load1 (.tmp 11), none, false⟩,
   ⟨(some 13), .mv (.tmp 1), none, false⟩,
   ⟨(some 14), .fadr 1 (.tmp 2), none, false⟩,
   ⟨(some 15), .load1 (.tmp 14), none, false⟩,
   ⟨(some 16), .call (.func 83) [(.tmp 12), (.tmp 13), (.tmp 15)], none, false⟩,
   ⟨(some 17), .un .not (.tmp 16), none, false⟩,
   ⟨(some 10), .mv (.tmp 17), none, false⟩])
  (.cond (.tmp 10) (.seq (.reg [⟨(some 4), .mv (.const (.slice none 0 0)), none, false⟩,
   ⟨(some 5), .mv (.const (.int .i64 2)), none, false⟩])
  .ret) .skip)))))
  (.seq (.reg [⟨(some 18), .loadn 4 (.tmp 2), none, false⟩,
   ⟨(some 19), .mv (.tmp 1), none, false⟩,
   ⟨(some 20), .call (.func 84) [(.tmp 18), (.tmp 19)], none, false⟩,
   ⟨(some 4), .mv (.tmp 20), none, false⟩,
   ⟨(some 5), .mv (.const (.int .i64 0)), none, false⟩])
  .ret)))⟩

theorem s35 : compFn Try.prog Try.f35 = some c35 := by kernel_rfl

/-- loop.example/g01262/laws.toInt64S -/
def c36 : XFn :=
 ⟨[.tmp 2],
  (.seq (.reg [⟨(some 2), .mv (.const (.slice none 0 0)), none, false⟩])
  (.seq (.reg [⟨(some 5), .mv (.tmp 0), none, false⟩,
   ⟨(some 6), .len (.tmp 5), none, false⟩,
   ⟨(some 7), .mks 2 1 8 [.int .i64 0] (.tmp 6), none, false⟩,
   ⟨(some 3), .mv (.tmp 7), none, false⟩])
  (.seq (.seq (.reg [⟨(some 4), .mv (.const (.int .i64 0)), none, false⟩])
  (.blk 0 (.loop (.seq (.seq (.reg [⟨(some 8), .mv (.tmp 4), none, false⟩,
   ⟨(some 9), .mv (.tmp 0), none, false⟩,
   ⟨(some 10), .len (.tmp 9), none, false⟩,
   ⟨(some 11), .bin .lss (.tmp 8) (.tmp 10), none, false⟩])
  (.cond (.tmp 11) .skip (.exit 0)))
  (.seq (.blk 1 (.reg [⟨(some 14), .mv (.tmp 3), none, false⟩,
   ⟨(some 15), .mv (.tmp 4), none, false⟩,
   ⟨(some 16), .mv (.tmp 0), none, false⟩,
   ⟨(some 17), .mv (.tmp 4), none, false⟩,
   ⟨(some 18), .ixs 1 (.tmp 16) (.tmp 17), none, false⟩,
   ⟨(some 19), .load1 (.tmp 18), none, false⟩,
   ⟨(some 20), .ixs 1 (.tmp 14) (.tmp 15), none, false⟩,
   ⟨none, .store 1 (.tmp 20) (.tmp 19), none, false⟩]))
  (.reg [⟨(some 12), .mv (.tmp 4), none, false⟩,
   ⟨(some 13), .bin .add (.tmp 12) (.const (.int .i64 1)), none, false⟩,
   ⟨(some 4), .mv (.tmp 13), none, false⟩]))))))
  (.seq (.reg [⟨(some 21), .mv (.tmp 3), none, false⟩,
   ⟨(some 2), .mv (.tmp 21), none, false⟩])
  .ret))))⟩

theorem s36 : compFn Try.prog Try.f36 = some c36 := by kernel_rfl

/-- loop.example/g01262/impl.RunProgram -/
def c37 : XFn :=
 ⟨[.tmp 4, .tmp 5],
  (.seq (.reg [⟨(some 2), .box 48 (.tmp 0), none, false⟩,
   ⟨(some 4), .mv (.const (.slice none 0 0)), none, false⟩,
   ⟨(some 5), .mv (.const (.int .i64 0)), none, false⟩])
  (.seq (.blk 0 (.seq (.reg [⟨(some 7), .loadn 4 (.tmp 2), none, false⟩,
   ⟨(some 8), .call (.func 78) [(.tmp 7)], none, false⟩,
   ⟨(some 9), .un .not (.tmp 8), none, false⟩,
   ⟨(some 6), .mv (.tmp 9), none, false⟩])
  (.cond (.tmp 6) (.seq (.reg [⟨(some 4), .mv (.const (.slice none 0 0)), none, false⟩,
   ⟨(some 5), .mv (.const (.int .i64 1)), none, false⟩])
  .ret) (.seq (.reg [⟨(some 11), .mv (.tmp 1), none, false⟩,
   ⟨(some 12), .len (.tmp 11), none, false⟩,
   ⟨(some 13), .fadr 1 (.tmp 2), none, false⟩,
   ⟨(some 14), .load1 (.tmp 13), none, false⟩,
   ⟨(some 15), .bin .neq (.tmp 12) (.tmp 14), none, false⟩,
   ⟨(some 16), .mv (.tmp 15), none, false⟩,
   ⟨(some 17), .fadr 0 (.tmp 2), (some (16, false)), false⟩,
   ⟨(some 18), .load1 (.tmp 17), (some (16, false)), false⟩,
   ⟨(some 19), .mv (.tmp 1), (some (16, false)), false⟩,
   ⟨(some 20), .call (.func 85) [(.tmp 18), (.tmp 19)], (some (16, false)), false⟩,
   ⟨(some 21), .un .not (.tmp 20), (some (16, false)), false⟩,
   ⟨(some 22), .pick (.tmp 16) (.const (.bool true)) (.tmp 21), none, false⟩,
   ⟨(some 10), .mv (.tmp 22), none, false⟩])
  (.cond (.tmp 10) (.seq (.reg [⟨(some 4), .mv (.const (.slice none 0 0)), none, false⟩,
   ⟨(some 5), .mv (.const (.int .i64 2)), none, false⟩])
  .ret) .skip)))))
  (.seq (.reg [⟨(some 23), .loadn 4 (.tmp 2), none, false⟩,
   ⟨(some 24), .mv (.tmp 1), none, false⟩,
   ⟨(some 25), .call (.func 86) [(.tmp 23), (.tmp 24)], none, false⟩,
   ⟨(some 4), .mv (.tmp 25), none, false⟩,
   ⟨(some 5), .mv (.const (.int .i64 0)), none, false⟩])
  .ret)))⟩

theorem s37 : compFn Try.prog Try.f37 = some c37 := by kernel_rfl

/-- loop.example/g01262/spec.WithoutNeedless -/
def c38 : XFn :=
 ⟨[.celln 2 4, .tmp 3],
  (.seq (.reg [⟨(some 1), .box 48 (.tmp 0), none, false⟩,
   ⟨(some 2), .alloc 48 [.int .i64 0, .int .i64 0, .slice none 0 0, .slice none 0 0], none, false⟩,
   ⟨(some 3), .mv (.const (.int .i64 0)), none, false⟩])
  (.seq (.seq (.reg [⟨(some 16), .loadn 4 (.tmp 1), none, false⟩,
   ⟨(some 17), .call (.func 75) [(.tmp 16)], none, false⟩,
   ⟨(some 18), .un .not (.tmp 17), none, false⟩])
  (.cond (.tmp 18) (.seq (.reg [⟨(some 19), .build [.int .i64 0, .int .i64 0, .slice none 0 0, .slice none 0 0] [], none, false⟩,
   ⟨none, .store 4 (.tmp 2) (.tmp 19), none, false⟩,
   ⟨(some 3), .mv (.const (.int .i64 1)), none, false⟩])
  .ret) .skip))
  (.seq (.reg [⟨(some 20), .fadr 1 (.tmp 1), none, false⟩,
   ⟨(some 21), .load1 (.tmp 20), none, false⟩,
   ⟨(some 22), .fadr 2 (.tmp 1), none, false⟩,
   ⟨(some 23), .load1 (.tmp 22), none, false⟩,
   ⟨(some 24), .len (.tmp 23), none, false⟩,
   ⟨(some 25), .bin .add (.tmp 21) (.tmp 24), none, false⟩,
   ⟨(some 4), .mv (.tmp 25), none, false⟩])
  (.seq (.reg [⟨(some 26), .mv (.tmp 4), none, false⟩,
   ⟨(some 27), .mks 4 1 1 [.bool false] (.tmp 26), none, false⟩,
   ⟨(some 5), .mv (.tmp 27), none, false⟩])
  (.seq (.seq (.reg [⟨(some 6), .mv (.const (.int .i64 0)), none, false⟩])
  (.blk 0 (.loop (.seq (.seq (.reg [⟨(some 28), .mv (.tmp 6), none, false⟩,
   ⟨(some 29), .fadr 3 (.tmp 1), none, false⟩,
   ⟨(some 30), .load1 (.tmp 29), none, false⟩,
   ⟨(some 31), .len (.tmp 30), none, false⟩,
   ⟨(some 32), .bin .lss (.tmp 28) (.tmp 31), none, false⟩])
  (.cond (.tmp 32) .skip (.exit 0)))
  (.seq (.blk 1 (.seq (.reg [⟨(some 35), .fadr 3 (.tmp 1), none, false⟩,
   ⟨(some 36), .load1 (.tmp 35), none, false⟩,
   ⟨(some 37), .mv (.tmp 6), none, false⟩,
   ⟨(some 38), .ixs 2 (.tmp 36) (.tmp 37), none, false⟩,
   ⟨(some 39), .fadr 1 (.tmp 38), none, false⟩,
   ⟨(some 40), .load1 (.tmp 39), none, false⟩,
   ⟨(some 41), .bin .neq (.tmp 40) (.const (.int .i64 0)), none, false⟩])
  (.cond (.tmp 41) (.reg [⟨(some 42), .mv (.tmp 5), none, false⟩,
   ⟨(some 43), .fadr 3 (.tmp 1), none, false⟩,
   ⟨(some 44), .load1 (.tmp 43), none, false⟩,
   ⟨(some 45), .mv (.tmp 6), none, false⟩,
   ⟨(some 46), .ixs 2 (.tmp 44) (.tmp 45), none, false⟩,
   ⟨(some 47), .fadr 0 (.tmp 46), none, false⟩,
   ⟨(some 48), .load1 (.tmp 47), none, false⟩,
   ⟨(some 49), .ixs 1 (.tmp 42) (.tmp 48), none, false⟩,
   ⟨none, .store 1 (.tmp 49) (.const (.bool true)), none, false⟩]) .skip)))
  (.reg [⟨(some 33), .mv (.tmp 6), none, false⟩,
   ⟨(some 34), .bin .add (.tmp 33) (.const (.int .i64 1)), none, false⟩,
   ⟨(some 6), .mv (.tmp 34), none, false⟩]))))))
  (.seq (.seq (.reg [⟨(some 50), .fadr 2 (.tmp 1), none, false⟩,
   ⟨(some 51), .load1 (.tmp 50), none, false⟩,
   ⟨(some 52), .len (.tmp 51), none, false⟩,
   ⟨(some 53), .bin .sub (.tmp 52) (.const (.int .i64 1)), none, false⟩,
   ⟨(some 7), .mv (.tmp 53), none, false⟩])
  (.blk 2 (.loop (.seq (.seq (.reg [⟨(some 54), .mv (.tmp 7), none, false⟩,
   ⟨(some 55), .bin .geq (.tmp 54) (.const (.int .i64 0)), none, false⟩])
  (.cond (.tmp 55) .skip (.exit 2)))
  (.seq (.blk 3 (.seq (.reg [⟨(some 58), .mv (.tmp 5), none, false⟩,
   ⟨(some 59), .fadr 1 (.tmp 1), none, false⟩,
   ⟨(some 60), .load1 (.tmp 59), none, false⟩,
   ⟨(some 61), .mv (.tmp 7), none, false⟩,
   ⟨(some 62), .bin .add (.tmp 60) (.tmp 61), none, false⟩,
   ⟨(some 63), .ixs 1 (.tmp 58) (.tmp 62), none, false⟩,
   ⟨(some 64), .load1 (.tmp 63), none, false⟩])
  (.cond (.tmp 64) (.seq (.reg [⟨(some 65), .mv (.tmp 5), none, false⟩,
   ⟨(some 66), .fadr 2 (.tmp 1), none, false⟩,
   ⟨(some 67), .load1 (.tmp 66), none, false⟩,
   ⟨(some 68), .mv (.tmp 7), none, false⟩,
   ⟨(some 69), .ixs 3 (.tmp 67) (.tmp 68), none, false⟩,
   ⟨(some 70), .fadr 0 (.tmp 69), none, false⟩,
   ⟨(some 71), .load1 (.tmp 70), none, false⟩,
   ⟨(some 72), .ixs 1 (.tmp 65) (.tmp 71), none, false⟩,
   ⟨none, .store 1 (.tmp 72) (.const (.bool true)), none, false⟩])
  (.reg [⟨(some 73), .mv (.tmp 5), none, false⟩,
   ⟨(some 74), .fadr 2 (.tmp 1), none, false⟩,
   ⟨(some 75), .load1 (.tmp 74), none, false⟩,
   ⟨(some 76), .mv (.tmp 7), none, false⟩,
   ⟨(some 77), .ixs 3 (.tmp 75) (.tmp 76), none, false⟩,
   ⟨(some 78), .fadr 1 (.tmp 77), none, false⟩,
   ⟨(some 79), .load1 (.tmp 78), none, false⟩,
   ⟨(some 80), .ixs 1 (.tmp 73) (.tmp 79), none, false⟩,
   ⟨none, .store 1 (.tmp 80) (.const (.bool true)), none, false⟩])) .skip)))
  (.reg [⟨(some 56), .mv (.tmp 7), none, false⟩,
   ⟨(some 57), .bin .sub (.tmp 56) (.const (.int .i64 1)), none, false⟩,
   ⟨(some 7), .mv (.tmp 57), none, false⟩]))))))
  (.seq (.reg [⟨(some 81), .mv (.tmp 4), none, false⟩,
   ⟨(some 82), .mks 2 1 8 [.int .i64 0] (.tmp 81), none, false⟩,
   ⟨(some 8), .mv (.tmp 82), none, false⟩,
   ⟨(some 9), .mv (.const (.int .i64 0)), none, false⟩])
  (.seq (.seq (.reg [⟨(some 10), .mv (.const (.int .i64 0)), none, false⟩])
  (.blk 4 (.loop (.seq (.seq (.reg [⟨(some 83), .mv (.tmp 10), none, false⟩,
   ⟨(some 84), .mv (.tmp 4), none, false⟩,
   ⟨(some 85), .bin .lss (.tmp 83) (.tmp 84), none, false⟩])
  (.cond (.tmp 85) .skip (.exit 4)))
  (.seq (.blk 5 (.seq (.reg [⟨(some 88), .mv (.tmp 10), none, false⟩,
   ⟨(some 89), .fadr 1 (.tmp 1), none, false⟩,
   ⟨(some 90), .load1 (.tmp 89), none, false⟩,
   ⟨(some 91), .bin .lss (.tmp 88) (.tmp 90), none, false⟩,
   ⟨(some 92), .mv (.tmp 91), none, false⟩,
   ⟨(some 93), .mv (.tmp 5), (some (92, false)), false⟩,
   ⟨(some 94), .mv (.tmp 10), (some (92, false)), false⟩,
   ⟨(some 95), .ixs 1 (.tmp 93) (.tmp 94), (some (92, false)), false⟩,
   ⟨(some 96), .load1 (.tmp 95), (some (92, false)), false⟩,
   ⟨(some 97), .pick (.tmp 92) (.const (.bool true)) (.tmp 96), none, false⟩])
  (.cond (.tmp 97) (.seq (.reg [⟨(some 98), .mv (.tmp 8), none, false⟩,
   ⟨(some 99), .mv (.tmp 10), none, false⟩,
   ⟨(some 100), .mv (.tmp 9), none, false⟩,
   ⟨(some 101), .ixs 1 (.tmp 98) (.tmp 99), none, false⟩,
   ⟨none, .store 1 (.tmp 101) (.tmp 100), none, false⟩])
  (.reg [⟨(some 102), .mv (.tmp 9), none, false⟩,
   ⟨(some 103), .bin .add (.tmp 102) (.const (.int .i64 1)), none, false⟩,
   ⟨(some 9), .mv (.tmp 103), none, false⟩])) .skip)))
  (.reg [⟨(some 86), .mv (.tmp 10), none, false⟩,
   ⟨(some 87), .bin .add (.tmp 86) (.const (.int .i64 1)), none, false⟩,
   ⟨(some 10), .mv (.tmp 87), none, false⟩]))))))
  (.seq (.reg [⟨(some 104), .fadr 0 (.tmp 1), none, false⟩,
   ⟨(some 105), .load1 (.tmp 104), none, false⟩,
   ⟨(some 106), .fadr 1 (.tmp 1), none, false⟩,
   ⟨(some 107), .load1 (.tmp 106), none, false⟩,
   ⟨(some 108), .bslice 96 3 0 [.int .i64 0, .int .i64 0, .int .i64 0] [], none, false⟩,
   ⟨(some 109), .bslice 98 2 0 [.int .i64 0, .int .i64 0] [], none, false⟩,
   ⟨(some 110), .build [.int .i64 0, .int .i64 0, .slice none 0 0, .slice none 0 0] [(0, 1, (.tmp 105)), (1, 1, (.tmp 107)), (2, 1, (.tmp 108)), (3, 1, (.tmp 109))], none, false⟩,
   ⟨(some 11), .alloc 48 [.int .i64 0, .int .i64 0, .slice none 0 0, .slice none 0 0], none, false⟩,
   ⟨none, .store 4 (.tmp 11) (.tmp 110), none, false⟩])
  (.seq (.seq (.reg [⟨(some 12), .mv (.const (.int .i64 0)), none, false⟩])
  (.blk 6 (.loop (.seq (.seq (.reg [⟨(some 111), .mv (.tmp 12), none, false⟩,
   ⟨(some 112), .fadr 2 (.tmp 1), none, false⟩,
   ⟨(some 113), .load1 (.tmp 112), none, false⟩,
   ⟨(some 114), .len (.tmp 113), none, false⟩,
   ⟨(some 115), .bin .lss (.tmp 111) (.tmp 114), none, false⟩])
  (.cond (.tmp 115) .skip (.exit 6)))
  (.seq (.blk 7 (.seq (.reg [⟨(some 118), .fadr 2 (.tmp 1), none, false⟩,
   ⟨(some 119), .load1 (.tmp 118), none, false⟩,
   ⟨(some 120), .mv (.tmp 12), none, false⟩,
   ⟨(some 121), .ixs 3 (.tmp 119) (.tmp 120), none, false⟩,
   ⟨(some 122), .loadn 3 (.tmp 121), none, false⟩,
   ⟨(some 13), .alloc 96 [.int .i64 0, .int .i64 0, .int .i64 0], none, false⟩,
   ⟨none, .store 3 (.tmp 13) (.tmp 122), none, false⟩])
  (.seq (.reg [⟨(some 123), .mv (.tmp 5), none, false⟩,
   ⟨(some 124), .fadr 1 (.tmp 1), none, false⟩,
   ⟨(some 125), .load1 (.tmp 124), none, false⟩,
   ⟨(some 126), .mv (.tmp 12), none, false⟩,
   ⟨(some 127), .bin .add (.tmp 125) (.tmp 126), none, false⟩,
   ⟨(some 128), .ixs 1 (.tmp 123) (.tmp 127), none, false⟩,
   ⟨(some 129), .load1 (.tmp 128), none, false⟩])
  (.cond (.tmp 129) (.reg [⟨(some 130), .fadr 2 (.tmp 11), none, false⟩,
   ⟨(some 131), .load1 (.tmp 130), none, false⟩,
   ⟨(some 132), .mv (.tmp 8), none, false⟩,
   ⟨(some 133), .fadr 0 (.tmp 13), none, false⟩,
   ⟨(some 134), .load1 (.tmp 133), none, false⟩,
   ⟨(some 135), .ixs 1 (.tmp 132) (.tmp 134), none, false⟩,
   ⟨(some 136), .load1 (.tmp 135), none, false⟩,
   ⟨(some 137), .mv (.tmp 8), none, false⟩,
   ⟨(some 138), .fadr 1 (.tmp 13), none, false⟩,
   ⟨(some 139), .load1 (.tmp 138), none, false⟩,
   ⟨(some 140), .ixs 1 (.tmp 137) (.tmp 139), none, false⟩,
   ⟨(some 141), .load1 (.tmp 140), none, false⟩,
   ⟨(some 142), .fadr 2 (.tmp 13), none, false⟩,
   ⟨(some 143), .load1 (.tmp 142), none, false⟩,
   ⟨(some 144), .build [.int .i64 0, .int .i64 0, .int .i64 0] [(0, 1, (.tmp 136)), (1, 1, (.tmp 141)), (2, 1, (.tmp 143))], none, false⟩,
   ⟨(some 145), .bslice 96 3 1 [.int .i64 0, .int .i64 0, .int .i64 0] [(0, 3, (.tmp 144))], none, false⟩,
   ⟨(some 146), .app 96 3 24 (.tmp 131) (.tmp 145), none, false⟩,
   ⟨(some 147), .fadr 2 (.tmp 11), none, false⟩,
   ⟨none, .store 1 (.tmp 147) (.tmp 146), none, false⟩]) .skip))))
  (.reg [⟨(some 116), .mv (.tmp 12), none, false⟩,
   ⟨(some 117), .bin .add (.tmp 116) (.const (.int .i64 1)), none, false⟩,
   ⟨(some 12), .mv (.tmp 117), none, false⟩]))))))
  (.seq (.seq (.reg [⟨(some 14), .mv (.const (.int .i64 0)), none, false⟩])
  (.blk 8 (.loop (.seq (.seq (.reg [⟨(some 148), .mv (.tmp 14), none, false⟩,
   ⟨(some 149), .fadr 3 (.tmp 1), none, false⟩,
   ⟨(some 150), .load1 (.tmp 149), none, false⟩,
   ⟨(some 151), .len (.tmp 150), none, false⟩,
   ⟨(some 152), .bin .lss (.tmp 148) (.tmp 151), none, false⟩])
  (.cond (.tmp 152) .skip (.exit 8)))
  (.seq (.blk 9 (.seq (.reg [⟨(some 155), .fadr 3 (.tmp 1), none, false⟩,
   ⟨(some 156), .load1 (.tmp 155), none, false⟩,
   ⟨(some 157), .mv (.tmp 14), none, false⟩,
   ⟨(some 158), .ixs 2 (.tmp 156) (.tmp 157), none, false⟩,
   ⟨(some 159), .loadn 2 (.tmp 158), none, false⟩,
   ⟨(some 15), .alloc 98 [.int .i64 0, .int .i64 0], none, false⟩,
   ⟨none, .store 2 (.tmp 15) (.tmp 159), none, false⟩])
  (.seq (.seq (.reg [⟨(some 160), .fadr 1 (.tmp 15), none, false⟩,
   ⟨(some 161), .load1 (.tmp 160), none, false⟩,
   ⟨(some 162), .bin .neq (.tmp 161) (.const (.int .i64 0)), none, false⟩])
  (.cond (.tmp 162) (.reg [⟨(some 163), .mv (.tmp 8), none, false⟩,
   ⟨(some 164), .fadr 0 (.tmp 15), none, false⟩,
   ⟨(some 165), .load1 (.tmp 164), none, false⟩,
   ⟨(some 166), .ixs 1 (.tmp 163) (.tmp 165), none, false⟩,
   ⟨(some 167), .load1 (.tmp 166), none, false⟩,
   ⟨(some 168), .fadr 0 (.tmp 15), none, false⟩,
   ⟨none, .store 1 (.tmp 168) (.tmp 167), none, false⟩]) .skip))
  (.reg [⟨(some 169), .fadr 3 (.tmp 11), none, false⟩,
   ⟨(some 170), .load1 (.tmp 169), none, false⟩,
   ⟨(some 171), .loadn 2 (.tmp 15), none, false⟩,
   ⟨(some 172), .bslice 98 2 1 [.int .i64 0, .int .i64 0] [(0, 2, (.tmp 171))], none, false⟩,
   ⟨(some 173), .app 98 2 16 (.tmp 170) (.tmp 172), none, false⟩,
   ⟨(some 174), .fadr 3 (.tmp 11), none, false⟩,
   ⟨none, .store 1 (.tmp 174) (.tmp 173), none, false⟩]))))
  (.reg [⟨(some 153), .mv (.tmp 14), none, false⟩,
   ⟨(some 154), .bin .add (.tmp 153) (.const (.int .i64 1)), none, false⟩,
   ⟨(some 14), .mv (.tmp 154), none, false⟩]))))))
  (.seq (.reg [⟨(some 175), .loadn 4 (.tmp 11), none, false⟩,
   ⟨none, .store 4 (.tmp 2) (.tmp 175), none, false⟩,
   ⟨(some 3), .mv (.const (.int .i64 0)), none, false⟩])
  .ret))))))))))))⟩

theorem s38 : compFn Try.prog Try.f38 = some c38 := by kernel_rfl

/-- loop.example/g01262/impl.WithoutNeedless -/
def c39 : XFn :=
 ⟨[.celln 2 4, .tmp 3],
  (.seq (.reg [⟨(some 1), .box 48 (.tmp 0), none, false⟩,
   ⟨(some 2), .alloc 48 [.int .i64 0, .int .i64 0, .slice none 0 0, .slice none 0 0], none, false⟩,
   ⟨(some 3), .mv (.const (.int .i64 0)), none, false⟩])
  (.seq (.seq (.reg [⟨(some 16), .loadn 4 (.tmp 1), none, false⟩,
   ⟨(some 17), .call (.func 78) [(.tmp 16)], none, false⟩,
   ⟨(some 18), .un .not (.tmp 17), none, false⟩])
  (.cond (.tmp 18) (.seq (.reg [⟨(some 19), .build [.int .i64 0, .int .i64 0, .slice none 0 0, .slice none 0 0] [], none, false⟩,
   ⟨none, .store 4 (.tmp 2) (.tmp 19), none, false⟩,
   ⟨(some 3), .mv (.const (.int .i64 1)), none, false⟩])
  .ret) .skip))
  (.seq (.reg [⟨(some 20), .fadr 1 (.tmp 1), none, false⟩,
   ⟨(some 21), .load1 (.tmp 20), none, false⟩,
   ⟨(some 4), .mv (.tmp 21), none, false⟩])
  (.seq (.reg [⟨(some 22), .mv (.tmp 4), none, false⟩,
   ⟨(some 23), .fadr 2 (.tmp 1), none, false⟩,
   ⟨(some 24), .load1 (.tmp 23), none, false⟩,
   ⟨(some 25), .len (.tmp 24), none, false⟩,
   ⟨(some 26), .bin .add (.tmp 22) (.tmp 25), none, false⟩,
   ⟨(some 27), .mks 4 1 1 [.bool false] (.tmp 26), none, false⟩,
   ⟨(some 5), .mv (.tmp 27), none, false⟩])
  (.seq (.seq (.reg [⟨(some 28), .fadr 3 (.tmp 1), none, false⟩,
   ⟨(some 29), .load1 (.tmp 28), none, false⟩,
   ⟨(some 30), .len (.tmp 29), none, false⟩,
   ⟨(some 31), .mv (.const (.int .i64 0)), none, false⟩])
  (.blk 0 (.loop (.seq (.reg [⟨(some 32), .bin .lss (.tmp 31) (.tmp 30), none, false⟩])
  (.seq (.cond (.tmp 32) .skip (.exit 0))
  (.seq (.blk 1 (.seq (.reg [⟨(some 33), .ixs 2 (.tmp 29) (.tmp 31), none, false⟩,
   ⟨(some 34), .loadn 2 (.tmp 33), none, false⟩,
   ⟨(some 7), .alloc 98 [.int .i64 0, .int .i64 0], none, false⟩,
   ⟨none, .store 2 (.tmp 7) (.tmp 34), none, false⟩])
  (.seq (.reg [⟨(some 35), .fadr 1 (.tmp 7), none, false⟩,
   ⟨(some 36), .load1 (.tmp 35), none, false⟩,
   ⟨(some 37), .bin .neq (.tmp 36) (.const (.int .i64 0)), none, false⟩])
  (.cond (.tmp 37) (.reg [⟨(some 38), .mv (.tmp 5), none, false⟩,
   ⟨(some 39), .fadr 0 (.tmp 7), none, false⟩,
   ⟨(some 40), .load1 (.tmp 39), none, false⟩,
   ⟨(some 41), .ixs 1 (.tmp 38) (.tmp 40), none, false⟩,
   ⟨none, .store 1 (.tmp 41) (.const (.bool true)), none, false⟩]) .skip))))
  (.reg [⟨(some 42), .bin .add (.tmp 31) (.const (.int .i64 1)), none, false⟩,
   ⟨(some 31), .mv (.tmp 42), none, false⟩])))))))
  (.seq (.seq (.reg [⟨(some 43), .fadr 2 (.tmp 1), none, false⟩,
   ⟨(some 44), .load1 (.tmp 43), none, false⟩,
   ⟨(some 45), .len (.tmp 44), none, false⟩,
   ⟨(some 46), .bin .sub (.tmp 45) (.const (.int .i64 1)), none, false⟩,
   ⟨(some 8), .mv (.tmp 46), none, false⟩])
  (.blk 2 (.loop (.seq (.seq (.reg [⟨(some 47), .mv (.tmp 8), none, false⟩,
   ⟨(some 48), .bin .geq (.tmp 47) (.const (.int .i64 0)), none, false⟩])
  (.cond (.tmp 48) .skip (.exit 2)))
  (.seq (.blk 3 (.seq (.reg [⟨(some 51), .mv (.tmp 5), none, false⟩,
   ⟨(some 52), .mv (.tmp 4), none, false⟩,
   ⟨(some 53), .mv (.tmp 8), none, false⟩,
   ⟨(some 54), .bin .add (.tmp 52) (.tmp 53), none, false⟩,
   ⟨(some 55), .ixs 1 (.tmp 51) (.tmp 54), none, false⟩,
   ⟨(some 56), .load1 (.tmp 55), none, false⟩])
  (.cond (.tmp 56) (.seq (.reg [⟨(some 57), .mv (.tmp 5), none, false⟩,
   ⟨(some 58), .fadr 2 (.tmp 1), none, false⟩,
   ⟨(some 59), .load1 (.tmp 58), none, false⟩,
   ⟨(some 60), .mv (.tmp 8), none, false⟩,
   ⟨(some 61), .ixs 3 (.tmp 59) (.tmp 60), none, false⟩,
   ⟨(some 62), .fadr 0 (.tmp 61), none, false⟩,
   ⟨(some 63), .load1 (.tmp 62), none, false⟩,
   ⟨(some 64), .ixs 1 (.tmp 57) (.tmp 63), none, false⟩,
   ⟨none, .store 1 (.tmp 64) (.const (.bool true)), none, false⟩])
  (.reg [⟨(some 65), .mv (.tmp 5), none, false⟩,
   ⟨(some 66), .fadr 2 (.tmp 1), none, false⟩,
   ⟨(some 67), .load1 (.tmp 66), none, false⟩,
   ⟨(some 68), .mv (.tmp 8), none, false⟩,
   ⟨(some 69), .ixs 3 (.tmp 67) (.tmp 68), none, false⟩,
   ⟨(some 70), .fadr 1 (.tmp 69), none, false⟩,
   ⟨(some 71), .load1 (.tmp 70), none, false⟩,
   ⟨(some 72), .ixs 1 (.tmp 65) (.tmp 71), none, false⟩,
   ⟨none, .store 1 (.tmp 72) (.const (.bool true)), none, false⟩])) .skip)))
  (.reg [⟨(some 49), .mv (.tmp 8), none, false⟩,
   ⟨(some 50), .bin .sub (.tmp 49) (.const (.int .i64 1)), none, false⟩,
   ⟨(some 8), .mv (.tmp 50), none, false⟩]))))))
  (.seq (.reg [⟨(some 73), .fadr 0 (.tmp 1), none, false⟩,
   ⟨(some 74), .load1 (.tmp 73), none, false⟩,
   ⟨(some 75), .mv (.tmp 4), none, false⟩,
   ⟨(some 76), .build [.int .i64 0, .int .i64 0, .slice none 0 0, .slice none 0 0] [(0, 1, (.tmp 74)), (1, 1, (.tmp 75))], none, false⟩,
   ⟨(some 77), .bslice 2 1 0 [.int .i64 0] [], none, false⟩,
   ⟨(some 9), .alloc 48 [.int .i64 0, .int .i64 0, .slice none 0 0, .slice none 0 0], none, false⟩,
   ⟨none, .store 4 (.tmp 9) (.tmp 76), none, false⟩,
   ⟨(some 10), .mv (.tmp 77), none, false⟩])
  (.seq (.seq (.reg [⟨(some 78), .mv (.tmp 4), none, false⟩,
   ⟨(some 79), .mv (.const (.int .i64 0)), none, false⟩])
  (.blk 4 (.loop (.seq (.reg [⟨(some 80), .bin .lss (.tmp 79) (.tmp 78), none, false⟩])
  (.seq (.cond (.tmp 80) .skip (.exit 4))
  (.seq (.blk 5 (.seq (.reg [⟨(some 81), .mv (.tmp 79), none, false⟩,
   ⟨(some 11), .mv (.tmp 81), none, false⟩])
  (.reg [⟨(some 82), .mv (.tmp 10), none, false⟩,
   ⟨(some 83), .mv (.tmp 11), none, false⟩,
   ⟨(some 84), .bslice 2 1 1 [.int .i64 0] [(0, 1, (.tmp 83))], none, false⟩,
   ⟨(some 85), .app 2 1 8 (.tmp 82) (.tmp 84), none, false⟩,
   ⟨(some 10), .mv (.tmp 85), none, false⟩])))
  (.reg [⟨(some 86), .bin .add (.tmp 79) (.const (.int .i64 1)), none, false⟩,
   ⟨(some 79), .mv (.tmp 86), none, false⟩])))))))
  (.seq (.seq (.reg [⟨(some 87), .fadr 2 (.tmp 1), none, false⟩,
   ⟨(some 88), .load1 (.tmp 87), none, false⟩,
   ⟨(some 89), .len (.tmp 88), none, false⟩,
   ⟨(some 90), .mv (.const (.int .i64 0)), none, false⟩])
  (.blk 6 (.loop (.seq (.reg [⟨(some 91), .bin .lss (.tmp 90) (.tmp 89), none, false⟩])
  (.seq (.cond (.tmp 91) .skip (.exit 6))
  (.seq (.blk 7 (.seq (.reg [⟨(some 92), .mv (.tmp 90), none, false⟩,
   ⟨(some 93), .ixs 3 (.tmp 88) (.tmp 90), none, false⟩,
   ⟨(some 94), .loadn 3 (.tmp 93), none, false⟩,
   ⟨(some 13), .alloc 96 [.int .i64 0, .int .i64 0, .int .i64 0], none, false⟩,
   ⟨(some 12), .mv (.tmp 92), none, false⟩,
   ⟨none, .store 3 (.tmp 13) (.tmp 94), none, false⟩])
  (.seq (.reg [⟨(some 95), .mv (.tmp 10), none, false⟩,
   ⟨(some 96), .mv (.tmp 4), none, false⟩,
   ⟨(some 97), .fadr 2 (.tmp 9), none, false⟩,
   ⟨(some 98), .load1 (.tmp 97), none, false⟩,
   ⟨(some 99), .len (.tmp 98), none, false⟩,
   ⟨(some 100), .bin .add (.tmp 96) (.tmp 99), none, false⟩,
   ⟨(some 101), .bslice 2 1 1 [.int .i64 0] [(0, 1, (.tmp 100))], none, false⟩,
   ⟨(some 102), .app 2 1 8 (.tmp 95) (.tmp 101), none, false⟩,
   ⟨(some 10), .mv (.tmp 102), none, false⟩])
  (.seq (.reg [⟨(some 103), .mv (.tmp 5), none, false⟩,
   ⟨(some 104), .mv (.tmp 4), none, false⟩,
   ⟨(some 105), .mv (.tmp 12), none, false⟩,
   ⟨(some 106), .bin .add (.tmp 104) (.tmp 105), none, false⟩,
   ⟨(some 107), .ixs 1 (.tmp 103) (.tmp 106), none, false⟩,
   ⟨(some 108), .load1 (.tmp 107), none, false⟩])
  (.cond (.tmp 108) (.reg [⟨(some 109), .fadr 2 (.tmp 9), none, false⟩,
   ⟨(some 110), .load1 (.tmp 109), none, false⟩,
   ⟨(some 111), .mv (.tmp 10), none, false⟩,
   ⟨(some 112), .fadr 0 (.tmp 13), none, false⟩,
   ⟨(some 113), .load1 (.tmp 112), none, false⟩,
   ⟨(some 114), .ixs 1 (.tmp 111) (.tmp 113), none, false⟩,
   ⟨(some 115), .load1 (.tmp 114), none, false⟩,
   ⟨(some 116), .mv (.tmp 10), none, false⟩,
   ⟨(some 117), .fadr 1 (.tmp 13), none, false⟩,
   ⟨(some 118), .load1 (.tmp 117), none, false⟩,
   ⟨(some 119), .ixs 1 (.tmp 116) (.tmp 118), none, false⟩,
   ⟨(some 120), .load1 (.tmp 119), none, false⟩,
   ⟨(some 121), .fadr 2 (.tmp 13), none, false⟩,
   ⟨(some 122), .load1 (.tmp 121), none, false⟩,
   ⟨(some 123), .build [.int .i64 0, .int .i64 0, .int .i64 0] [(0, 1, (.tmp 115)), (1, 1, (.tmp 120)), (2, 1, (.tmp 122))], none, false⟩,
   ⟨(some 124), .bslice 96 3 1 [.int .i64 0, .int .i64 0, .int .i64 0] [(0, 3, (.tmp 123))], none, false⟩,
   ⟨(some 125), .app 96 3 24 (.tmp 110) (.tmp 124), none, false⟩,
   ⟨(some 126), .fadr 2 (.tmp 9), none, false⟩,
   ⟨none, .store 1 (.tmp 126) (.tmp 125), none, false⟩]) .skip)))))
  (.reg [⟨(some 127), .bin .add (.tmp 90) (.const (.int .i64 1)), none, false⟩,
   ⟨(some 90), .mv (.tmp 127), none, false⟩])))))))
  (.seq (.seq (.reg [⟨(some 128), .fadr 3 (.tmp 1), none, false⟩,
   ⟨(some 129), .load1 (.tmp 128), none, false⟩,
   ⟨(some 130), .len (.tmp 129), none, false⟩,
   ⟨(some 131), .mv (.const (.int .i64 0)), none, false⟩])
  (.blk 8 (.loop (.seq (.reg [⟨(some 132), .bin .lss (.tmp 131) (.tmp 130), none, false⟩])
  (.seq (.cond (.tmp 132) .skip (.exit 8))
  (.seq (.blk 9 (.seq (.reg [⟨(some 133), .ixs 2 (.tmp 129) (.tmp 131), none, false⟩,
   ⟨(some 134), .loadn 2 (.tmp 133), none, false⟩,
   ⟨(some 15), .alloc 98 [.int .i64 0, .int .i64 0], none, false⟩,
   ⟨none, .store 2 (.tmp 15) (.tmp 134), none, false⟩])
  (.reg [⟨(some 135), .fadr 3 (.tmp 9), none, false⟩,
   ⟨(some 136), .load1 (.tmp 135), none, false⟩,
   ⟨(some 137), .mv (.tmp 10), none, false⟩,
   ⟨(some 138), .fadr 0 (.tmp 15), none, false⟩,
   ⟨(some 139), .load1 (.tmp 138), none, false⟩,
   ⟨(some 140), .ixs 1 (.tmp 137) (.tmp 139), none, false⟩,
   ⟨(some 141), .load1 (.tmp 140), none, false⟩,
   ⟨(some 142), .fadr 1 (.tmp 15), none, false⟩,
   ⟨(some 143), .load1 (.tmp 142), none, false⟩,
   ⟨(some 144), .build [.int .i64 0, .int .i64 0] [(0, 1, (.tmp 141)), (1, 1, (.tmp 143))], none, false⟩,
   ⟨(some 145), .bslice 98 2 1 [.int .i64 0, .int .i64 0] [(0, 2, (.tmp 144))], none, false⟩,
   ⟨(some 146), .app 98 2 16 (.tmp 136) (.tmp 145), none, false⟩,
   ⟨(some 147), .fadr 3 (.tmp 9), none, false⟩,
   ⟨none, .store 1 (.tmp 147) (.tmp 146), none, false⟩])))
  (.reg [⟨(some 148), .bin .add (.tmp 131) (.const (.int .i64 1)), none, false⟩,
   ⟨(some 131), .mv (.tmp 148), none, false⟩])))))))
  (.seq (.reg [⟨(some 149), .loadn 4 (.tmp 9), none, false⟩,
   ⟨none, .store 4 (.tmp 2) (.tmp 149), none, false⟩,
   ⟨(some 3), .mv (.const (.int .i64 0)), none, false⟩])
  .ret)))))))))))⟩

theorem s39 : compFn Try.prog Try.f39 = some c39 := by kernel_rfl

/-- loop.example/g01262/laws.heldProgram -/
def c40 : XFn :=
 ⟨[.tmp 4],
  (.seq (.reg [⟨(some 2), .box 48 (.tmp 0), none, false⟩,
   ⟨(some 4), .mv (.const (.int .i64 0)), none, false⟩])
  (.seq (.reg [⟨(some 5), .fadr 2 (.tmp 2), none, false⟩,
   ⟨(some 6), .load1 (.tmp 5), none, false⟩,
   ⟨(some 7), .mv (.tmp 1), none, false⟩,
   ⟨(some 8), .call (.func 87) [(.tmp 6), (.tmp 7)], none, false⟩,
   ⟨(some 1), .mv (.tmp 8), none, false⟩])
  (.seq (.seq (.reg [⟨(some 9), .mv (.tmp 1), none, false⟩,
   ⟨(some 10), .bin .lss (.tmp 9) (.const (.int .i64 0)), none, false⟩])
  (.cond (.tmp 10) (.seq (.reg [⟨(some 4), .mv (.const (.int .i64 (-1))), none, false⟩])
  .ret) .skip))
  (.seq (.reg [⟨(some 11), .fadr 3 (.tmp 2), none, false⟩,
   ⟨(some 12), .load1 (.tmp 11), none, false⟩,
   ⟨(some 13), .mv (.tmp 1), none, false⟩,
   ⟨(some 14), .call (.func 88) [(.tmp 12), (.tmp 13)], none, false⟩,
   ⟨(some 1), .mv (.tmp 14), none, false⟩])
  (.seq (.seq (.reg [⟨(some 15), .mv (.tmp 1), none, false⟩,
   ⟨(some 16), .bin .lss (.tmp 15) (.const (.int .i64 0)), none, false⟩])
  (.cond (.tmp 16) (.seq (.reg [⟨(some 4), .mv (.const (.int .i64 (-1))), none, false⟩])
  .ret) .skip))
  (.seq (.reg [⟨(some 17), .mv (.tmp 1), none, false⟩,
   ⟨(some 4), .mv (.tmp 17), none, false⟩])
  .ret))))))⟩

theorem s40 : compFn Try.prog Try.f40 = some c40 := by kernel_rfl

/-- loop.example/g01262/laws.szInt64SS -/
def c41 : XFn :=
 ⟨[.tmp 4],
  (.seq (.reg [⟨(some 4), .mv (.const (.int .i64 0)), none, false⟩])
  (.seq (.reg [⟨(some 6), .mv (.tmp 1), none, false⟩,
   ⟨(some 7), .mv (.tmp 0), none, false⟩,
   ⟨(some 8), .len (.tmp 7), none, false⟩,
   ⟨(some 9), .bin .sub (.tmp 6) (.tmp 8), none, false⟩,
   ⟨(some 1), .mv (.tmp 9), none, false⟩])
  (.seq (.seq (.reg [⟨(some 10), .mv (.tmp 1), none, false⟩,
   ⟨(some 11), .bin .lss (.tmp 10) (.const (.int .i64 0)), none, false⟩])
  (.cond (.tmp 11) (.seq (.reg [⟨(some 4), .mv (.const (.int .i64 (-1))), none, false⟩])
  .ret) .skip))
  (.seq (.seq (.reg [⟨(some 5), .mv (.const (.int .i64 0)), none, false⟩])
  (.blk 0 (.loop (.seq (.seq (.reg [⟨(some 12), .mv (.tmp 5), none, false⟩,
   ⟨(some 13), .mv (.tmp 0), none, false⟩,
   ⟨(some 14), .len (.tmp 13), none, false⟩,
   ⟨(some 15), .bin .lss (.tmp 12) (.tmp 14), none, false⟩])
  (.cond (.tmp 15) .skip (.exit 0)))
  (.seq (.blk 1 (.seq (.reg [⟨(some 18), .mv (.tmp 0), none, false⟩,
   ⟨(some 19), .mv (.tmp 5), none, false⟩,
   ⟨(some 20), .ixs 1 (.tmp 18) (.tmp 19), none, false⟩,
   ⟨(some 21), .load1 (.tmp 20), none, false⟩,
   ⟨(some 22), .mv (.tmp 1), none, false⟩,
   ⟨(some 23), .call (.func 64) [(.tmp 21), (.tmp 22)], none, false⟩,
   ⟨(some 1), .mv (.tmp 23), none, false⟩])
  (.seq (.reg [⟨(some 24), .mv (.tmp 1), none, false⟩,
   ⟨(some 25), .bin .lss (.tmp 24) (.const (.int .i64 0)), none, false⟩])
  (.cond (.tmp 25) (.seq (.reg [⟨(some 4), .mv (.const (.int .i64 (-1))), none, false⟩])
  .ret) .skip))))
  (.reg [⟨(some 16), .mv (.tmp 5), none, false⟩,
   ⟨(some 17), .bin .add (.tmp 16) (.const (.int .i64 1)), none, false⟩,
   ⟨(some 5), .mv (.tmp 17), none, false⟩]))))))
  (.seq (.reg [⟨(some 26), .mv (.tmp 1), none, false⟩,
   ⟨(some 4), .mv (.tmp 26), none, false⟩])
  .ret)))))⟩

theorem s41 : compFn Try.prog Try.f41 = some c41 := by kernel_rfl

/-- loop.example/g01262/spec.PlainProgram -/
def c42 : XFn :=
 ⟨[.celln 6 4, .tmp 7],
  (.seq (.reg [⟨(some 6), .alloc 48 [.int .i64 0, .int .i64 0, .slice none 0 0, .slice none 0 0], none, false⟩,
   ⟨(some 7), .mv (.const (.int .i64 0)), none, false⟩])
  (.seq (.seq (.reg [⟨(some 9), .mv (.tmp 0), none, false⟩,
   ⟨(some 10), .mv (.tmp 1), none, false⟩,
   ⟨(some 11), .mv (.tmp 2), none, false⟩,
   ⟨(some 12), .call (.func 89) [(.tmp 9), (.tmp 10), (.tmp 11)], none, false⟩,
   ⟨(some 8), .mv (.tmp 12), none, false⟩])
  (.seq (.reg [⟨(some 13), .mv (.tmp 8), none, false⟩,
   ⟨(some 14), .bin .neq (.tmp 13) (.const (.int .i64 0)), none, false⟩])
  (.cond (.tmp 14) (.seq (.reg [⟨(some 15), .build [.int .i64 0, .int .i64 0, .slice none 0 0, .slice none 0 0] [], none, false⟩,
   ⟨(some 16), .mv (.tmp 8), none, false⟩,
   ⟨none, .store 4 (.tmp 6) (.tmp 15), none, false⟩,
   ⟨(some 7), .mv (.tmp 16), none, false⟩])
  .ret) .skip)))
  (.seq (.reg [⟨(some 17), .mv (.tmp 0), none, false⟩,
   ⟨(some 18), .mv (.tmp 1), none, false⟩,
   ⟨(some 19), .mv (.tmp 2), none, false⟩,
   ⟨(some 20), .call (.func 90) [(.tmp 17), (.tmp 18), (.tmp 19)], none, false⟩,
   ⟨none, .store 4 (.tmp 6) (.tmp 20), none, false⟩,
   ⟨(some 7), .mv (.const (.int .i64 0)), none, false⟩])
  .ret)))⟩

theorem s42 : compFn Try.prog Try.f42 = some c42 := by kernel_rfl

/-- loop.example/g01262/laws.toInt64SS -/
def c43 : XFn :=
 ⟨[.tmp 2],
  (.seq (.reg [⟨(some 2), .mv (.const (.slice none 0 0)), none, false⟩])
  (.seq (.reg [⟨(some 5), .mv (.tmp 0), none, false⟩,
   ⟨(some 6), .len (.tmp 5), none, false⟩,
   ⟨(some 7), .mks 22 1 24 [.slice none 0 0] (.tmp 6), none, false⟩,
   ⟨(some 3), .mv (.tmp 7), none, false⟩])
  (.seq (.seq (.reg [⟨(some 4), .mv (.const (.int .i64 0)), none, false⟩])
  (.blk 0 (.loop (.seq (.seq (.reg [⟨(some 8), .mv (.tmp 4), none, false⟩,
   ⟨(some 9), .mv (.tmp 0), none, false⟩,
   ⟨(some 10), .len (.tmp 9), none, false⟩,
   ⟨(some 11), .bin .lss (.tmp 8) (.tmp 10), none, false⟩])
  (.cond (.tmp 11) .skip (.exit 0)))
  (.seq (.blk 1 (.reg [⟨(some 14), .mv (.tmp 3), none, false⟩,
   ⟨(some 15), .mv (.tmp 4), none, false⟩,
   ⟨(some 16), .mv (.tmp 0), none, false⟩,
   ⟨(some 17), .mv (.tmp 4), none, false⟩,
   ⟨(some 18), .ixs 1 (.tmp 16) (.tmp 17), none, false⟩,
   ⟨(some 19), .load1 (.tmp 18), none, false⟩,
   ⟨(some 20), .call (.func 36) [(.tmp 19)], none, false⟩,
   ⟨(some 21), .ixs 1 (.tmp 14) (.tmp 15), none, false⟩,
   ⟨none, .store 1 (.tmp 21) (.tmp 20), none, false⟩]))
  (.reg [⟨(some 12), .mv (.tmp 4), none, false⟩,
   ⟨(some 13), .bin .add (.tmp 12) (.const (.int .i64 1)), none, false⟩,
   ⟨(some 4), .mv (.tmp 13), none, false⟩]))))))
  (.seq (.reg [⟨(some 22), .mv (.tmp 3), none, false⟩,
   ⟨(some 2), .mv (.tmp 22), none, false⟩])
  .ret))))⟩

theorem s43 : compFn Try.prog Try.f43 = some c43 := by kernel_rfl

/-- loop.example/g01262/impl.PlainProgram -/
def c44 : XFn :=
 ⟨[.celln 6 4, .tmp 7],
  (.seq (.reg [⟨(some 6), .alloc 48 [.int .i64 0, .int .i64 0, .slice none 0 0, .slice none 0 0], none, false⟩,
   ⟨(some 7), .mv (.const (.int .i64 0)), none, false⟩])
  (.seq (.seq (.reg [⟨(some 9), .mv (.tmp 0), none, false⟩,
   ⟨(some 10), .mv (.tmp 1), none, false⟩,
   ⟨(some 11), .mv (.tmp 2), none, false⟩,
   ⟨(some 12), .call (.func 91) [(.tmp 9), (.tmp 10), (.tmp 11)], none, false⟩,
   ⟨(some 8), .mv (.tmp 12), none, false⟩])
  (.seq (.reg [⟨(some 13), .mv (.tmp 8), none, false⟩,
   ⟨(some 14), .bin .neq (.tmp 13) (.const (.int .i64 0)), none, false⟩])
  (.cond (.tmp 14) (.seq (.reg [⟨(some 15), .build [.int .i64 0, .int .i64 0, .slice none 0 0, .slice none 0 0] [], none, false⟩,
   ⟨(some 16), .mv (.tmp 8), none, false⟩,
   ⟨none, .store 4 (.tmp 6) (.tmp 15), none, false⟩,
   ⟨(some 7), .mv (.tmp 16), none, false⟩])
  .ret) .skip)))
  (.seq (.reg [⟨(some 17), .mv (.tmp 0), none, false⟩,
   ⟨(some 18), .mv (.tmp 1), none, false⟩,
   ⟨(some 19), .build [.int .i64 0, .int .i64 0, .slice none 0 0, .slice none 0 0] [(0, 1, (.tmp 17)), (1, 1, (.tmp 18))], none, false⟩,
   ⟨(some 20), .mv (.tmp 2), none, false⟩,
   ⟨(some 21), .call (.func 92) [(.tmp 19), (.tmp 20)], none, false⟩,
   ⟨none, .store 4 (.tmp 6) (.tmp 21), none, false⟩,
   ⟨(some 7), .mv (.const (.int .i64 0)), none, false⟩])
  .ret)))⟩

theorem s44 : compFn Try.prog Try.f44 = some c44 := by kernel_rfl

/-- loop.example/g01262/spec.FormsOf -/
def c45 : XFn :=
 ⟨[.tmp 2, .tmp 3],
  (.seq (.reg [⟨(some 1), .box 48 (.tmp 0), none, false⟩,
   ⟨(some 2), .mv (.const (.slice none 0 0)), none, false⟩,
   ⟨(some 3), .mv (.const (.int .i64 0)), none, false⟩])
  (.seq (.seq (.reg [⟨(some 4), .loadn 4 (.tmp 1), none, false⟩,
   ⟨(some 5), .call (.func 75) [(.tmp 4)], none, false⟩,
   ⟨(some 6), .un .not (.tmp 5), none, false⟩])
  (.cond (.tmp 6) (.seq (.reg [⟨(some 2), .mv (.const (.slice none 0 0)), none, false⟩,
   ⟨(some 3), .mv (.const (.int .i64 1)), none, false⟩])
  .ret) .skip))
  (.seq (.reg [⟨(some 7), .loadn 4 (.tmp 1), none, false⟩,
   ⟨(some 8), .call (.func 93) [(.tmp 7)], none, false⟩,
   ⟨(some 2), .mv (.tmp 8), none, false⟩,
   ⟨(some 3), .mv (.const (.int .i64 0)), none, false⟩])
  .ret)))⟩

theorem s45 : compFn Try.prog Try.f45 = some c45 := by kernel_rfl

/-- loop.example/g01262/impl.FormsOf -/
def c46 : XFn :=
 ⟨[.tmp 2, .tmp 3],
  (.seq (.reg [⟨(some 1), .box 48 (.tmp 0), none, false⟩,
   ⟨(some 2), .mv (.const (.slice none 0 0)), none, false⟩,
   ⟨(some 3), .mv (.const (.int .i64 0)), none, false⟩])
  (.seq (.seq (.reg [⟨(some 7), .loadn 4 (.tmp 1), none, false⟩,
   ⟨(some 8), .call (.func 78) [(.tmp 7)], none, false⟩,
   ⟨(some 9), .un .not (.tmp 8), none, false⟩])
  (.cond (.tmp 9) (.seq (.reg [⟨(some 2), .mv (.const (.slice none 0 0)), none, false⟩,
   ⟨(some 3), .mv (.const (.int .i64 1)), none, false⟩])
  .ret) .skip))
  (.seq (.reg [⟨(some 10), .bslice 22 1 0 [.slice none 0 0] [], none, false⟩,
   ⟨(some 4), .mv (.tmp 10), none, false⟩])
  (.seq (.seq (.reg [⟨(some 11), .fadr 1 (.tmp 1), none, false⟩,
   ⟨(some 12), .load1 (.tmp 11), none, false⟩,
   ⟨(some 13), .mv (.const (.int .i64 0)), none, false⟩])
  (.blk 0 (.loop (.seq (.reg [⟨(some 14), .bin .lss (.tmp 13) (.tmp 12), none, false⟩])
  (.seq (.cond (.tmp 14) .skip (.exit 0))
  (.seq (.blk 1 (.seq (.reg [⟨(some 15), .mv (.tmp 13), none, false⟩,
   ⟨(some 5), .mv (.tmp 15), none, false⟩])
  (.seq (.reg [⟨(some 16), .fadr 1 (.tmp 1), none, false⟩,
   ⟨(some 17), .load1 (.tmp 16), none, false⟩,
   ⟨(some 18), .mks 2 1 8 [.int .i64 0] (.tmp 17), none, false⟩,
   ⟨(some 6), .mv (.tmp 18), none, false⟩])
  (.seq (.reg [⟨(some 19), .mv (.tmp 6), none, false⟩,
   ⟨(some 20), .mv (.tmp 5), none, false⟩,
   ⟨(some 21), .ixs 1 (.tmp 19) (.tmp 20), none, false⟩,
   ⟨none, .store 1 (.tmp 21) (.const (.int .i64 1)), none, false⟩])
  (.reg [⟨(some 22), .mv (.tmp 4), none, false⟩,
   ⟨(some 23), .loadn 4 (.tmp 1), none, false⟩,
   ⟨(some 24), .mv (.tmp 6), none, false⟩,
   ⟨(some 25), .call (.func 86) [(.tmp 23), (.tmp 24)], none, false⟩,
   ⟨(some 26), .bslice 22 1 1 [.slice none 0 0] [(0, 1, (.tmp 25))], none, false⟩,
   ⟨(some 27), .app 22 1 24 (.tmp 22) (.tmp 26), none, false⟩,
   ⟨(some 4), .mv (.tmp 27), none, false⟩])))))
  (.reg [⟨(some 28), .bin .add (.tmp 13) (.const (.int .i64 1)), none, false⟩,
   ⟨(some 13), .mv (.tmp 28), none, false⟩])))))))
  (.seq (.reg [⟨(some 29), .mv (.tmp 4), none, false⟩,
   ⟨(some 30), .call (.func 94) [(.tmp 29)], none, false⟩,
   ⟨(some 2), .mv (.tmp 30), none, false⟩,
   ⟨(some 3), .mv (.const (.int .i64 0)), none, false⟩])
  .ret)))))⟩

theorem s46 : compFn Try.prog Try.f46 = some c46 := by kernel_rfl

/-- loop.example/g01262/spec.SharedProgram -/
def c47 : XFn :=
 ⟨[.celln 6 4, .tmp 7],
  (.seq (.reg [⟨(some 6), .alloc 48 [.int .i64 0, .int .i64 0, .slice none 0 0, .slice none 0 0], none, false⟩,
   ⟨(some 7), .mv (.const (.int .i64 0)), none, false⟩])
  (.seq (.seq (.reg [⟨(some 9), .mv (.tmp 0), none, false⟩,
   ⟨(some 10), .mv (.tmp 1), none, false⟩,
   ⟨(some 11), .mv (.tmp 2), none, false⟩,
   ⟨(some 12), .call (.func 89) [(.tmp 9), (.tmp 10), (.tmp 11)], none, false⟩,
   ⟨(some 8), .mv (.tmp 12), none, false⟩])
  (.seq (.reg [⟨(some 13), .mv (.tmp 8), none, false⟩,
   ⟨(some 14), .bin .neq (.tmp 13) (.const (.int .i64 0)), none, false⟩])
  (.cond (.tmp 14) (.seq (.reg [⟨(some 15), .build [.int .i64 0, .int .i64 0, .slice none 0 0, .slice none 0 0] [], none, false⟩,
   ⟨(some 16), .mv (.tmp 8), none, false⟩,
   ⟨none, .store 4 (.tmp 6) (.tmp 15), none, false⟩,
   ⟨(some 7), .mv (.tmp 16), none, false⟩])
  .ret) .skip)))
  (.seq (.reg [⟨(some 17), .mv (.tmp 0), none, false⟩,
   ⟨(some 18), .mv (.tmp 1), none, false⟩,
   ⟨(some 19), .mv (.tmp 2), none, false⟩,
   ⟨(some 20), .call (.func 95) [(.tmp 17), (.tmp 18), (.tmp 19)], none, false⟩,
   ⟨none, .store 4 (.tmp 6) (.tmp 20), none, false⟩,
   ⟨(some 7), .mv (.const (.int .i64 0)), none, false⟩])
  .ret)))⟩

theorem s47 : compFn Try.prog Try.f47 = some c47 := by kernel_rfl

/-- loop.example/g01262/impl.SharedProgram -/
def c48 : XFn :=
 ⟨[.celln 6 4, .tmp 7],
  (.seq (.reg [⟨(some 6), .alloc 48 [.int .i64 0, .int .i64 0, .slice none 0 0, .slice none 0 0], none, false⟩,
   ⟨(some 7), .mv (.const (.int .i64 0)), none, false⟩])
  (.seq (.seq (.reg [⟨(some 9), .mv (.tmp 0), none, false⟩,
   ⟨(some 10), .mv (.tmp 1), none, false⟩,
   ⟨(some 11), .mv (.tmp 2), none, false⟩,
   ⟨(some 12), .call (.func 91) [(.tmp 9), (.tmp 10), (.tmp 11)], none, false⟩,
   ⟨(some 8), .mv (.tmp 12), none, false⟩])
  (.seq (.reg [⟨(some 13), .mv (.tmp 8), none, false⟩,
   ⟨(some 14), .bin .neq (.tmp 13) (.const (.int .i64 0)), none, false⟩])
  (.cond (.tmp 14) (.seq (.reg [⟨(some 15), .build [.int .i64 0, .int .i64 0, .slice none 0 0, .slice none 0 0] [], none, false⟩,
   ⟨(some 16), .mv (.tmp 8), none, false⟩,
   ⟨none, .store 4 (.tmp 6) (.tmp 15), none, false⟩,
   ⟨(some 7), .mv (.tmp 16), none, false⟩])
  .ret) .skip)))
  (.seq (.reg [⟨(some 17), .mv (.tmp 0), none, false⟩,
   ⟨(some 18), .mv (.tmp 1), none, false⟩,
   ⟨(some 19), .mv (.tmp 2), none, false⟩,
   ⟨(some 20), .call (.func 96) [(.tmp 17), (.tmp 18), (.tmp 19)], none, false⟩,
   ⟨none, .store 4 (.tmp 6) (.tmp 20), none, false⟩,
   ⟨(some 7), .mv (.const (.int .i64 0)), none, false⟩])
  .ret)))⟩

theorem s48 : compFn Try.prog Try.f48 = some c48 := by kernel_rfl

/-- loop.example/g01262/laws.szScheme -/
def c49 : XFn :=
 ⟨[.tmp 4],
  (.seq (.reg [⟨(some 2), .box 66 (.tmp 0), none, false⟩,
   ⟨(some 4), .mv (.const (.int .i64 0)), none, false⟩])
  (.seq (.reg [⟨(some 5), .fadr 4 (.tmp 2), none, false⟩,
   ⟨(some 6), .load1 (.tmp 5), none, false⟩,
   ⟨(some 7), .mv (.tmp 1), none, false⟩,
   ⟨(some 8), .call (.func 97) [(.tmp 6), (.tmp 7)], none, false⟩,
   ⟨(some 1), .mv (.tmp 8), none, false⟩])
  (.seq (.seq (.reg [⟨(some 9), .mv (.tmp 1), none, false⟩,
   ⟨(some 10), .bin .lss (.tmp 9) (.const (.int .i64 0)), none, false⟩])
  (.cond (.tmp 10) (.seq (.reg [⟨(some 4), .mv (.const (.int .i64 (-1))), none, false⟩])
  .ret) .skip))
  (.seq (.reg [⟨(some 11), .mv (.tmp 1), none, false⟩,
   ⟨(some 4), .mv (.tmp 11), none, false⟩])
  .ret))))⟩

theorem s49 : compFn Try.prog Try.f49 = some c49 := by kernel_rfl

/-- loop.example/g01262/spec.MakeProduct -/
def c50 : XFn :=
 ⟨[.tmp 6, .tmp 7],
  (.seq (.reg [⟨(some 3), .box 71 (.tmp 0), none, false⟩,
   ⟨(some 6), .mv (.const (.slice none 0 0)), none, false⟩,
   ⟨(some 7), .mv (.const (.int .i64 0)), none, false⟩])
  (.seq (.blk 0 (.seq (.reg [⟨(some 9), .loadn 5 (.tmp 3), none, false⟩,
   ⟨(some 10), .call (.func 98) [(.tmp 9)], none, false⟩,
   ⟨(some 11), .un .not (.tmp 10), none, false⟩,
   ⟨(some 8), .mv (.tmp 11), none, false⟩])
  (.cond (.tmp 8) (.seq (.reg [⟨(some 6), .mv (.const (.slice none 0 0)), none, false⟩,
   ⟨(some 7), .mv (.const (.int .i64 1)), none, false⟩])
  .ret) (.seq (.reg [⟨(some 13), .fadr 0 (.tmp 3), none, false⟩,
   ⟨(some 14), .load1 (.tmp 13), none, false⟩,
   ⟨(some 15), .mv (.tmp 1), none, false⟩,
   ⟨(some 16), .fadr 1 (.tmp 3), none, false⟩,
   ⟨(some 17), .load1 (.tmp 16), none, false⟩,
   ⟨(some 18), .fadr 2 (.tmp 3), none, false⟩,
   ⟨(some 19), .load1 (.tmp 18), none, false⟩,
   ⟨(some 20), .call (.func 99) [(.tmp 14), (.tmp 15), (.tmp 17), (.tmp 19)], none, false⟩,
   ⟨(some 21), .un .not (.tmp 20), none, false⟩,
   ⟨(some 22), .mv (.tmp 21), none, false⟩,
   ⟨(some 23), .fadr 0 (.tmp 3), (some (22, false)), false⟩,
   ⟨(some 24), .load1 (.tmp 23), (some (22, false)), false⟩,
   ⟨(some 25), .mv (.tmp 2), (some (22, false)), false⟩,
   ⟨(some 26), .fadr 2 (.tmp 3), (some (22, false)), false⟩,
   ⟨(some 27), .load1 (.tmp 26), (some (22, false)), false⟩,
   ⟨(some 28), .fadr 3 (.tmp 3), (some (22, false)), false⟩,
   ⟨(some 29), .load1 (.tmp 28), (some (22, false)), false⟩,
   ⟨(some 30), .call (.func 99) [(.tmp 24), (.tmp 25), (.tmp 27), (.tmp 29)], (some (22, false)), false⟩,
   ⟨(some 31), .un .not (.tmp 30), (some (22, false)), false⟩,
   ⟨(some 32), .pick (.tmp 22) (.const (.bool true)) (.tmp 31), none, false⟩,
   ⟨(some 12), .mv (.tmp 32), none, false⟩])
  (.cond (.tmp 12) (.seq (.reg [⟨(some 6), .mv (.const (.slice none 0 0)), none, false⟩,
   ⟨(some 7), .mv (.const (.int .i64 2)), none, false⟩])
  .ret) .skip)))))
  (.seq (.reg [⟨(some 33), .loadn 5 (.tmp 3), none, false⟩,
   ⟨(some 34), .mv (.tmp 1), none, false⟩,
   ⟨(some 35), .mv (.tmp 2), none, false⟩,
   ⟨(some 36), .call (.func 100) [(.tmp 33), (.tmp 34), (.tmp 35)], none, false⟩,
   ⟨(some 6), .mv (.tmp 36), none, false⟩,
   ⟨(some 7), .mv (.const (.int .i64 0)), none, false⟩])
  .ret)))⟩

theorem s50 : compFn Try.prog Try.f50 = some c50 := by kernel_rfl

/-- loop.example/g01262/laws.toScheme -/
def c51 : XFn :=
 ⟨[.celln 2 5],
  (.seq (.reg [⟨(some 1), .box 66 (.tmp 0), none, false⟩,
   ⟨(some 2), .alloc 71 [.int .i64 0, .int .i64 0, .int .i64 0, .int .i64 0, .slice none 0 0], none, false⟩])
  (.seq (.reg [⟨(some 3), .alloc 71 [.int .i64 0, .int .i64 0, .int .i64 0, .int .i64 0, .slice none 0 0], none, false⟩])
  (.seq (.reg [⟨(some 4), .fadr 0 (.tmp 1), none, false⟩,
   ⟨(some 5), .load1 (.tmp 4), none, false⟩,
   ⟨(some 6), .fadr 0 (.tmp 3), none, false⟩,
   ⟨none, .store 1 (.tmp 6) (.tmp 5), none, false⟩])
  (.seq (.reg [⟨(some 7), .fadr 1 (.tmp 1), none, false⟩,
   ⟨(some 8), .load1 (.tmp 7), none, false⟩,
   ⟨(some 9), .fadr 1 (.tmp 3), none, false⟩,
   ⟨none, .store 1 (.tmp 9) (.tmp 8), none, false⟩])
  (.seq (.reg [⟨(some 10), .fadr 2 (.tmp 1), none, false⟩,
   ⟨(some 11), .load1 (.tmp 10), none, false⟩,
   ⟨(some 12), .fadr 2 (.tmp 3), none, false⟩,
   ⟨none, .store 1 (.tmp 12) (.tmp 11), none, false⟩])
  (.seq (.reg [⟨(some 13), .fadr 3 (.tmp 1), none, false⟩,
   ⟨(some 14), .load1 (.tmp 13), none, false⟩,
   ⟨(some 15), .fadr 3 (.tmp 3), none, false⟩,
   ⟨none, .store 1 (.tmp 15) (.tmp 14), none, false⟩])
  (.seq (.reg [⟨(some 16), .fadr 4 (.tmp 1), none, false⟩,
   ⟨(some 17), .load1 (.tmp 16), none, false⟩,
   ⟨(some 18), .call (.func 101) [(.tmp 17)], none, false⟩,
   ⟨(some 19), .fadr 4 (.tmp 3), none, false⟩,
   ⟨none, .store 1 (.tmp 19) (.tmp 18), none, false⟩])
  (.seq (.reg [⟨(some 20), .loadn 5 (.tmp 3), none, false⟩,
   ⟨none, .store 5 (.tmp 2) (.tmp 20), none, false⟩])
  .ret))))))))⟩

theorem s51 : compFn Try.prog Try.f51 = some c51 := by kernel_rfl

/-- loop.example/g01262/impl.MakeProduct -/
def c52 : XFn :=
 ⟨[.tmp 6, .tmp 7],
  (.seq (.reg [⟨(some 3), .box 71 (.tmp 0), none, false⟩,
   ⟨(some 6), .mv (.const (.slice none 0 0)), none, false⟩,
   ⟨(some 7), .mv (.const (.int .i64 0)), none, false⟩])
  (.seq (.seq (.reg [⟨(some 9), .loadn 5 (.tmp 3), none, false⟩,
   ⟨(some 10), .mv (.tmp 1), none, false⟩,
   ⟨(some 11), .mv (.tmp 2), none, false⟩,
   ⟨(some 12), .call (.func 102) [(.tmp 9), (.tmp 10), (.tmp 11)], none, false⟩,
   ⟨(some 8), .mv (.tmp 12), none, false⟩])
  (.seq (.reg [⟨(some 13), .mv (.tmp 8), none, false⟩,
   ⟨(some 14), .bin .neq (.tmp 13) (.const (.int .i64 0)), none, false⟩])
  (.cond (.tmp 14) (.seq (.reg [⟨(some 15), .mv (.tmp 8), none, false⟩,
   ⟨(some 6), .mv (.const (.slice none 0 0)), none, false⟩,
   ⟨(some 7), .mv (.tmp 15), none, false⟩])
  .ret) .skip)))
  (.seq (.reg [⟨(some 16), .fadr 0 (.tmp 3), none, false⟩,
   ⟨(some 17), .load1 (.tmp 16), none, false⟩,
   ⟨(some 18), .fadr 4 (.tmp 3), none, false⟩,
   ⟨(some 19), .load1 (.tmp 18), none, false⟩,
   ⟨(some 20), .fadr 1 (.tmp 3), none, false⟩,
   ⟨(some 21), .load1 (.tmp 20), none, false⟩,
   ⟨(some 22), .fadr 3 (.tmp 3), none, false⟩,
   ⟨(some 23), .load1 (.tmp 22), none, false⟩,
   ⟨(some 24), .bin .mul (.tmp 21) (.tmp 23), none, false⟩,
   ⟨(some 25), .mv (.tmp 1), none, false⟩,
   ⟨(some 26), .call (.func 105) [(.tmp 25)], none, true⟩,
   ⟨(some 27), .mv (.tmp 2), none, false⟩,
   ⟨(some 28), .call (.func 105) [(.tmp 27)], none, true⟩,
   ⟨(some 29), .call (.func 104) [(.tmp 17), (.tmp 19), (.tmp 24), (.tmp 26), (.tmp 28)], none, true⟩,
   ⟨(some 30), .fadr 3 (.tmp 3), none, false⟩,
   ⟨(some 31), .load1 (.tmp 30), none, false⟩,
   ⟨(some 32), .call (.func 103) [(.tmp 29), (.tmp 31)], none, false⟩,
   ⟨(some 6), .mv (.tmp 32), none, false⟩,
   ⟨(some 7), .mv (.const (.int .i64 0)), none, false⟩])
  .ret)))⟩

theorem s52 : compFn Try.prog Try.f52 = some c52 := by kernel_rfl

/-- loop.example/g01262/laws.eqScheme -/
def c53 : XFn :=
 ⟨[.tmp 4],
  (.seq (.reg [⟨(some 2), .box 71 (.tmp 0), none, false⟩,
   ⟨(some 3), .box 71 (.tmp 1), none, false⟩,
   ⟨(some 4), .mv (.const (.bool false)), none, false⟩])
  (.seq (.seq (.reg [⟨(some 5), .fadr 0 (.tmp 2), none, false⟩,
   ⟨(some 6), .load1 (.tmp 5), none, false⟩,
   ⟨(some 7), .fadr 0 (.tmp 3), none, false⟩,
   ⟨(some 8), .load1 (.tmp 7), none, false⟩,
   ⟨(some 9), .bin .neq (.tmp 6) (.tmp 8), none, false⟩])
  (.cond (.tmp 9) (.seq (.reg [⟨(some 4), .mv (.const (.bool false)), none, false⟩])
  .ret) .skip))
  (.seq (.seq (.reg [⟨(some 10), .fadr 1 (.tmp 2), none, false⟩,
   ⟨(some 11), .load1 (.tmp 10), none, false⟩,
   ⟨(some 12), .fadr 1 (.tmp 3), none, false⟩,
   ⟨(some 13), .load1 (.tmp 12), none, false⟩,
   ⟨(some 14), .bin .neq (.tmp 11) (.tmp 13), none, false⟩])
  (.cond (.tmp 14) (.seq (.reg [⟨(some 4), .mv (.const (.bool false)), none, false⟩])
  .ret) .skip))
  (.seq (.seq (.reg [⟨(some 15), .fadr 2 (.tmp 2), none, false⟩,
   ⟨(some 16), .load1 (.tmp 15), none, false⟩,
   ⟨(some 17), .fadr 2 (.tmp 3), none, false⟩,
   ⟨(some 18), .load1 (.tmp 17), none, false⟩,
   ⟨(some 19), .bin .neq (.tmp 16) (.tmp 18), none, false⟩])
  (.cond (.tmp 19) (.seq (.reg [⟨(some 4), .mv (.const (.bool false)), none, false⟩])
  .ret) .skip))
  (.seq (.seq (.reg [⟨(some 20), .fadr 3 (.tmp 2), none, false⟩,
   ⟨(some 21), .load1 (.tmp 20), none, false⟩,
   ⟨(some 22), .fadr 3 (.tmp 3), none, false⟩,
   ⟨(some 23), .load1 (.tmp 22), none, false⟩,
   ⟨(some 24), .bin .neq (.tmp 21) (.tmp 23), none, false⟩])
  (.cond (.tmp 24) (.seq (.reg [⟨(some 4), .mv (.const (.bool false)), none, false⟩])
  .ret) .skip))
  (.seq (.seq (.reg [⟨(some 25), .fadr 4 (.tmp 2), none, false⟩,
   ⟨(some 26), .load1 (.tmp 25), none, false⟩,
   ⟨(some 27), .fadr 4 (.tmp 3), none, false⟩,
   ⟨(some 28), .load1 (.tmp 27), none, false⟩,
   ⟨(some 29), .call (.func 106) [(.tmp 26), (.tmp 28)], none, false⟩,
   ⟨(some 30), .un .not (.tmp 29), none, false⟩])
  (.cond (.tmp 30) (.seq (.reg [⟨(some 4), .mv (.const (.bool false)), none, false⟩])
  .ret) .skip))
  (.seq (.reg [⟨(some 4), .mv (.const (.bool true)), none, false⟩])
  .ret)))))))⟩

theorem s53 : compFn Try.prog Try.f53 = some c53 := by kernel_rfl

/-- loop.example/g01262/laws.markScheme -/
def c54 : XFn :=
 ⟨[.tmp 4],
  (.seq (.reg [⟨(some 2), .box 71 (.tmp 0), none, false⟩,
   ⟨(some 4), .mv (.const (.int .i64 0)), none, false⟩])
  (.seq (.reg [⟨(some 5), .fadr 4 (.tmp 2), none, false⟩,
   ⟨(some 6), .load1 (.tmp 5), none, false⟩,
   ⟨(some 7), .mv (.tmp 1), none, false⟩,
   ⟨(some 8), .call (.func 107) [(.tmp 6), (.tmp 7)], none, false⟩,
   ⟨(some 1), .mv (.tmp 8), none, false⟩])
  (.seq (.reg [⟨(some 9), .mv (.tmp 1), none, false⟩,
   ⟨(some 4), .mv (.tmp 9), none, false⟩])
  .ret)))⟩

theorem s54 : compFn Try.prog Try.f54 = some c54 := by kernel_rfl

/-- loop.example/g01262/spec.StepsOf -/
def c55 : XFn :=
 ⟨[.tmp 4, .tmp 5],
  (.seq (.reg [⟨(some 2), .box 71 (.tmp 0), none, false⟩,
   ⟨(some 4), .mv (.const (.slice none 0 0)), none, false⟩,
   ⟨(some 5), .mv (.const (.int .i64 0)), none, false⟩])
  (.seq (.seq (.reg [⟨(some 10), .loadn 5 (.tmp 2), none, false⟩,
   ⟨(some 11), .call (.func 108) [(.tmp 10)], none, false⟩,
   ⟨(some 6), .mv (.tmp 11), none, false⟩])
  (.seq (.reg [⟨(some 12), .mv (.tmp 6), none, false⟩,
   ⟨(some 13), .bin .neq (.tmp 12) (.const (.int .i64 0)), none, false⟩])
  (.cond (.tmp 13) (.seq (.reg [⟨(some 14), .mv (.tmp 6), none, false⟩,
   ⟨(some 4), .mv (.const (.slice none 0 0)), none, false⟩,
   ⟨(some 5), .mv (.tmp 14), none, false⟩])
  .ret) .skip)))
  (.seq (.reg [⟨(some 15), .loadn 5 (.tmp 2), none, false⟩,
   ⟨(some 16), .mv (.tmp 1), none, false⟩,
   ⟨(some 17), .call (.func 109) [(.tmp 15), (.tmp 16)], none, false⟩,
   ⟨(some 18), .bslice 2 1 0 [.int .i64 0] [], none, false⟩,
   ⟨(some 7), .mv (.tmp 17), none, false⟩,
   ⟨(some 8), .mv (.tmp 18), none, false⟩])
  (.seq (.seq (.reg [⟨(some 9), .mv (.const (.int .i64 0)), none, false⟩])
  (.blk 0 (.loop (.seq (.seq (.reg [⟨(some 19), .mv (.tmp 9), none, false⟩,
   ⟨(some 20), .mv (.tmp 7), none, false⟩,
   ⟨(some 21), .len (.tmp 20), none, false⟩,
   ⟨(some 22), .bin .lss (.tmp 19) (.tmp 21), none, false⟩])
  (.cond (.tmp 22) .skip (.exit 0)))
  (.seq (.blk 1 (.reg [⟨(some 25), .mv (.tmp 8), none, false⟩,
   ⟨(some 26), .mv (.tmp 7), none, false⟩,
   ⟨(some 27), .mv (.tmp 9), none, false⟩,
   ⟨(some 28), .ixs 4 (.tmp 26) (.tmp 27), none, false⟩,
   ⟨(some 29), .fadr 2 (.tmp 28), none, false⟩,
   ⟨(some 30), .load1 (.tmp 29), none, false⟩,
   ⟨(some 31), .len (.tmp 30), none, false⟩,
   ⟨(some 32), .bslice 2 1 1 [.int .i64 0] [(0, 1, (.tmp 31))], none, false⟩,
   ⟨(some 33), .app 2 1 8 (.tmp 25) (.tmp 32), none, false⟩,
   ⟨(some 8), .mv (.tmp 33), none, false⟩]))
  (.reg [⟨(some 23), .mv (.tmp 9), none, false⟩,
   ⟨(some 24), .bin .add (.tmp 23) (.const (.int .i64 1)), none, false⟩,
   ⟨(some 9), .mv (.tmp 24), none, false⟩]))))))
  (.seq (.reg [⟨(some 34), .mv (.tmp 8), none, false⟩,
   ⟨(some 4), .mv (.tmp 34), none, false⟩,
   ⟨(some 5), .mv (.const (.int .i64 0)), none, false⟩])
  .ret)))))⟩

theorem s55 : compFn Try.prog Try.f55 = some c55 := by kernel_rfl

/-- loop.example/g01262/impl.StepsOf -/
def c56 : XFn :=
 ⟨[.tmp 4, .tmp 5],
  (.seq (.reg [⟨(some 2), .box 71 (.tmp 0), none, false⟩,
   ⟨(some 4), .mv (.const (.slice none 0 0)), none, false⟩,
   ⟨(some 5), .mv (.const (.int .i64 0)), none, false⟩])
  (.seq (.seq (.reg [⟨(some 10), .loadn 5 (.tmp 2), none, false⟩,
   ⟨(some 11), .call (.func 110) [(.tmp 10)], none, false⟩,
   ⟨(some 6), .mv (.tmp 11), none, false⟩])
  (.seq (.reg [⟨(some 12), .mv (.tmp 6), none, false⟩,
   ⟨(some 13), .bin .neq (.tmp 12) (.const (.int .i64 0)), none, false⟩])
  (.cond (.tmp 13) (.seq (.reg [⟨(some 14), .mv (.tmp 6), none, false⟩,
   ⟨(some 4), .mv (.const (.slice none 0 0)), none, false⟩,
   ⟨(some 5), .mv (.tmp 14), none, false⟩])
  .ret) .skip)))
  (.seq (.reg [⟨(some 15), .bslice 2 1 0 [.int .i64 0] [], none, false⟩,
   ⟨(some 7), .mv (.tmp 15), none, false⟩])
  (.seq (.seq (.reg [⟨(some 16), .loadn 5 (.tmp 2), none, false⟩,
   ⟨(some 17), .mv (.tmp 1), none, false⟩,
   ⟨(some 18), .call (.func 111) [(.tmp 16), (.tmp 17)], none, false⟩,
   ⟨(some 19), .len (.tmp 18), none, false⟩,
   ⟨(some 20), .mv (.const (.int .i64 0)), none, false⟩])
  (.blk 0 (.loop (.seq (.reg [⟨(some 21), .bin .lss (.tmp 20) (.tmp 19), none, false⟩])
  (.seq (.cond (.tmp 21) .skip (.exit 0))
  (.seq (.blk 1 (.seq (.reg [⟨(some 22), .ixs 4 (.tmp 18) (.tmp 20), none, false⟩,
   ⟨(some 23), .loadn 4 (.tmp 22), none, false⟩,
   ⟨(some 9), .alloc 48 [.int .i64 0, .int .i64 0, .slice none 0 0, .slice none 0 0], none, false⟩,
   ⟨none, .store 4 (.tmp 9) (.tmp 23), none, false⟩])
  (.reg [⟨(some 24), .mv (.tmp 7), none, false⟩,
   ⟨(some 25), .fadr 2 (.tmp 9), none, false⟩,
   ⟨(some 26), .load1 (.tmp 25), none, false⟩,
   ⟨(some 27), .len (.tmp 26), none, false⟩,
   ⟨(some 28), .bslice 2 1 1 [.int .i64 0] [(0, 1, (.tmp 27))], none, false⟩,
   ⟨(some 29), .app 2 1 8 (.tmp 24) (.tmp 28), none, false⟩,
   ⟨(some 7), .mv (.tmp 29), none, false⟩])))
  (.reg [⟨(some 30), .bin .add (.tmp 20) (.const (.int .i64 1)), none, false⟩,
   ⟨(some 20), .mv (.tmp 30), none, false⟩])))))))
  (.seq (.reg [⟨(some 31), .mv (.tmp 7), none, false⟩,
   ⟨(some 4), .mv (.tmp 31), none, false⟩,
   ⟨(some 5), .mv (.const (.int .i64 0)), none, false⟩])
  .ret)))))⟩

theorem s56 : compFn Try.prog Try.f56 = some c56 := by kernel_rfl

/-- loop.example/g01262/spec.ProgramsOf -/
def c57 : XFn :=
 ⟨[.tmp 4, .tmp 5],
  (.seq (.reg [⟨(some 2), .box 71 (.tmp 0), none, false⟩,
   ⟨(some 4), .mv (.const (.slice none 0 0)), none, false⟩,
   ⟨(some 5), .mv (.const (.int .i64 0)), none, false⟩])
  (.seq (.seq (.reg [⟨(some 7), .loadn 5 (.tmp 2), none, false⟩,
   ⟨(some 8), .call (.func 108) [(.tmp 7)], none, false⟩,
   ⟨(some 6), .mv (.tmp 8), none, false⟩])
  (.seq (.reg [⟨(some 9), .mv (.tmp 6), none, false⟩,
   ⟨(some 10), .bin .neq (.tmp 9) (.const (.int .i64 0)), none, false⟩])
  (.cond (.tmp 10) (.seq (.reg [⟨(some 11), .mv (.tmp 6), none, false⟩,
   ⟨(some 4), .mv (.const (.slice none 0 0)), none, false⟩,
   ⟨(some 5), .mv (.tmp 11), none, false⟩])
  .ret) .skip)))
  (.seq (.reg [⟨(some 12), .loadn 5 (.tmp 2), none, false⟩,
   ⟨(some 13), .mv (.tmp 1), none, false⟩,
   ⟨(some 14), .call (.func 109) [(.tmp 12), (.tmp 13)], none, false⟩,
   ⟨(some 4), .mv (.tmp 14), none, false⟩,
   ⟨(some 5), .mv (.const (.int .i64 0)), none, false⟩])
  .ret)))⟩

theorem s57 : compFn Try.prog Try.f57 = some c57 := by kernel_rfl

/-- loop.example/g01262/impl.ProgramsOf -/
def c58 : XFn :=
 ⟨[.tmp 4, .tmp 5],
  (.seq (.reg [⟨(some 2), .box 71 (.tmp 0), none, false⟩,
   ⟨(some 4), .mv (.const (.slice none 0 0)), none, false⟩,
   ⟨(some 5), .mv (.const (.int .i64 0)), none, false⟩])
  (.seq (.seq (.reg [⟨(some 7), .loadn 5 (.tmp 2), none, false⟩,
   ⟨(some 8), .call (.func 110) [(.tmp 7)], none, false⟩,
   ⟨(some 6), .mv (.tmp 8), none, false⟩])
  (.seq (.reg [⟨(some 9), .mv (.tmp 6), none, false⟩,
   ⟨(some 10), .bin .neq (.tmp 9) (.const (.int .i64 0)), none, false⟩])
  (.cond (.tmp 10) (.seq (.reg [⟨(some 11), .mv (.tmp 6), none, false⟩,
   ⟨(some 4), .mv (.const (.slice none 0 0)), none, false⟩,
   ⟨(some 5), .mv (.tmp 11), none, false⟩])
  .ret) .skip)))
  (.seq (.reg [⟨(some 12), .loadn 5 (.tmp 2), none, false⟩,
   ⟨(some 13), .mv (.tmp 1), none, false⟩,
   ⟨(some 14), .call (.func 111) [(.tmp 12), (.tmp 13)], none, false⟩,
   ⟨(some 4), .mv (.tmp 14), none, false⟩,
   ⟨(some 5), .mv (.const (.int .i64 0)), none, false⟩])
  .ret)))⟩

theorem s58 : compFn Try.prog Try.f58 = some c58 := by kernel_rfl
end Go.Proofs.Ytilpnbejpndgpaa.X
