/- Texts of one claim, put together by merge.py: XCode. -/
import Derived.Test.YtilpnbejpndgpaaRU3
import Derived.Test.YtilpnbejpndgpaaProg
/- The abstract code of the seat's functions, printed by a program of this session, and that it is what the compiler of XComp makes. -/
set_option linter.unusedVariables false
set_option maxRecDepth 4000
namespace Go.Proofs.Ytilpnbejpndgpaa.X
open Go Go.RowKit

/-- loop.example/g01262/laws.FnExactMakeProduct -/
def c11 : XFn :=
 ⟨[.tmp 6],
  (.seq (.reg [⟨(some 3), .box 66 (.tmp 0), none, false⟩,
   ⟨(some 6), .mv (.const (.bool false)), none, false⟩])
  (.seq (.reg [⟨(some 7), .mv (.const (.int .i64 1048576)), none, false⟩])
  (.seq (.reg [⟨(some 20), .loadn 5 (.tmp 3), none, false⟩,
   ⟨(some 21), .mv (.tmp 7), none, false⟩,
   ⟨(some 22), .call (.func 49) [(.tmp 20), (.tmp 21)], none, false⟩,
   ⟨(some 7), .mv (.tmp 22), none, false⟩])
  (.seq (.seq (.reg [⟨(some 23), .mv (.tmp 7), none, false⟩,
   ⟨(some 24), .bin .lss (.tmp 23) (.const (.int .i64 0)), none, false⟩])
  (.cond (.tmp 24) (.seq (.reg [⟨(some 6), .mv (.const (.bool true)), none, false⟩])
  .ret) .skip))
  (.seq (.reg [⟨(some 25), .mv (.tmp 1), none, false⟩,
   ⟨(some 26), .mv (.tmp 7), none, false⟩,
   ⟨(some 27), .call (.func 41) [(.tmp 25), (.tmp 26)], none, false⟩,
   ⟨(some 7), .mv (.tmp 27), none, false⟩])
  (.seq (.seq (.reg [⟨(some 28), .mv (.tmp 7), none, false⟩,
   ⟨(some 29), .bin .lss (.tmp 28) (.const (.int .i64 0)), none, false⟩])
  (.cond (.tmp 29) (.seq (.reg [⟨(some 6), .mv (.const (.bool true)), none, false⟩])
  .ret) .skip))
  (.seq (.reg [⟨(some 30), .mv (.tmp 2), none, false⟩,
   ⟨(some 31), .mv (.tmp 7), none, false⟩,
   ⟨(some 32), .call (.func 41) [(.tmp 30), (.tmp 31)], none, false⟩,
   ⟨(some 7), .mv (.tmp 32), none, false⟩])
  (.seq (.seq (.reg [⟨(some 33), .mv (.tmp 7), none, false⟩,
   ⟨(some 34), .bin .lss (.tmp 33) (.const (.int .i64 0)), none, false⟩])
  (.cond (.tmp 34) (.seq (.reg [⟨(some 6), .mv (.const (.bool true)), none, false⟩])
  .ret) .skip))
  (.seq (.reg [⟨(some 36), .loadn 5 (.tmp 3), none, false⟩,
   ⟨(some 37), .call (.func 51) [(.tmp 36)], none, false⟩,
   ⟨(some 38), .mv (.tmp 1), none, false⟩,
   ⟨(some 39), .call (.func 43) [(.tmp 38)], none, false⟩,
   ⟨(some 40), .mv (.tmp 2), none, false⟩,
   ⟨(some 41), .call (.func 43) [(.tmp 40)], none, false⟩,
   ⟨(some 42), .call (.func 50) [(.tmp 37), (.tmp 39), (.tmp 41)], none, false⟩,
   ⟨(some 35), .mv (.tmp 42), none, false⟩,
   ⟨(some 43), .ext (.tmp 35) 0, none, false⟩,
   ⟨(some 44), .ext (.tmp 35) 1, none, false⟩,
   ⟨(some 8), .mv (.tmp 43), none, false⟩,
   ⟨(some 9), .mv (.tmp 44), none, false⟩])
  (.seq (.reg [⟨(some 45), .loadn 5 (.tmp 3), none, false⟩,
   ⟨(some 46), .call (.func 51) [(.tmp 45)], none, false⟩,
   ⟨(some 10), .alloc 71 [.int .i64 0, .int .i64 0, .int .i64 0, .int .i64 0, .slice none 0 0], none, false⟩,
   ⟨none, .store 5 (.tmp 10) (.tmp 46), none, false⟩])
  (.seq (.reg [⟨(some 47), .mv (.tmp 1), none, false⟩,
   ⟨(some 48), .call (.func 43) [(.tmp 47)], none, false⟩,
   ⟨(some 11), .mv (.tmp 48), none, false⟩])
  (.seq (.reg [⟨(some 49), .mv (.tmp 2), none, false⟩,
   ⟨(some 50), .call (.func 43) [(.tmp 49)], none, false⟩,
   ⟨(some 12), .mv (.tmp 50), none, false⟩])
  (.seq (.reg [⟨(some 52), .loadn 5 (.tmp 10), none, false⟩,
   ⟨(some 53), .mv (.tmp 11), none, false⟩,
   ⟨(some 54), .mv (.tmp 12), none, false⟩,
   ⟨(some 55), .call (.func 52) [(.tmp 52), (.tmp 53), (.tmp 54)], none, false⟩,
   ⟨(some 51), .mv (.tmp 55), none, false⟩,
   ⟨(some 56), .ext (.tmp 51) 0, none, false⟩,
   ⟨(some 57), .ext (.tmp 51) 1, none, false⟩,
   ⟨(some 13), .mv (.tmp 56), none, false⟩,
   ⟨(some 14), .mv (.tmp 57), none, false⟩])
  (.seq (.seq (.reg [⟨(some 58), .mv (.tmp 13), none, false⟩,
   ⟨(some 59), .mv (.tmp 8), none, false⟩,
   ⟨(some 60), .call (.func 22) [(.tmp 58), (.tmp 59)], none, false⟩,
   ⟨(some 61), .un .not (.tmp 60), none, false⟩,
   ⟨(some 62), .mv (.tmp 61), none, false⟩,
   ⟨(some 63), .mv (.tmp 14), (some (62, false)), false⟩,
   ⟨(some 64), .mv (.tmp 9), (some (62, false)), false⟩,
   ⟨(some 65), .bin .neq (.tmp 63) (.tmp 64), (some (62, false)), false⟩,
   ⟨(some 66), .pick (.tmp 62) (.const (.bool true)) (.tmp 65), none, false⟩])
  (.cond (.tmp 66) (.seq (.reg [⟨(some 6), .mv (.const (.bool false)), none, false⟩])
  .ret) .skip))
  (.seq (.seq (.reg [⟨(some 67), .loadn 5 (.tmp 10), none, false⟩,
   ⟨(some 68), .loadn 5 (.tmp 3), none, false⟩,
   ⟨(some 69), .call (.func 51) [(.tmp 68)], none, true⟩,
   ⟨(some 70), .call (.func 53) [(.tmp 67), (.tmp 69)], none, false⟩,
   ⟨(some 71), .un .not (.tmp 70), none, false⟩])
  (.cond (.tmp 71) (.seq (.reg [⟨(some 6), .mv (.const (.bool false)), none, false⟩])
  .ret) .skip))
  (.seq (.seq (.reg [⟨(some 72), .mv (.tmp 11), none, false⟩,
   ⟨(some 73), .mv (.tmp 1), none, false⟩,
   ⟨(some 74), .call (.func 43) [(.tmp 73)], none, false⟩,
   ⟨(some 75), .call (.func 22) [(.tmp 72), (.tmp 74)], none, false⟩,
   ⟨(some 76), .un .not (.tmp 75), none, false⟩])
  (.cond (.tmp 76) (.seq (.reg [⟨(some 6), .mv (.const (.bool false)), none, false⟩])
  .ret) .skip))
  (.seq (.seq (.reg [⟨(some 77), .mv (.tmp 12), none, false⟩,
   ⟨(some 78), .mv (.tmp 2), none, false⟩,
   ⟨(some 79), .call (.func 43) [(.tmp 78)], none, false⟩,
   ⟨(some 80), .call (.func 22) [(.tmp 77), (.tmp 79)], none, false⟩,
   ⟨(some 81), .un .not (.tmp 80), none, false⟩])
  (.cond (.tmp 81) (.seq (.reg [⟨(some 6), .mv (.const (.bool false)), none, false⟩])
  .ret) .skip))
  (.seq (.reg [⟨(some 15), .mv (.const (.int .i64 1)), none, false⟩])
  (.seq (.reg [⟨(some 82), .loadn 5 (.tmp 10), none, false⟩,
   ⟨(some 83), .mv (.tmp 15), none, false⟩,
   ⟨(some 84), .call (.func 54) [(.tmp 82), (.tmp 83)], none, false⟩,
   ⟨(some 15), .mv (.tmp 84), none, false⟩])
  (.seq (.reg [⟨(some 85), .mv (.tmp 11), none, false⟩,
   ⟨(some 86), .mv (.tmp 15), none, false⟩,
   ⟨(some 87), .call (.func 24) [(.tmp 85), (.tmp 86)], none, false⟩,
   ⟨(some 15), .mv (.tmp 87), none, false⟩])
  (.seq (.reg [⟨(some 88), .mv (.tmp 12), none, false⟩,
   ⟨(some 89), .mv (.tmp 15), none, false⟩,
   ⟨(some 90), .call (.func 24) [(.tmp 88), (.tmp 89)], none, false⟩,
   ⟨(some 15), .mv (.tmp 90), none, false⟩])
  (.seq (.seq (.reg [⟨(some 91), .mv (.tmp 15), none, false⟩,
   ⟨(some 92), .bin .lss (.tmp 91) (.const (.int .i64 0)), none, false⟩,
   ⟨(some 93), .mv (.tmp 92), none, false⟩,
   ⟨(some 94), .mv (.tmp 13), (some (93, false)), false⟩,
   ⟨(some 95), .mv (.tmp 8), (some (93, false)), false⟩,
   ⟨(some 96), .call (.func 22) [(.tmp 94), (.tmp 95)], (some (93, false)), false⟩,
   ⟨(some 97), .un .not (.tmp 96), (some (93, false)), false⟩,
   ⟨(some 98), .pick (.tmp 93) (.const (.bool true)) (.tmp 97), none, false⟩,
   ⟨(some 99), .mv (.tmp 98), none, false⟩,
   ⟨(some 100), .mv (.tmp 14), (some (99, false)), false⟩,
   ⟨(some 101), .mv (.tmp 9), (some (99, false)), false⟩,
   ⟨(some 102), .bin .neq (.tmp 100) (.tmp 101), (some (99, false)), false⟩,
   ⟨(some 103), .pick (.tmp 99) (.const (.bool true)) (.tmp 102), none, false⟩])
  (.cond (.tmp 103) (.seq (.reg [⟨(some 6), .mv (.const (.bool false)), none, false⟩])
  .ret) .skip))
  (.seq (.reg [⟨(some 16), .mv (.const (.int .i64 1)), none, false⟩])
  (.seq (.reg [⟨(some 104), .mv (.tmp 13), none, false⟩,
   ⟨(some 105), .mv (.tmp 16), none, false⟩,
   ⟨(some 106), .call (.func 24) [(.tmp 104), (.tmp 105)], none, false⟩,
   ⟨(some 16), .mv (.tmp 106), none, false⟩])
  (.seq (.reg [⟨(some 17), .mv (.const (.int .i64 1)), none, false⟩])
  (.seq (.reg [⟨(some 107), .mv (.tmp 13), none, false⟩,
   ⟨(some 108), .mv (.tmp 17), none, false⟩,
   ⟨(some 109), .call (.func 25) [(.tmp 107), (.tmp 108)], none, false⟩,
   ⟨(some 17), .mv (.tmp 109), none, false⟩])
  (.seq (.seq (.reg [⟨(some 110), .mv (.tmp 17), none, false⟩,
   ⟨(some 111), .bin .lss (.tmp 110) (.const (.int .i64 0)), none, false⟩])
  (.cond (.tmp 111) (.seq (.reg [⟨(some 6), .mv (.const (.bool false)), none, false⟩])
  .ret) .skip))
  (.seq (.seq (.reg [⟨(some 112), .mv (.tmp 17), none, false⟩,
   ⟨(some 113), .mv (.tmp 16), none, false⟩,
   ⟨(some 114), .bin .neq (.tmp 112) (.tmp 113), none, false⟩])
  (.cond (.tmp 114) (.seq (.reg [⟨(some 6), .mv (.const (.bool false)), none, false⟩])
  .ret) .skip))
  (.seq (.reg [⟨(some 116), .loadn 5 (.tmp 3), none, false⟩,
   ⟨(some 117), .call (.func 51) [(.tmp 116)], none, false⟩,
   ⟨(some 118), .mv (.tmp 1), none, false⟩,
   ⟨(some 119), .call (.func 43) [(.tmp 118)], none, false⟩,
   ⟨(some 120), .mv (.tmp 2), none, false⟩,
   ⟨(some 121), .call (.func 43) [(.tmp 120)], none, false⟩,
   ⟨(some 122), .call (.func 52) [(.tmp 117), (.tmp 119), (.tmp 121)], none, false⟩,
   ⟨(some 115), .mv (.tmp 122), none, false⟩,
   ⟨(some 123), .ext (.tmp 115) 0, none, false⟩,
   ⟨(some 124), .ext (.tmp 115) 1, none, false⟩,
   ⟨(some 18), .mv (.tmp 123), none, false⟩,
   ⟨(some 19), .mv (.tmp 124), none, false⟩])
  (.seq (.seq (.reg [⟨(some 125), .mv (.tmp 18), none, false⟩,
   ⟨(some 126), .mv (.tmp 8), none, false⟩,
   ⟨(some 127), .call (.func 22) [(.tmp 125), (.tmp 126)], none, false⟩,
   ⟨(some 128), .un .not (.tmp 127), none, false⟩,
   ⟨(some 129), .mv (.tmp 128), none, false⟩,
   ⟨(some 130), .mv (.tmp 19), (some (129, false)), false⟩,
   ⟨(some 131), .mv (.tmp 9), (some (129, false)), false⟩,
   ⟨(some 132), .bin .neq (.tmp 130) (.tmp 131), (some (129, false)), false⟩,
   ⟨(some 133), .pick (.tmp 129) (.const (.bool true)) (.tmp 132), none, false⟩])
  (.cond (.tmp 133) (.seq (.reg [⟨(some 6), .mv (.const (.bool false)), none, false⟩])
  .ret) .skip))
  (.seq (.reg [⟨(some 17), .mv (.const (.int .i64 1)), none, false⟩])
  (.seq (.reg [⟨(some 134), .mv (.tmp 13), none, false⟩,
   ⟨(some 135), .mv (.tmp 17), none, false⟩,
   ⟨(some 136), .call (.func 25) [(.tmp 134), (.tmp 135)], none, false⟩,
   ⟨(some 17), .mv (.tmp 136), none, false⟩])
  (.seq (.seq (.reg [⟨(some 137), .mv (.tmp 17), none, false⟩,
   ⟨(some 138), .bin .lss (.tmp 137) (.const (.int .i64 0)), none, false⟩])
  (.cond (.tmp 138) (.seq (.reg [⟨(some 6), .mv (.const (.bool false)), none, false⟩])
  .ret) .skip))
  (.seq (.seq (.reg [⟨(some 139), .mv (.tmp 17), none, false⟩,
   ⟨(some 140), .mv (.tmp 16), none, false⟩,
   ⟨(some 141), .bin .neq (.tmp 139) (.tmp 140), none, false⟩])
  (.cond (.tmp 141) (.seq (.reg [⟨(some 6), .mv (.const (.bool false)), none, false⟩])
  .ret) .skip))
  (.seq (.reg [⟨(some 6), .mv (.const (.bool true)), none, false⟩])
  .ret)))))))))))))))))))))))))))))))))))⟩

theorem s11 : compFn Try.prog Try.f11 = some c11 := by kernel_rfl

/-- loop.example/g01262/laws.eqInt64SS -/
def c22 : XFn :=
 ⟨[.tmp 4],
  (.seq (.reg [⟨(some 4), .mv (.const (.bool false)), none, false⟩])
  (.seq (.seq (.reg [⟨(some 6), .mv (.tmp 0), none, false⟩,
   ⟨(some 7), .len (.tmp 6), none, false⟩,
   ⟨(some 8), .mv (.tmp 1), none, false⟩,
   ⟨(some 9), .len (.tmp 8), none, false⟩,
   ⟨(some 10), .bin .neq (.tmp 7) (.tmp 9), none, false⟩])
  (.cond (.tmp 10) (.seq (.reg [⟨(some 4), .mv (.const (.bool false)), none, false⟩])
  .ret) .skip))
  (.seq (.seq (.reg [⟨(some 5), .mv (.const (.int .i64 0)), none, false⟩])
  (.blk 0 (.loop (.seq (.seq (.reg [⟨(some 11), .mv (.tmp 5), none, false⟩,
   ⟨(some 12), .mv (.tmp 0), none, false⟩,
   ⟨(some 13), .len (.tmp 12), none, false⟩,
   ⟨(some 14), .bin .lss (.tmp 11) (.tmp 13), none, false⟩])
  (.cond (.tmp 14) .skip (.exit 0)))
  (.seq (.blk 1 (.seq (.reg [⟨(some 17), .mv (.tmp 0), none, false⟩,
   ⟨(some 18), .mv (.tmp 5), none, false⟩,
   ⟨(some 19), .ixs 1 (.tmp 17) (.tmp 18), none, false⟩,
   ⟨(some 20), .load1 (.tmp 19), none, false⟩,
   ⟨(some 21), .mv (.tmp 1), none, false⟩,
   ⟨(some 22), .mv (.tmp 5), none, false⟩,
   ⟨(some 23), .ixs 1 (.tmp 21) (.tmp 22), none, false⟩,
   ⟨(some 24), .load1 (.tmp 23), none, false⟩,
   ⟨(some 25), .call (.func 30) [(.tmp 20), (.tmp 24)], none, false⟩,
   ⟨(some 26), .un .not (.tmp 25), none, false⟩])
  (.cond (.tmp 26) (.seq (.reg [⟨(some 4), .mv (.const (.bool false)), none, false⟩])
  .ret) .skip)))
  (.reg [⟨(some 15), .mv (.tmp 5), none, false⟩,
   ⟨(some 16), .bin .add (.tmp 15) (.const (.int .i64 1)), none, false⟩,
   ⟨(some 5), .mv (.tmp 16), none, false⟩]))))))
  (.seq (.reg [⟨(some 4), .mv (.const (.bool true)), none, false⟩])
  .ret))))⟩

theorem s22 : compFn Try.prog Try.f22 = some c22 := by kernel_rfl

/-- loop.example/g01262/laws.markInt64SS -/
def c24 : XFn :=
 ⟨[.tmp 4],
  (.seq (.reg [⟨(some 4), .mv (.const (.int .i64 0)), none, false⟩])
  (.seq (.seq (.reg [⟨(some 5), .mv (.const (.int .i64 0)), none, false⟩])
  (.blk 0 (.loop (.seq (.seq (.reg [⟨(some 6), .mv (.tmp 5), none, false⟩,
   ⟨(some 7), .mv (.tmp 0), none, false⟩,
   ⟨(some 8), .len (.tmp 7), none, false⟩,
   ⟨(some 9), .bin .lss (.tmp 6) (.tmp 8), none, false⟩])
  (.cond (.tmp 9) .skip (.exit 0)))
  (.seq (.blk 1 (.reg [⟨(some 12), .mv (.tmp 0), none, false⟩,
   ⟨(some 13), .mv (.tmp 5), none, false⟩,
   ⟨(some 14), .ixs 1 (.tmp 12) (.tmp 13), none, false⟩,
   ⟨(some 15), .load1 (.tmp 14), none, false⟩,
   ⟨(some 16), .mv (.tmp 1), none, false⟩,
   ⟨(some 17), .call (.func 33) [(.tmp 15), (.tmp 16)], none, false⟩,
   ⟨(some 1), .mv (.tmp 17), none, false⟩]))
  (.reg [⟨(some 10), .mv (.tmp 5), none, false⟩,
   ⟨(some 11), .bin .add (.tmp 10) (.const (.int .i64 1)), none, false⟩,
   ⟨(some 5), .mv (.tmp 11), none, false⟩]))))))
  (.seq (.reg [⟨(some 18), .mv (.tmp 1), none, false⟩,
   ⟨(some 4), .mv (.tmp 18), none, false⟩])
  .ret)))⟩

theorem s24 : compFn Try.prog Try.f24 = some c24 := by kernel_rfl

/-- loop.example/g01262/laws.heldInt64SS -/
def c25 : XFn :=
 ⟨[.tmp 4],
  (.seq (.reg [⟨(some 4), .mv (.const (.int .i64 0)), none, false⟩])
  (.seq (.seq (.reg [⟨(some 5), .mv (.const (.int .i64 0)), none, false⟩])
  (.blk 0 (.loop (.seq (.seq (.reg [⟨(some 6), .mv (.tmp 5), none, false⟩,
   ⟨(some 7), .mv (.tmp 0), none, false⟩,
   ⟨(some 8), .len (.tmp 7), none, false⟩,
   ⟨(some 9), .bin .lss (.tmp 6) (.tmp 8), none, false⟩])
  (.cond (.tmp 9) .skip (.exit 0)))
  (.seq (.blk 1 (.seq (.reg [⟨(some 12), .mv (.tmp 0), none, false⟩,
   ⟨(some 13), .mv (.tmp 5), none, false⟩,
   ⟨(some 14), .ixs 1 (.tmp 12) (.tmp 13), none, false⟩,
   ⟨(some 15), .load1 (.tmp 14), none, false⟩,
   ⟨(some 16), .mv (.tmp 1), none, false⟩,
   ⟨(some 17), .call (.func 34) [(.tmp 15), (.tmp 16)], none, false⟩,
   ⟨(some 1), .mv (.tmp 17), none, false⟩])
  (.seq (.reg [⟨(some 18), .mv (.tmp 1), none, false⟩,
   ⟨(some 19), .bin .lss (.tmp 18) (.const (.int .i64 0)), none, false⟩])
  (.cond (.tmp 19) (.seq (.reg [⟨(some 4), .mv (.const (.int .i64 (-1))), none, false⟩])
  .ret) .skip))))
  (.reg [⟨(some 10), .mv (.tmp 5), none, false⟩,
   ⟨(some 11), .bin .add (.tmp 10) (.const (.int .i64 1)), none, false⟩,
   ⟨(some 5), .mv (.tmp 11), none, false⟩]))))))
  (.seq (.reg [⟨(some 20), .mv (.tmp 1), none, false⟩,
   ⟨(some 4), .mv (.tmp 20), none, false⟩])
  .ret)))⟩

theorem s25 : compFn Try.prog Try.f25 = some c25 := by kernel_rfl

/-- loop.example/g01262/laws.eqInt64S -/
def c30 : XFn :=
 ⟨[.tmp 4],
  (.seq (.reg [⟨(some 4), .mv (.const (.bool false)), none, false⟩])
  (.seq (.seq (.reg [⟨(some 6), .mv (.tmp 0), none, false⟩,
   ⟨(some 7), .len (.tmp 6), none, false⟩,
   ⟨(some 8), .mv (.tmp 1), none, false⟩,
   ⟨(some 9), .len (.tmp 8), none, false⟩,
   ⟨(some 10), .bin .neq (.tmp 7) (.tmp 9), none, false⟩])
  (.cond (.tmp 10) (.seq (.reg [⟨(some 4), .mv (.const (.bool false)), none, false⟩])
  .ret) .skip))
  (.seq (.seq (.reg [⟨(some 5), .mv (.const (.int .i64 0)), none, false⟩])
  (.blk 0 (.loop (.seq (.seq (.reg [⟨(some 11), .mv (.tmp 5), none, false⟩,
   ⟨(some 12), .mv (.tmp 0), none, false⟩,
   ⟨(some 13), .len (.tmp 12), none, false⟩,
   ⟨(some 14), .bin .lss (.tmp 11) (.tmp 13), none, false⟩])
  (.cond (.tmp 14) .skip (.exit 0)))
  (.seq (.blk 1 (.seq (.reg [⟨(some 17), .mv (.tmp 0), none, false⟩,
   ⟨(some 18), .mv (.tmp 5), none, false⟩,
   ⟨(some 19), .ixs 1 (.tmp 17) (.tmp 18), none, false⟩,
   ⟨(some 20), .load1 (.tmp 19), none, false⟩,
   ⟨(some 21), .mv (.tmp 1), none, false⟩,
   ⟨(some 22), .mv (.tmp 5), none, false⟩,
   ⟨(some 23), .ixs 1 (.tmp 21) (.tmp 22), none, false⟩,
   ⟨(some 24), .load1 (.tmp 23), none, false⟩,
   ⟨(some 25), .bin .neq (.tmp 20) (.tmp 24), none, false⟩])
  (.cond (.tmp 25) (.seq (.reg [⟨(some 4), .mv (.const (.bool false)), none, false⟩])
  .ret) .skip)))
  (.reg [⟨(some 15), .mv (.tmp 5), none, false⟩,
   ⟨(some 16), .bin .add (.tmp 15) (.const (.int .i64 1)), none, false⟩,
   ⟨(some 5), .mv (.tmp 16), none, false⟩]))))))
  (.seq (.reg [⟨(some 4), .mv (.const (.bool true)), none, false⟩])
  .ret))))⟩

theorem s30 : compFn Try.prog Try.f30 = some c30 := by kernel_rfl

/-- loop.example/g01262/laws.markInt64S -/
def c33 : XFn :=
 ⟨[.tmp 4],
  (.seq (.reg [⟨(some 4), .mv (.const (.int .i64 0)), none, false⟩])
  (.seq (.seq (.reg [⟨(some 5), .mv (.const (.int .i64 0)), none, false⟩])
  (.blk 0 (.loop (.seq (.seq (.reg [⟨(some 6), .mv (.tmp 5), none, false⟩,
   ⟨(some 7), .mv (.tmp 0), none, false⟩,
   ⟨(some 8), .len (.tmp 7), none, false⟩,
   ⟨(some 9), .bin .lss (.tmp 6) (.tmp 8), none, false⟩])
  (.cond (.tmp 9) .skip (.exit 0)))
  (.seq (.blk 1 (.seq (.reg [⟨(some 12), .mv (.tmp 0), none, false⟩,
   ⟨(some 13), .mv (.tmp 5), none, false⟩,
   ⟨(some 14), .mv (.tmp 1), none, false⟩,
   ⟨(some 15), .ixs 1 (.tmp 12) (.tmp 13), none, false⟩,
   ⟨none, .store 1 (.tmp 15) (.tmp 14), none, false⟩])
  (.reg [⟨(some 16), .mv (.tmp 1), none, false⟩,
   ⟨(some 17), .bin .add (.tmp 16) (.const (.int .i64 1)), none, false⟩,
   ⟨(some 1), .mv (.tmp 17), none, false⟩])))
  (.reg [⟨(some 10), .mv (.tmp 5), none, false⟩,
   ⟨(some 11), .bin .add (.tmp 10) (.const (.int .i64 1)), none, false⟩,
   ⟨(some 5), .mv (.tmp 11), none, false⟩]))))))
  (.seq (.reg [⟨(some 18), .mv (.tmp 1), none, false⟩,
   ⟨(some 4), .mv (.tmp 18), none, false⟩])
  .ret)))⟩

theorem s33 : compFn Try.prog Try.f33 = some c33 := by kernel_rfl

/-- loop.example/g01262/laws.heldInt64S -/
def c34 : XFn :=
 ⟨[.tmp 4],
  (.seq (.reg [⟨(some 4), .mv (.const (.int .i64 0)), none, false⟩])
  (.seq (.seq (.reg [⟨(some 5), .mv (.const (.int .i64 0)), none, false⟩])
  (.blk 0 (.loop (.seq (.seq (.reg [⟨(some 6), .mv (.tmp 5), none, false⟩,
   ⟨(some 7), .mv (.tmp 0), none, false⟩,
   ⟨(some 8), .len (.tmp 7), none, false⟩,
   ⟨(some 9), .bin .lss (.tmp 6) (.tmp 8), none, false⟩])
  (.cond (.tmp 9) .skip (.exit 0)))
  (.seq (.blk 1 (.seq (.seq (.reg [⟨(some 12), .mv (.tmp 0), none, false⟩,
   ⟨(some 13), .mv (.tmp 5), none, false⟩,
   ⟨(some 14), .ixs 1 (.tmp 12) (.tmp 13), none, false⟩,
   ⟨(some 15), .load1 (.tmp 14), none, false⟩,
   ⟨(some 16), .mv (.tmp 1), none, false⟩,
   ⟨(some 17), .bin .neq (.tmp 15) (.tmp 16), none, false⟩])
  (.cond (.tmp 17) (.seq (.reg [⟨(some 4), .mv (.const (.int .i64 (-1))), none, false⟩])
  .ret) .skip))
  (.reg [⟨(some 18), .mv (.tmp 1), none, false⟩,
   ⟨(some 19), .bin .add (.tmp 18) (.const (.int .i64 1)), none, false⟩,
   ⟨(some 1), .mv (.tmp 19), none, false⟩])))
  (.reg [⟨(some 10), .mv (.tmp 5), none, false⟩,
   ⟨(some 11), .bin .add (.tmp 10) (.const (.int .i64 1)), none, false⟩,
   ⟨(some 5), .mv (.tmp 11), none, false⟩]))))))
  (.seq (.reg [⟨(some 20), .mv (.tmp 1), none, false⟩,
   ⟨(some 4), .mv (.tmp 20), none, false⟩])
  .ret)))⟩

theorem s34 : compFn Try.prog Try.f34 = some c34 := by kernel_rfl

/-- loop.example/g01262/laws.toInt64S -/
def c36 : XFn :=
 ⟨[.tmp 2],
  (.seq (.reg [⟨(some 2), .mv (.const (.slice none 0 0)), none, false⟩])
  (.seq (.reg [⟨(some 5), .mv (.tmp 0), none, false⟩,
   ⟨(some 6), .len (.tmp 5), none, false⟩,
   ⟨(some 7), .mks 2 1 8 [.int .i64 0] (.tmp 6), none, false⟩,
   ⟨(some 3), .mv (.tmp 7), none, false⟩])
  (.seq (.seq (.reg [⟨(some 4), .mv (.const (.int .i64 0)), none, false⟩])
  (.blk 0 (.loop (.seq (.seq (.reg [⟨(some 8), .mv (.tmp 4), none, false⟩,
   ⟨(some 9), .mv (.tmp 0), none, false⟩,
   ⟨(some 10), .len (.tmp 9), none, false⟩,
   ⟨(some 11), .bin .lss (.tmp 8) (.tmp 10), none, false⟩])
  (.cond (.tmp 11) .skip (.exit 0)))
  (.seq (.blk 1 (.reg [⟨(some 14), .mv (.tmp 3), none, false⟩,
   ⟨(some 15), .mv (.tmp 4), none, false⟩,
   ⟨(some 16), .mv (.tmp 0), none, false⟩,
   ⟨(some 17), .mv (.tmp 4), none, false⟩,
   ⟨(some 18), .ixs 1 (.tmp 16) (.tmp 17), none, false⟩,
   ⟨(some 19), .load1 (.tmp 18), none, false⟩,
   ⟨(some 20), .ixs 1 (.tmp 14) (.tmp 15), none, false⟩,
   ⟨none, .store 1 (.tmp 20) (.tmp 19), none, false⟩]))
  (.reg [⟨(some 12), .mv (.tmp 4), none, false⟩,
   ⟨(some 13), .bin .add (.tmp 12) (.const (.int .i64 1)), none, false⟩,
   ⟨(some 4), .mv (.tmp 13), none, false⟩]))))))
  (.seq (.reg [⟨(some 21), .mv (.tmp 3), none, false⟩,
   ⟨(some 2), .mv (.tmp 21), none, false⟩])
  .ret))))⟩

theorem s36 : compFn Try.prog Try.f36 = some c36 := by kernel_rfl

/-- loop.example/g01262/laws.szInt64SS -/
def c41 : XFn :=
 ⟨[.tmp 4],
  (.seq (.reg [⟨(some 4), .mv (.const (.int .i64 0)), none, false⟩])
  (.seq (.reg [⟨(some 6), .mv (.tmp 1), none, false⟩,
   ⟨(some 7), .mv (.tmp 0), none, false⟩,
   ⟨(some 8), .len (.tmp 7), none, false⟩,
   ⟨(some 9), .bin .sub (.tmp 6) (.tmp 8), none, false⟩,
   ⟨(some 1), .mv (.tmp 9), none, false⟩])
  (.seq (.seq (.reg [⟨(some 10), .mv (.tmp 1), none, false⟩,
   ⟨(some 11), .bin .lss (.tmp 10) (.const (.int .i64 0)), none, false⟩])
  (.cond (.tmp 11) (.seq (.reg [⟨(some 4), .mv (.const (.int .i64 (-1))), none, false⟩])
  .ret) .skip))
  (.seq (.seq (.reg [⟨(some 5), .mv (.const (.int .i64 0)), none, false⟩])
  (.blk 0 (.loop (.seq (.seq (.reg [⟨(some 12), .mv (.tmp 5), none, false⟩,
   ⟨(some 13), .mv (.tmp 0), none, false⟩,
   ⟨(some 14), .len (.tmp 13), none, false⟩,
   ⟨(some 15), .bin .lss (.tmp 12) (.tmp 14), none, false⟩])
  (.cond (.tmp 15) .skip (.exit 0)))
  (.seq (.blk 1 (.seq (.reg [⟨(some 18), .mv (.tmp 0), none, false⟩,
   ⟨(some 19), .mv (.tmp 5), none, false⟩,
   ⟨(some 20), .ixs 1 (.tmp 18) (.tmp 19), none, false⟩,
   ⟨(some 21), .load1 (.tmp 20), none, false⟩,
   ⟨(some 22), .mv (.tmp 1), none, false⟩,
   ⟨(some 23), .call (.func 64) [(.tmp 21), (.tmp 22)], none, false⟩,
   ⟨(some 1), .mv (.tmp 23), none, false⟩])
  (.seq (.reg [⟨(some 24), .mv (.tmp 1), none, false⟩,
   ⟨(some 25), .bin .lss (.tmp 24) (.const (.int .i64 0)), none, false⟩])
  (.cond (.tmp 25) (.seq (.reg [⟨(some 4), .mv (.const (.int .i64 (-1))), none, false⟩])
  .ret) .skip))))
  (.reg [⟨(some 16), .mv (.tmp 5), none, false⟩,
   ⟨(some 17), .bin .add (.tmp 16) (.const (.int .i64 1)), none, false⟩,
   ⟨(some 5), .mv (.tmp 17), none, false⟩]))))))
  (.seq (.reg [⟨(some 26), .mv (.tmp 1), none, false⟩,
   ⟨(some 4), .mv (.tmp 26), none, false⟩])
  .ret)))))⟩

theorem s41 : compFn Try.prog Try.f41 = some c41 := by kernel_rfl

/-- loop.example/g01262/laws.toInt64SS -/
def c43 : XFn :=
 ⟨[.tmp 2],
  (.seq (.reg [⟨(some 2), .mv (.const (.slice none 0 0)), none, false⟩])
  (.seq (.reg [⟨(some 5), .mv (.tmp 0), none, false⟩,
   ⟨(some 6), .len (.tmp 5), none, false⟩,
   ⟨(some 7), .mks 22 1 24 [.slice none 0 0] (.tmp 6), none, false⟩,
   ⟨(some 3), .mv (.tmp 7), none, false⟩])
  (.seq (.seq (.reg [⟨(some 4), .mv (.const (.int .i64 0)), none, false⟩])
  (.blk 0 (.loop (.seq (.seq (.reg [⟨(some 8), .mv (.tmp 4), none, false⟩,
   ⟨(some 9), .mv (.tmp 0), none, false⟩,
   ⟨(some 10), .len (.tmp 9), none, false⟩,
   ⟨(some 11), .bin .lss (.tmp 8) (.tmp 10), none, false⟩])
  (.cond (.tmp 11) .skip (.exit 0)))
  (.seq (.blk 1 (.reg [⟨(some 14), .mv (.tmp 3), none, false⟩,
   ⟨(some 15), .mv (.tmp 4), none, false⟩,
   ⟨(some 16), .mv (.tmp 0), none, false⟩,
   ⟨(some 17), .mv (.tmp 4), none, false⟩,
   ⟨(some 18), .ixs 1 (.tmp 16) (.tmp 17), none, false⟩,
   ⟨(some 19), .load1 (.tmp 18), none, false⟩,
   ⟨(some 20), .call (.func 36) [(.tmp 19)], none, false⟩,
   ⟨(some 21), .ixs 1 (.tmp 14) (.tmp 15), none, false⟩,
   ⟨none, .store 1 (.tmp 21) (.tmp 20), none, false⟩]))
  (.reg [⟨(some 12), .mv (.tmp 4), none, false⟩,
   ⟨(some 13), .bin .add (.tmp 12) (.const (.int .i64 1)), none, false⟩,
   ⟨(some 4), .mv (.tmp 13), none, false⟩]))))))
  (.seq (.reg [⟨(some 22), .mv (.tmp 3), none, false⟩,
   ⟨(some 2), .mv (.tmp 22), none, false⟩])
  .ret))))⟩

theorem s43 : compFn Try.prog Try.f43 = some c43 := by kernel_rfl

/-- loop.example/g01262/laws.szScheme -/
def c49 : XFn :=
 ⟨[.tmp 4],
  (.seq (.reg [⟨(some 2), .box 66 (.tmp 0), none, false⟩,
   ⟨(some 4), .mv (.const (.int .i64 0)), none, false⟩])
  (.seq (.reg [⟨(some 5), .fadr 4 (.tmp 2), none, false⟩,
   ⟨(some 6), .load1 (.tmp 5), none, false⟩,
   ⟨(some 7), .mv (.tmp 1), none, false⟩,
   ⟨(some 8), .call (.func 97) [(.tmp 6), (.tmp 7)], none, false⟩,
   ⟨(some 1), .mv (.tmp 8), none, false⟩])
  (.seq (.seq (.reg [⟨(some 9), .mv (.tmp 1), none, false⟩,
   ⟨(some 10), .bin .lss (.tmp 9) (.const (.int .i64 0)), none, false⟩])
  (.cond (.tmp 10) (.seq (.reg [⟨(some 4), .mv (.const (.int .i64 (-1))), none, false⟩])
  .ret) .skip))
  (.seq (.reg [⟨(some 11), .mv (.tmp 1), none, false⟩,
   ⟨(some 4), .mv (.tmp 11), none, false⟩])
  .ret))))⟩

theorem s49 : compFn Try.prog Try.f49 = some c49 := by kernel_rfl

/-- loop.example/g01262/spec.MakeProduct -/
def c50 : XFn :=
 ⟨[.tmp 6, .tmp 7],
  (.seq (.reg [⟨(some 3), .box 71 (.tmp 0), none, false⟩,
   ⟨(some 6), .mv (.const (.slice none 0 0)), none, false⟩,
   ⟨(some 7), .mv (.const (.int .i64 0)), none, false⟩])
  (.seq (.blk 0 (.seq (.reg [⟨(some 9), .loadn 5 (.tmp 3), none, false⟩,
   ⟨(some 10), .call (.func 98) [(.tmp 9)], none, false⟩,
   ⟨(some 11), .un .not (.tmp 10), none, false⟩,
   ⟨(some 8), .mv (.tmp 11), none, false⟩])
  (.cond (.tmp 8) (.seq (.reg [⟨(some 6), .mv (.const (.slice none 0 0)), none, false⟩,
   ⟨(some 7), .mv (.const (.int .i64 1)), none, false⟩])
  .ret) (.seq (.reg [⟨(some 13), .fadr 0 (.tmp 3), none, false⟩,
   ⟨(some 14), .load1 (.tmp 13), none, false⟩,
   ⟨(some 15), .mv (.tmp 1), none, false⟩,
   ⟨(some 16), .fadr 1 (.tmp 3), none, false⟩,
   ⟨(some 17), .load1 (.tmp 16), none, false⟩,
   ⟨(some 18), .fadr 2 (.tmp 3), none, false⟩,
   ⟨(some 19), .load1 (.tmp 18), none, false⟩,
   ⟨(some 20), .call (.func 99) [(.tmp 14), (.tmp 15), (.tmp 17), (.tmp 19)], none, false⟩,
   ⟨(some 21), .un .not (.tmp 20), none, false⟩,
   ⟨(some 22), .mv (.tmp 21), none, false⟩,
   ⟨(some 23), .fadr 0 (.tmp 3), (some (22, false)), false⟩,
   ⟨(some 24), .load1 (.tmp 23), (some (22, false)), false⟩,
   ⟨(some 25), .mv (.tmp 2), (some (22, false)), false⟩,
   ⟨(some 26), .fadr 2 (.tmp 3), (some (22, false)), false⟩,
   ⟨(some 27), .load1 (.tmp 26), (some (22, false)), false⟩,
   ⟨(some 28), .fadr 3 (.tmp 3), (some (22, false)), false⟩,
   ⟨(some 29), .load1 (.tmp 28), (some (22, false)), false⟩,
   ⟨(some 30), .call (.func 99) [(.tmp 24), (.tmp 25), (.tmp 27), (.tmp 29)], (some (22, false)), false⟩,
   ⟨(some 31), .un .not (.tmp 30), (some (22, false)), false⟩,
   ⟨(some 32), .pick (.tmp 22) (.const (.bool true)) (.tmp 31), none, false⟩,
   ⟨(some 12), .mv (.tmp 32), none, false⟩])
  (.cond (.tmp 12) (.seq (.reg [⟨(some 6), .mv (.const (.slice none 0 0)), none, false⟩,
   ⟨(some 7), .mv (.const (.int .i64 2)), none, false⟩])
  .ret) .skip)))))
  (.seq (.reg [⟨(some 33), .loadn 5 (.tmp 3), none, false⟩,
   ⟨(some 34), .mv (.tmp 1), none, false⟩,
   ⟨(some 35), .mv (.tmp 2), none, false⟩,
   ⟨(some 36), .call (.func 100) [(.tmp 33), (.tmp 34), (.tmp 35)], none, false⟩,
   ⟨(some 6), .mv (.tmp 36), none, false⟩,
   ⟨(some 7), .mv (.const (.int .i64 0)), none, false⟩])
  .ret)))⟩

theorem s50 : compFn Try.prog Try.f50 = some c50 := by kernel_rfl

/-- loop.example/g01262/laws.toScheme -/
def c51 : XFn :=
 ⟨[.celln 2 5],
  (.seq (.reg [⟨(some 1), .box 66 (.tmp 0), none, false⟩,
   ⟨(some 2), .alloc 71 [.int .i64 0, .int .i64 0, .int .i64 0, .int .i64 0, .slice none 0 0], none, false⟩])
  (.seq (.reg [⟨(some 3), .alloc 71 [.int .i64 0, .int .i64 0, .int .i64 0, .int .i64 0, .slice none 0 0], none, false⟩])
  (.seq (.reg [⟨(some 4), .fadr 0 (.tmp 1), none, false⟩,
   ⟨(some 5), .load1 (.tmp 4), none, false⟩,
   ⟨(some 6), .fadr 0 (.tmp 3), none, false⟩,
   ⟨none, .store 1 (.tmp 6) (.tmp 5), none, false⟩])
  (.seq (.reg [⟨(some 7), .fadr 1 (.tmp 1), none, false⟩,
   ⟨(some 8), .load1 (.tmp 7), none, false⟩,
   ⟨(some 9), .fadr 1 (.tmp 3), none, false⟩,
   ⟨none, .store 1 (.tmp 9) (.tmp 8), none, false⟩])
  (.seq (.reg [⟨(some 10), .fadr 2 (.tmp 1), none, false⟩,
   ⟨(some 11), .load1 (.tmp 10), none, false⟩,
   ⟨(some 12), .fadr 2 (.tmp 3), none, false⟩,
   ⟨none, .store 1 (.tmp 12) (.tmp 11), none, false⟩])
  (.seq (.reg [⟨(some 13), .fadr 3 (.tmp 1), none, false⟩,
   ⟨(some 14), .load1 (.tmp 13), none, false⟩,
   ⟨(some 15), .fadr 3 (.tmp 3), none, false⟩,
   ⟨none, .store 1 (.tmp 15) (.tmp 14), none, false⟩])
  (.seq (.reg [⟨(some 16), .fadr 4 (.tmp 1), none, false⟩,
   ⟨(some 17), .load1 (.tmp 16), none, false⟩,
   ⟨(some 18), .call (.func 101) [(.tmp 17)], none, false⟩,
   ⟨(some 19), .fadr 4 (.tmp 3), none, false⟩,
   ⟨none, .store 1 (.tmp 19) (.tmp 18), none, false⟩])
  (.seq (.reg [⟨(some 20), .loadn 5 (.tmp 3), none, false⟩,
   ⟨none, .store 5 (.tmp 2) (.tmp 20), none, false⟩])
  .ret))))))))⟩

theorem s51 : compFn Try.prog Try.f51 = some c51 := by kernel_rfl

/-- loop.example/g01262/impl.MakeProduct -/
def c52 : XFn :=
 ⟨[.tmp 6, .tmp 7],
  (.seq (.reg [⟨(some 3), .box 71 (.tmp 0), none, false⟩,
   ⟨(some 6), .mv (.const (.slice none 0 0)), none, false⟩,
   ⟨(some 7), .mv (.const (.int .i64 0)), none, false⟩])
  (.seq (.seq (.reg [⟨(some 9), .loadn 5 (.tmp 3), none, false⟩,
   ⟨(some 10), .mv (.tmp 1), none, false⟩,
   ⟨(some 11), .mv (.tmp 2), none, false⟩,
   ⟨(some 12), .call (.func 102) [(.tmp 9), (.tmp 10), (.tmp 11)], none, false⟩,
   ⟨(some 8), .mv (.tmp 12), none, false⟩])
  (.seq (.reg [⟨(some 13), .mv (.tmp 8), none, false⟩,
   ⟨(some 14), .bin .neq (.tmp 13) (.const (.int .i64 0)), none, false⟩])
  (.cond (.tmp 14) (.seq (.reg [⟨(some 15), .mv (.tmp 8), none, false⟩,
   ⟨(some 6), .mv (.const (.slice none 0 0)), none, false⟩,
   ⟨(some 7), .mv (.tmp 15), none, false⟩])
  .ret) .skip)))
  (.seq (.reg [⟨(some 16), .fadr 0 (.tmp 3), none, false⟩,
   ⟨(some 17), .load1 (.tmp 16), none, false⟩,
   ⟨(some 18), .fadr 4 (.tmp 3), none, false⟩,
   ⟨(some 19), .load1 (.tmp 18), none, false⟩,
   ⟨(some 20), .fadr 1 (.tmp 3), none, false⟩,
   ⟨(some 21), .load1 (.tmp 20), none, false⟩,
   ⟨(some 22), .fadr 3 (.tmp 3), none, false⟩,
   ⟨(some 23), .load1 (.tmp 22), none, false⟩,
   ⟨(some 24), .bin .mul (.tmp 21) (.tmp 23), none, false⟩,
   ⟨(some 25), .mv (.tmp 1), none, false⟩,
   ⟨(some 26), .call (.func 105) [(.tmp 25)], none, true⟩,
   ⟨(some 27), .mv (.tmp 2), none, false⟩,
   ⟨(some 28), .call (.func 105) [(.tmp 27)], none, true⟩,
   ⟨(some 29), .call (.func 104) [(.tmp 17), (.tmp 19), (.tmp 24), (.tmp 26), (.tmp 28)], none, true⟩,
   ⟨(some 30), .fadr 3 (.tmp 3), none, false⟩,
   ⟨(some 31), .load1 (.tmp 30), none, false⟩,
   ⟨(some 32), .call (.func 103) [(.tmp 29), (.tmp 31)], none, false⟩,
   ⟨(some 6), .mv (.tmp 32), none, false⟩,
   ⟨(some 7), .mv (.const (.int .i64 0)), none, false⟩])
  .ret)))⟩

theorem s52 : compFn Try.prog Try.f52 = some c52 := by kernel_rfl

/-- loop.example/g01262/laws.eqScheme -/
def c53 : XFn :=
 ⟨[.tmp 4],
  (.seq (.reg [⟨(some 2), .box 71 (.tmp 0), none, false⟩,
   ⟨(some 3), .box 71 (.tmp 1), none, false⟩,
   ⟨(some 4), .mv (.const (.bool false)), none, false⟩])
  (.seq (.seq (.reg [⟨(some 5), .fadr 0 (.tmp 2), none, false⟩,
   ⟨(some 6), .load1 (.tmp 5), none, false⟩,
   ⟨(some 7), .fadr 0 (.tmp 3), none, false⟩,
   ⟨(some 8), .load1 (.tmp 7), none, false⟩,
   ⟨(some 9), .bin .neq (.tmp 6) (.tmp 8), none, false⟩])
  (.cond (.tmp 9) (.seq (.reg [⟨(some 4), .mv (.const (.bool false)), none, false⟩])
  .ret) .skip))
  (.seq (.seq (.reg [⟨(some 10), .fadr 1 (.tmp 2), none, false⟩,
   ⟨(some 11), .load1 (.tmp 10), none, false⟩,
   ⟨(some 12), .fadr 1 (.tmp 3), none, false⟩,
   ⟨(some 13), .load1 (.tmp 12), none, false⟩,
   ⟨(some 14), .bin .neq (.tmp 11) (.tmp 13), none, false⟩])
  (.cond (.tmp 14) (.seq (.reg [⟨(some 4), .mv (.const (.bool false)), none, false⟩])
  .ret) .skip))
  (.seq (.seq (.reg [⟨(some 15), .fadr 2 (.tmp 2), none, false⟩,
   ⟨(some 16), .load1 (.tmp 15), none, false⟩,
   ⟨(some 17), .fadr 2 (.tmp 3), none, false⟩,
   ⟨(some 18), .load1 (.tmp 17), none, false⟩,
   ⟨(some 19), .bin .neq (.tmp 16) (.tmp 18), none, false⟩])
  (.cond (.tmp 19) (.seq (.reg [⟨(some 4), .mv (.const (.bool false)), none, false⟩])
  .ret) .skip))
  (.seq (.seq (.reg [⟨(some 20), .fadr 3 (.tmp 2), none, false⟩,
   ⟨(some 21), .load1 (.tmp 20), none, false⟩,
   ⟨(some 22), .fadr 3 (.tmp 3), none, false⟩,
   ⟨(some 23), .load1 (.tmp 22), none, false⟩,
   ⟨(some 24), .bin .neq (.tmp 21) (.tmp 23), none, false⟩])
  (.cond (.tmp 24) (.seq (.reg [⟨(some 4), .mv (.const (.bool false)), none, false⟩])
  .ret) .skip))
  (.seq (.seq (.reg [⟨(some 25), .fadr 4 (.tmp 2), none, false⟩,
   ⟨(some 26), .load1 (.tmp 25), none, false⟩,
   ⟨(some 27), .fadr 4 (.tmp 3), none, false⟩,
   ⟨(some 28), .load1 (.tmp 27), none, false⟩,
   ⟨(some 29), .call (.func 106) [(.tmp 26), (.tmp 28)], none, false⟩,
   ⟨(some 30), .un .not (.tmp 29), none, false⟩])
  (.cond (.tmp 30) (.seq (.reg [⟨(some 4), .mv (.const (.bool false)), none, false⟩])
  .ret) .skip))
  (.seq (.reg [⟨(some 4), .mv (.const (.bool true)), none, false⟩])
  .ret)))))))⟩

theorem s53 : compFn Try.prog Try.f53 = some c53 := by kernel_rfl

/-- loop.example/g01262/laws.markScheme -/
def c54 : XFn :=
 ⟨[.tmp 4],
  (.seq (.reg [⟨(some 2), .box 71 (.tmp 0), none, false⟩,
   ⟨(some 4), .mv (.const (.int .i64 0)), none, false⟩])
  (.seq (.reg [⟨(some 5), .fadr 4 (.tmp 2), none, false⟩,
   ⟨(some 6), .load1 (.tmp 5), none, false⟩,
   ⟨(some 7), .mv (.tmp 1), none, false⟩,
   ⟨(some 8), .call (.func 107) [(.tmp 6), (.tmp 7)], none, false⟩,
   ⟨(some 1), .mv (.tmp 8), none, false⟩])
  (.seq (.reg [⟨(some 9), .mv (.tmp 1), none, false⟩,
   ⟨(some 4), .mv (.tmp 9), none, false⟩])
  .ret)))⟩

theorem s54 : compFn Try.prog Try.f54 = some c54 := by kernel_rfl

/-- loop.example/g01262/laws.szInt64S -/
def c64 : XFn :=
 ⟨[.tmp 4],
  (.seq (.reg [⟨(some 4), .mv (.const (.int .i64 0)), none, false⟩])
  (.seq (.reg [⟨(some 5), .mv (.tmp 1), none, false⟩,
   ⟨(some 6), .mv (.tmp 0), none, false⟩,
   ⟨(some 7), .len (.tmp 6), none, false⟩,
   ⟨(some 8), .bin .sub (.tmp 5) (.tmp 7), none, false⟩,
   ⟨(some 1), .mv (.tmp 8), none, false⟩])
  (.seq (.seq (.reg [⟨(some 9), .mv (.tmp 1), none, false⟩,
   ⟨(some 10), .bin .lss (.tmp 9) (.const (.int .i64 0)), none, false⟩])
  (.cond (.tmp 10) (.seq (.reg [⟨(some 4), .mv (.const (.int .i64 (-1))), none, false⟩])
  .ret) .skip))
  (.seq (.reg [⟨(some 11), .mv (.tmp 1), none, false⟩,
   ⟨(some 4), .mv (.tmp 11), none, false⟩])
  .ret))))⟩

theorem s64 : compFn Try.prog Try.f64 = some c64 := by kernel_rfl

/-- loop.example/g01262/impl.areNumbers -/
def c85 : XFn :=
 ⟨[.tmp 4],
  (.seq (.reg [⟨(some 4), .mv (.const (.bool false)), none, false⟩])
  (.seq (.seq (.reg [⟨(some 7), .mv (.tmp 1), none, false⟩,
   ⟨(some 8), .len (.tmp 7), none, false⟩,
   ⟨(some 9), .mv (.const (.int .i64 0)), none, false⟩])
  (.blk 0 (.loop (.seq (.reg [⟨(some 10), .bin .lss (.tmp 9) (.tmp 8), none, false⟩])
  (.seq (.cond (.tmp 10) .skip (.exit 0))
  (.seq (.blk 1 (.seq (.reg [⟨(some 11), .ixs 1 (.tmp 7) (.tmp 9), none, false⟩,
   ⟨(some 12), .load1 (.tmp 11), none, false⟩,
   ⟨(some 6), .mv (.tmp 12), none, false⟩])
  (.seq (.reg [⟨(some 13), .mv (.tmp 6), none, false⟩,
   ⟨(some 14), .bin .lss (.tmp 13) (.const (.int .i64 0)), none, false⟩,
   ⟨(some 15), .mv (.tmp 14), none, false⟩,
   ⟨(some 16), .mv (.tmp 6), (some (15, false)), false⟩,
   ⟨(some 17), .mv (.tmp 0), (some (15, false)), false⟩,
   ⟨(some 18), .bin .geq (.tmp 16) (.tmp 17), (some (15, false)), false⟩,
   ⟨(some 19), .pick (.tmp 15) (.const (.bool true)) (.tmp 18), none, false⟩])
  (.cond (.tmp 19) (.seq (.reg [⟨(some 4), .mv (.const (.bool false)), none, false⟩])
  .ret) .skip))))
  (.reg [⟨(some 20), .bin .add (.tmp 9) (.const (.int .i64 1)), none, false⟩,
   ⟨(some 9), .mv (.tmp 20), none, false⟩])))))))
  (.seq (.reg [⟨(some 4), .mv (.const (.bool true)), none, false⟩])
  .ret)))⟩

theorem s85 : compFn Try.prog Try.f85 = some c85 := by kernel_rfl

/-- loop.example/g01262/laws.szProductS -/
def c97 : XFn :=
 ⟨[.tmp 4],
  (.seq (.reg [⟨(some 4), .mv (.const (.int .i64 0)), none, false⟩])
  (.seq (.reg [⟨(some 5), .mv (.tmp 1), none, false⟩,
   ⟨(some 6), .mv (.tmp 0), none, false⟩,
   ⟨(some 7), .len (.tmp 6), none, false⟩,
   ⟨(some 8), .bin .sub (.tmp 5) (.tmp 7), none, false⟩,
   ⟨(some 1), .mv (.tmp 8), none, false⟩])
  (.seq (.seq (.reg [⟨(some 9), .mv (.tmp 1), none, false⟩,
   ⟨(some 10), .bin .lss (.tmp 9) (.const (.int .i64 0)), none, false⟩])
  (.cond (.tmp 10) (.seq (.reg [⟨(some 4), .mv (.const (.int .i64 (-1))), none, false⟩])
  .ret) .skip))
  (.seq (.reg [⟨(some 11), .mv (.tmp 1), none, false⟩,
   ⟨(some 4), .mv (.tmp 11), none, false⟩])
  .ret))))⟩

theorem s97 : compFn Try.prog Try.f97 = some c97 := by kernel_rfl

/-- loop.example/g01262/spec.l01Is -/
def c98 : XFn :=
 ⟨[.tmp 2],
  (.seq (.reg [⟨(some 1), .box 71 (.tmp 0), none, false⟩,
   ⟨(some 2), .mv (.const (.bool false)), none, false⟩])
  (.seq (.seq (.reg [⟨(some 4), .fadr 0 (.tmp 1), none, false⟩,
   ⟨(some 5), .load1 (.tmp 4), none, false⟩,
   ⟨(some 6), .fadr 1 (.tmp 1), none, false⟩,
   ⟨(some 7), .load1 (.tmp 6), none, false⟩,
   ⟨(some 8), .fadr 2 (.tmp 1), none, false⟩,
   ⟨(some 9), .load1 (.tmp 8), none, false⟩,
   ⟨(some 10), .fadr 3 (.tmp 1), none, false⟩,
   ⟨(some 11), .load1 (.tmp 10), none, false⟩,
   ⟨(some 12), .call (.func 132) [(.tmp 5), (.tmp 7), (.tmp 9), (.tmp 11)], none, false⟩,
   ⟨(some 13), .un .not (.tmp 12), none, false⟩,
   ⟨(some 14), .mv (.tmp 13), none, false⟩,
   ⟨(some 15), .fadr 4 (.tmp 1), (some (14, false)), false⟩,
   ⟨(some 16), .load1 (.tmp 15), (some (14, false)), false⟩,
   ⟨(some 17), .len (.tmp 16), (some (14, false)), false⟩,
   ⟨(some 18), .bin .gtr (.tmp 17) (.const (.int .i64 30)), (some (14, false)), false⟩,
   ⟨(some 19), .pick (.tmp 14) (.const (.bool true)) (.tmp 18), none, false⟩])
  (.cond (.tmp 19) (.seq (.reg [⟨(some 2), .mv (.const (.bool false)), none, false⟩])
  .ret) .skip))
  (.seq (.seq (.reg [⟨(some 3), .mv (.const (.int .i64 0)), none, false⟩])
  (.blk 0 (.loop (.seq (.seq (.reg [⟨(some 20), .mv (.tmp 3), none, false⟩,
   ⟨(some 21), .fadr 4 (.tmp 1), none, false⟩,
   ⟨(some 22), .load1 (.tmp 21), none, false⟩,
   ⟨(some 23), .len (.tmp 22), none, false⟩,
   ⟨(some 24), .bin .lss (.tmp 20) (.tmp 23), none, false⟩])
  (.cond (.tmp 24) .skip (.exit 0)))
  (.seq (.blk 1 (.seq (.reg [⟨(some 27), .loadn 5 (.tmp 1), none, false⟩,
   ⟨(some 28), .fadr 4 (.tmp 1), none, false⟩,
   ⟨(some 29), .load1 (.tmp 28), none, false⟩,
   ⟨(some 30), .mv (.tmp 3), none, false⟩,
   ⟨(some 31), .ixs 27 (.tmp 29) (.tmp 30), none, false⟩,
   ⟨(some 32), .loadn 27 (.tmp 31), none, false⟩,
   ⟨(some 33), .call (.func 133) [(.tmp 27), (.tmp 32)], none, false⟩,
   ⟨(some 34), .un .not (.tmp 33), none, false⟩])
  (.cond (.tmp 34) (.seq (.reg [⟨(some 2), .mv (.const (.bool false)), none, false⟩])
  .ret) .skip)))
  (.reg [⟨(some 25), .mv (.tmp 3), none, false⟩,
   ⟨(some 26), .bin .add (.tmp 25) (.const (.int .i64 1)), none, false⟩,
   ⟨(some 3), .mv (.tmp 26), none, false⟩]))))))
  (.seq (.reg [⟨(some 2), .mv (.const (.bool true)), none, false⟩])
  .ret))))⟩

theorem s98 : compFn Try.prog Try.f98 = some c98 := by kernel_rfl

/-- loop.example/g01262/spec.l01Matrix -/
def c99 : XFn :=
 ⟨[.tmp 8],
  (.seq (.reg [⟨(some 8), .mv (.const (.bool false)), none, false⟩])
  (.seq (.seq (.reg [⟨(some 11), .mv (.tmp 1), none, false⟩,
   ⟨(some 12), .len (.tmp 11), none, false⟩,
   ⟨(some 13), .mv (.tmp 2), none, false⟩,
   ⟨(some 14), .bin .neq (.tmp 12) (.tmp 13), none, false⟩])
  (.cond (.tmp 14) (.seq (.reg [⟨(some 8), .mv (.const (.bool false)), none, false⟩])
  .ret) .skip))
  (.seq (.seq (.reg [⟨(some 9), .mv (.const (.int .i64 0)), none, false⟩])
  (.blk 0 (.loop (.seq (.seq (.reg [⟨(some 15), .mv (.tmp 9), none, false⟩,
   ⟨(some 16), .mv (.tmp 1), none, false⟩,
   ⟨(some 17), .len (.tmp 16), none, false⟩,
   ⟨(some 18), .bin .lss (.tmp 15) (.tmp 17), none, false⟩])
  (.cond (.tmp 18) .skip (.exit 0)))
  (.seq (.blk 1 (.seq (.seq (.reg [⟨(some 21), .mv (.tmp 1), none, false⟩,
   ⟨(some 22), .mv (.tmp 9), none, false⟩,
   ⟨(some 23), .ixs 1 (.tmp 21) (.tmp 22), none, false⟩,
   ⟨(some 24), .load1 (.tmp 23), none, false⟩,
   ⟨(some 25), .len (.tmp 24), none, false⟩,
   ⟨(some 26), .mv (.tmp 3), none, false⟩,
   ⟨(some 27), .bin .neq (.tmp 25) (.tmp 26), none, false⟩])
  (.cond (.tmp 27) (.seq (.reg [⟨(some 8), .mv (.const (.bool false)), none, false⟩])
  .ret) .skip))
  (.seq (.reg [⟨(some 10), .mv (.const (.int .i64 0)), none, false⟩])
  (.blk 2 (.loop (.seq (.seq (.reg [⟨(some 28), .mv (.tmp 10), none, false⟩,
   ⟨(some 29), .mv (.tmp 1), none, false⟩,
   ⟨(some 30), .mv (.tmp 9), none, false⟩,
   ⟨(some 31), .ixs 1 (.tmp 29) (.tmp 30), none, false⟩,
   ⟨(some 32), .load1 (.tmp 31), none, false⟩,
   ⟨(some 33), .len (.tmp 32), none, false⟩,
   ⟨(some 34), .bin .lss (.tmp 28) (.tmp 33), none, false⟩])
  (.cond (.tmp 34) .skip (.exit 2)))
  (.seq (.blk 3 (.seq (.reg [⟨(some 37), .mv (.tmp 1), none, false⟩,
   ⟨(some 38), .mv (.tmp 9), none, false⟩,
   ⟨(some 39), .ixs 1 (.tmp 37) (.tmp 38), none, false⟩,
   ⟨(some 40), .load1 (.tmp 39), none, false⟩,
   ⟨(some 41), .mv (.tmp 10), none, false⟩,
   ⟨(some 42), .ixs 1 (.tmp 40) (.tmp 41), none, false⟩,
   ⟨(some 43), .load1 (.tmp 42), none, false⟩,
   ⟨(some 44), .mv (.tmp 0), none, false⟩,
   ⟨(some 45), .bin .sub (.tmp 44) (.const (.int .i64 1)), none, false⟩,
   ⟨(some 46), .call (.func 115) [(.tmp 43), (.const (.int .i64 0)), (.tmp 45)], none, false⟩,
   ⟨(some 47), .un .not (.tmp 46), none, false⟩])
  (.cond (.tmp 47) (.seq (.reg [⟨(some 8), .mv (.const (.bool false)), none, false⟩])
  .ret) .skip)))
  (.reg [⟨(some 35), .mv (.tmp 10), none, false⟩,
   ⟨(some 36), .bin .add (.tmp 35) (.const (.int .i64 1)), none, false⟩,
   ⟨(some 10), .mv (.tmp 36), none, false⟩]))))))))
  (.reg [⟨(some 19), .mv (.tmp 9), none, false⟩,
   ⟨(some 20), .bin .add (.tmp 19) (.const (.int .i64 1)), none, false⟩,
   ⟨(some 9), .mv (.tmp 20), none, false⟩]))))))
  (.seq (.reg [⟨(some 8), .mv (.const (.bool true)), none, false⟩])
  .ret))))⟩

theorem s99 : compFn Try.prog Try.f99 = some c99 := by kernel_rfl

/-- loop.example/g01262/spec.l01Make -/
def c100 : XFn :=
 ⟨[.tmp 6],
  (.seq (.reg [⟨(some 3), .box 71 (.tmp 0), none, false⟩,
   ⟨(some 6), .mv (.const (.slice none 0 0)), none, false⟩])
  (.seq (.reg [⟨(some 15), .bslice 22 1 0 [.slice none 0 0] [], none, false⟩,
   ⟨(some 7), .mv (.tmp 15), none, false⟩])
  (.seq (.seq (.reg [⟨(some 8), .mv (.const (.int .i64 0)), none, false⟩])
  (.blk 0 (.loop (.seq (.seq (.reg [⟨(some 16), .mv (.tmp 8), none, false⟩,
   ⟨(some 17), .fadr 1 (.tmp 3), none, false⟩,
   ⟨(some 18), .load1 (.tmp 17), none, false⟩,
   ⟨(some 19), .bin .lss (.tmp 16) (.tmp 18), none, false⟩])
  (.cond (.tmp 19) .skip (.exit 0)))
  (.seq (.blk 1 (.reg [⟨(some 22), .mv (.tmp 7), none, false⟩,
   ⟨(some 23), .fadr 3 (.tmp 3), none, false⟩,
   ⟨(some 24), .load1 (.tmp 23), none, false⟩,
   ⟨(some 25), .mks 2 1 8 [.int .i64 0] (.tmp 24), none, false⟩,
   ⟨(some 26), .bslice 22 1 1 [.slice none 0 0] [(0, 1, (.tmp 25))], none, false⟩,
   ⟨(some 27), .app 22 1 24 (.tmp 22) (.tmp 26), none, false⟩,
   ⟨(some 7), .mv (.tmp 27), none, false⟩]))
  (.reg [⟨(some 20), .mv (.tmp 8), none, false⟩,
   ⟨(some 21), .bin .add (.tmp 20) (.const (.int .i64 1)), none, false⟩,
   ⟨(some 8), .mv (.tmp 21), none, false⟩]))))))
  (.seq (.seq (.reg [⟨(some 9), .mv (.const (.int .i64 0)), none, false⟩])
  (.blk 2 (.loop (.seq (.seq (.reg [⟨(some 28), .mv (.tmp 9), none, false⟩,
   ⟨(some 29), .fadr 4 (.tmp 3), none, false⟩,
   ⟨(some 30), .load1 (.tmp 29), none, false⟩,
   ⟨(some 31), .len (.tmp 30), none, false⟩,
   ⟨(some 32), .bin .lss (.tmp 28) (.tmp 31), none, false⟩])
  (.cond (.tmp 32) .skip (.exit 2)))
  (.seq (.blk 3 (.seq (.reg [⟨(some 35), .fadr 4 (.tmp 3), none, false⟩,
   ⟨(some 36), .load1 (.tmp 35), none, false⟩,
   ⟨(some 37), .mv (.tmp 9), none, false⟩,
   ⟨(some 38), .ixs 27 (.tmp 36) (.tmp 37), none, false⟩,
   ⟨(some 39), .loadn 27 (.tmp 38), none, false⟩,
   ⟨(some 10), .alloc 155 [.int .u8 0, .int .u8 0, .int .u8 0, .int .u8 0, .int .u8 0, .int .u8 0, .int .u8 0, .int .u8 0, .int .u8 0, .int .u8 0, .int .u8 0, .int .u8 0, .int .u8 0, .int .u8 0, .int .u8 0, .int .u8 0, .int .u8 0, .int .u8 0, .int .u8 0, .int .u8 0, .int .u8 0, .int .u8 0, .int .u8 0, .int .u8 0, .int .u8 0, .int .u8 0, .int .u8 0], none, false⟩,
   ⟨none, .store 27 (.tmp 10) (.tmp 39), none, false⟩])
  (.seq (.reg [⟨(some 40), .fadr 0 (.tmp 10), none, false⟩,
   ⟨(some 41), .loadn 9 (.tmp 40), none, false⟩,
   ⟨(some 42), .mv (.tmp 1), none, false⟩,
   ⟨(some 43), .call (.func 134) [(.tmp 41), (.tmp 42)], none, true⟩,
   ⟨(some 44), .fadr 0 (.tmp 3), none, false⟩,
   ⟨(some 45), .load1 (.tmp 44), none, false⟩,
   ⟨(some 46), .bin .rem (.tmp 43) (.tmp 45), none, false⟩,
   ⟨(some 47), .fadr 9 (.tmp 10), none, false⟩,
   ⟨(some 48), .loadn 9 (.tmp 47), none, false⟩,
   ⟨(some 49), .mv (.tmp 2), none, false⟩,
   ⟨(some 50), .call (.func 134) [(.tmp 48), (.tmp 49)], none, true⟩,
   ⟨(some 51), .fadr 0 (.tmp 3), none, false⟩,
   ⟨(some 52), .load1 (.tmp 51), none, false⟩,
   ⟨(some 53), .bin .rem (.tmp 50) (.tmp 52), none, false⟩,
   ⟨(some 54), .bin .mul (.tmp 46) (.tmp 53), none, false⟩,
   ⟨(some 55), .fadr 0 (.tmp 3), none, false⟩,
   ⟨(some 56), .load1 (.tmp 55), none, false⟩,
   ⟨(some 57), .bin .rem (.tmp 54) (.tmp 56), none, false⟩,
   ⟨(some 11), .mv (.tmp 57), none, false⟩])
  (.seq (.reg [⟨(some 12), .mv (.const (.int .i64 0)), none, false⟩])
  (.blk 4 (.loop (.seq (.seq (.reg [⟨(some 58), .mv (.tmp 12), none, false⟩,
   ⟨(some 59), .fadr 1 (.tmp 3), none, false⟩,
   ⟨(some 60), .load1 (.tmp 59), none, false⟩,
   ⟨(some 61), .bin .lss (.tmp 58) (.tmp 60), none, false⟩])
  (.cond (.tmp 61) .skip (.exit 4)))
  (.seq (.blk 5 (.seq (.reg [⟨(some 64), .mv (.tmp 7), none, false⟩,
   ⟨(some 65), .mv (.tmp 12), none, false⟩,
   ⟨(some 66), .ixs 1 (.tmp 64) (.tmp 65), none, false⟩,
   ⟨(some 67), .load1 (.tmp 66), none, false⟩,
   ⟨(some 13), .mv (.tmp 67), none, false⟩])
  (.seq (.reg [⟨(some 14), .mv (.const (.int .i64 0)), none, false⟩])
  (.blk 6 (.loop (.seq (.seq (.reg [⟨(some 68), .mv (.tmp 14), none, false⟩,
   ⟨(some 69), .fadr 3 (.tmp 3), none, false⟩,
   ⟨(some 70), .load1 (.tmp 69), none, false⟩,
   ⟨(some 71), .bin .lss (.tmp 68) (.tmp 70), none, false⟩])
  (.cond (.tmp 71) .skip (.exit 6)))
  (.seq (.blk 7 (.reg [⟨(some 74), .mv (.tmp 13), none, false⟩,
   ⟨(some 75), .mv (.tmp 14), none, false⟩,
   ⟨(some 76), .mv (.tmp 13), none, false⟩,
   ⟨(some 77), .mv (.tmp 14), none, false⟩,
   ⟨(some 78), .ixs 1 (.tmp 76) (.tmp 77), none, false⟩,
   ⟨(some 79), .load1 (.tmp 78), none, false⟩,
   ⟨(some 80), .mv (.tmp 12), none, false⟩,
   ⟨(some 81), .fadr 3 (.tmp 3), none, false⟩,
   ⟨(some 82), .load1 (.tmp 81), none, false⟩,
   ⟨(some 83), .bin .mul (.tmp 80) (.tmp 82), none, false⟩,
   ⟨(some 84), .mv (.tmp 14), none, false⟩,
   ⟨(some 85), .bin .add (.tmp 83) (.tmp 84), none, false⟩,
   ⟨(some 86), .fadr 18 (.tmp 10), none, false⟩,
   ⟨(some 87), .ixa 9 1 (.tmp 86) (.tmp 85), none, false⟩,
   ⟨(some 88), .load1 (.tmp 87), none, false⟩,
   ⟨(some 89), .conv .i64 (.tmp 88), none, false⟩,
   ⟨(some 90), .mv (.tmp 11), none, false⟩,
   ⟨(some 91), .bin .mul (.tmp 89) (.tmp 90), none, false⟩,
   ⟨(some 92), .bin .add (.tmp 79) (.tmp 91), none, false⟩,
   ⟨(some 93), .fadr 0 (.tmp 3), none, false⟩,
   ⟨(some 94), .load1 (.tmp 93), none, false⟩,
   ⟨(some 95), .bin .rem (.tmp 92) (.tmp 94), none, false⟩,
   ⟨(some 96), .ixs 1 (.tmp 74) (.tmp 75), none, false⟩,
   ⟨none, .store 1 (.tmp 96) (.tmp 95), none, false⟩]))
  (.reg [⟨(some 72), .mv (.tmp 14), none, false⟩,
   ⟨(some 73), .bin .add (.tmp 72) (.const (.int .i64 1)), none, false⟩,
   ⟨(some 14), .mv (.tmp 73), none, false⟩]))))))))
  (.reg [⟨(some 62), .mv (.tmp 12), none, false⟩,
   ⟨(some 63), .bin .add (.tmp 62) (.const (.int .i64 1)), none, false⟩,
   ⟨(some 12), .mv (.tmp 63), none, false⟩])))))))))
  (.reg [⟨(some 33), .mv (.tmp 9), none, false⟩,
   ⟨(some 34), .bin .add (.tmp 33) (.const (.int .i64 1)), none, false⟩,
   ⟨(some 9), .mv (.tmp 34), none, false⟩]))))))
  (.seq (.reg [⟨(some 97), .mv (.tmp 7), none, false⟩,
   ⟨(some 6), .mv (.tmp 97), none, false⟩])
  .ret)))))⟩

theorem s100 : compFn Try.prog Try.f100 = some c100 := by kernel_rfl

/-- loop.example/g01262/laws.toProductS -/
def c101 : XFn :=
 ⟨[.tmp 2],
  (.seq (.reg [⟨(some 2), .mv (.const (.slice none 0 0)), none, false⟩])
  (.seq (.reg [⟨(some 5), .mv (.tmp 0), none, false⟩,
   ⟨(some 6), .len (.tmp 5), none, false⟩,
   ⟨(some 7), .mks 155 27 27 [.int .u8 0, .int .u8 0, .int .u8 0, .int .u8 0, .int .u8 0, .int .u8 0, .int .u8 0, .int .u8 0, .int .u8 0, .int .u8 0, .int .u8 0, .int .u8 0, .int .u8 0, .int .u8 0, .int .u8 0, .int .u8 0, .int .u8 0, .int .u8 0, .int .u8 0, .int .u8 0, .int .u8 0, .int .u8 0, .int .u8 0, .int .u8 0, .int .u8 0, .int .u8 0, .int .u8 0] (.tmp 6), none, false⟩,
   ⟨(some 3), .mv (.tmp 7), none, false⟩])
  (.seq (.seq (.reg [⟨(some 4), .mv (.const (.int .i64 0)), none, false⟩])
  (.blk 0 (.loop (.seq (.seq (.reg [⟨(some 8), .mv (.tmp 4), none, false⟩,
   ⟨(some 9), .mv (.tmp 0), none, false⟩,
   ⟨(some 10), .len (.tmp 9), none, false⟩,
   ⟨(some 11), .bin .lss (.tmp 8) (.tmp 10), none, false⟩])
  (.cond (.tmp 11) .skip (.exit 0)))
  (.seq (.blk 1 (.reg [⟨(some 14), .mv (.tmp 3), none, false⟩,
   ⟨(some 15), .mv (.tmp 4), none, false⟩,
   ⟨(some 16), .mv (.tmp 0), none, false⟩,
   ⟨(some 17), .mv (.tmp 4), none, false⟩,
   ⟨(some 18), .ixs 27 (.tmp 16) (.tmp 17), none, false⟩,
   ⟨(some 19), .loadn 27 (.tmp 18), none, false⟩,
   ⟨(some 20), .call (.func 135) [(.tmp 19)], none, false⟩,
   ⟨(some 21), .ixs 27 (.tmp 14) (.tmp 15), none, false⟩,
   ⟨none, .store 27 (.tmp 21) (.tmp 20), none, false⟩]))
  (.reg [⟨(some 12), .mv (.tmp 4), none, false⟩,
   ⟨(some 13), .bin .add (.tmp 12) (.const (.int .i64 1)), none, false⟩,
   ⟨(some 4), .mv (.tmp 13), none, false⟩]))))))
  (.seq (.reg [⟨(some 22), .mv (.tmp 3), none, false⟩,
   ⟨(some 2), .mv (.tmp 22), none, false⟩])
  .ret))))⟩

theorem s101 : compFn Try.prog Try.f101 = some c101 := by kernel_rfl

/-- loop.example/g01262/impl.matricesCode -/
def c102 : XFn :=
 ⟨[.tmp 6],
  (.seq (.reg [⟨(some 3), .box 71 (.tmp 0), none, false⟩,
   ⟨(some 6), .mv (.const (.int .i64 0)), none, false⟩])
  (.seq (.blk 0 (.seq (.reg [⟨(some 8), .loadn 5 (.tmp 3), none, false⟩,
   ⟨(some 9), .call (.func 136) [(.tmp 8)], none, false⟩,
   ⟨(some 10), .un .not (.tmp 9), none, false⟩,
   ⟨(some 7), .mv (.tmp 10), none, false⟩])
  (.cond (.tmp 7) (.seq (.reg [⟨(some 6), .mv (.const (.int .i64 1)), none, false⟩])
  .ret) (.seq (.reg [⟨(some 12), .fadr 0 (.tmp 3), none, false⟩,
   ⟨(some 13), .load1 (.tmp 12), none, false⟩,
   ⟨(some 14), .fadr 1 (.tmp 3), none, false⟩,
   ⟨(some 15), .load1 (.tmp 14), none, false⟩,
   ⟨(some 16), .fadr 2 (.tmp 3), none, false⟩,
   ⟨(some 17), .load1 (.tmp 16), none, false⟩,
   ⟨(some 18), .mv (.tmp 1), none, false⟩,
   ⟨(some 19), .call (.func 128) [(.tmp 13), (.tmp 15), (.tmp 17), (.tmp 18)], none, false⟩,
   ⟨(some 20), .un .not (.tmp 19), none, false⟩,
   ⟨(some 21), .mv (.tmp 20), none, false⟩,
   ⟨(some 22), .fadr 0 (.tmp 3), (some (21, false)), false⟩,
   ⟨(some 23), .load1 (.tmp 22), (some (21, false)), false⟩,
   ⟨(some 24), .fadr 2 (.tmp 3), (some (21, false)), false⟩,
   ⟨(some 25), .load1 (.tmp 24), (some (21, false)), false⟩,
   ⟨(some 26), .fadr 3 (.tmp 3), (some (21, false)), false⟩,
   ⟨(some 27), .load1 (.tmp 26), (some (21, false)), false⟩,
   ⟨(some 28), .mv (.tmp 2), (some (21, false)), false⟩,
   ⟨(some 29), .call (.func 128) [(.tmp 23), (.tmp 25), (.tmp 27), (.tmp 28)], (some (21, false)), false⟩,
   ⟨(some 30), .un .not (.tmp 29), (some (21, false)), false⟩,
   ⟨(some 31), .pick (.tmp 21) (.const (.bool true)) (.tmp 30), none, false⟩,
   ⟨(some 11), .mv (.tmp 31), none, false⟩])
  (.cond (.tmp 11) (.seq (.reg [⟨(some 6), .mv (.const (.int .i64 2)), none, false⟩])
  .ret) .skip)))))
  (.seq (.reg [⟨(some 6), .mv (.const (.int .i64 0)), none, false⟩])
  .ret)))⟩

theorem s102 : compFn Try.prog Try.f102 = some c102 := by kernel_rfl

/-- loop.example/g01262/impl.parted -/
def c103 : XFn :=
 ⟨[.tmp 4],
  (.seq (.reg [⟨(some 4), .mv (.const (.slice none 0 0)), none, false⟩])
  (.seq (.reg [⟨(some 7), .bslice 22 1 0 [.slice none 0 0] [], none, false⟩,
   ⟨(some 5), .mv (.tmp 7), none, false⟩])
  (.seq (.seq (.reg [⟨(some 6), .mv (.const (.int .i64 0)), none, false⟩])
  (.blk 0 (.loop (.seq (.seq (.reg [⟨(some 8), .mv (.tmp 6), none, false⟩,
   ⟨(some 9), .mv (.tmp 0), none, false⟩,
   ⟨(some 10), .len (.tmp 9), none, false⟩,
   ⟨(some 11), .bin .lss (.tmp 8) (.tmp 10), none, false⟩])
  (.cond (.tmp 11) .skip (.exit 0)))
  (.seq (.blk 1 (.reg [⟨(some 15), .mv (.tmp 5), none, false⟩,
   ⟨(some 16), .mv (.tmp 0), none, false⟩,
   ⟨(some 17), .mv (.tmp 6), none, false⟩,
   ⟨(some 18), .mv (.tmp 6), none, false⟩,
   ⟨(some 19), .mv (.tmp 1), none, false⟩,
   ⟨(some 20), .bin .add (.tmp 18) (.tmp 19), none, false⟩,
   ⟨(some 21), .slc 1 (.tmp 16) (some (.tmp 17)) (some (.tmp 20)), none, false⟩,
   ⟨(some 22), .call (.func 126) [(.tmp 21)], none, false⟩,
   ⟨(some 23), .bslice 22 1 1 [.slice none 0 0] [(0, 1, (.tmp 22))], none, false⟩,
   ⟨(some 24), .app 22 1 24 (.tmp 15) (.tmp 23), none, false⟩,
   ⟨(some 5), .mv (.tmp 24), none, false⟩]))
  (.reg [⟨(some 12), .mv (.tmp 6), none, false⟩,
   ⟨(some 13), .mv (.tmp 1), none, false⟩,
   ⟨(some 14), .bin .add (.tmp 12) (.tmp 13), none, false⟩,
   ⟨(some 6), .mv (.tmp 14), none, false⟩]))))))
  (.seq (.reg [⟨(some 25), .mv (.tmp 5), none, false⟩,
   ⟨(some 4), .mv (.tmp 25), none, false⟩])
  .ret))))⟩

theorem s103 : compFn Try.prog Try.f103 = some c103 := by kernel_rfl

/-- loop.example/g01262/impl.makes -/
def c104 : XFn :=
 ⟨[.tmp 10],
  (.seq (.reg [⟨(some 10), .mv (.const (.slice none 0 0)), none, false⟩])
  (.seq (.reg [⟨(some 16), .mv (.tmp 2), none, false⟩,
   ⟨(some 17), .mks 2 1 8 [.int .i64 0] (.tmp 16), none, false⟩,
   ⟨(some 11), .mv (.tmp 17), none, false⟩])
  (.seq (.seq (.reg [⟨(some 18), .mv (.tmp 1), none, false⟩,
   ⟨(some 19), .len (.tmp 18), none, false⟩,
   ⟨(some 20), .mv (.const (.int .i64 0)), none, false⟩])
  (.blk 0 (.loop (.seq (.reg [⟨(some 21), .bin .lss (.tmp 20) (.tmp 19), none, false⟩])
  (.seq (.cond (.tmp 21) .skip (.exit 0))
  (.seq (.blk 1 (.seq (.reg [⟨(some 22), .ixs 27 (.tmp 18) (.tmp 20), none, false⟩,
   ⟨(some 23), .loadn 27 (.tmp 22), none, false⟩,
   ⟨(some 13), .alloc 155 [.int .u8 0, .int .u8 0, .int .u8 0, .int .u8 0, .int .u8 0, .int .u8 0, .int .u8 0, .int .u8 0, .int .u8 0, .int .u8 0, .int .u8 0, .int .u8 0, .int .u8 0, .int .u8 0, .int .u8 0, .int .u8 0, .int .u8 0, .int .u8 0, .int .u8 0, .int .u8 0, .int .u8 0, .int .u8 0, .int .u8 0, .int .u8 0, .int .u8 0, .int .u8 0, .int .u8 0], none, false⟩,
   ⟨none, .store 27 (.tmp 13) (.tmp 23), none, false⟩])
  (.seq (.reg [⟨(some 24), .mv (.tmp 0), none, false⟩,
   ⟨(some 25), .fadr 0 (.tmp 13), none, false⟩,
   ⟨(some 26), .loadn 9 (.tmp 25), none, false⟩,
   ⟨(some 27), .mv (.tmp 3), none, false⟩,
   ⟨(some 28), .call (.func 137) [(.tmp 24), (.tmp 26), (.tmp 27)], none, true⟩,
   ⟨(some 29), .mv (.tmp 0), none, false⟩,
   ⟨(some 30), .fadr 9 (.tmp 13), none, false⟩,
   ⟨(some 31), .loadn 9 (.tmp 30), none, false⟩,
   ⟨(some 32), .mv (.tmp 4), none, false⟩,
   ⟨(some 33), .call (.func 137) [(.tmp 29), (.tmp 31), (.tmp 32)], none, false⟩,
   ⟨(some 34), .bin .mul (.tmp 28) (.tmp 33), none, false⟩,
   ⟨(some 14), .mv (.tmp 34), none, false⟩])
  (.seq (.reg [⟨(some 35), .mv (.tmp 11), none, false⟩,
   ⟨(some 36), .len (.tmp 35), none, false⟩,
   ⟨(some 37), .mv (.const (.int .i64 0)), none, false⟩])
  (.blk 2 (.loop (.seq (.reg [⟨(some 38), .bin .lss (.tmp 37) (.tmp 36), none, false⟩])
  (.seq (.cond (.tmp 38) .skip (.exit 2))
  (.seq (.blk 3 (.seq (.reg [⟨(some 39), .mv (.tmp 37), none, false⟩,
   ⟨(some 15), .mv (.tmp 39), none, false⟩])
  (.reg [⟨(some 40), .mv (.tmp 11), none, false⟩,
   ⟨(some 41), .mv (.tmp 15), none, false⟩,
   ⟨(some 42), .mv (.tmp 11), none, false⟩,
   ⟨(some 43), .mv (.tmp 15), none, false⟩,
   ⟨(some 44), .ixs 1 (.tmp 42) (.tmp 43), none, false⟩,
   ⟨(some 45), .load1 (.tmp 44), none, false⟩,
   ⟨(some 46), .mv (.tmp 15), none, false⟩,
   ⟨(some 47), .fadr 18 (.tmp 13), none, false⟩,
   ⟨(some 48), .ixa 9 1 (.tmp 47) (.tmp 46), none, false⟩,
   ⟨(some 49), .load1 (.tmp 48), none, false⟩,
   ⟨(some 50), .conv .i64 (.tmp 49), none, false⟩,
   ⟨(some 51), .mv (.tmp 14), none, false⟩,
   ⟨(some 52), .bin .mul (.tmp 50) (.tmp 51), none, false⟩,
   ⟨(some 53), .bin .add (.tmp 45) (.tmp 52), none, false⟩,
   ⟨(some 54), .mv (.tmp 0), none, false⟩,
   ⟨(some 55), .bin .rem (.tmp 53) (.tmp 54), none, false⟩,
   ⟨(some 56), .ixs 1 (.tmp 40) (.tmp 41), none, false⟩,
   ⟨none, .store 1 (.tmp 56) (.tmp 55), none, false⟩])))
  (.reg [⟨(some 57), .bin .add (.tmp 37) (.const (.int .i64 1)), none, false⟩,
   ⟨(some 37), .mv (.tmp 57), none, false⟩]))))))))))
  (.reg [⟨(some 58), .bin .add (.tmp 20) (.const (.int .i64 1)), none, false⟩,
   ⟨(some 20), .mv (.tmp 58), none, false⟩])))))))
  (.seq (.reg [⟨(some 59), .mv (.tmp 11), none, false⟩,
   ⟨(some 10), .mv (.tmp 59), none, false⟩])
  .ret))))⟩

theorem s104 : compFn Try.prog Try.f104 = some c104 := by kernel_rfl

/-- slices.Concat[[]int64,int64] -/
def c105 : XFn :=
 ⟨[.tmp 2],
  (.seq (.reg [⟨(some 2), .mv (.const (.slice none 0 0)), none, false⟩])
  (.seq (.reg [⟨(some 3), .mv (.const (.int .i64 0)), none, false⟩])
  (.seq (.seq (.reg [⟨(some 9), .mv (.tmp 0), none, false⟩,
   ⟨(some 10), .len (.tmp 9), none, false⟩,
   ⟨(some 11), .mv (.const (.int .i64 0)), none, false⟩])
  (.blk 0 (.loop (.seq (.reg [⟨(some 12), .bin .lss (.tmp 11) (.tmp 10), none, false⟩])
  (.seq (.cond (.tmp 12) .skip (.exit 0))
  (.seq (.blk 1 (.seq (.reg [⟨(some 13), .ixs 1 (.tmp 9) (.tmp 11), none, false⟩,
   ⟨(some 14), .load1 (.tmp 13), none, false⟩,
   ⟨(some 5), .mv (.tmp 14), none, false⟩])
  (.seq (.reg [⟨(some 15), .mv (.tmp 3), none, false⟩,
   ⟨(some 16), .mv (.tmp 5), none, false⟩,
   ⟨(some 17), .len (.tmp 16), none, false⟩,
   ⟨(some 18), .bin .add (.tmp 15) (.tmp 17), none, false⟩,
   ⟨(some 3), .mv (.tmp 18), none, false⟩])
  (.seq (.reg [⟨(some 19), .mv (.tmp 3), none, false⟩,
   ⟨(some 20), .bin .lss (.tmp 19) (.const (.int .i64 0)), none, false⟩])
  (.cond (.tmp 20) (.reg [⟨(some 21), .fail, none, false⟩,
   ⟨none, .fail, none, false⟩]) .skip)))))
  (.reg [⟨(some 22), .bin .add (.tmp 11) (.const (.int .i64 1)), none, false⟩,
   ⟨(some 11), .mv (.tmp 22), none, false⟩])))))))
  (.seq (.reg [⟨(some 23), .mv (.tmp 3), none, false⟩,
   ⟨(some 24), .call (.func 138) [(.const (.slice none 0 0)), (.tmp 23)], none, false⟩,
   ⟨(some 6), .mv (.tmp 24), none, false⟩])
  (.seq (.seq (.reg [⟨(some 25), .mv (.tmp 0), none, false⟩,
   ⟨(some 26), .len (.tmp 25), none, false⟩,
   ⟨(some 27), .mv (.const (.int .i64 0)), none, false⟩])
  (.blk 2 (.loop (.seq (.reg [⟨(some 28), .bin .lss (.tmp 27) (.tmp 26), none, false⟩])
  (.seq (.cond (.tmp 28) .skip (.exit 2))
  (.seq (.blk 3 (.seq (.reg [⟨(some 29), .ixs 1 (.tmp 25) (.tmp 27), none, false⟩,
   ⟨(some 30), .load1 (.tmp 29), none, false⟩,
   ⟨(some 8), .mv (.tmp 30), none, false⟩])
  (.reg [⟨(some 31), .mv (.tmp 6), none, false⟩,
   ⟨(some 32), .mv (.tmp 8), none, false⟩,
   ⟨(some 33), .app 2 1 8 (.tmp 31) (.tmp 32), none, false⟩,
   ⟨(some 6), .mv (.tmp 33), none, false⟩])))
  (.reg [⟨(some 34), .bin .add (.tmp 27) (.const (.int .i64 1)), none, false⟩,
   ⟨(some 27), .mv (.tmp 34), none, false⟩])))))))
  (.seq (.reg [⟨(some 35), .mv (.tmp 6), none, false⟩,
   ⟨(some 2), .mv (.tmp 35), none, false⟩])
  .ret))))))⟩

theorem s105 : compFn Try.prog Try.f105 = some c105 := by kernel_rfl

/-- loop.example/g01262/laws.eqProductS -/
def c106 : XFn :=
 ⟨[.tmp 4],
  (.seq (.reg [⟨(some 4), .mv (.const (.bool false)), none, false⟩])
  (.seq (.seq (.reg [⟨(some 6), .mv (.tmp 0), none, false⟩,
   ⟨(some 7), .len (.tmp 6), none, false⟩,
   ⟨(some 8), .mv (.tmp 1), none, false⟩,
   ⟨(some 9), .len (.tmp 8), none, false⟩,
   ⟨(some 10), .bin .neq (.tmp 7) (.tmp 9), none, false⟩])
  (.cond (.tmp 10) (.seq (.reg [⟨(some 4), .mv (.const (.bool false)), none, false⟩])
  .ret) .skip))
  (.seq (.seq (.reg [⟨(some 5), .mv (.const (.int .i64 0)), none, false⟩])
  (.blk 0 (.loop (.seq (.seq (.reg [⟨(some 11), .mv (.tmp 5), none, false⟩,
   ⟨(some 12), .mv (.tmp 0), none, false⟩,
   ⟨(some 13), .len (.tmp 12), none, false⟩,
   ⟨(some 14), .bin .lss (.tmp 11) (.tmp 13), none, false⟩])
  (.cond (.tmp 14) .skip (.exit 0)))
  (.seq (.blk 1 (.seq (.reg [⟨(some 17), .mv (.tmp 0), none, false⟩,
   ⟨(some 18), .mv (.tmp 5), none, false⟩,
   ⟨(some 19), .ixs 27 (.tmp 17) (.tmp 18), none, false⟩,
   ⟨(some 20), .loadn 27 (.tmp 19), none, false⟩,
   ⟨(some 21), .mv (.tmp 1), none, false⟩,
   ⟨(some 22), .mv (.tmp 5), none, false⟩,
   ⟨(some 23), .ixs 27 (.tmp 21) (.tmp 22), none, false⟩,
   ⟨(some 24), .loadn 27 (.tmp 23), none, false⟩,
   ⟨(some 25), .call (.func 139) [(.tmp 20), (.tmp 24)], none, false⟩,
   ⟨(some 26), .un .not (.tmp 25), none, false⟩])
  (.cond (.tmp 26) (.seq (.reg [⟨(some 4), .mv (.const (.bool false)), none, false⟩])
  .ret) .skip)))
  (.reg [⟨(some 15), .mv (.tmp 5), none, false⟩,
   ⟨(some 16), .bin .add (.tmp 15) (.const (.int .i64 1)), none, false⟩,
   ⟨(some 5), .mv (.tmp 16), none, false⟩]))))))
  (.seq (.reg [⟨(some 4), .mv (.const (.bool true)), none, false⟩])
  .ret))))⟩

theorem s106 : compFn Try.prog Try.f106 = some c106 := by kernel_rfl

/-- loop.example/g01262/laws.markProductS -/
def c107 : XFn :=
 ⟨[.tmp 4],
  (.seq (.reg [⟨(some 4), .mv (.const (.int .i64 0)), none, false⟩])
  (.seq (.seq (.reg [⟨(some 5), .mv (.const (.int .i64 0)), none, false⟩])
  (.blk 0 (.loop (.seq (.seq (.reg [⟨(some 9), .mv (.tmp 5), none, false⟩,
   ⟨(some 10), .mv (.tmp 0), none, false⟩,
   ⟨(some 11), .len (.tmp 10), none, false⟩,
   ⟨(some 12), .bin .lss (.tmp 9) (.tmp 11), none, false⟩])
  (.cond (.tmp 12) .skip (.exit 0)))
  (.seq (.blk 1 (.seq (.seq (.reg [⟨(some 6), .mv (.const (.int .i64 0)), none, false⟩])
  (.blk 2 (.loop (.seq (.seq (.reg [⟨(some 15), .mv (.tmp 6), none, false⟩,
   ⟨(some 16), .bin .lss (.tmp 15) (.const (.int .i64 9)), none, false⟩])
  (.cond (.tmp 16) .skip (.exit 2)))
  (.seq (.blk 3 (.seq (.reg [⟨(some 19), .mv (.tmp 0), none, false⟩,
   ⟨(some 20), .mv (.tmp 5), none, false⟩,
   ⟨(some 21), .mv (.tmp 6), none, false⟩,
   ⟨(some 22), .mv (.tmp 1), none, false⟩,
   ⟨(some 23), .conv .u8 (.tmp 22), none, false⟩,
   ⟨(some 24), .ixs 27 (.tmp 19) (.tmp 20), none, false⟩,
   ⟨(some 25), .fadr 0 (.tmp 24), none, false⟩,
   ⟨(some 26), .ixa 9 1 (.tmp 25) (.tmp 21), none, false⟩,
   ⟨none, .store 1 (.tmp 26) (.tmp 23), none, false⟩])
  (.reg [⟨(some 27), .mv (.tmp 1), none, false⟩,
   ⟨(some 28), .bin .add (.tmp 27) (.const (.int .i64 1)), none, false⟩,
   ⟨(some 1), .mv (.tmp 28), none, false⟩])))
  (.reg [⟨(some 17), .mv (.tmp 6), none, false⟩,
   ⟨(some 18), .bin .add (.tmp 17) (.const (.int .i64 1)), none, false⟩,
   ⟨(some 6), .mv (.tmp 18), none, false⟩]))))))
  (.seq (.seq (.reg [⟨(some 7), .mv (.const (.int .i64 0)), none, false⟩])
  (.blk 4 (.loop (.seq (.seq (.reg [⟨(some 29), .mv (.tmp 7), none, false⟩,
   ⟨(some 30), .bin .lss (.tmp 29) (.const (.int .i64 9)), none, false⟩])
  (.cond (.tmp 30) .skip (.exit 4)))
  (.seq (.blk 5 (.seq (.reg [⟨(some 33), .mv (.tmp 0), none, false⟩,
   ⟨(some 34), .mv (.tmp 5), none, false⟩,
   ⟨(some 35), .mv (.tmp 7), none, false⟩,
   ⟨(some 36), .mv (.tmp 1), none, false⟩,
   ⟨(some 37), .conv .u8 (.tmp 36), none, false⟩,
   ⟨(some 38), .ixs 27 (.tmp 33) (.tmp 34), none, false⟩,
   ⟨(some 39), .fadr 9 (.tmp 38), none, false⟩,
   ⟨(some 40), .ixa 9 1 (.tmp 39) (.tmp 35), none, false⟩,
   ⟨none, .store 1 (.tmp 40) (.tmp 37), none, false⟩])
  (.reg [⟨(some 41), .mv (.tmp 1), none, false⟩,
   ⟨(some 42), .bin .add (.tmp 41) (.const (.int .i64 1)), none, false⟩,
   ⟨(some 1), .mv (.tmp 42), none, false⟩])))
  (.reg [⟨(some 31), .mv (.tmp 7), none, false⟩,
   ⟨(some 32), .bin .add (.tmp 31) (.const (.int .i64 1)), none, false⟩,
   ⟨(some 7), .mv (.tmp 32), none, false⟩]))))))
  (.seq (.reg [⟨(some 8), .mv (.const (.int .i64 0)), none, false⟩])
  (.blk 6 (.loop (.seq (.seq (.reg [⟨(some 43), .mv (.tmp 8), none, false⟩,
   ⟨(some 44), .bin .lss (.tmp 43) (.const (.int .i64 9)), none, false⟩])
  (.cond (.tmp 44) .skip (.exit 6)))
  (.seq (.blk 7 (.seq (.reg [⟨(some 47), .mv (.tmp 0), none, false⟩,
   ⟨(some 48), .mv (.tmp 5), none, false⟩,
   ⟨(some 49), .mv (.tmp 8), none, false⟩,
   ⟨(some 50), .mv (.tmp 1), none, false⟩,
   ⟨(some 51), .conv .u8 (.tmp 50), none, false⟩,
   ⟨(some 52), .ixs 27 (.tmp 47) (.tmp 48), none, false⟩,
   ⟨(some 53), .fadr 18 (.tmp 52), none, false⟩,
   ⟨(some 54), .ixa 9 1 (.tmp 53) (.tmp 49), none, false⟩,
   ⟨none, .store 1 (.tmp 54) (.tmp 51), none, false⟩])
  (.reg [⟨(some 55), .mv (.tmp 1), none, false⟩,
   ⟨(some 56), .bin .add (.tmp 55) (.const (.int .i64 1)), none, false⟩,
   ⟨(some 1), .mv (.tmp 56), none, false⟩])))
  (.reg [⟨(some 45), .mv (.tmp 8), none, false⟩,
   ⟨(some 46), .bin .add (.tmp 45) (.const (.int .i64 1)), none, false⟩,
   ⟨(some 8), .mv (.tmp 46), none, false⟩])))))))))
  (.reg [⟨(some 13), .mv (.tmp 5), none, false⟩,
   ⟨(some 14), .bin .add (.tmp 13) (.const (.int .i64 1)), none, false⟩,
   ⟨(some 5), .mv (.tmp 14), none, false⟩]))))))
  (.seq (.reg [⟨(some 57), .mv (.tmp 1), none, false⟩,
   ⟨(some 4), .mv (.tmp 57), none, false⟩])
  .ret)))⟩

theorem s107 : compFn Try.prog Try.f107 = some c107 := by kernel_rfl

/-- loop.example/g01262/spec.l01Prime -/
def c114 : XFn :=
 ⟨[.tmp 2],
  (.seq (.reg [⟨(some 2), .mv (.const (.bool false)), none, false⟩])
  (.seq (.reg [⟨(some 3), .mv (.tmp 0), none, false⟩,
   ⟨(some 4), .bin .eql (.tmp 3) (.const (.int .i64 2)), none, false⟩,
   ⟨(some 5), .mv (.tmp 4), none, false⟩,
   ⟨(some 6), .mv (.tmp 0), (some (5, false)), false⟩,
   ⟨(some 7), .bin .eql (.tmp 6) (.const (.int .i64 3)), (some (5, false)), false⟩,
   ⟨(some 8), .pick (.tmp 5) (.const (.bool true)) (.tmp 7), none, false⟩,
   ⟨(some 9), .mv (.tmp 8), none, false⟩,
   ⟨(some 10), .mv (.tmp 0), (some (9, false)), false⟩,
   ⟨(some 11), .bin .eql (.tmp 10) (.const (.int .i64 5)), (some (9, false)), false⟩,
   ⟨(some 12), .pick (.tmp 9) (.const (.bool true)) (.tmp 11), none, false⟩,
   ⟨(some 2), .mv (.tmp 12), none, false⟩])
  .ret))⟩

theorem s114 : compFn Try.prog Try.f114 = some c114 := by kernel_rfl

/-- loop.example/g01262/spec.l01In -/
def c115 : XFn :=
 ⟨[.tmp 6],
  (.seq (.reg [⟨(some 6), .mv (.const (.bool false)), none, false⟩])
  (.seq (.reg [⟨(some 7), .mv (.tmp 0), none, false⟩,
   ⟨(some 8), .mv (.tmp 1), none, false⟩,
   ⟨(some 9), .bin .geq (.tmp 7) (.tmp 8), none, false⟩,
   ⟨(some 10), .mv (.tmp 9), none, false⟩,
   ⟨(some 11), .mv (.tmp 0), (some (10, true)), false⟩,
   ⟨(some 12), .mv (.tmp 2), (some (10, true)), false⟩,
   ⟨(some 13), .bin .leq (.tmp 11) (.tmp 12), (some (10, true)), false⟩,
   ⟨(some 14), .pick (.tmp 10) (.tmp 13) (.const (.bool false)), none, false⟩,
   ⟨(some 6), .mv (.tmp 14), none, false⟩])
  .ret))⟩

theorem s115 : compFn Try.prog Try.f115 = some c115 := by kernel_rfl

/-- loop.example/g01262/impl.isPrime -/
def c118 : XFn :=
 ⟨[.tmp 2],
  (.seq (.reg [⟨(some 2), .mv (.const (.bool false)), none, false⟩])
  (.seq (.reg [⟨(some 3), .mv (.tmp 0), none, false⟩,
   ⟨(some 4), .bin .eql (.tmp 3) (.const (.int .i64 2)), none, false⟩,
   ⟨(some 5), .mv (.tmp 4), none, false⟩,
   ⟨(some 6), .mv (.tmp 0), (some (5, false)), false⟩,
   ⟨(some 7), .bin .eql (.tmp 6) (.const (.int .i64 3)), (some (5, false)), false⟩,
   ⟨(some 8), .pick (.tmp 5) (.const (.bool true)) (.tmp 7), none, false⟩,
   ⟨(some 9), .mv (.tmp 8), none, false⟩,
   ⟨(some 10), .mv (.tmp 0), (some (9, false)), false⟩,
   ⟨(some 11), .bin .eql (.tmp 10) (.const (.int .i64 5)), (some (9, false)), false⟩,
   ⟨(some 12), .pick (.tmp 9) (.const (.bool true)) (.tmp 11), none, false⟩,
   ⟨(some 2), .mv (.tmp 12), none, false⟩])
  .ret))⟩

theorem s118 : compFn Try.prog Try.f118 = some c118 := by kernel_rfl

/-- slices.Clone[[]int64,int64] -/
def c126 : XFn :=
 ⟨[.tmp 2],
  (.seq (.reg [⟨(some 2), .mv (.const (.slice none 0 0)), none, false⟩])
  (.seq (.seq (.reg [⟨(some 3), .mv (.tmp 0), none, false⟩,
   ⟨(some 4), .isnil false (.tmp 3), none, false⟩])
  (.cond (.tmp 4) (.seq (.reg [⟨(some 2), .mv (.const (.slice none 0 0)), none, false⟩])
  .ret) .skip))
  (.seq (.reg [⟨(some 5), .bslice 2 1 0 [.int .i64 0] [], none, false⟩,
   ⟨(some 6), .mv (.tmp 0), none, false⟩,
   ⟨(some 7), .app 2 1 8 (.tmp 5) (.tmp 6), none, false⟩,
   ⟨(some 2), .mv (.tmp 7), none, false⟩])
  .ret)))⟩

theorem s126 : compFn Try.prog Try.f126 = some c126 := by kernel_rfl

/-- loop.example/g01262/impl.isMatrix -/
def c128 : XFn :=
 ⟨[.tmp 8],
  (.seq (.reg [⟨(some 8), .mv (.const (.bool false)), none, false⟩])
  (.seq (.seq (.reg [⟨(some 11), .mv (.tmp 3), none, false⟩,
   ⟨(some 12), .len (.tmp 11), none, false⟩,
   ⟨(some 13), .mv (.const (.int .i64 0)), none, false⟩])
  (.blk 0 (.loop (.seq (.reg [⟨(some 14), .bin .lss (.tmp 13) (.tmp 12), none, false⟩])
  (.seq (.cond (.tmp 14) .skip (.exit 0))
  (.seq (.blk 1 (.seq (.reg [⟨(some 15), .ixs 1 (.tmp 11) (.tmp 13), none, false⟩,
   ⟨(some 16), .load1 (.tmp 15), none, false⟩,
   ⟨(some 10), .mv (.tmp 16), none, false⟩])
  (.seq (.reg [⟨(some 17), .mv (.tmp 10), none, false⟩,
   ⟨(some 18), .len (.tmp 17), none, false⟩,
   ⟨(some 19), .mv (.tmp 2), none, false⟩,
   ⟨(some 20), .bin .neq (.tmp 18) (.tmp 19), none, false⟩,
   ⟨(some 21), .mv (.tmp 20), none, false⟩,
   ⟨(some 22), .mv (.tmp 0), (some (21, false)), false⟩,
   ⟨(some 23), .mv (.tmp 10), (some (21, false)), false⟩,
   ⟨(some 24), .call (.func 85) [(.tmp 22), (.tmp 23)], (some (21, false)), false⟩,
   ⟨(some 25), .un .not (.tmp 24), (some (21, false)), false⟩,
   ⟨(some 26), .pick (.tmp 21) (.const (.bool true)) (.tmp 25), none, false⟩])
  (.cond (.tmp 26) (.seq (.reg [⟨(some 8), .mv (.const (.bool false)), none, false⟩])
  .ret) .skip))))
  (.reg [⟨(some 27), .bin .add (.tmp 13) (.const (.int .i64 1)), none, false⟩,
   ⟨(some 13), .mv (.tmp 27), none, false⟩])))))))
  (.seq (.reg [⟨(some 28), .mv (.tmp 3), none, false⟩,
   ⟨(some 29), .len (.tmp 28), none, false⟩,
   ⟨(some 30), .mv (.tmp 1), none, false⟩,
   ⟨(some 31), .bin .eql (.tmp 29) (.tmp 30), none, false⟩,
   ⟨(some 8), .mv (.tmp 31), none, false⟩])
  .ret)))⟩

theorem s128 : compFn Try.prog Try.f128 = some c128 := by kernel_rfl

/-- loop.example/g01262/spec.l01Sizes -/
def c132 : XFn :=
 ⟨[.tmp 8],
  (.seq (.reg [⟨(some 8), .mv (.const (.bool false)), none, false⟩])
  (.seq (.reg [⟨(some 9), .mv (.tmp 0), none, false⟩,
   ⟨(some 10), .call (.func 114) [(.tmp 9)], none, false⟩,
   ⟨(some 11), .mv (.tmp 10), none, false⟩,
   ⟨(some 12), .mv (.tmp 1), (some (11, true)), false⟩,
   ⟨(some 13), .call (.func 115) [(.tmp 12), (.const (.int .i64 1)), (.const (.int .i64 3))], (some (11, true)), false⟩,
   ⟨(some 14), .pick (.tmp 11) (.tmp 13) (.const (.bool false)), none, false⟩,
   ⟨(some 15), .mv (.tmp 14), none, false⟩,
   ⟨(some 16), .mv (.tmp 2), (some (15, true)), false⟩,
   ⟨(some 17), .call (.func 115) [(.tmp 16), (.const (.int .i64 1)), (.const (.int .i64 3))], (some (15, true)), false⟩,
   ⟨(some 18), .pick (.tmp 15) (.tmp 17) (.const (.bool false)), none, false⟩,
   ⟨(some 19), .mv (.tmp 18), none, false⟩,
   ⟨(some 20), .mv (.tmp 3), (some (19, true)), false⟩,
   ⟨(some 21), .call (.func 115) [(.tmp 20), (.const (.int .i64 1)), (.const (.int .i64 3))], (some (19, true)), false⟩,
   ⟨(some 22), .pick (.tmp 19) (.tmp 21) (.const (.bool false)), none, false⟩,
   ⟨(some 8), .mv (.tmp 22), none, false⟩])
  .ret))⟩

theorem s132 : compFn Try.prog Try.f132 = some c132 := by kernel_rfl

/-- loop.example/g01262/spec.l01Product -/
def c133 : XFn :=
 ⟨[.tmp 4],
  (.seq (.reg [⟨(some 2), .box 71 (.tmp 0), none, false⟩,
   ⟨(some 3), .box 155 (.tmp 1), none, false⟩,
   ⟨(some 4), .mv (.const (.bool false)), none, false⟩])
  (.seq (.reg [⟨(some 9), .loadn 5 (.tmp 2), none, false⟩,
   ⟨(some 10), .call (.func 140) [(.tmp 9)], none, false⟩,
   ⟨(some 8), .mv (.tmp 10), none, false⟩,
   ⟨(some 11), .ext (.tmp 8) 0, none, false⟩,
   ⟨(some 12), .ext (.tmp 8) 1, none, false⟩,
   ⟨(some 13), .ext (.tmp 8) 2, none, false⟩,
   ⟨(some 5), .mv (.tmp 11), none, false⟩,
   ⟨(some 6), .mv (.tmp 12), none, false⟩,
   ⟨(some 7), .mv (.tmp 13), none, false⟩])
  (.seq (.seq (.reg [⟨(some 14), .fadr 0 (.tmp 2), none, false⟩,
   ⟨(some 15), .load1 (.tmp 14), none, false⟩,
   ⟨(some 16), .fadr 0 (.tmp 3), none, false⟩,
   ⟨(some 17), .loadn 9 (.tmp 16), none, false⟩,
   ⟨(some 18), .mv (.tmp 5), none, false⟩,
   ⟨(some 19), .call (.func 150) [(.tmp 15), (.tmp 17), (.tmp 18)], none, false⟩,
   ⟨(some 20), .un .not (.tmp 19), none, false⟩,
   ⟨(some 21), .mv (.tmp 20), none, false⟩,
   ⟨(some 22), .fadr 0 (.tmp 2), (some (21, false)), false⟩,
   ⟨(some 23), .load1 (.tmp 22), (some (21, false)), false⟩,
   ⟨(some 24), .fadr 9 (.tmp 3), (some (21, false)), false⟩,
   ⟨(some 25), .loadn 9 (.tmp 24), (some (21, false)), false⟩,
   ⟨(some 26), .mv (.tmp 6), (some (21, false)), false⟩,
   ⟨(some 27), .call (.func 150) [(.tmp 23), (.tmp 25), (.tmp 26)], (some (21, false)), false⟩,
   ⟨(some 28), .un .not (.tmp 27), (some (21, false)), false⟩,
   ⟨(some 29), .pick (.tmp 21) (.const (.bool true)) (.tmp 28), none, false⟩,
   ⟨(some 30), .mv (.tmp 29), none, false⟩,
   ⟨(some 31), .fadr 0 (.tmp 2), (some (30, false)), false⟩,
   ⟨(some 32), .load1 (.tmp 31), (some (30, false)), false⟩,
   ⟨(some 33), .fadr 18 (.tmp 3), (some (30, false)), false⟩,
   ⟨(some 34), .loadn 9 (.tmp 33), (some (30, false)), false⟩,
   ⟨(some 35), .mv (.tmp 7), (some (30, false)), false⟩,
   ⟨(some 36), .call (.func 150) [(.tmp 32), (.tmp 34), (.tmp 35)], (some (30, false)), false⟩,
   ⟨(some 37), .un .not (.tmp 36), (some (30, false)), false⟩,
   ⟨(some 38), .pick (.tmp 30) (.const (.bool true)) (.tmp 37), none, false⟩])
  (.cond (.tmp 38) (.seq (.reg [⟨(some 4), .mv (.const (.bool false)), none, false⟩])
  .ret) .skip))
  (.seq (.reg [⟨(some 39), .fadr 0 (.tmp 3), none, false⟩,
   ⟨(some 40), .loadn 9 (.tmp 39), none, false⟩,
   ⟨(some 41), .call (.func 151) [(.tmp 40)], none, false⟩,
   ⟨(some 42), .un .not (.tmp 41), none, false⟩,
   ⟨(some 43), .mv (.tmp 42), none, false⟩,
   ⟨(some 44), .fadr 9 (.tmp 3), (some (43, true)), false⟩,
   ⟨(some 45), .loadn 9 (.tmp 44), (some (43, true)), false⟩,
   ⟨(some 46), .call (.func 151) [(.tmp 45)], (some (43, true)), false⟩,
   ⟨(some 47), .un .not (.tmp 46), (some (43, true)), false⟩,
   ⟨(some 48), .pick (.tmp 43) (.tmp 47) (.const (.bool false)), none, false⟩,
   ⟨(some 49), .mv (.tmp 48), none, false⟩,
   ⟨(some 50), .fadr 18 (.tmp 3), (some (49, true)), false⟩,
   ⟨(some 51), .loadn 9 (.tmp 50), (some (49, true)), false⟩,
   ⟨(some 52), .call (.func 151) [(.tmp 51)], (some (49, true)), false⟩,
   ⟨(some 53), .un .not (.tmp 52), (some (49, true)), false⟩,
   ⟨(some 54), .pick (.tmp 49) (.tmp 53) (.const (.bool false)), none, false⟩,
   ⟨(some 4), .mv (.tmp 54), none, false⟩])
  .ret))))⟩

theorem s133 : compFn Try.prog Try.f133 = some c133 := by kernel_rfl

/-- loop.example/g01262/spec.l01At -/
def c134 : XFn :=
 ⟨[.tmp 4],
  (.seq (.reg [⟨(some 2), .box 153 (.tmp 0), none, false⟩,
   ⟨(some 4), .mv (.const (.int .i64 0)), none, false⟩])
  (.seq (.reg [⟨(some 5), .mv (.const (.int .i64 0)), none, false⟩,
   ⟨(some 6), .mv (.const (.int .i64 0)), none, false⟩])
  (.seq (.seq (.reg [⟨(some 7), .mv (.const (.int .i64 0)), none, false⟩])
  (.blk 0 (.loop (.seq (.seq (.reg [⟨(some 9), .mv (.tmp 7), none, false⟩,
   ⟨(some 10), .mv (.tmp 1), none, false⟩,
   ⟨(some 11), .len (.tmp 10), none, false⟩,
   ⟨(some 12), .bin .lss (.tmp 9) (.tmp 11), none, false⟩])
  (.cond (.tmp 12) .skip (.exit 0)))
  (.seq (.blk 1 (.seq (.reg [⟨(some 8), .mv (.const (.int .i64 0)), none, false⟩])
  (.blk 2 (.loop (.seq (.seq (.reg [⟨(some 15), .mv (.tmp 8), none, false⟩,
   ⟨(some 16), .mv (.tmp 1), none, false⟩,
   ⟨(some 17), .mv (.tmp 7), none, false⟩,
   ⟨(some 18), .ixs 1 (.tmp 16) (.tmp 17), none, false⟩,
   ⟨(some 19), .load1 (.tmp 18), none, false⟩,
   ⟨(some 20), .len (.tmp 19), none, false⟩,
   ⟨(some 21), .bin .lss (.tmp 15) (.tmp 20), none, false⟩])
  (.cond (.tmp 21) .skip (.exit 2)))
  (.seq (.blk 3 (.seq (.reg [⟨(some 24), .mv (.tmp 5), none, false⟩,
   ⟨(some 25), .mv (.tmp 6), none, false⟩,
   ⟨(some 26), .ixa 9 1 (.tmp 2) (.tmp 25), none, false⟩,
   ⟨(some 27), .load1 (.tmp 26), none, false⟩,
   ⟨(some 28), .conv .i64 (.tmp 27), none, false⟩,
   ⟨(some 29), .mv (.tmp 1), none, false⟩,
   ⟨(some 30), .mv (.tmp 7), none, false⟩,
   ⟨(some 31), .ixs 1 (.tmp 29) (.tmp 30), none, false⟩,
   ⟨(some 32), .load1 (.tmp 31), none, false⟩,
   ⟨(some 33), .mv (.tmp 8), none, false⟩,
   ⟨(some 34), .ixs 1 (.tmp 32) (.tmp 33), none, false⟩,
   ⟨(some 35), .load1 (.tmp 34), none, false⟩,
   ⟨(some 36), .bin .mul (.tmp 28) (.tmp 35), none, false⟩,
   ⟨(some 37), .bin .add (.tmp 24) (.tmp 36), none, false⟩,
   ⟨(some 5), .mv (.tmp 37), none, false⟩])
  (.reg [⟨(some 38), .mv (.tmp 6), none, false⟩,
   ⟨(some 39), .bin .add (.tmp 38) (.const (.int .i64 1)), none, false⟩,
   ⟨(some 6), .mv (.tmp 39), none, false⟩])))
  (.reg [⟨(some 22), .mv (.tmp 8), none, false⟩,
   ⟨(some 23), .bin .add (.tmp 22) (.const (.int .i64 1)), none, false⟩,
   ⟨(some 8), .mv (.tmp 23), none, false⟩])))))))
  (.reg [⟨(some 13), .mv (.tmp 7), none, false⟩,
   ⟨(some 14), .bin .add (.tmp 13) (.const (.int .i64 1)), none, false⟩,
   ⟨(some 7), .mv (.tmp 14), none, false⟩]))))))
  (.seq (.reg [⟨(some 40), .mv (.tmp 5), none, false⟩,
   ⟨(some 4), .mv (.tmp 40), none, false⟩])
  .ret))))⟩

theorem s134 : compFn Try.prog Try.f134 = some c134 := by kernel_rfl

/-- loop.example/g01262/laws.toProduct -/
def c135 : XFn :=
 ⟨[.celln 2 27],
  (.seq (.reg [⟨(some 1), .box 159 (.tmp 0), none, false⟩,
   ⟨(some 2), .alloc 155 [.int .u8 0, .int .u8 0, .int .u8 0, .int .u8 0, .int .u8 0, .int .u8 0, .int .u8 0, .int .u8 0, .int .u8 0, .int .u8 0, .int .u8 0, .int .u8 0, .int .u8 0, .int .u8 0, .int .u8 0, .int .u8 0, .int .u8 0, .int .u8 0, .int .u8 0, .int .u8 0, .int .u8 0, .int .u8 0, .int .u8 0, .int .u8 0, .int .u8 0, .int .u8 0, .int .u8 0], none, false⟩])
  (.seq (.reg [⟨(some 3), .alloc 155 [.int .u8 0, .int .u8 0, .int .u8 0, .int .u8 0, .int .u8 0, .int .u8 0, .int .u8 0, .int .u8 0, .int .u8 0, .int .u8 0, .int .u8 0, .int .u8 0, .int .u8 0, .int .u8 0, .int .u8 0, .int .u8 0, .int .u8 0, .int .u8 0, .int .u8 0, .int .u8 0, .int .u8 0, .int .u8 0, .int .u8 0, .int .u8 0, .int .u8 0, .int .u8 0, .int .u8 0], none, false⟩])
  (.seq (.reg [⟨(some 4), .fadr 0 (.tmp 1), none, false⟩,
   ⟨(some 5), .loadn 9 (.tmp 4), none, false⟩,
   ⟨(some 6), .call (.func 152) [(.tmp 5)], none, false⟩,
   ⟨(some 7), .fadr 0 (.tmp 3), none, false⟩,
   ⟨none, .store 9 (.tmp 7) (.tmp 6), none, false⟩])
  (.seq (.reg [⟨(some 8), .fadr 9 (.tmp 1), none, false⟩,
   ⟨(some 9), .loadn 9 (.tmp 8), none, false⟩,
   ⟨(some 10), .call (.func 152) [(.tmp 9)], none, false⟩,
   ⟨(some 11), .fadr 9 (.tmp 3), none, false⟩,
   ⟨none, .store 9 (.tmp 11) (.tmp 10), none, false⟩])
  (.seq (.reg [⟨(some 12), .fadr 18 (.tmp 1), none, false⟩,
   ⟨(some 13), .loadn 9 (.tmp 12), none, false⟩,
   ⟨(some 14), .call (.func 152) [(.tmp 13)], none, false⟩,
   ⟨(some 15), .fadr 18 (.tmp 3), none, false⟩,
   ⟨none, .store 9 (.tmp 15) (.tmp 14), none, false⟩])
  (.seq (.reg [⟨(some 16), .loadn 27 (.tmp 3), none, false⟩,
   ⟨none, .store 27 (.tmp 2) (.tmp 16), none, false⟩])
  .ret))))))⟩

theorem s135 : compFn Try.prog Try.f135 = some c135 := by kernel_rfl

/-- loop.example/g01262/impl.IsScheme -/
def c136 : XFn :=
 ⟨[.tmp 2],
  (.seq (.reg [⟨(some 1), .box 71 (.tmp 0), none, false⟩,
   ⟨(some 2), .mv (.const (.bool false)), none, false⟩])
  (.seq (.seq (.reg [⟨(some 5), .fadr 0 (.tmp 1), none, false⟩,
   ⟨(some 6), .load1 (.tmp 5), none, false⟩,
   ⟨(some 7), .call (.func 118) [(.tmp 6)], none, false⟩,
   ⟨(some 8), .un .not (.tmp 7), none, false⟩,
   ⟨(some 9), .mv (.tmp 8), none, false⟩,
   ⟨(some 10), .fadr 1 (.tmp 1), (some (9, false)), false⟩,
   ⟨(some 11), .load1 (.tmp 10), (some (9, false)), false⟩,
   ⟨(some 12), .fadr 2 (.tmp 1), (some (9, false)), false⟩,
   ⟨(some 13), .load1 (.tmp 12), (some (9, false)), false⟩,
   ⟨(some 14), .fadr 3 (.tmp 1), (some (9, false)), false⟩,
   ⟨(some 15), .load1 (.tmp 14), (some (9, false)), false⟩,
   ⟨(some 16), .bslice 2 1 3 [.int .i64 0] [(0, 1, (.tmp 11)), (1, 1, (.tmp 13)), (2, 1, (.tmp 15))], (some (9, false)), false⟩,
   ⟨(some 17), .call (.func 153) [(.tmp 16)], (some (9, false)), false⟩,
   ⟨(some 18), .un .not (.tmp 17), (some (9, false)), false⟩,
   ⟨(some 19), .pick (.tmp 9) (.const (.bool true)) (.tmp 18), none, false⟩,
   ⟨(some 20), .mv (.tmp 19), none, false⟩,
   ⟨(some 21), .fadr 4 (.tmp 1), (some (20, false)), false⟩,
   ⟨(some 22), .load1 (.tmp 21), (some (20, false)), false⟩,
   ⟨(some 23), .len (.tmp 22), (some (20, false)), false⟩,
   ⟨(some 24), .bin .gtr (.tmp 23) (.const (.int .i64 30)), (some (20, false)), false⟩,
   ⟨(some 25), .pick (.tmp 20) (.const (.bool true)) (.tmp 24), none, false⟩])
  (.cond (.tmp 25) (.seq (.reg [⟨(some 2), .mv (.const (.bool false)), none, false⟩])
  .ret) .skip))
  (.seq (.seq (.reg [⟨(some 26), .fadr 4 (.tmp 1), none, false⟩,
   ⟨(some 27), .load1 (.tmp 26), none, false⟩,
   ⟨(some 28), .len (.tmp 27), none, false⟩,
   ⟨(some 29), .mv (.const (.int .i64 0)), none, false⟩])
  (.blk 0 (.loop (.seq (.reg [⟨(some 30), .bin .lss (.tmp 29) (.tmp 28), none, false⟩])
  (.seq (.cond (.tmp 30) .skip (.exit 0))
  (.seq (.blk 1 (.seq (.reg [⟨(some 31), .ixs 27 (.tmp 27) (.tmp 29), none, false⟩,
   ⟨(some 32), .loadn 27 (.tmp 31), none, false⟩,
   ⟨(some 4), .alloc 155 [.int .u8 0, .int .u8 0, .int .u8 0, .int .u8 0, .int .u8 0, .int .u8 0, .int .u8 0, .int .u8 0, .int .u8 0, .int .u8 0, .int .u8 0, .int .u8 0, .int .u8 0, .int .u8 0, .int .u8 0, .int .u8 0, .int .u8 0, .int .u8 0, .int .u8 0, .int .u8 0, .int .u8 0, .int .u8 0, .int .u8 0, .int .u8 0, .int .u8 0, .int .u8 0, .int .u8 0], none, false⟩,
   ⟨none, .store 27 (.tmp 4) (.tmp 32), none, false⟩])
  (.seq (.reg [⟨(some 33), .fadr 0 (.tmp 1), none, false⟩,
   ⟨(some 34), .load1 (.tmp 33), none, false⟩,
   ⟨(some 35), .loadn 5 (.tmp 1), none, false⟩,
   ⟨(some 36), .call (.func 143) [(.tmp 35)], none, true⟩,
   ⟨(some 37), .loadn 27 (.tmp 4), none, false⟩,
   ⟨(some 38), .call (.func 154) [(.tmp 34), (.tmp 36), (.tmp 37)], none, false⟩,
   ⟨(some 39), .un .not (.tmp 38), none, false⟩])
  (.cond (.tmp 39) (.seq (.reg [⟨(some 2), .mv (.const (.bool false)), none, false⟩])
  .ret) .skip))))
  (.reg [⟨(some 40), .bin .add (.tmp 29) (.const (.int .i64 1)), none, false⟩,
   ⟨(some 29), .mv (.tmp 40), none, false⟩])))))))
  (.seq (.reg [⟨(some 2), .mv (.const (.bool true)), none, false⟩])
  .ret))))⟩

theorem s136 : compFn Try.prog Try.f136 = some c136 := by kernel_rfl

/-- loop.example/g01262/impl.at -/
def c137 : XFn :=
 ⟨[.tmp 6],
  (.seq (.reg [⟨(some 4), .box 153 (.tmp 1), none, false⟩,
   ⟨(some 6), .mv (.const (.int .i64 0)), none, false⟩])
  (.seq (.reg [⟨(some 7), .mv (.const (.int .i64 0)), none, false⟩])
  (.seq (.seq (.reg [⟨(some 10), .mv (.tmp 2), none, false⟩,
   ⟨(some 11), .len (.tmp 10), none, false⟩,
   ⟨(some 12), .mv (.const (.int .i64 0)), none, false⟩])
  (.blk 0 (.loop (.seq (.reg [⟨(some 13), .bin .lss (.tmp 12) (.tmp 11), none, false⟩])
  (.seq (.cond (.tmp 13) .skip (.exit 0))
  (.seq (.blk 1 (.seq (.reg [⟨(some 14), .mv (.tmp 12), none, false⟩,
   ⟨(some 15), .ixs 1 (.tmp 10) (.tmp 12), none, false⟩,
   ⟨(some 16), .load1 (.tmp 15), none, false⟩,
   ⟨(some 8), .mv (.tmp 14), none, false⟩,
   ⟨(some 9), .mv (.tmp 16), none, false⟩])
  (.reg [⟨(some 17), .mv (.tmp 7), none, false⟩,
   ⟨(some 18), .mv (.tmp 8), none, false⟩,
   ⟨(some 19), .ixa 9 1 (.tmp 4) (.tmp 18), none, false⟩,
   ⟨(some 20), .load1 (.tmp 19), none, false⟩,
   ⟨(some 21), .conv .i64 (.tmp 20), none, false⟩,
   ⟨(some 22), .mv (.tmp 9), none, false⟩,
   ⟨(some 23), .bin .mul (.tmp 21) (.tmp 22), none, false⟩,
   ⟨(some 24), .bin .add (.tmp 17) (.tmp 23), none, false⟩,
   ⟨(some 7), .mv (.tmp 24), none, false⟩])))
  (.reg [⟨(some 25), .bin .add (.tmp 12) (.const (.int .i64 1)), none, false⟩,
   ⟨(some 12), .mv (.tmp 25), none, false⟩])))))))
  (.seq (.reg [⟨(some 26), .mv (.tmp 7), none, false⟩,
   ⟨(some 27), .mv (.tmp 0), none, false⟩,
   ⟨(some 28), .bin .rem (.tmp 26) (.tmp 27), none, false⟩,
   ⟨(some 6), .mv (.tmp 28), none, false⟩])
  .ret))))⟩

theorem s137 : compFn Try.prog Try.f137 = some c137 := by kernel_rfl

/-- slices.Grow[[]int64,int64] -/
def c138 : XFn :=
 ⟨[.tmp 4],
  (.seq (.reg [⟨(some 4), .mv (.const (.slice none 0 0)), none, false⟩])
  (.seq (.seq (.reg [⟨(some 5), .mv (.tmp 1), none, false⟩,
   ⟨(some 6), .bin .lss (.tmp 5) (.const (.int .i64 0)), none, false⟩])
  (.cond (.tmp 6) (.reg [⟨(some 7), .fail, none, false⟩,
   ⟨none, .fail, none, false⟩]) .skip))
  (.seq (.seq (.reg [⟨(some 8), .mv (.tmp 1), none, false⟩,
   ⟨(some 9), .mv (.tmp 0), none, false⟩,
   ⟨(some 10), .cap (.tmp 9), none, false⟩,
   ⟨(some 11), .mv (.tmp 0), none, false⟩,
   ⟨(some 12), .len (.tmp 11), none, false⟩,
   ⟨(some 13), .bin .sub (.tmp 10) (.tmp 12), none, false⟩,
   ⟨(some 14), .bin .sub (.tmp 8) (.tmp 13), none, false⟩,
   ⟨(some 1), .mv (.tmp 14), none, false⟩])
  (.seq (.reg [⟨(some 15), .mv (.tmp 1), none, false⟩,
   ⟨(some 16), .bin .gtr (.tmp 15) (.const (.int .i64 0)), none, false⟩])
  (.cond (.tmp 16) (.reg [⟨(some 17), .mv (.tmp 0), none, false⟩,
   ⟨(some 18), .mv (.tmp 0), none, false⟩,
   ⟨(some 19), .cap (.tmp 18), none, false⟩,
   ⟨(some 20), .slc 1 (.tmp 17) none (some (.tmp 19)), none, false⟩,
   ⟨(some 21), .mv (.tmp 1), none, false⟩,
   ⟨(some 22), .appz 2 1 8 (.tmp 20) (.tmp 21), none, false⟩,
   ⟨(some 23), .mv (.tmp 0), none, false⟩,
   ⟨(some 24), .len (.tmp 23), none, false⟩,
   ⟨(some 25), .slc 1 (.tmp 22) none (some (.tmp 24)), none, false⟩,
   ⟨(some 0), .mv (.tmp 25), none, false⟩]) .skip)))
  (.seq (.reg [⟨(some 26), .mv (.tmp 0), none, false⟩,
   ⟨(some 4), .mv (.tmp 26), none, false⟩])
  .ret))))⟩

theorem s138 : compFn Try.prog Try.f138 = some c138 := by kernel_rfl

/-- loop.example/g01262/laws.eqProduct -/
def c139 : XFn :=
 ⟨[.tmp 4],
  (.seq (.reg [⟨(some 2), .box 155 (.tmp 0), none, false⟩,
   ⟨(some 3), .box 155 (.tmp 1), none, false⟩,
   ⟨(some 4), .mv (.const (.bool false)), none, false⟩])
  (.seq (.seq (.reg [⟨(some 5), .fadr 0 (.tmp 2), none, false⟩,
   ⟨(some 6), .loadn 9 (.tmp 5), none, false⟩,
   ⟨(some 7), .fadr 0 (.tmp 3), none, false⟩,
   ⟨(some 8), .loadn 9 (.tmp 7), none, false⟩,
   ⟨(some 9), .call (.func 155) [(.tmp 6), (.tmp 8)], none, false⟩,
   ⟨(some 10), .un .not (.tmp 9), none, false⟩])
  (.cond (.tmp 10) (.seq (.reg [⟨(some 4), .mv (.const (.bool false)), none, false⟩])
  .ret) .skip))
  (.seq (.seq (.reg [⟨(some 11), .fadr 9 (.tmp 2), none, false⟩,
   ⟨(some 12), .loadn 9 (.tmp 11), none, false⟩,
   ⟨(some 13), .fadr 9 (.tmp 3), none, false⟩,
   ⟨(some 14), .loadn 9 (.tmp 13), none, false⟩,
   ⟨(some 15), .call (.func 155) [(.tmp 12), (.tmp 14)], none, false⟩,
   ⟨(some 16), .un .not (.tmp 15), none, false⟩])
  (.cond (.tmp 16) (.seq (.reg [⟨(some 4), .mv (.const (.bool false)), none, false⟩])
  .ret) .skip))
  (.seq (.seq (.reg [⟨(some 17), .fadr 18 (.tmp 2), none, false⟩,
   ⟨(some 18), .loadn 9 (.tmp 17), none, false⟩,
   ⟨(some 19), .fadr 18 (.tmp 3), none, false⟩,
   ⟨(some 20), .loadn 9 (.tmp 19), none, false⟩,
   ⟨(some 21), .call (.func 155) [(.tmp 18), (.tmp 20)], none, false⟩,
   ⟨(some 22), .un .not (.tmp 21), none, false⟩])
  (.cond (.tmp 22) (.seq (.reg [⟨(some 4), .mv (.const (.bool false)), none, false⟩])
  .ret) .skip))
  (.seq (.reg [⟨(some 4), .mv (.const (.bool true)), none, false⟩])
  .ret)))))⟩

theorem s139 : compFn Try.prog Try.f139 = some c139 := by kernel_rfl

/-- loop.example/g01262/spec.l01Lengths -/
def c140 : XFn :=
 ⟨[.tmp 2, .tmp 3, .tmp 4],
  (.seq (.reg [⟨(some 1), .box 71 (.tmp 0), none, false⟩,
   ⟨(some 2), .mv (.const (.int .i64 0)), none, false⟩,
   ⟨(some 3), .mv (.const (.int .i64 0)), none, false⟩,
   ⟨(some 4), .mv (.const (.int .i64 0)), none, false⟩])
  (.seq (.reg [⟨(some 5), .fadr 1 (.tmp 1), none, false⟩,
   ⟨(some 6), .load1 (.tmp 5), none, false⟩,
   ⟨(some 7), .fadr 2 (.tmp 1), none, false⟩,
   ⟨(some 8), .load1 (.tmp 7), none, false⟩,
   ⟨(some 9), .bin .mul (.tmp 6) (.tmp 8), none, false⟩,
   ⟨(some 10), .fadr 2 (.tmp 1), none, false⟩,
   ⟨(some 11), .load1 (.tmp 10), none, false⟩,
   ⟨(some 12), .fadr 3 (.tmp 1), none, false⟩,
   ⟨(some 13), .load1 (.tmp 12), none, false⟩,
   ⟨(some 14), .bin .mul (.tmp 11) (.tmp 13), none, false⟩,
   ⟨(some 15), .fadr 1 (.tmp 1), none, false⟩,
   ⟨(some 16), .load1 (.tmp 15), none, false⟩,
   ⟨(some 17), .fadr 3 (.tmp 1), none, false⟩,
   ⟨(some 18), .load1 (.tmp 17), none, false⟩,
   ⟨(some 19), .bin .mul (.tmp 16) (.tmp 18), none, false⟩,
   ⟨(some 2), .mv (.tmp 9), none, false⟩,
   ⟨(some 3), .mv (.tmp 14), none, false⟩,
   ⟨(some 4), .mv (.tmp 19), none, false⟩])
  .ret))⟩

theorem s140 : compFn Try.prog Try.f140 = some c140 := by kernel_rfl

/-- loop.example/g01262/impl.placesOf -/
def c143 : XFn :=
 ⟨[.celln 2 3],
  (.seq (.reg [⟨(some 1), .box 71 (.tmp 0), none, false⟩,
   ⟨(some 2), .alloc 167 [.int .i64 0, .int .i64 0, .int .i64 0], none, false⟩])
  (.seq (.reg [⟨(some 3), .fadr 1 (.tmp 1), none, false⟩,
   ⟨(some 4), .load1 (.tmp 3), none, false⟩,
   ⟨(some 5), .fadr 2 (.tmp 1), none, false⟩,
   ⟨(some 6), .load1 (.tmp 5), none, false⟩,
   ⟨(some 7), .bin .mul (.tmp 4) (.tmp 6), none, false⟩,
   ⟨(some 8), .fadr 2 (.tmp 1), none, false⟩,
   ⟨(some 9), .load1 (.tmp 8), none, false⟩,
   ⟨(some 10), .fadr 3 (.tmp 1), none, false⟩,
   ⟨(some 11), .load1 (.tmp 10), none, false⟩,
   ⟨(some 12), .bin .mul (.tmp 9) (.tmp 11), none, false⟩,
   ⟨(some 13), .fadr 1 (.tmp 1), none, false⟩,
   ⟨(some 14), .load1 (.tmp 13), none, false⟩,
   ⟨(some 15), .fadr 3 (.tmp 1), none, false⟩,
   ⟨(some 16), .load1 (.tmp 15), none, false⟩,
   ⟨(some 17), .bin .mul (.tmp 14) (.tmp 16), none, false⟩,
   ⟨(some 18), .build [.int .i64 0, .int .i64 0, .int .i64 0] [(0, 1, (.tmp 7)), (1, 1, (.tmp 12)), (2, 1, (.tmp 17))], none, false⟩,
   ⟨none, .store 3 (.tmp 2) (.tmp 18), none, false⟩])
  .ret))⟩

theorem s143 : compFn Try.prog Try.f143 = some c143 := by kernel_rfl

/-- loop.example/g01262/spec.l01Form -/
def c150 : XFn :=
 ⟨[.tmp 6],
  (.seq (.reg [⟨(some 4), .box 153 (.tmp 1), none, false⟩,
   ⟨(some 6), .mv (.const (.bool false)), none, false⟩])
  (.seq (.seq (.reg [⟨(some 7), .mv (.const (.int .i64 0)), none, false⟩])
  (.blk 0 (.loop (.seq (.seq (.reg [⟨(some 8), .mv (.tmp 7), none, false⟩,
   ⟨(some 9), .bin .lss (.tmp 8) (.const (.int .i64 9)), none, false⟩])
  (.cond (.tmp 9) .skip (.exit 0)))
  (.seq (.blk 1 (.seq (.reg [⟨(some 12), .mv (.tmp 7), none, false⟩,
   ⟨(some 13), .ixa 9 1 (.tmp 4) (.tmp 12), none, false⟩,
   ⟨(some 14), .load1 (.tmp 13), none, false⟩,
   ⟨(some 15), .conv .i64 (.tmp 14), none, false⟩,
   ⟨(some 16), .mv (.tmp 0), none, false⟩,
   ⟨(some 17), .bin .geq (.tmp 15) (.tmp 16), none, false⟩,
   ⟨(some 18), .mv (.tmp 17), none, false⟩,
   ⟨(some 19), .mv (.tmp 7), (some (18, false)), false⟩,
   ⟨(some 20), .mv (.tmp 2), (some (18, false)), false⟩,
   ⟨(some 21), .bin .geq (.tmp 19) (.tmp 20), (some (18, false)), false⟩,
   ⟨(some 22), .mv (.tmp 21), (some (18, false)), false⟩,
   ⟨(some 23), .mv (.tmp 7), (some (22, true)), false⟩,
   ⟨(some 24), .ixa 9 1 (.tmp 4) (.tmp 23), (some (22, true)), false⟩,
   ⟨(some 25), .load1 (.tmp 24), (some (22, true)), false⟩,
   ⟨(some 26), .bin .neq (.tmp 25) (.const (.int .u8 0)), (some (22, true)), false⟩,
   ⟨(some 27), .pick (.tmp 22) (.tmp 26) (.const (.bool false)), (some (18, false)), false⟩,
   ⟨(some 28), .pick (.tmp 18) (.const (.bool true)) (.tmp 27), none, false⟩])
  (.cond (.tmp 28) (.seq (.reg [⟨(some 6), .mv (.const (.bool false)), none, false⟩])
  .ret) .skip)))
  (.reg [⟨(some 10), .mv (.tmp 7), none, false⟩,
   ⟨(some 11), .bin .add (.tmp 10) (.const (.int .i64 1)), none, false⟩,
   ⟨(some 7), .mv (.tmp 11), none, false⟩]))))))
  (.seq (.reg [⟨(some 6), .mv (.const (.bool true)), none, false⟩])
  .ret)))⟩

theorem s150 : compFn Try.prog Try.f150 = some c150 := by kernel_rfl

/-- loop.example/g01262/spec.l01Zero -/
def c151 : XFn :=
 ⟨[.tmp 2],
  (.seq (.reg [⟨(some 1), .box 153 (.tmp 0), none, false⟩,
   ⟨(some 2), .mv (.const (.bool false)), none, false⟩])
  (.seq (.reg [⟨(some 3), .loadn 9 (.tmp 1), none, false⟩,
   ⟨(some 4), .build [.int .u8 0, .int .u8 0, .int .u8 0, .int .u8 0, .int .u8 0, .int .u8 0, .int .u8 0, .int .u8 0, .int .u8 0] [], none, false⟩,
   ⟨(some 5), .eqa false 9 (.tmp 3) (.tmp 4), none, false⟩,
   ⟨(some 2), .mv (.tmp 5), none, false⟩])
  .ret))⟩

theorem s151 : compFn Try.prog Try.f151 = some c151 := by kernel_rfl

/-- loop.example/g01262/laws.toForm -/
def c152 : XFn :=
 ⟨[.celln 2 9],
  (.seq (.reg [⟨(some 1), .box 152 (.tmp 0), none, false⟩,
   ⟨(some 2), .alloc 153 [.int .u8 0, .int .u8 0, .int .u8 0, .int .u8 0, .int .u8 0, .int .u8 0, .int .u8 0, .int .u8 0, .int .u8 0], none, false⟩])
  (.seq (.reg [⟨(some 3), .alloc 153 [.int .u8 0, .int .u8 0, .int .u8 0, .int .u8 0, .int .u8 0, .int .u8 0, .int .u8 0, .int .u8 0, .int .u8 0], none, false⟩])
  (.seq (.seq (.reg [⟨(some 4), .mv (.const (.int .i64 0)), none, false⟩])
  (.blk 0 (.loop (.seq (.seq (.reg [⟨(some 5), .mv (.tmp 4), none, false⟩,
   ⟨(some 6), .bin .lss (.tmp 5) (.const (.int .i64 9)), none, false⟩])
  (.cond (.tmp 6) .skip (.exit 0)))
  (.seq (.blk 1 (.reg [⟨(some 9), .mv (.tmp 4), none, false⟩,
   ⟨(some 10), .mv (.tmp 4), none, false⟩,
   ⟨(some 11), .ixa 9 1 (.tmp 1) (.tmp 10), none, false⟩,
   ⟨(some 12), .load1 (.tmp 11), none, false⟩,
   ⟨(some 13), .ixa 9 1 (.tmp 3) (.tmp 9), none, false⟩,
   ⟨none, .store 1 (.tmp 13) (.tmp 12), none, false⟩]))
  (.reg [⟨(some 7), .mv (.tmp 4), none, false⟩,
   ⟨(some 8), .bin .add (.tmp 7) (.const (.int .i64 1)), none, false⟩,
   ⟨(some 4), .mv (.tmp 8), none, false⟩]))))))
  (.seq (.reg [⟨(some 14), .loadn 9 (.tmp 3), none, false⟩,
   ⟨none, .store 9 (.tmp 2) (.tmp 14), none, false⟩])
  .ret))))⟩

theorem s152 : compFn Try.prog Try.f152 = some c152 := by kernel_rfl

/-- loop.example/g01262/impl.isSize -/
def c153 : XFn :=
 ⟨[.tmp 2],
  (.seq (.reg [⟨(some 2), .mv (.const (.bool false)), none, false⟩])
  (.seq (.seq (.reg [⟨(some 5), .mv (.tmp 0), none, false⟩,
   ⟨(some 6), .len (.tmp 5), none, false⟩,
   ⟨(some 7), .mv (.const (.int .i64 0)), none, false⟩])
  (.blk 0 (.loop (.seq (.reg [⟨(some 8), .bin .lss (.tmp 7) (.tmp 6), none, false⟩])
  (.seq (.cond (.tmp 8) .skip (.exit 0))
  (.seq (.blk 1 (.seq (.reg [⟨(some 9), .ixs 1 (.tmp 5) (.tmp 7), none, false⟩,
   ⟨(some 10), .load1 (.tmp 9), none, false⟩,
   ⟨(some 4), .mv (.tmp 10), none, false⟩])
  (.seq (.reg [⟨(some 11), .mv (.tmp 4), none, false⟩,
   ⟨(some 12), .bin .lss (.tmp 11) (.const (.int .i64 1)), none, false⟩,
   ⟨(some 13), .mv (.tmp 12), none, false⟩,
   ⟨(some 14), .mv (.tmp 4), (some (13, false)), false⟩,
   ⟨(some 15), .bin .gtr (.tmp 14) (.const (.int .i64 3)), (some (13, false)), false⟩,
   ⟨(some 16), .pick (.tmp 13) (.const (.bool true)) (.tmp 15), none, false⟩])
  (.cond (.tmp 16) (.seq (.reg [⟨(some 2), .mv (.const (.bool false)), none, false⟩])
  .ret) .skip))))
  (.reg [⟨(some 17), .bin .add (.tmp 7) (.const (.int .i64 1)), none, false⟩,
   ⟨(some 7), .mv (.tmp 17), none, false⟩])))))))
  (.seq (.reg [⟨(some 2), .mv (.const (.bool true)), none, false⟩])
  .ret)))⟩

theorem s153 : compFn Try.prog Try.f153 = some c153 := by kernel_rfl

/-- loop.example/g01262/impl.isProduct -/
def c154 : XFn :=
 ⟨[.tmp 6],
  (.seq (.reg [⟨(some 4), .box 167 (.tmp 1), none, false⟩,
   ⟨(some 5), .box 155 (.tmp 2), none, false⟩,
   ⟨(some 6), .mv (.const (.bool false)), none, false⟩])
  (.seq (.seq (.reg [⟨(some 9), .loadn 27 (.tmp 5), none, false⟩,
   ⟨(some 10), .call (.func 157) [(.tmp 9)], none, false⟩,
   ⟨(some 11), .mv (.const (.int .i64 0)), none, false⟩])
  (.blk 0 (.loop (.seq (.reg [⟨(some 12), .bin .lss (.tmp 11) (.const (.int .i64 3)), none, false⟩])
  (.seq (.cond (.tmp 12) .skip (.exit 0))
  (.seq (.blk 1 (.seq (.reg [⟨(some 13), .mv (.tmp 11), none, false⟩,
   ⟨(some 14), .idxn 3 9 (.tmp 10) (.tmp 11), none, false⟩,
   ⟨(some 8), .alloc 153 [.int .u8 0, .int .u8 0, .int .u8 0, .int .u8 0, .int .u8 0, .int .u8 0, .int .u8 0, .int .u8 0, .int .u8 0], none, false⟩,
   ⟨(some 7), .mv (.tmp 13), none, false⟩,
   ⟨none, .store 9 (.tmp 8) (.tmp 14), none, false⟩])
  (.seq (.reg [⟨(some 15), .mv (.tmp 0), none, false⟩,
   ⟨(some 16), .mv (.tmp 7), none, false⟩,
   ⟨(some 17), .ixa 3 1 (.tmp 4) (.tmp 16), none, false⟩,
   ⟨(some 18), .load1 (.tmp 17), none, false⟩,
   ⟨(some 19), .loadn 9 (.tmp 8), none, false⟩,
   ⟨(some 20), .call (.func 161) [(.tmp 15), (.tmp 18), (.tmp 19)], none, false⟩,
   ⟨(some 21), .un .not (.tmp 20), none, false⟩])
  (.cond (.tmp 21) (.seq (.reg [⟨(some 6), .mv (.const (.bool false)), none, false⟩])
  .ret) .skip))))
  (.reg [⟨(some 22), .bin .add (.tmp 11) (.const (.int .i64 1)), none, false⟩,
   ⟨(some 11), .mv (.tmp 22), none, false⟩])))))))
  (.seq (.reg [⟨(some 23), .loadn 27 (.tmp 5), none, false⟩,
   ⟨(some 24), .call (.func 162) [(.tmp 23)], none, false⟩,
   ⟨(some 25), .un .not (.tmp 24), none, false⟩,
   ⟨(some 6), .mv (.tmp 25), none, false⟩])
  .ret)))⟩

theorem s154 : compFn Try.prog Try.f154 = some c154 := by kernel_rfl

/-- loop.example/g01262/laws.eqForm -/
def c155 : XFn :=
 ⟨[.tmp 4],
  (.seq (.reg [⟨(some 2), .box 153 (.tmp 0), none, false⟩,
   ⟨(some 3), .box 153 (.tmp 1), none, false⟩,
   ⟨(some 4), .mv (.const (.bool false)), none, false⟩])
  (.seq (.seq (.reg [⟨(some 5), .mv (.const (.int .i64 0)), none, false⟩])
  (.blk 0 (.loop (.seq (.seq (.reg [⟨(some 6), .mv (.tmp 5), none, false⟩,
   ⟨(some 7), .bin .lss (.tmp 6) (.const (.int .i64 9)), none, false⟩])
  (.cond (.tmp 7) .skip (.exit 0)))
  (.seq (.blk 1 (.seq (.reg [⟨(some 10), .mv (.tmp 5), none, false⟩,
   ⟨(some 11), .ixa 9 1 (.tmp 2) (.tmp 10), none, false⟩,
   ⟨(some 12), .load1 (.tmp 11), none, false⟩,
   ⟨(some 13), .mv (.tmp 5), none, false⟩,
   ⟨(some 14), .ixa 9 1 (.tmp 3) (.tmp 13), none, false⟩,
   ⟨(some 15), .load1 (.tmp 14), none, false⟩,
   ⟨(some 16), .bin .neq (.tmp 12) (.tmp 15), none, false⟩])
  (.cond (.tmp 16) (.seq (.reg [⟨(some 4), .mv (.const (.bool false)), none, false⟩])
  .ret) .skip)))
  (.reg [⟨(some 8), .mv (.tmp 5), none, false⟩,
   ⟨(some 9), .bin .add (.tmp 8) (.const (.int .i64 1)), none, false⟩,
   ⟨(some 5), .mv (.tmp 9), none, false⟩]))))))
  (.seq (.reg [⟨(some 4), .mv (.const (.bool true)), none, false⟩])
  .ret)))⟩

theorem s155 : compFn Try.prog Try.f155 = some c155 := by kernel_rfl

/-- loop.example/g01262/impl.factors -/
def c157 : XFn :=
 ⟨[.celln 2 27],
  (.seq (.reg [⟨(some 1), .box 155 (.tmp 0), none, false⟩,
   ⟨(some 2), .alloc 181 [.int .u8 0, .int .u8 0, .int .u8 0, .int .u8 0, .int .u8 0, .int .u8 0, .int .u8 0, .int .u8 0, .int .u8 0, .int .u8 0, .int .u8 0, .int .u8 0, .int .u8 0, .int .u8 0, .int .u8 0, .int .u8 0, .int .u8 0, .int .u8 0, .int .u8 0, .int .u8 0, .int .u8 0, .int .u8 0, .int .u8 0, .int .u8 0, .int .u8 0, .int .u8 0, .int .u8 0], none, false⟩])
  (.seq (.reg [⟨(some 3), .fadr 0 (.tmp 1), none, false⟩,
   ⟨(some 4), .loadn 9 (.tmp 3), none, false⟩,
   ⟨(some 5), .fadr 9 (.tmp 1), none, false⟩,
   ⟨(some 6), .loadn 9 (.tmp 5), none, false⟩,
   ⟨(some 7), .fadr 18 (.tmp 1), none, false⟩,
   ⟨(some 8), .loadn 9 (.tmp 7), none, false⟩,
   ⟨(some 9), .build [.int .u8 0, .int .u8 0, .int .u8 0, .int .u8 0, .int .u8 0, .int .u8 0, .int .u8 0, .int .u8 0, .int .u8 0, .int .u8 0, .int .u8 0, .int .u8 0, .int .u8 0, .int .u8 0, .int .u8 0, .int .u8 0, .int .u8 0, .int .u8 0, .int .u8 0, .int .u8 0, .int .u8 0, .int .u8 0, .int .u8 0, .int .u8 0, .int .u8 0, .int .u8 0, .int .u8 0] [(0, 9, (.tmp 4)), (9, 9, (.tmp 6)), (18, 9, (.tmp 8))], none, false⟩,
   ⟨none, .store 27 (.tmp 2) (.tmp 9), none, false⟩])
  .ret))⟩

theorem s157 : compFn Try.prog Try.f157 = some c157 := by kernel_rfl

/-- loop.example/g01262/impl.isForm -/
def c161 : XFn :=
 ⟨[.tmp 6],
  (.seq (.reg [⟨(some 5), .box 153 (.tmp 2), none, false⟩,
   ⟨(some 6), .mv (.const (.bool false)), none, false⟩])
  (.seq (.seq (.reg [⟨(some 9), .loadn 9 (.tmp 5), none, false⟩,
   ⟨(some 10), .mv (.const (.int .i64 0)), none, false⟩])
  (.blk 0 (.loop (.seq (.reg [⟨(some 11), .bin .lss (.tmp 10) (.const (.int .i64 9)), none, false⟩])
  (.seq (.cond (.tmp 11) .skip (.exit 0))
  (.seq (.blk 1 (.seq (.reg [⟨(some 12), .mv (.tmp 10), none, false⟩,
   ⟨(some 13), .idx1 9 (.tmp 9) (.tmp 10), none, false⟩,
   ⟨(some 7), .mv (.tmp 12), none, false⟩,
   ⟨(some 8), .mv (.tmp 13), none, false⟩])
  (.seq (.reg [⟨(some 14), .mv (.tmp 8), none, false⟩,
   ⟨(some 15), .conv .i64 (.tmp 14), none, false⟩,
   ⟨(some 16), .mv (.tmp 0), none, false⟩,
   ⟨(some 17), .bin .geq (.tmp 15) (.tmp 16), none, false⟩,
   ⟨(some 18), .mv (.tmp 17), none, false⟩,
   ⟨(some 19), .mv (.tmp 8), (some (18, false)), false⟩,
   ⟨(some 20), .bin .neq (.tmp 19) (.const (.int .u8 0)), (some (18, false)), false⟩,
   ⟨(some 21), .mv (.tmp 20), (some (18, false)), false⟩,
   ⟨(some 22), .mv (.tmp 7), (some (21, true)), false⟩,
   ⟨(some 23), .mv (.tmp 1), (some (21, true)), false⟩,
   ⟨(some 24), .bin .geq (.tmp 22) (.tmp 23), (some (21, true)), false⟩,
   ⟨(some 25), .pick (.tmp 21) (.tmp 24) (.const (.bool false)), (some (18, false)), false⟩,
   ⟨(some 26), .pick (.tmp 18) (.const (.bool true)) (.tmp 25), none, false⟩])
  (.cond (.tmp 26) (.seq (.reg [⟨(some 6), .mv (.const (.bool false)), none, false⟩])
  .ret) .skip))))
  (.reg [⟨(some 27), .bin .add (.tmp 10) (.const (.int .i64 1)), none, false⟩,
   ⟨(some 10), .mv (.tmp 27), none, false⟩])))))))
  (.seq (.reg [⟨(some 6), .mv (.const (.bool true)), none, false⟩])
  .ret)))⟩

theorem s161 : compFn Try.prog Try.f161 = some c161 := by kernel_rfl

/-- loop.example/g01262/impl.hasZero -/
def c162 : XFn :=
 ⟨[.tmp 2],
  (.seq (.reg [⟨(some 1), .box 155 (.tmp 0), none, false⟩,
   ⟨(some 2), .mv (.const (.bool false)), none, false⟩])
  (.seq (.reg [⟨(some 3), .fadr 0 (.tmp 1), none, false⟩,
   ⟨(some 4), .loadn 9 (.tmp 3), none, false⟩,
   ⟨(some 5), .build [.int .u8 0, .int .u8 0, .int .u8 0, .int .u8 0, .int .u8 0, .int .u8 0, .int .u8 0, .int .u8 0, .int .u8 0] [], none, false⟩,
   ⟨(some 6), .eqa false 9 (.tmp 4) (.tmp 5), none, false⟩,
   ⟨(some 7), .mv (.tmp 6), none, false⟩,
   ⟨(some 8), .fadr 9 (.tmp 1), (some (7, false)), false⟩,
   ⟨(some 9), .loadn 9 (.tmp 8), (some (7, false)), false⟩,
   ⟨(some 10), .build [.int .u8 0, .int .u8 0, .int .u8 0, .int .u8 0, .int .u8 0, .int .u8 0, .int .u8 0, .int .u8 0, .int .u8 0] [], (some (7, false)), false⟩,
   ⟨(some 11), .eqa false 9 (.tmp 9) (.tmp 10), (some (7, false)), false⟩,
   ⟨(some 12), .pick (.tmp 7) (.const (.bool true)) (.tmp 11), none, false⟩,
   ⟨(some 13), .mv (.tmp 12), none, false⟩,
   ⟨(some 14), .fadr 18 (.tmp 1), (some (13, false)), false⟩,
   ⟨(some 15), .loadn 9 (.tmp 14), (some (13, false)), false⟩,
   ⟨(some 16), .build [.int .u8 0, .int .u8 0, .int .u8 0, .int .u8 0, .int .u8 0, .int .u8 0, .int .u8 0, .int .u8 0, .int .u8 0] [], (some (13, false)), false⟩,
   ⟨(some 17), .eqa false 9 (.tmp 15) (.tmp 16), (some (13, false)), false⟩,
   ⟨(some 18), .pick (.tmp 13) (.const (.bool true)) (.tmp 17), none, false⟩,
   ⟨(some 2), .mv (.tmp 18), none, false⟩])
  .ret))⟩

theorem s162 : compFn Try.prog Try.f162 = some c162 := by kernel_rfl

def tab : List (Nat × XFn) := [(11, c11), (22, c22), (24, c24), (25, c25), (30, c30), (33, c33), (34, c34), (36, c36), (41, c41), (43, c43), (49, c49), (50, c50), (51, c51), (52, c52), (53, c53), (54, c54), (64, c64), (85, c85), (97, c97), (98, c98), (99, c99), (100, c100), (101, c101), (102, c102), (103, c103), (104, c104), (105, c105), (106, c106), (107, c107), (114, c114), (115, c115), (118, c118), (126, c126), (128, c128), (132, c132), (133, c133), (134, c134), (135, c135), (136, c136), (137, c137), (138, c138), (139, c139), (140, c140), (143, c143), (150, c150), (151, c151), (152, c152), (153, c153), (154, c154), (155, c155), (157, c157), (161, c161), (162, c162)]
def T (g : FuncId) : Option XFn := tab.lookup g
theorem orders : Try.prog.follows .mixedOrders = true := by kernel_rfl
theorem tsound : TSound Try.prog T := by
  refine tsound_of_all (P := Try.prog) (tab := tab) ?_
  intro p hp
  simp only [tab, List.mem_cons, List.not_mem_nil, or_false] at hp
  rcases hp with rfl | rfl | rfl | rfl | rfl | rfl | rfl | rfl | rfl | rfl | rfl | rfl | rfl | rfl | rfl | rfl | rfl | rfl | rfl | rfl | rfl | rfl | rfl | rfl | rfl | rfl | rfl | rfl | rfl | rfl | rfl | rfl | rfl | rfl | rfl | rfl | rfl | rfl | rfl | rfl | rfl | rfl | rfl | rfl | rfl | rfl | rfl | rfl | rfl | rfl | rfl | rfl | rfl
  · exact ⟨_, Try.func11, s11⟩
  · exact ⟨_, Try.func22, s22⟩
  · exact ⟨_, Try.func24, s24⟩
  · exact ⟨_, Try.func25, s25⟩
  · exact ⟨_, Try.func30, s30⟩
  · exact ⟨_, Try.func33, s33⟩
  · exact ⟨_, Try.func34, s34⟩
  · exact ⟨_, Try.func36, s36⟩
  · exact ⟨_, Try.func41, s41⟩
  · exact ⟨_, Try.func43, s43⟩
  · exact ⟨_, Try.func49, s49⟩
  · exact ⟨_, Try.func50, s50⟩
  · exact ⟨_, Try.func51, s51⟩
  · exact ⟨_, Try.func52, s52⟩
  · exact ⟨_, Try.func53, s53⟩
  · exact ⟨_, Try.func54, s54⟩
  · exact ⟨_, Try.func64, s64⟩
  · exact ⟨_, Try.func85, s85⟩
  · exact ⟨_, Try.func97, s97⟩
  · exact ⟨_, Try.func98, s98⟩
  · exact ⟨_, Try.func99, s99⟩
  · exact ⟨_, Try.func100, s100⟩
  · exact ⟨_, Try.func101, s101⟩
  · exact ⟨_, Try.func102, s102⟩
  · exact ⟨_, Try.func103, s103⟩
  · exact ⟨_, Try.func104, s104⟩
  · exact ⟨_, Try.func105, s105⟩
  · exact ⟨_, Try.func106, s106⟩
  · exact ⟨_, Try.func107, s107⟩
  · exact ⟨_, Try.func114, s114⟩
  · exact ⟨_, Try.func115, s115⟩
  · exact ⟨_, Try.func118, s118⟩
  · exact ⟨_, Try.func126, s126⟩
  · exact ⟨_, Try.func128, s128⟩
  · exact ⟨_, Try.func132, s132⟩
  · exact ⟨_, Try.func133, s133⟩
  · exact ⟨_, Try.func134, s134⟩
  · exact ⟨_, Try.func135, s135⟩
  · exact ⟨_, Try.func136, s136⟩
  · exact ⟨_, Try.func137, s137⟩
  · exact ⟨_, Try.func138, s138⟩
  · exact ⟨_, Try.func139, s139⟩
  · exact ⟨_, Try.func140, s140⟩
  · exact ⟨_, Try.func143, s143⟩
  · exact ⟨_, Try.func150, s150⟩
  · exact ⟨_, Try.func151, s151⟩
  · exact ⟨_, Try.func152, s152⟩
  · exact ⟨_, Try.func153, s153⟩
  · exact ⟨_, Try.func154, s154⟩
  · exact ⟨_, Try.func155, s155⟩
  · exact ⟨_, Try.func157, s157⟩
  · exact ⟨_, Try.func161, s161⟩
  · exact ⟨_, Try.func162, s162⟩
end Go.Proofs.Ytilpnbejpndgpaa.X
