/- Texts of one claim, put together by merge.py: XCode. -/
import Derived.Test.YtilpnbejpndgpaaRV3
import Derived.Test.YtilpnbejpndgpaaProg
/- The abstract code of the seat's functions, printed by a program of this session, and that it is what the compiler of XComp makes. -/
set_option linter.unusedVariables false
set_option maxRecDepth 4000
namespace Go.Proofs.Ytilpnbejpndgpaa.X
open Go Go.RowKit

/-- loop.example/g01262/laws.FnExactRunScheme -/
def c14 : XFn :=
 ⟨[.tmp 8],
  (.seq (.reg [⟨(some 4), .box 66 (.tmp 0), none, false⟩,
   ⟨(some 8), .mv (.const (.bool false)), none, false⟩])
  (.seq (.reg [⟨(some 9), .mv (.const (.int .i64 1048576)), none, false⟩])
  (.seq (.reg [⟨(some 22), .loadn 5 (.tmp 4), none, false⟩,
   ⟨(some 23), .mv (.tmp 9), none, false⟩,
   ⟨(some 24), .call (.func 49) [(.tmp 22), (.tmp 23)], none, false⟩,
   ⟨(some 9), .mv (.tmp 24), none, false⟩])
  (.seq (.seq (.reg [⟨(some 25), .mv (.tmp 9), none, false⟩,
   ⟨(some 26), .bin .lss (.tmp 25) (.const (.int .i64 0)), none, false⟩])
  (.cond (.tmp 26) (.seq (.reg [⟨(some 8), .mv (.const (.bool true)), none, false⟩])
  .ret) .skip))
  (.seq (.reg [⟨(some 27), .mv (.tmp 2), none, false⟩,
   ⟨(some 28), .mv (.tmp 9), none, false⟩,
   ⟨(some 29), .call (.func 41) [(.tmp 27), (.tmp 28)], none, false⟩,
   ⟨(some 9), .mv (.tmp 29), none, false⟩])
  (.seq (.seq (.reg [⟨(some 30), .mv (.tmp 9), none, false⟩,
   ⟨(some 31), .bin .lss (.tmp 30) (.const (.int .i64 0)), none, false⟩])
  (.cond (.tmp 31) (.seq (.reg [⟨(some 8), .mv (.const (.bool true)), none, false⟩])
  .ret) .skip))
  (.seq (.reg [⟨(some 32), .mv (.tmp 3), none, false⟩,
   ⟨(some 33), .mv (.tmp 9), none, false⟩,
   ⟨(some 34), .call (.func 41) [(.tmp 32), (.tmp 33)], none, false⟩,
   ⟨(some 9), .mv (.tmp 34), none, false⟩])
  (.seq (.seq (.reg [⟨(some 35), .mv (.tmp 9), none, false⟩,
   ⟨(some 36), .bin .lss (.tmp 35) (.const (.int .i64 0)), none, false⟩])
  (.cond (.tmp 36) (.seq (.reg [⟨(some 8), .mv (.const (.bool true)), none, false⟩])
  .ret) .skip))
  (.seq (.reg [⟨(some 38), .loadn 5 (.tmp 4), none, false⟩,
   ⟨(some 39), .call (.func 51) [(.tmp 38)], none, false⟩,
   ⟨(some 40), .mv (.tmp 1), none, false⟩,
   ⟨(some 41), .mv (.tmp 2), none, false⟩,
   ⟨(some 42), .call (.func 43) [(.tmp 41)], none, false⟩,
   ⟨(some 43), .mv (.tmp 3), none, false⟩,
   ⟨(some 44), .call (.func 43) [(.tmp 43)], none, false⟩,
   ⟨(some 45), .call (.func 62) [(.tmp 39), (.tmp 40), (.tmp 42), (.tmp 44)], none, false⟩,
   ⟨(some 37), .mv (.tmp 45), none, false⟩,
   ⟨(some 46), .ext (.tmp 37) 0, none, false⟩,
   ⟨(some 47), .ext (.tmp 37) 1, none, false⟩,
   ⟨(some 10), .mv (.tmp 46), none, false⟩,
   ⟨(some 11), .mv (.tmp 47), none, false⟩])
  (.seq (.reg [⟨(some 48), .loadn 5 (.tmp 4), none, false⟩,
   ⟨(some 49), .call (.func 51) [(.tmp 48)], none, false⟩,
   ⟨(some 12), .alloc 71 [.int .i64 0, .int .i64 0, .int .i64 0, .int .i64 0, .slice none 0 0], none, false⟩,
   ⟨none, .store 5 (.tmp 12) (.tmp 49), none, false⟩])
  (.seq (.reg [⟨(some 50), .mv (.tmp 2), none, false⟩,
   ⟨(some 51), .call (.func 43) [(.tmp 50)], none, false⟩,
   ⟨(some 13), .mv (.tmp 51), none, false⟩])
  (.seq (.reg [⟨(some 52), .mv (.tmp 3), none, false⟩,
   ⟨(some 53), .call (.func 43) [(.tmp 52)], none, false⟩,
   ⟨(some 14), .mv (.tmp 53), none, false⟩])
  (.seq (.reg [⟨(some 55), .loadn 5 (.tmp 12), none, false⟩,
   ⟨(some 56), .mv (.tmp 1), none, false⟩,
   ⟨(some 57), .mv (.tmp 13), none, false⟩,
   ⟨(some 58), .mv (.tmp 14), none, false⟩,
   ⟨(some 59), .call (.func 63) [(.tmp 55), (.tmp 56), (.tmp 57), (.tmp 58)], none, false⟩,
   ⟨(some 54), .mv (.tmp 59), none, false⟩,
   ⟨(some 60), .ext (.tmp 54) 0, none, false⟩,
   ⟨(some 61), .ext (.tmp 54) 1, none, false⟩,
   ⟨(some 15), .mv (.tmp 60), none, false⟩,
   ⟨(some 16), .mv (.tmp 61), none, false⟩])
  (.seq (.seq (.reg [⟨(some 62), .mv (.tmp 15), none, false⟩,
   ⟨(some 63), .mv (.tmp 10), none, false⟩,
   ⟨(some 64), .call (.func 22) [(.tmp 62), (.tmp 63)], none, false⟩,
   ⟨(some 65), .un .not (.tmp 64), none, false⟩,
   ⟨(some 66), .mv (.tmp 65), none, false⟩,
   ⟨(some 67), .mv (.tmp 16), (some (66, false)), false⟩,
   ⟨(some 68), .mv (.tmp 11), (some (66, false)), false⟩,
   ⟨(some 69), .bin .neq (.tmp 67) (.tmp 68), (some (66, false)), false⟩,
   ⟨(some 70), .pick (.tmp 66) (.const (.bool true)) (.tmp 69), none, false⟩])
  (.cond (.tmp 70) (.seq (.reg [⟨(some 8), .mv (.const (.bool false)), none, false⟩])
  .ret) .skip))
  (.seq (.seq (.reg [⟨(some 71), .loadn 5 (.tmp 12), none, false⟩,
   ⟨(some 72), .loadn 5 (.tmp 4), none, false⟩,
   ⟨(some 73), .call (.func 51) [(.tmp 72)], none, true⟩,
   ⟨(some 74), .call (.func 53) [(.tmp 71), (.tmp 73)], none, false⟩,
   ⟨(some 75), .un .not (.tmp 74), none, false⟩])
  (.cond (.tmp 75) (.seq (.reg [⟨(some 8), .mv (.const (.bool false)), none, false⟩])
  .ret) .skip))
  (.seq (.seq (.reg [⟨(some 76), .mv (.tmp 13), none, false⟩,
   ⟨(some 77), .mv (.tmp 2), none, false⟩,
   ⟨(some 78), .call (.func 43) [(.tmp 77)], none, false⟩,
   ⟨(some 79), .call (.func 22) [(.tmp 76), (.tmp 78)], none, false⟩,
   ⟨(some 80), .un .not (.tmp 79), none, false⟩])
  (.cond (.tmp 80) (.seq (.reg [⟨(some 8), .mv (.const (.bool false)), none, false⟩])
  .ret) .skip))
  (.seq (.seq (.reg [⟨(some 81), .mv (.tmp 14), none, false⟩,
   ⟨(some 82), .mv (.tmp 3), none, false⟩,
   ⟨(some 83), .call (.func 43) [(.tmp 82)], none, false⟩,
   ⟨(some 84), .call (.func 22) [(.tmp 81), (.tmp 83)], none, false⟩,
   ⟨(some 85), .un .not (.tmp 84), none, false⟩])
  (.cond (.tmp 85) (.seq (.reg [⟨(some 8), .mv (.const (.bool false)), none, false⟩])
  .ret) .skip))
  (.seq (.reg [⟨(some 17), .mv (.const (.int .i64 1)), none, false⟩])
  (.seq (.reg [⟨(some 86), .loadn 5 (.tmp 12), none, false⟩,
   ⟨(some 87), .mv (.tmp 17), none, false⟩,
   ⟨(some 88), .call (.func 54) [(.tmp 86), (.tmp 87)], none, false⟩,
   ⟨(some 17), .mv (.tmp 88), none, false⟩])
  (.seq (.reg [⟨(some 89), .mv (.tmp 13), none, false⟩,
   ⟨(some 90), .mv (.tmp 17), none, false⟩,
   ⟨(some 91), .call (.func 24) [(.tmp 89), (.tmp 90)], none, false⟩,
   ⟨(some 17), .mv (.tmp 91), none, false⟩])
  (.seq (.reg [⟨(some 92), .mv (.tmp 14), none, false⟩,
   ⟨(some 93), .mv (.tmp 17), none, false⟩,
   ⟨(some 94), .call (.func 24) [(.tmp 92), (.tmp 93)], none, false⟩,
   ⟨(some 17), .mv (.tmp 94), none, false⟩])
  (.seq (.seq (.reg [⟨(some 95), .mv (.tmp 17), none, false⟩,
   ⟨(some 96), .bin .lss (.tmp 95) (.const (.int .i64 0)), none, false⟩,
   ⟨(some 97), .mv (.tmp 96), none, false⟩,
   ⟨(some 98), .mv (.tmp 15), (some (97, false)), false⟩,
   ⟨(some 99), .mv (.tmp 10), (some (97, false)), false⟩,
   ⟨(some 100), .call (.func 22) [(.tmp 98), (.tmp 99)], (some (97, false)), false⟩,
   ⟨(some 101), .un .not (.tmp 100), (some (97, false)), false⟩,
   ⟨(some 102), .pick (.tmp 97) (.const (.bool true)) (.tmp 101), none, false⟩,
   ⟨(some 103), .mv (.tmp 102), none, false⟩,
   ⟨(some 104), .mv (.tmp 16), (some (103, false)), false⟩,
   ⟨(some 105), .mv (.tmp 11), (some (103, false)), false⟩,
   ⟨(some 106), .bin .neq (.tmp 104) (.tmp 105), (some (103, false)), false⟩,
   ⟨(some 107), .pick (.tmp 103) (.const (.bool true)) (.tmp 106), none, false⟩])
  (.cond (.tmp 107) (.seq (.reg [⟨(some 8), .mv (.const (.bool false)), none, false⟩])
  .ret) .skip))
  (.seq (.reg [⟨(some 18), .mv (.const (.int .i64 1)), none, false⟩])
  (.seq (.reg [⟨(some 108), .mv (.tmp 15), none, false⟩,
   ⟨(some 109), .mv (.tmp 18), none, false⟩,
   ⟨(some 110), .call (.func 24) [(.tmp 108), (.tmp 109)], none, false⟩,
   ⟨(some 18), .mv (.tmp 110), none, false⟩])
  (.seq (.reg [⟨(some 19), .mv (.const (.int .i64 1)), none, false⟩])
  (.seq (.reg [⟨(some 111), .mv (.tmp 15), none, false⟩,
   ⟨(some 112), .mv (.tmp 19), none, false⟩,
   ⟨(some 113), .call (.func 25) [(.tmp 111), (.tmp 112)], none, false⟩,
   ⟨(some 19), .mv (.tmp 113), none, false⟩])
  (.seq (.seq (.reg [⟨(some 114), .mv (.tmp 19), none, false⟩,
   ⟨(some 115), .bin .lss (.tmp 114) (.const (.int .i64 0)), none, false⟩])
  (.cond (.tmp 115) (.seq (.reg [⟨(some 8), .mv (.const (.bool false)), none, false⟩])
  .ret) .skip))
  (.seq (.seq (.reg [⟨(some 116), .mv (.tmp 19), none, false⟩,
   ⟨(some 117), .mv (.tmp 18), none, false⟩,
   ⟨(some 118), .bin .neq (.tmp 116) (.tmp 117), none, false⟩])
  (.cond (.tmp 118) (.seq (.reg [⟨(some 8), .mv (.const (.bool false)), none, false⟩])
  .ret) .skip))
  (.seq (.reg [⟨(some 120), .loadn 5 (.tmp 4), none, false⟩,
   ⟨(some 121), .call (.func 51) [(.tmp 120)], none, false⟩,
   ⟨(some 122), .mv (.tmp 1), none, false⟩,
   ⟨(some 123), .mv (.tmp 2), none, false⟩,
   ⟨(some 124), .call (.func 43) [(.tmp 123)], none, false⟩,
   ⟨(some 125), .mv (.tmp 3), none, false⟩,
   ⟨(some 126), .call (.func 43) [(.tmp 125)], none, false⟩,
   ⟨(some 127), .call (.func 63) [(.tmp 121), (.tmp 122), (.tmp 124), (.tmp 126)], none, false⟩,
   ⟨(some 119), .mv (.tmp 127), none, false⟩,
   ⟨(some 128), .ext (.tmp 119) 0, none, false⟩,
   ⟨(some 129), .ext (.tmp 119) 1, none, false⟩,
   ⟨(some 20), .mv (.tmp 128), none, false⟩,
   ⟨(some 21), .mv (.tmp 129), none, false⟩])
  (.seq (.seq (.reg [⟨(some 130), .mv (.tmp 20), none, false⟩,
   ⟨(some 131), .mv (.tmp 10), none, false⟩,
   ⟨(some 132), .call (.func 22) [(.tmp 130), (.tmp 131)], none, false⟩,
   ⟨(some 133), .un .not (.tmp 132), none, false⟩,
   ⟨(some 134), .mv (.tmp 133), none, false⟩,
   ⟨(some 135), .mv (.tmp 21), (some (134, false)), false⟩,
   ⟨(some 136), .mv (.tmp 11), (some (134, false)), false⟩,
   ⟨(some 137), .bin .neq (.tmp 135) (.tmp 136), (some (134, false)), false⟩,
   ⟨(some 138), .pick (.tmp 134) (.const (.bool true)) (.tmp 137), none, false⟩])
  (.cond (.tmp 138) (.seq (.reg [⟨(some 8), .mv (.const (.bool false)), none, false⟩])
  .ret) .skip))
  (.seq (.reg [⟨(some 19), .mv (.const (.int .i64 1)), none, false⟩])
  (.seq (.reg [⟨(some 139), .mv (.tmp 15), none, false⟩,
   ⟨(some 140), .mv (.tmp 19), none, false⟩,
   ⟨(some 141), .call (.func 25) [(.tmp 139), (.tmp 140)], none, false⟩,
   ⟨(some 19), .mv (.tmp 141), none, false⟩])
  (.seq (.seq (.reg [⟨(some 142), .mv (.tmp 19), none, false⟩,
   ⟨(some 143), .bin .lss (.tmp 142) (.const (.int .i64 0)), none, false⟩])
  (.cond (.tmp 143) (.seq (.reg [⟨(some 8), .mv (.const (.bool false)), none, false⟩])
  .ret) .skip))
  (.seq (.seq (.reg [⟨(some 144), .mv (.tmp 19), none, false⟩,
   ⟨(some 145), .mv (.tmp 18), none, false⟩,
   ⟨(some 146), .bin .neq (.tmp 144) (.tmp 145), none, false⟩])
  (.cond (.tmp 146) (.seq (.reg [⟨(some 8), .mv (.const (.bool false)), none, false⟩])
  .ret) .skip))
  (.seq (.reg [⟨(some 8), .mv (.const (.bool true)), none, false⟩])
  .ret)))))))))))))))))))))))))))))))))))⟩

theorem s14 : compFn Try.prog Try.f14 = some c14 := by kernel_rfl

/-- loop.example/g01262/laws.eqInt64SS -/
def c22 : XFn :=
 ⟨[.tmp 4],
  (.seq (.reg [⟨(some 4), .mv (.const (.bool false)), none, false⟩])
  (.seq (.seq (.reg [⟨(some 6), .mv (.tmp 0), none, false⟩,
   ⟨(some 7), .len (.tmp 6), none, false⟩,
   ⟨(some 8), .mv (.tmp 1), none, false⟩,
   ⟨(some 9), .len (.tmp 8), none, false⟩,
   ⟨(some 10), .bin .neq (.tmp 7) (.tmp 9), none, false⟩])
  (.cond (.tmp 10) (.seq (.reg [⟨(some 4), .mv (.const (.bool false)), none, false⟩])
  .ret) .skip))
  (.seq (.seq (.reg [⟨(some 5), .mv (.const (.int .i64 0)), none, false⟩])
  (.blk 0 (.loop (.seq (.seq (.reg [⟨(some 11), .mv (.tmp 5), none, false⟩,
   ⟨(some 12), .mv (.tmp 0), none, false⟩,
   ⟨(some 13), .len (.tmp 12), none, false⟩,
   ⟨(some 14), .bin .lss (.tmp 11) (.tmp 13), none, false⟩])
  (.cond (.tmp 14) .skip (.exit 0)))
  (.seq (.blk 1 (.seq (.reg [⟨(some 17), .mv (.tmp 0), none, false⟩,
   ⟨(some 18), .mv (.tmp 5), none, false⟩,
   ⟨(some 19), .ixs 1 (.tmp 17) (.tmp 18), none, false⟩,
   ⟨(some 20), .load1 (.tmp 19), none, false⟩,
   ⟨(some 21), .mv (.tmp 1), none, false⟩,
   ⟨(some 22), .mv (.tmp 5), none, false⟩,
   ⟨(some 23), .ixs 1 (.tmp 21) (.tmp 22), none, false⟩,
   ⟨(some 24), .load1 (.tmp 23), none, false⟩,
   ⟨(some 25), .call (.func 30) [(.tmp 20), (.tmp 24)], none, false⟩,
   ⟨(some 26), .un .not (.tmp 25), none, false⟩])
  (.cond (.tmp 26) (.seq (.reg [⟨(some 4), .mv (.const (.bool false)), none, false⟩])
  .ret) .skip)))
  (.reg [⟨(some 15), .mv (.tmp 5), none, false⟩,
   ⟨(some 16), .bin .add (.tmp 15) (.const (.int .i64 1)), none, false⟩,
   ⟨(some 5), .mv (.tmp 16), none, false⟩]))))))
  (.seq (.reg [⟨(some 4), .mv (.const (.bool true)), none, false⟩])
  .ret))))⟩

theorem s22 : compFn Try.prog Try.f22 = some c22 := by kernel_rfl

/-- loop.example/g01262/laws.markInt64SS -/
def c24 : XFn :=
 ⟨[.tmp 4],
  (.seq (.reg [⟨(some 4), .mv (.const (.int .i64 0)), none, false⟩])
  (.seq (.seq (.reg [⟨(some 5), .mv (.const (.int .i64 0)), none, false⟩])
  (.blk 0 (.loop (.seq (.seq (.reg [⟨(some 6), .mv (.tmp 5), none, false⟩,
   ⟨(some 7), .mv (.tmp 0), none, false⟩,
   ⟨(some 8), .len (.tmp 7), none, false⟩,
   ⟨(some 9), .bin .lss (.tmp 6) (.tmp 8), none, false⟩])
  (.cond (.tmp 9) .skip (.exit 0)))
  (.seq (.blk 1 (.reg [⟨(some 12), .mv (.tmp 0), none, false⟩,
   ⟨(some 13), .mv (.tmp 5), none, false⟩,
   ⟨(some 14), .ixs 1 (.tmp 12) (.tmp 13), none, false⟩,
   ⟨(some 15), .load1 (.tmp 14), none, false⟩,
   ⟨(some 16), .mv (.tmp 1), none, false⟩,
   ⟨(some 17), .call (.func 33) [(.tmp 15), (.tmp 16)], none, false⟩,
   ⟨(some 1), .mv (.tmp 17), none, false⟩]))
  (.reg [⟨(some 10), .mv (.tmp 5), none, false⟩,
   ⟨(some 11), .bin .add (.tmp 10) (.const (.int .i64 1)), none, false⟩,
   ⟨(some 5), .mv (.tmp 11), none, false⟩]))))))
  (.seq (.reg [⟨(some 18), .mv (.tmp 1), none, false⟩,
   ⟨(some 4), .mv (.tmp 18), none, false⟩])
  .ret)))⟩

theorem s24 : compFn Try.prog Try.f24 = some c24 := by kernel_rfl

/-- loop.example/g01262/laws.heldInt64SS -/
def c25 : XFn :=
 ⟨[.tmp 4],
  (.seq (.reg [⟨(some 4), .mv (.const (.int .i64 0)), none, false⟩])
  (.seq (.seq (.reg [⟨(some 5), .mv (.const (.int .i64 0)), none, false⟩])
  (.blk 0 (.loop (.seq (.seq (.reg [⟨(some 6), .mv (.tmp 5), none, false⟩,
   ⟨(some 7), .mv (.tmp 0), none, false⟩,
   ⟨(some 8), .len (.tmp 7), none, false⟩,
   ⟨(some 9), .bin .lss (.tmp 6) (.tmp 8), none, false⟩])
  (.cond (.tmp 9) .skip (.exit 0)))
  (.seq (.blk 1 (.seq (.reg [⟨(some 12), .mv (.tmp 0), none, false⟩,
   ⟨(some 13), .mv (.tmp 5), none, false⟩,
   ⟨(some 14), .ixs 1 (.tmp 12) (.tmp 13), none, false⟩,
   ⟨(some 15), .load1 (.tmp 14), none, false⟩,
   ⟨(some 16), .mv (.tmp 1), none, false⟩,
   ⟨(some 17), .call (.func 34) [(.tmp 15), (.tmp 16)], none, false⟩,
   ⟨(some 1), .mv (.tmp 17), none, false⟩])
  (.seq (.reg [⟨(some 18), .mv (.tmp 1), none, false⟩,
   ⟨(some 19), .bin .lss (.tmp 18) (.const (.int .i64 0)), none, false⟩])
  (.cond (.tmp 19) (.seq (.reg [⟨(some 4), .mv (.const (.int .i64 (-1))), none, false⟩])
  .ret) .skip))))
  (.reg [⟨(some 10), .mv (.tmp 5), none, false⟩,
   ⟨(some 11), .bin .add (.tmp 10) (.const (.int .i64 1)), none, false⟩,
   ⟨(some 5), .mv (.tmp 11), none, false⟩]))))))
  (.seq (.reg [⟨(some 20), .mv (.tmp 1), none, false⟩,
   ⟨(some 4), .mv (.tmp 20), none, false⟩])
  .ret)))⟩

theorem s25 : compFn Try.prog Try.f25 = some c25 := by kernel_rfl

/-- loop.example/g01262/laws.eqInt64S -/
def c30 : XFn :=
 ⟨[.tmp 4],
  (.seq (.reg [⟨(some 4), .mv (.const (.bool false)), none, false⟩])
  (.seq (.seq (.reg [⟨(some 6), .mv (.tmp 0), none, false⟩,
   ⟨(some 7), .len (.tmp 6), none, false⟩,
   ⟨(some 8), .mv (.tmp 1), none, false⟩,
   ⟨(some 9), .len (.tmp 8), none, false⟩,
   ⟨(some 10), .bin .neq (.tmp 7) (.tmp 9), none, false⟩])
  (.cond (.tmp 10) (.seq (.reg [⟨(some 4), .mv (.const (.bool false)), none, false⟩])
  .ret) .skip))
  (.seq (.seq (.reg [⟨(some 5), .mv (.const (.int .i64 0)), none, false⟩])
  (.blk 0 (.loop (.seq (.seq (.reg [⟨(some 11), .mv (.tmp 5), none, false⟩,
   ⟨(some 12), .mv (.tmp 0), none, false⟩,
   ⟨(some 13), .len (.tmp 12), none, false⟩,
   ⟨(some 14), .bin .lss (.tmp 11) (.tmp 13), none, false⟩])
  (.cond (.tmp 14) .skip (.exit 0)))
  (.seq (.blk 1 (.seq (.reg [⟨(some 17), .mv (.tmp 0), none, false⟩,
   ⟨(some 18), .mv (.tmp 5), none, false⟩,
   ⟨(some 19), .ixs 1 (.tmp 17) (.tmp 18), none, false⟩,
   ⟨(some 20), .load1 (.tmp 19), none, false⟩,
   ⟨(some 21), .mv (.tmp 1), none, false⟩,
   ⟨(some 22), .mv (.tmp 5), none, false⟩,
   ⟨(some 23), .ixs 1 (.tmp 21) (.tmp 22), none, false⟩,
   ⟨(some 24), .load1 (.tmp 23), none, false⟩,
   ⟨(some 25), .bin .neq (.tmp 20) (.tmp 24), none, false⟩])
  (.cond (.tmp 25) (.seq (.reg [⟨(some 4), .mv (.const (.bool false)), none, false⟩])
  .ret) .skip)))
  (.reg [⟨(some 15), .mv (.tmp 5), none, false⟩,
   ⟨(some 16), .bin .add (.tmp 15) (.const (.int .i64 1)), none, false⟩,
   ⟨(some 5), .mv (.tmp 16), none, false⟩]))))))
  (.seq (.reg [⟨(some 4), .mv (.const (.bool true)), none, false⟩])
  .ret))))⟩

theorem s30 : compFn Try.prog Try.f30 = some c30 := by kernel_rfl

/-- loop.example/g01262/laws.markInt64S -/
def c33 : XFn :=
 ⟨[.tmp 4],
  (.seq (.reg [⟨(some 4), .mv (.const (.int .i64 0)), none, false⟩])
  (.seq (.seq (.reg [⟨(some 5), .mv (.const (.int .i64 0)), none, false⟩])
  (.blk 0 (.loop (.seq (.seq (.reg [⟨(some 6), .mv (.tmp 5), none, false⟩,
   ⟨(some 7), .mv (.tmp 0), none, false⟩,
   ⟨(some 8), .len (.tmp 7), none, false⟩,
   ⟨(some 9), .bin .lss (.tmp 6) (.tmp 8), none, false⟩])
  (.cond (.tmp 9) .skip (.exit 0)))
  (.seq (.blk 1 (.seq (.reg [⟨(some 12), .mv (.tmp 0), none, false⟩,
   ⟨(some 13), .mv (.tmp 5), none, false⟩,
   ⟨(some 14), .mv (.tmp 1), none, false⟩,
   ⟨(some 15), .ixs 1 (.tmp 12) (.tmp 13), none, false⟩,
   ⟨none, .store 1 (.tmp 15) (.tmp 14), none, false⟩])
  (.reg [⟨(some 16), .mv (.tmp 1), none, false⟩,
   ⟨(some 17), .bin .add (.tmp 16) (.const (.int .i64 1)), none, false⟩,
   ⟨(some 1), .mv (.tmp 17), none, false⟩])))
  (.reg [⟨(some 10), .mv (.tmp 5), none, false⟩,
   ⟨(some 11), .bin .add (.tmp 10) (.const (.int .i64 1)), none, false⟩,
   ⟨(some 5), .mv (.tmp 11), none, false⟩]))))))
  (.seq (.reg [⟨(some 18), .mv (.tmp 1), none, false⟩,
   ⟨(some 4), .mv (.tmp 18), none, false⟩])
  .ret)))⟩

theorem s33 : compFn Try.prog Try.f33 = some c33 := by kernel_rfl

/-- loop.example/g01262/laws.heldInt64S -/
def c34 : XFn :=
 ⟨[.tmp 4],
  (.seq (.reg [⟨(some 4), .mv (.const (.int .i64 0)), none, false⟩])
  (.seq (.seq (.reg [⟨(some 5), .mv (.const (.int .i64 0)), none, false⟩])
  (.blk 0 (.loop (.seq (.seq (.reg [⟨(some 6), .mv (.tmp 5), none, false⟩,
   ⟨(some 7), .mv (.tmp 0), none, false⟩,
   ⟨(some 8), .len (.tmp 7), none, false⟩,
   ⟨(some 9), .bin .lss (.tmp 6) (.tmp 8), none, false⟩])
  (.cond (.tmp 9) .skip (.exit 0)))
  (.seq (.blk 1 (.seq (.seq (.reg [⟨(some 12), .mv (.tmp 0), none, false⟩,
   ⟨(some 13), .mv (.tmp 5), none, false⟩,
   ⟨(some 14), .ixs 1 (.tmp 12) (.tmp 13), none, false⟩,
   ⟨(some 15), .load1 (.tmp 14), none, false⟩,
   ⟨(some 16), .mv (.tmp 1), none, false⟩,
   ⟨(some 17), .bin .neq (.tmp 15) (.tmp 16), none, false⟩])
  (.cond (.tmp 17) (.seq (.reg [⟨(some 4), .mv (.const (.int .i64 (-1))), none, false⟩])
  .ret) .skip))
  (.reg [⟨(some 18), .mv (.tmp 1), none, false⟩,
   ⟨(some 19), .bin .add (.tmp 18) (.const (.int .i64 1)), none, false⟩,
   ⟨(some 1), .mv (.tmp 19), none, false⟩])))
  (.reg [⟨(some 10), .mv (.tmp 5), none, false⟩,
   ⟨(some 11), .bin .add (.tmp 10) (.const (.int .i64 1)), none, false⟩,
   ⟨(some 5), .mv (.tmp 11), none, false⟩]))))))
  (.seq (.reg [⟨(some 20), .mv (.tmp 1), none, false⟩,
   ⟨(some 4), .mv (.tmp 20), none, false⟩])
  .ret)))⟩

theorem s34 : compFn Try.prog Try.f34 = some c34 := by kernel_rfl

/-- loop.example/g01262/laws.toInt64S -/
def c36 : XFn :=
 ⟨[.tmp 2],
  (.seq (.reg [⟨(some 2), .mv (.const (.slice none 0 0)), none, false⟩])
  (.seq (.reg [⟨(some 5), .mv (.tmp 0), none, false⟩,
   ⟨(some 6), .len (.tmp 5), none, false⟩,
   ⟨(some 7), .mks 2 1 8 [.int .i64 0] (.tmp 6), none, false⟩,
   ⟨(some 3), .mv (.tmp 7), none, false⟩])
  (.seq (.seq (.reg [⟨(some 4), .mv (.const (.int .i64 0)), none, false⟩])
  (.blk 0 (.loop (.seq (.seq (.reg [⟨(some 8), .mv (.tmp 4), none, false⟩,
   ⟨(some 9), .mv (.tmp 0), none, false⟩,
   ⟨(some 10), .len (.tmp 9), none, false⟩,
   ⟨(some 11), .bin .lss (.tmp 8) (.tmp 10), none, false⟩])
  (.cond (.tmp 11) .skip (.exit 0)))
  (.seq (.blk 1 (.reg [⟨(some 14), .mv (.tmp 3), none, false⟩,
   ⟨(some 15), .mv (.tmp 4), none, false⟩,
   ⟨(some 16), .mv (.tmp 0), none, false⟩,
   ⟨(some 17), .mv (.tmp 4), none, false⟩,
   ⟨(some 18), .ixs 1 (.tmp 16) (.tmp 17), none, false⟩,
   ⟨(some 19), .load1 (.tmp 18), none, false⟩,
   ⟨(some 20), .ixs 1 (.tmp 14) (.tmp 15), none, false⟩,
   ⟨none, .store 1 (.tmp 20) (.tmp 19), none, false⟩]))
  (.reg [⟨(some 12), .mv (.tmp 4), none, false⟩,
   ⟨(some 13), .bin .add (.tmp 12) (.const (.int .i64 1)), none, false⟩,
   ⟨(some 4), .mv (.tmp 13), none, false⟩]))))))
  (.seq (.reg [⟨(some 21), .mv (.tmp 3), none, false⟩,
   ⟨(some 2), .mv (.tmp 21), none, false⟩])
  .ret))))⟩

theorem s36 : compFn Try.prog Try.f36 = some c36 := by kernel_rfl

/-- loop.example/g01262/laws.szInt64SS -/
def c41 : XFn :=
 ⟨[.tmp 4],
  (.seq (.reg [⟨(some 4), .mv (.const (.int .i64 0)), none, false⟩])
  (.seq (.reg [⟨(some 6), .mv (.tmp 1), none, false⟩,
   ⟨(some 7), .mv (.tmp 0), none, false⟩,
   ⟨(some 8), .len (.tmp 7), none, false⟩,
   ⟨(some 9), .bin .sub (.tmp 6) (.tmp 8), none, false⟩,
   ⟨(some 1), .mv (.tmp 9), none, false⟩])
  (.seq (.seq (.reg [⟨(some 10), .mv (.tmp 1), none, false⟩,
   ⟨(some 11), .bin .lss (.tmp 10) (.const (.int .i64 0)), none, false⟩])
  (.cond (.tmp 11) (.seq (.reg [⟨(some 4), .mv (.const (.int .i64 (-1))), none, false⟩])
  .ret) .skip))
  (.seq (.seq (.reg [⟨(some 5), .mv (.const (.int .i64 0)), none, false⟩])
  (.blk 0 (.loop (.seq (.seq (.reg [⟨(some 12), .mv (.tmp 5), none, false⟩,
   ⟨(some 13), .mv (.tmp 0), none, false⟩,
   ⟨(some 14), .len (.tmp 13), none, false⟩,
   ⟨(some 15), .bin .lss (.tmp 12) (.tmp 14), none, false⟩])
  (.cond (.tmp 15) .skip (.exit 0)))
  (.seq (.blk 1 (.seq (.reg [⟨(some 18), .mv (.tmp 0), none, false⟩,
   ⟨(some 19), .mv (.tmp 5), none, false⟩,
   ⟨(some 20), .ixs 1 (.tmp 18) (.tmp 19), none, false⟩,
   ⟨(some 21), .load1 (.tmp 20), none, false⟩,
   ⟨(some 22), .mv (.tmp 1), none, false⟩,
   ⟨(some 23), .call (.func 64) [(.tmp 21), (.tmp 22)], none, false⟩,
   ⟨(some 1), .mv (.tmp 23), none, false⟩])
  (.seq (.reg [⟨(some 24), .mv (.tmp 1), none, false⟩,
   ⟨(some 25), .bin .lss (.tmp 24) (.const (.int .i64 0)), none, false⟩])
  (.cond (.tmp 25) (.seq (.reg [⟨(some 4), .mv (.const (.int .i64 (-1))), none, false⟩])
  .ret) .skip))))
  (.reg [⟨(some 16), .mv (.tmp 5), none, false⟩,
   ⟨(some 17), .bin .add (.tmp 16) (.const (.int .i64 1)), none, false⟩,
   ⟨(some 5), .mv (.tmp 17), none, false⟩]))))))
  (.seq (.reg [⟨(some 26), .mv (.tmp 1), none, false⟩,
   ⟨(some 4), .mv (.tmp 26), none, false⟩])
  .ret)))))⟩

theorem s41 : compFn Try.prog Try.f41 = some c41 := by kernel_rfl

/-- loop.example/g01262/laws.toInt64SS -/
def c43 : XFn :=
 ⟨[.tmp 2],
  (.seq (.reg [⟨(some 2), .mv (.const (.slice none 0 0)), none, false⟩])
  (.seq (.reg [⟨(some 5), .mv (.tmp 0), none, false⟩,
   ⟨(some 6), .len (.tmp 5), none, false⟩,
   ⟨(some 7), .mks 22 1 24 [.slice none 0 0] (.tmp 6), none, false⟩,
   ⟨(some 3), .mv (.tmp 7), none, false⟩])
  (.seq (.seq (.reg [⟨(some 4), .mv (.const (.int .i64 0)), none, false⟩])
  (.blk 0 (.loop (.seq (.seq (.reg [⟨(some 8), .mv (.tmp 4), none, false⟩,
   ⟨(some 9), .mv (.tmp 0), none, false⟩,
   ⟨(some 10), .len (.tmp 9), none, false⟩,
   ⟨(some 11), .bin .lss (.tmp 8) (.tmp 10), none, false⟩])
  (.cond (.tmp 11) .skip (.exit 0)))
  (.seq (.blk 1 (.reg [⟨(some 14), .mv (.tmp 3), none, false⟩,
   ⟨(some 15), .mv (.tmp 4), none, false⟩,
   ⟨(some 16), .mv (.tmp 0), none, false⟩,
   ⟨(some 17), .mv (.tmp 4), none, false⟩,
   ⟨(some 18), .ixs 1 (.tmp 16) (.tmp 17), none, false⟩,
   ⟨(some 19), .load1 (.tmp 18), none, false⟩,
   ⟨(some 20), .call (.func 36) [(.tmp 19)], none, false⟩,
   ⟨(some 21), .ixs 1 (.tmp 14) (.tmp 15), none, false⟩,
   ⟨none, .store 1 (.tmp 21) (.tmp 20), none, false⟩]))
  (.reg [⟨(some 12), .mv (.tmp 4), none, false⟩,
   ⟨(some 13), .bin .add (.tmp 12) (.const (.int .i64 1)), none, false⟩,
   ⟨(some 4), .mv (.tmp 13), none, false⟩]))))))
  (.seq (.reg [⟨(some 22), .mv (.tmp 3), none, false⟩,
   ⟨(some 2), .mv (.tmp 22), none, false⟩])
  .ret))))⟩

theorem s43 : compFn Try.prog Try.f43 = some c43 := by kernel_rfl

/-- loop.example/g01262/laws.szScheme -/
def c49 : XFn :=
 ⟨[.tmp 4],
  (.seq (.reg [⟨(some 2), .box 66 (.tmp 0), none, false⟩,
   ⟨(some 4), .mv (.const (.int .i64 0)), none, false⟩])
  (.seq (.reg [⟨(some 5), .fadr 4 (.tmp 2), none, false⟩,
   ⟨(some 6), .load1 (.tmp 5), none, false⟩,
   ⟨(some 7), .mv (.tmp 1), none, false⟩,
   ⟨(some 8), .call (.func 97) [(.tmp 6), (.tmp 7)], none, false⟩,
   ⟨(some 1), .mv (.tmp 8), none, false⟩])
  (.seq (.seq (.reg [⟨(some 9), .mv (.tmp 1), none, false⟩,
   ⟨(some 10), .bin .lss (.tmp 9) (.const (.int .i64 0)), none, false⟩])
  (.cond (.tmp 10) (.seq (.reg [⟨(some 4), .mv (.const (.int .i64 (-1))), none, false⟩])
  .ret) .skip))
  (.seq (.reg [⟨(some 11), .mv (.tmp 1), none, false⟩,
   ⟨(some 4), .mv (.tmp 11), none, false⟩])
  .ret))))⟩

theorem s49 : compFn Try.prog Try.f49 = some c49 := by kernel_rfl

/-- loop.example/g01262/laws.toScheme -/
def c51 : XFn :=
 ⟨[.celln 2 5],
  (.seq (.reg [⟨(some 1), .box 66 (.tmp 0), none, false⟩,
   ⟨(some 2), .alloc 71 [.int .i64 0, .int .i64 0, .int .i64 0, .int .i64 0, .slice none 0 0], none, false⟩])
  (.seq (.reg [⟨(some 3), .alloc 71 [.int .i64 0, .int .i64 0, .int .i64 0, .int .i64 0, .slice none 0 0], none, false⟩])
  (.seq (.reg [⟨(some 4), .fadr 0 (.tmp 1), none, false⟩,
   ⟨(some 5), .load1 (.tmp 4), none, false⟩,
   ⟨(some 6), .fadr 0 (.tmp 3), none, false⟩,
   ⟨none, .store 1 (.tmp 6) (.tmp 5), none, false⟩])
  (.seq (.reg [⟨(some 7), .fadr 1 (.tmp 1), none, false⟩,
   ⟨(some 8), .load1 (.tmp 7), none, false⟩,
   ⟨(some 9), .fadr 1 (.tmp 3), none, false⟩,
   ⟨none, .store 1 (.tmp 9) (.tmp 8), none, false⟩])
  (.seq (.reg [⟨(some 10), .fadr 2 (.tmp 1), none, false⟩,
   ⟨(some 11), .load1 (.tmp 10), none, false⟩,
   ⟨(some 12), .fadr 2 (.tmp 3), none, false⟩,
   ⟨none, .store 1 (.tmp 12) (.tmp 11), none, false⟩])
  (.seq (.reg [⟨(some 13), .fadr 3 (.tmp 1), none, false⟩,
   ⟨(some 14), .load1 (.tmp 13), none, false⟩,
   ⟨(some 15), .fadr 3 (.tmp 3), none, false⟩,
   ⟨none, .store 1 (.tmp 15) (.tmp 14), none, false⟩])
  (.seq (.reg [⟨(some 16), .fadr 4 (.tmp 1), none, false⟩,
   ⟨(some 17), .load1 (.tmp 16), none, false⟩,
   ⟨(some 18), .call (.func 101) [(.tmp 17)], none, false⟩,
   ⟨(some 19), .fadr 4 (.tmp 3), none, false⟩,
   ⟨none, .store 1 (.tmp 19) (.tmp 18), none, false⟩])
  (.seq (.reg [⟨(some 20), .loadn 5 (.tmp 3), none, false⟩,
   ⟨none, .store 5 (.tmp 2) (.tmp 20), none, false⟩])
  .ret))))))))⟩

theorem s51 : compFn Try.prog Try.f51 = some c51 := by kernel_rfl

/-- loop.example/g01262/laws.eqScheme -/
def c53 : XFn :=
 ⟨[.tmp 4],
  (.seq (.reg [⟨(some 2), .box 71 (.tmp 0), none, false⟩,
   ⟨(some 3), .box 71 (.tmp 1), none, false⟩,
   ⟨(some 4), .mv (.const (.bool false)), none, false⟩])
  (.seq (.seq (.reg [⟨(some 5), .fadr 0 (.tmp 2), none, false⟩,
   ⟨(some 6), .load1 (.tmp 5), none, false⟩,
   ⟨(some 7), .fadr 0 (.tmp 3), none, false⟩,
   ⟨(some 8), .load1 (.tmp 7), none, false⟩,
   ⟨(some 9), .bin .neq (.tmp 6) (.tmp 8), none, false⟩])
  (.cond (.tmp 9) (.seq (.reg [⟨(some 4), .mv (.const (.bool false)), none, false⟩])
  .ret) .skip))
  (.seq (.seq (.reg [⟨(some 10), .fadr 1 (.tmp 2), none, false⟩,
   ⟨(some 11), .load1 (.tmp 10), none, false⟩,
   ⟨(some 12), .fadr 1 (.tmp 3), none, false⟩,
   ⟨(some 13), .load1 (.tmp 12), none, false⟩,
   ⟨(some 14), .bin .neq (.tmp 11) (.tmp 13), none, false⟩])
  (.cond (.tmp 14) (.seq (.reg [⟨(some 4), .mv (.const (.bool false)), none, false⟩])
  .ret) .skip))
  (.seq (.seq (.reg [⟨(some 15), .fadr 2 (.tmp 2), none, false⟩,
   ⟨(some 16), .load1 (.tmp 15), none, false⟩,
   ⟨(some 17), .fadr 2 (.tmp 3), none, false⟩,
   ⟨(some 18), .load1 (.tmp 17), none, false⟩,
   ⟨(some 19), .bin .neq (.tmp 16) (.tmp 18), none, false⟩])
  (.cond (.tmp 19) (.seq (.reg [⟨(some 4), .mv (.const (.bool false)), none, false⟩])
  .ret) .skip))
  (.seq (.seq (.reg [⟨(some 20), .fadr 3 (.tmp 2), none, false⟩,
   ⟨(some 21), .load1 (.tmp 20), none, false⟩,
   ⟨(some 22), .fadr 3 (.tmp 3), none, false⟩,
   ⟨(some 23), .load1 (.tmp 22), none, false⟩,
   ⟨(some 24), .bin .neq (.tmp 21) (.tmp 23), none, false⟩])
  (.cond (.tmp 24) (.seq (.reg [⟨(some 4), .mv (.const (.bool false)), none, false⟩])
  .ret) .skip))
  (.seq (.seq (.reg [⟨(some 25), .fadr 4 (.tmp 2), none, false⟩,
   ⟨(some 26), .load1 (.tmp 25), none, false⟩,
   ⟨(some 27), .fadr 4 (.tmp 3), none, false⟩,
   ⟨(some 28), .load1 (.tmp 27), none, false⟩,
   ⟨(some 29), .call (.func 106) [(.tmp 26), (.tmp 28)], none, false⟩,
   ⟨(some 30), .un .not (.tmp 29), none, false⟩])
  (.cond (.tmp 30) (.seq (.reg [⟨(some 4), .mv (.const (.bool false)), none, false⟩])
  .ret) .skip))
  (.seq (.reg [⟨(some 4), .mv (.const (.bool true)), none, false⟩])
  .ret)))))))⟩

theorem s53 : compFn Try.prog Try.f53 = some c53 := by kernel_rfl

/-- loop.example/g01262/laws.markScheme -/
def c54 : XFn :=
 ⟨[.tmp 4],
  (.seq (.reg [⟨(some 2), .box 71 (.tmp 0), none, false⟩,
   ⟨(some 4), .mv (.const (.int .i64 0)), none, false⟩])
  (.seq (.reg [⟨(some 5), .fadr 4 (.tmp 2), none, false⟩,
   ⟨(some 6), .load1 (.tmp 5), none, false⟩,
   ⟨(some 7), .mv (.tmp 1), none, false⟩,
   ⟨(some 8), .call (.func 107) [(.tmp 6), (.tmp 7)], none, false⟩,
   ⟨(some 1), .mv (.tmp 8), none, false⟩])
  (.seq (.reg [⟨(some 9), .mv (.tmp 1), none, false⟩,
   ⟨(some 4), .mv (.tmp 9), none, false⟩])
  .ret)))⟩

theorem s54 : compFn Try.prog Try.f54 = some c54 := by kernel_rfl

/-- loop.example/g01262/spec.RunScheme -/
def c62 : XFn :=
 ⟨[.tmp 8, .tmp 9],
  (.seq (.reg [⟨(some 4), .box 71 (.tmp 0), none, false⟩,
   ⟨(some 8), .mv (.const (.slice none 0 0)), none, false⟩,
   ⟨(some 9), .mv (.const (.int .i64 0)), none, false⟩])
  (.seq (.reg [⟨(some 19), .loadn 5 (.tmp 4), none, false⟩,
   ⟨(some 20), .call (.func 108) [(.tmp 19)], none, false⟩,
   ⟨(some 10), .mv (.tmp 20), none, false⟩])
  (.seq (.seq (.reg [⟨(some 21), .mv (.tmp 10), none, false⟩,
   ⟨(some 22), .bin .neq (.tmp 21) (.const (.int .i64 1)), none, false⟩,
   ⟨(some 23), .mv (.tmp 22), none, false⟩,
   ⟨(some 24), .fadr 0 (.tmp 4), (some (23, true)), false⟩,
   ⟨(some 25), .load1 (.tmp 24), (some (23, true)), false⟩,
   ⟨(some 26), .mv (.tmp 2), (some (23, true)), false⟩,
   ⟨(some 27), .fadr 1 (.tmp 4), (some (23, true)), false⟩,
   ⟨(some 28), .load1 (.tmp 27), (some (23, true)), false⟩,
   ⟨(some 29), .fadr 2 (.tmp 4), (some (23, true)), false⟩,
   ⟨(some 30), .load1 (.tmp 29), (some (23, true)), false⟩,
   ⟨(some 31), .call (.func 99) [(.tmp 25), (.tmp 26), (.tmp 28), (.tmp 30)], (some (23, true)), false⟩,
   ⟨(some 32), .un .not (.tmp 31), (some (23, true)), false⟩,
   ⟨(some 33), .mv (.tmp 32), (some (23, true)), false⟩,
   ⟨(some 34), .fadr 0 (.tmp 4), (some (33, false)), false⟩,
   ⟨(some 35), .load1 (.tmp 34), (some (33, false)), false⟩,
   ⟨(some 36), .mv (.tmp 3), (some (33, false)), false⟩,
   ⟨(some 37), .fadr 2 (.tmp 4), (some (33, false)), false⟩,
   ⟨(some 38), .load1 (.tmp 37), (some (33, false)), false⟩,
   ⟨(some 39), .fadr 3 (.tmp 4), (some (33, false)), false⟩,
   ⟨(some 40), .load1 (.tmp 39), (some (33, false)), false⟩,
   ⟨(some 41), .call (.func 99) [(.tmp 35), (.tmp 36), (.tmp 38), (.tmp 40)], (some (33, false)), false⟩,
   ⟨(some 42), .un .not (.tmp 41), (some (33, false)), false⟩,
   ⟨(some 43), .pick (.tmp 33) (.const (.bool true)) (.tmp 42), (some (23, true)), false⟩,
   ⟨(some 44), .pick (.tmp 23) (.tmp 43) (.const (.bool false)), none, false⟩])
  (.cond (.tmp 44) (.reg [⟨(some 10), .mv (.const (.int .i64 2)), none, false⟩]) .skip))
  (.seq (.seq (.reg [⟨(some 45), .mv (.tmp 10), none, false⟩,
   ⟨(some 46), .bin .neq (.tmp 45) (.const (.int .i64 0)), none, false⟩])
  (.cond (.tmp 46) (.seq (.reg [⟨(some 47), .mv (.tmp 10), none, false⟩,
   ⟨(some 8), .mv (.const (.slice none 0 0)), none, false⟩,
   ⟨(some 9), .mv (.tmp 47), none, false⟩])
  .ret) .skip))
  (.seq (.reg [⟨(some 48), .loadn 5 (.tmp 4), none, false⟩,
   ⟨(some 49), .mv (.tmp 1), none, false⟩,
   ⟨(some 50), .call (.func 109) [(.tmp 48), (.tmp 49)], none, false⟩,
   ⟨(some 11), .mv (.tmp 50), none, false⟩])
  (.seq (.reg [⟨(some 51), .mv (.tmp 11), none, false⟩,
   ⟨(some 52), .ixs 4 (.tmp 51) (.const (.int .i64 0)), none, false⟩,
   ⟨(some 53), .loadn 4 (.tmp 52), none, false⟩,
   ⟨(some 54), .mv (.tmp 2), none, false⟩,
   ⟨(some 55), .call (.func 112) [(.tmp 54)], none, true⟩,
   ⟨(some 56), .call (.func 84) [(.tmp 53), (.tmp 55)], none, true⟩,
   ⟨(some 57), .mv (.tmp 11), none, false⟩,
   ⟨(some 58), .ixs 4 (.tmp 57) (.const (.int .i64 1)), none, false⟩,
   ⟨(some 59), .loadn 4 (.tmp 58), none, false⟩,
   ⟨(some 60), .mv (.tmp 3), none, false⟩,
   ⟨(some 61), .call (.func 112) [(.tmp 60)], none, true⟩,
   ⟨(some 62), .call (.func 84) [(.tmp 59), (.tmp 61)], none, false⟩,
   ⟨(some 63), .mkz, none, false⟩,
   ⟨(some 12), .mv (.tmp 56), none, false⟩,
   ⟨(some 13), .mv (.tmp 62), none, false⟩,
   ⟨(some 14), .mv (.tmp 63), none, false⟩])
  (.seq (.seq (.reg [⟨(some 15), .mv (.const (.int .i64 0)), none, false⟩])
  (.blk 0 (.loop (.seq (.seq (.reg [⟨(some 64), .mv (.tmp 15), none, false⟩,
   ⟨(some 65), .mv (.tmp 12), none, false⟩,
   ⟨(some 66), .len (.tmp 65), none, false⟩,
   ⟨(some 67), .bin .lss (.tmp 64) (.tmp 66), none, false⟩])
  (.cond (.tmp 67) .skip (.exit 0)))
  (.seq (.blk 1 (.reg [⟨(some 70), .mv (.tmp 14), none, false⟩,
   ⟨(some 71), .mv (.tmp 12), none, false⟩,
   ⟨(some 72), .mv (.tmp 15), none, false⟩,
   ⟨(some 73), .ixs 1 (.tmp 71) (.tmp 72), none, false⟩,
   ⟨(some 74), .load1 (.tmp 73), none, false⟩,
   ⟨(some 75), .mv (.tmp 13), none, false⟩,
   ⟨(some 76), .mv (.tmp 15), none, false⟩,
   ⟨(some 77), .ixs 1 (.tmp 75) (.tmp 76), none, false⟩,
   ⟨(some 78), .load1 (.tmp 77), none, false⟩,
   ⟨(some 79), .bin .mul (.tmp 74) (.tmp 78), none, false⟩,
   ⟨(some 80), .fadr 0 (.tmp 4), none, false⟩,
   ⟨(some 81), .load1 (.tmp 80), none, false⟩,
   ⟨(some 82), .bin .rem (.tmp 79) (.tmp 81), none, false⟩,
   ⟨(some 83), .bslice 2 1 1 [.int .i64 0] [(0, 1, (.tmp 82))], none, false⟩,
   ⟨(some 84), .app 2 1 8 (.tmp 70) (.tmp 83), none, false⟩,
   ⟨(some 14), .mv (.tmp 84), none, false⟩]))
  (.reg [⟨(some 68), .mv (.tmp 15), none, false⟩,
   ⟨(some 69), .bin .add (.tmp 68) (.const (.int .i64 1)), none, false⟩,
   ⟨(some 15), .mv (.tmp 69), none, false⟩]))))))
  (.seq (.reg [⟨(some 85), .mv (.tmp 11), none, false⟩,
   ⟨(some 86), .ixs 4 (.tmp 85) (.const (.int .i64 2)), none, false⟩,
   ⟨(some 87), .loadn 4 (.tmp 86), none, false⟩,
   ⟨(some 88), .mv (.tmp 14), none, false⟩,
   ⟨(some 89), .call (.func 84) [(.tmp 87), (.tmp 88)], none, false⟩,
   ⟨(some 90), .bslice 22 1 0 [.slice none 0 0] [], none, false⟩,
   ⟨(some 16), .mv (.tmp 89), none, false⟩,
   ⟨(some 17), .mv (.tmp 90), none, false⟩])
  (.seq (.seq (.reg [⟨(some 18), .mv (.const (.int .i64 0)), none, false⟩])
  (.blk 2 (.loop (.seq (.seq (.reg [⟨(some 91), .mv (.tmp 18), none, false⟩,
   ⟨(some 92), .fadr 1 (.tmp 4), none, false⟩,
   ⟨(some 93), .load1 (.tmp 92), none, false⟩,
   ⟨(some 94), .bin .lss (.tmp 91) (.tmp 93), none, false⟩])
  (.cond (.tmp 94) .skip (.exit 2)))
  (.seq (.blk 3 (.reg [⟨(some 97), .mv (.tmp 17), none, false⟩,
   ⟨(some 98), .mv (.tmp 16), none, false⟩,
   ⟨(some 99), .mv (.tmp 18), none, false⟩,
   ⟨(some 100), .fadr 3 (.tmp 4), none, false⟩,
   ⟨(some 101), .load1 (.tmp 100), none, false⟩,
   ⟨(some 102), .bin .mul (.tmp 99) (.tmp 101), none, false⟩,
   ⟨(some 103), .mv (.tmp 18), none, false⟩,
   ⟨(some 104), .fadr 3 (.tmp 4), none, false⟩,
   ⟨(some 105), .load1 (.tmp 104), none, false⟩,
   ⟨(some 106), .bin .mul (.tmp 103) (.tmp 105), none, false⟩,
   ⟨(some 107), .fadr 3 (.tmp 4), none, false⟩,
   ⟨(some 108), .load1 (.tmp 107), none, false⟩,
   ⟨(some 109), .bin .add (.tmp 106) (.tmp 108), none, false⟩,
   ⟨(some 110), .slc 1 (.tmp 98) (some (.tmp 102)) (some (.tmp 109)), none, false⟩,
   ⟨(some 111), .call (.func 113) [(.tmp 110)], none, false⟩,
   ⟨(some 112), .bslice 22 1 1 [.slice none 0 0] [(0, 1, (.tmp 111))], none, false⟩,
   ⟨(some 113), .app 22 1 24 (.tmp 97) (.tmp 112), none, false⟩,
   ⟨(some 17), .mv (.tmp 113), none, false⟩]))
  (.reg [⟨(some 95), .mv (.tmp 18), none, false⟩,
   ⟨(some 96), .bin .add (.tmp 95) (.const (.int .i64 1)), none, false⟩,
   ⟨(some 18), .mv (.tmp 96), none, false⟩]))))))
  (.seq (.reg [⟨(some 114), .mv (.tmp 17), none, false⟩,
   ⟨(some 8), .mv (.tmp 114), none, false⟩,
   ⟨(some 9), .mv (.const (.int .i64 0)), none, false⟩])
  .ret))))))))))⟩

theorem s62 : compFn Try.prog Try.f62 = some c62 := by kernel_rfl

/-- loop.example/g01262/impl.RunScheme -/
def c63 : XFn :=
 ⟨[.tmp 8, .tmp 9],
  (.seq (.reg [⟨(some 4), .box 71 (.tmp 0), none, false⟩,
   ⟨(some 8), .mv (.const (.slice none 0 0)), none, false⟩,
   ⟨(some 9), .mv (.const (.int .i64 0)), none, false⟩])
  (.seq (.seq (.reg [⟨(some 15), .loadn 5 (.tmp 4), none, false⟩,
   ⟨(some 16), .mv (.tmp 2), none, false⟩,
   ⟨(some 17), .mv (.tmp 3), none, false⟩,
   ⟨(some 18), .call (.func 102) [(.tmp 15), (.tmp 16), (.tmp 17)], none, false⟩,
   ⟨(some 10), .mv (.tmp 18), none, false⟩])
  (.seq (.reg [⟨(some 19), .mv (.tmp 10), none, false⟩,
   ⟨(some 20), .bin .neq (.tmp 19) (.const (.int .i64 0)), none, false⟩])
  (.cond (.tmp 20) (.seq (.reg [⟨(some 21), .mv (.tmp 10), none, false⟩,
   ⟨(some 8), .mv (.const (.slice none 0 0)), none, false⟩,
   ⟨(some 9), .mv (.tmp 21), none, false⟩])
  .ret) .skip)))
  (.seq (.seq (.reg [⟨(some 22), .fadr 4 (.tmp 4), none, false⟩,
   ⟨(some 23), .load1 (.tmp 22), none, false⟩,
   ⟨(some 24), .len (.tmp 23), none, false⟩,
   ⟨(some 25), .bin .eql (.tmp 24) (.const (.int .i64 0)), none, false⟩])
  (.cond (.tmp 25) (.seq (.reg [⟨(some 8), .mv (.const (.slice none 0 0)), none, false⟩,
   ⟨(some 9), .mv (.const (.int .i64 5)), none, false⟩])
  .ret) .skip))
  (.seq (.reg [⟨(some 26), .loadn 5 (.tmp 4), none, false⟩,
   ⟨(some 27), .mv (.tmp 1), none, false⟩,
   ⟨(some 28), .call (.func 111) [(.tmp 26), (.tmp 27)], none, false⟩,
   ⟨(some 11), .mv (.tmp 28), none, false⟩])
  (.seq (.reg [⟨(some 29), .mv (.tmp 11), none, false⟩,
   ⟨(some 30), .ixs 4 (.tmp 29) (.const (.int .i64 0)), none, false⟩,
   ⟨(some 31), .loadn 4 (.tmp 30), none, false⟩,
   ⟨(some 32), .mv (.tmp 2), none, false⟩,
   ⟨(some 33), .call (.func 105) [(.tmp 32)], none, true⟩,
   ⟨(some 34), .call (.func 86) [(.tmp 31), (.tmp 33)], none, true⟩,
   ⟨(some 35), .mv (.tmp 11), none, false⟩,
   ⟨(some 36), .ixs 4 (.tmp 35) (.const (.int .i64 1)), none, false⟩,
   ⟨(some 37), .loadn 4 (.tmp 36), none, false⟩,
   ⟨(some 38), .mv (.tmp 3), none, false⟩,
   ⟨(some 39), .call (.func 105) [(.tmp 38)], none, true⟩,
   ⟨(some 40), .call (.func 86) [(.tmp 37), (.tmp 39)], none, false⟩,
   ⟨(some 12), .mv (.tmp 34), none, false⟩,
   ⟨(some 13), .mv (.tmp 40), none, false⟩])
  (.seq (.seq (.reg [⟨(some 41), .mv (.tmp 12), none, false⟩,
   ⟨(some 42), .len (.tmp 41), none, false⟩,
   ⟨(some 43), .mv (.const (.int .i64 0)), none, false⟩])
  (.blk 0 (.loop (.seq (.reg [⟨(some 44), .bin .lss (.tmp 43) (.tmp 42), none, false⟩])
  (.seq (.cond (.tmp 44) .skip (.exit 0))
  (.seq (.blk 1 (.seq (.reg [⟨(some 45), .mv (.tmp 43), none, false⟩,
   ⟨(some 14), .mv (.tmp 45), none, false⟩])
  (.reg [⟨(some 46), .mv (.tmp 12), none, false⟩,
   ⟨(some 47), .mv (.tmp 14), none, false⟩,
   ⟨(some 48), .mv (.tmp 12), none, false⟩,
   ⟨(some 49), .mv (.tmp 14), none, false⟩,
   ⟨(some 50), .ixs 1 (.tmp 48) (.tmp 49), none, false⟩,
   ⟨(some 51), .load1 (.tmp 50), none, false⟩,
   ⟨(some 52), .mv (.tmp 13), none, false⟩,
   ⟨(some 53), .mv (.tmp 14), none, false⟩,
   ⟨(some 54), .ixs 1 (.tmp 52) (.tmp 53), none, false⟩,
   ⟨(some 55), .load1 (.tmp 54), none, false⟩,
   ⟨(some 56), .bin .mul (.tmp 51) (.tmp 55), none, false⟩,
   ⟨(some 57), .fadr 0 (.tmp 4), none, false⟩,
   ⟨(some 58), .load1 (.tmp 57), none, false⟩,
   ⟨(some 59), .bin .rem (.tmp 56) (.tmp 58), none, false⟩,
   ⟨(some 60), .ixs 1 (.tmp 46) (.tmp 47), none, false⟩,
   ⟨none, .store 1 (.tmp 60) (.tmp 59), none, false⟩])))
  (.reg [⟨(some 61), .bin .add (.tmp 43) (.const (.int .i64 1)), none, false⟩,
   ⟨(some 43), .mv (.tmp 61), none, false⟩])))))))
  (.seq (.reg [⟨(some 62), .mv (.tmp 11), none, false⟩,
   ⟨(some 63), .ixs 4 (.tmp 62) (.const (.int .i64 2)), none, false⟩,
   ⟨(some 64), .loadn 4 (.tmp 63), none, false⟩,
   ⟨(some 65), .mv (.tmp 12), none, false⟩,
   ⟨(some 66), .call (.func 86) [(.tmp 64), (.tmp 65)], none, true⟩,
   ⟨(some 67), .fadr 3 (.tmp 4), none, false⟩,
   ⟨(some 68), .load1 (.tmp 67), none, false⟩,
   ⟨(some 69), .call (.func 103) [(.tmp 66), (.tmp 68)], none, false⟩,
   ⟨(some 8), .mv (.tmp 69), none, false⟩,
   ⟨(some 9), .mv (.const (.int .i64 0)), none, false⟩])
  .ret)))))))⟩

theorem s63 : compFn Try.prog Try.f63 = some c63 := by kernel_rfl

/-- loop.example/g01262/laws.szInt64S -/
def c64 : XFn :=
 ⟨[.tmp 4],
  (.seq (.reg [⟨(some 4), .mv (.const (.int .i64 0)), none, false⟩])
  (.seq (.reg [⟨(some 5), .mv (.tmp 1), none, false⟩,
   ⟨(some 6), .mv (.tmp 0), none, false⟩,
   ⟨(some 7), .len (.tmp 6), none, false⟩,
   ⟨(some 8), .bin .sub (.tmp 5) (.tmp 7), none, false⟩,
   ⟨(some 1), .mv (.tmp 8), none, false⟩])
  (.seq (.seq (.reg [⟨(some 9), .mv (.tmp 1), none, false⟩,
   ⟨(some 10), .bin .lss (.tmp 9) (.const (.int .i64 0)), none, false⟩])
  (.cond (.tmp 10) (.seq (.reg [⟨(some 4), .mv (.const (.int .i64 (-1))), none, false⟩])
  .ret) .skip))
  (.seq (.reg [⟨(some 11), .mv (.tmp 1), none, false⟩,
   ⟨(some 4), .mv (.tmp 11), none, false⟩])
  .ret))))⟩

theorem s64 : compFn Try.prog Try.f64 = some c64 := by kernel_rfl

/-- loop.example/g01262/impl.inverse -/
def c71 : XFn :=
 ⟨[.tmp 4],
  (.seq (.reg [⟨(some 4), .mv (.const (.int .i64 0)), none, false⟩])
  (.seq (.reg [⟨(some 5), .mv (.const (.int .i64 1)), none, false⟩])
  (.blk 0 (.loop (.seq (.blk 1 (.seq (.reg [⟨(some 8), .mv (.tmp 5), none, false⟩,
   ⟨(some 9), .mv (.tmp 1), none, false⟩,
   ⟨(some 10), .bin .mul (.tmp 8) (.tmp 9), none, false⟩,
   ⟨(some 11), .mv (.tmp 0), none, false⟩,
   ⟨(some 12), .bin .rem (.tmp 10) (.tmp 11), none, false⟩,
   ⟨(some 13), .bin .eql (.tmp 12) (.const (.int .i64 1)), none, false⟩])
  (.cond (.tmp 13) (.seq (.reg [⟨(some 14), .mv (.tmp 5), none, false⟩,
   ⟨(some 4), .mv (.tmp 14), none, false⟩])
  .ret) .skip)))
  (.reg [⟨(some 6), .mv (.tmp 5), none, false⟩,
   ⟨(some 7), .bin .add (.tmp 6) (.const (.int .i64 1)), none, false⟩,
   ⟨(some 5), .mv (.tmp 7), none, false⟩]))))))⟩

theorem s71 : compFn Try.prog Try.f71 = some c71 := by kernel_rfl

/-- loop.example/g01262/spec.l07Run -/
def c84 : XFn :=
 ⟨[.tmp 4],
  (.seq (.reg [⟨(some 2), .box 48 (.tmp 0), none, false⟩,
   ⟨(some 4), .mv (.const (.slice none 0 0)), none, false⟩])
  (.seq (.reg [⟨(some 10), .mv (.tmp 1), none, false⟩,
   ⟨(some 11), .call (.func 113) [(.tmp 10)], none, false⟩,
   ⟨(some 12), .bslice 2 1 0 [.int .i64 0] [], none, false⟩,
   ⟨(some 5), .mv (.tmp 11), none, false⟩,
   ⟨(some 6), .mv (.tmp 12), none, false⟩])
  (.seq (.seq (.reg [⟨(some 7), .mv (.const (.int .i64 0)), none, false⟩])
  (.blk 0 (.loop (.seq (.seq (.reg [⟨(some 13), .mv (.tmp 7), none, false⟩,
   ⟨(some 14), .fadr 2 (.tmp 2), none, false⟩,
   ⟨(some 15), .load1 (.tmp 14), none, false⟩,
   ⟨(some 16), .len (.tmp 15), none, false⟩,
   ⟨(some 17), .bin .lss (.tmp 13) (.tmp 16), none, false⟩])
  (.cond (.tmp 17) .skip (.exit 0)))
  (.seq (.blk 1 (.seq (.reg [⟨(some 20), .fadr 2 (.tmp 2), none, false⟩,
   ⟨(some 21), .load1 (.tmp 20), none, false⟩,
   ⟨(some 22), .mv (.tmp 7), none, false⟩,
   ⟨(some 23), .ixs 3 (.tmp 21) (.tmp 22), none, false⟩,
   ⟨(some 24), .loadn 3 (.tmp 23), none, false⟩,
   ⟨(some 8), .alloc 96 [.int .i64 0, .int .i64 0, .int .i64 0], none, false⟩,
   ⟨none, .store 3 (.tmp 8) (.tmp 24), none, false⟩])
  (.reg [⟨(some 25), .mv (.tmp 5), none, false⟩,
   ⟨(some 26), .mv (.tmp 5), none, false⟩,
   ⟨(some 27), .fadr 0 (.tmp 8), none, false⟩,
   ⟨(some 28), .load1 (.tmp 27), none, false⟩,
   ⟨(some 29), .ixs 1 (.tmp 26) (.tmp 28), none, false⟩,
   ⟨(some 30), .load1 (.tmp 29), none, false⟩,
   ⟨(some 31), .fadr 2 (.tmp 8), none, false⟩,
   ⟨(some 32), .load1 (.tmp 31), none, false⟩,
   ⟨(some 33), .mv (.tmp 5), none, false⟩,
   ⟨(some 34), .fadr 1 (.tmp 8), none, false⟩,
   ⟨(some 35), .load1 (.tmp 34), none, false⟩,
   ⟨(some 36), .ixs 1 (.tmp 33) (.tmp 35), none, false⟩,
   ⟨(some 37), .load1 (.tmp 36), none, false⟩,
   ⟨(some 38), .bin .mul (.tmp 32) (.tmp 37), none, false⟩,
   ⟨(some 39), .bin .add (.tmp 30) (.tmp 38), none, false⟩,
   ⟨(some 40), .fadr 0 (.tmp 2), none, false⟩,
   ⟨(some 41), .load1 (.tmp 40), none, false⟩,
   ⟨(some 42), .bin .rem (.tmp 39) (.tmp 41), none, false⟩,
   ⟨(some 43), .bslice 2 1 1 [.int .i64 0] [(0, 1, (.tmp 42))], none, false⟩,
   ⟨(some 44), .app 2 1 8 (.tmp 25) (.tmp 43), none, false⟩,
   ⟨(some 5), .mv (.tmp 44), none, false⟩])))
  (.reg [⟨(some 18), .mv (.tmp 7), none, false⟩,
   ⟨(some 19), .bin .add (.tmp 18) (.const (.int .i64 1)), none, false⟩,
   ⟨(some 7), .mv (.tmp 19), none, false⟩]))))))
  (.seq (.seq (.reg [⟨(some 9), .mv (.const (.int .i64 0)), none, false⟩])
  (.blk 2 (.loop (.seq (.seq (.reg [⟨(some 45), .mv (.tmp 9), none, false⟩,
   ⟨(some 46), .fadr 3 (.tmp 2), none, false⟩,
   ⟨(some 47), .load1 (.tmp 46), none, false⟩,
   ⟨(some 48), .len (.tmp 47), none, false⟩,
   ⟨(some 49), .bin .lss (.tmp 45) (.tmp 48), none, false⟩])
  (.cond (.tmp 49) .skip (.exit 2)))
  (.seq (.blk 3 (.reg [⟨(some 52), .mv (.tmp 6), none, false⟩,
   ⟨(some 53), .fadr 3 (.tmp 2), none, false⟩,
   ⟨(some 54), .load1 (.tmp 53), none, false⟩,
   ⟨(some 55), .mv (.tmp 9), none, false⟩,
   ⟨(some 56), .ixs 2 (.tmp 54) (.tmp 55), none, false⟩,
   ⟨(some 57), .fadr 1 (.tmp 56), none, false⟩,
   ⟨(some 58), .load1 (.tmp 57), none, false⟩,
   ⟨(some 59), .mv (.tmp 5), none, false⟩,
   ⟨(some 60), .fadr 3 (.tmp 2), none, false⟩,
   ⟨(some 61), .load1 (.tmp 60), none, false⟩,
   ⟨(some 62), .mv (.tmp 9), none, false⟩,
   ⟨(some 63), .ixs 2 (.tmp 61) (.tmp 62), none, false⟩,
   ⟨(some 64), .fadr 0 (.tmp 63), none, false⟩,
   ⟨(some 65), .load1 (.tmp 64), none, false⟩,
   ⟨(some 66), .ixs 1 (.tmp 59) (.tmp 65), none, false⟩,
   ⟨(some 67), .load1 (.tmp 66), none, false⟩,
   ⟨(some 68), .bin .mul (.tmp 58) (.tmp 67), none, false⟩,
   ⟨(some 69), .fadr 0 (.tmp 2), none, false⟩,
   ⟨(some 70), .load1 (.tmp 69), none, false⟩,
   ⟨(some 71), .bin .rem (.tmp 68) (.tmp 70), none, false⟩,
   ⟨(some 72), .bslice 2 1 1 [.int .i64 0] [(0, 1, (.tmp 71))], none, false⟩,
   ⟨(some 73), .app 2 1 8 (.tmp 52) (.tmp 72), none, false⟩,
   ⟨(some 6), .mv (.tmp 73), none, false⟩]))
  (.reg [⟨(some 50), .mv (.tmp 9), none, false⟩,
   ⟨(some 51), .bin .add (.tmp 50) (.const (.int .i64 1)), none, false⟩,
   ⟨(some 9), .mv (.tmp 51), none, false⟩]))))))
  (.seq (.reg [⟨(some 74), .mv (.tmp 6), none, false⟩,
   ⟨(some 4), .mv (.tmp 74), none, false⟩])
  .ret)))))⟩

theorem s84 : compFn Try.prog Try.f84 = some c84 := by kernel_rfl

/-- loop.example/g01262/impl.areNumbers -/
def c85 : XFn :=
 ⟨[.tmp 4],
  (.seq (.reg [⟨(some 4), .mv (.const (.bool false)), none, false⟩])
  (.seq (.seq (.reg [⟨(some 7), .mv (.tmp 1), none, false⟩,
   ⟨(some 8), .len (.tmp 7), none, false⟩,
   ⟨(some 9), .mv (.const (.int .i64 0)), none, false⟩])
  (.blk 0 (.loop (.seq (.reg [⟨(some 10), .bin .lss (.tmp 9) (.tmp 8), none, false⟩])
  (.seq (.cond (.tmp 10) .skip (.exit 0))
  (.seq (.blk 1 (.seq (.reg [⟨(some 11), .ixs 1 (.tmp 7) (.tmp 9), none, false⟩,
   ⟨(some 12), .load1 (.tmp 11), none, false⟩,
   ⟨(some 6), .mv (.tmp 12), none, false⟩])
  (.seq (.reg [⟨(some 13), .mv (.tmp 6), none, false⟩,
   ⟨(some 14), .bin .lss (.tmp 13) (.const (.int .i64 0)), none, false⟩,
   ⟨(some 15), .mv (.tmp 14), none, false⟩,
   ⟨(some 16), .mv (.tmp 6), (some (15, false)), false⟩,
   ⟨(some 17), .mv (.tmp 0), (some (15, false)), false⟩,
   ⟨(some 18), .bin .geq (.tmp 16) (.tmp 17), (some (15, false)), false⟩,
   ⟨(some 19), .pick (.tmp 15) (.const (.bool true)) (.tmp 18), none, false⟩])
  (.cond (.tmp 19) (.seq (.reg [⟨(some 4), .mv (.const (.bool false)), none, false⟩])
  .ret) .skip))))
  (.reg [⟨(some 20), .bin .add (.tmp 9) (.const (.int .i64 1)), none, false⟩,
   ⟨(some 9), .mv (.tmp 20), none, false⟩])))))))
  (.seq (.reg [⟨(some 4), .mv (.const (.bool true)), none, false⟩])
  .ret)))⟩

theorem s85 : compFn Try.prog Try.f85 = some c85 := by kernel_rfl

/-- loop.example/g01262/impl.outputs -/
def c86 : XFn :=
 ⟨[.tmp 4],
  (.seq (.reg [⟨(some 2), .box 48 (.tmp 0), none, false⟩,
   ⟨(some 4), .mv (.const (.slice none 0 0)), none, false⟩])
  (.seq (.reg [⟨(some 11), .mv (.tmp 1), none, false⟩,
   ⟨(some 12), .call (.func 126) [(.tmp 11)], none, false⟩,
   ⟨(some 5), .mv (.tmp 12), none, false⟩])
  (.seq (.seq (.reg [⟨(some 13), .fadr 2 (.tmp 2), none, false⟩,
   ⟨(some 14), .load1 (.tmp 13), none, false⟩,
   ⟨(some 15), .len (.tmp 14), none, false⟩,
   ⟨(some 16), .mv (.const (.int .i64 0)), none, false⟩])
  (.blk 0 (.loop (.seq (.reg [⟨(some 17), .bin .lss (.tmp 16) (.tmp 15), none, false⟩])
  (.seq (.cond (.tmp 17) .skip (.exit 0))
  (.seq (.blk 1 (.seq (.reg [⟨(some 18), .ixs 3 (.tmp 14) (.tmp 16), none, false⟩,
   ⟨(some 19), .loadn 3 (.tmp 18), none, false⟩,
   ⟨(some 7), .alloc 96 [.int .i64 0, .int .i64 0, .int .i64 0], none, false⟩,
   ⟨none, .store 3 (.tmp 7) (.tmp 19), none, false⟩])
  (.reg [⟨(some 20), .mv (.tmp 5), none, false⟩,
   ⟨(some 21), .mv (.tmp 5), none, false⟩,
   ⟨(some 22), .fadr 0 (.tmp 7), none, false⟩,
   ⟨(some 23), .load1 (.tmp 22), none, false⟩,
   ⟨(some 24), .ixs 1 (.tmp 21) (.tmp 23), none, false⟩,
   ⟨(some 25), .load1 (.tmp 24), none, false⟩,
   ⟨(some 26), .fadr 2 (.tmp 7), none, false⟩,
   ⟨(some 27), .load1 (.tmp 26), none, false⟩,
   ⟨(some 28), .mv (.tmp 5), none, false⟩,
   ⟨(some 29), .fadr 1 (.tmp 7), none, false⟩,
   ⟨(some 30), .load1 (.tmp 29), none, false⟩,
   ⟨(some 31), .ixs 1 (.tmp 28) (.tmp 30), none, false⟩,
   ⟨(some 32), .load1 (.tmp 31), none, false⟩,
   ⟨(some 33), .bin .mul (.tmp 27) (.tmp 32), none, false⟩,
   ⟨(some 34), .bin .add (.tmp 25) (.tmp 33), none, false⟩,
   ⟨(some 35), .fadr 0 (.tmp 2), none, false⟩,
   ⟨(some 36), .load1 (.tmp 35), none, false⟩,
   ⟨(some 37), .bin .rem (.tmp 34) (.tmp 36), none, false⟩,
   ⟨(some 38), .bslice 2 1 1 [.int .i64 0] [(0, 1, (.tmp 37))], none, false⟩,
   ⟨(some 39), .app 2 1 8 (.tmp 20) (.tmp 38), none, false⟩,
   ⟨(some 5), .mv (.tmp 39), none, false⟩])))
  (.reg [⟨(some 40), .bin .add (.tmp 16) (.const (.int .i64 1)), none, false⟩,
   ⟨(some 16), .mv (.tmp 40), none, false⟩])))))))
  (.seq (.reg [⟨(some 41), .bslice 2 1 0 [.int .i64 0] [], none, false⟩,
   ⟨(some 8), .mv (.tmp 41), none, false⟩])
  (.seq (.seq (.reg [⟨(some 42), .fadr 3 (.tmp 2), none, false⟩,
   ⟨(some 43), .load1 (.tmp 42), none, false⟩,
   ⟨(some 44), .len (.tmp 43), none, false⟩,
   ⟨(some 45), .mv (.const (.int .i64 0)), none, false⟩])
  (.blk 2 (.loop (.seq (.reg [⟨(some 46), .bin .lss (.tmp 45) (.tmp 44), none, false⟩])
  (.seq (.cond (.tmp 46) .skip (.exit 2))
  (.seq (.blk 3 (.seq (.reg [⟨(some 47), .ixs 2 (.tmp 43) (.tmp 45), none, false⟩,
   ⟨(some 48), .loadn 2 (.tmp 47), none, false⟩,
   ⟨(some 10), .alloc 98 [.int .i64 0, .int .i64 0], none, false⟩,
   ⟨none, .store 2 (.tmp 10) (.tmp 48), none, false⟩])
  (.reg [⟨(some 49), .mv (.tmp 8), none, false⟩,
   ⟨(some 50), .fadr 1 (.tmp 10), none, false⟩,
   ⟨(some 51), .load1 (.tmp 50), none, false⟩,
   ⟨(some 52), .mv (.tmp 5), none, false⟩,
   ⟨(some 53), .fadr 0 (.tmp 10), none, false⟩,
   ⟨(some 54), .load1 (.tmp 53), none, false⟩,
   ⟨(some 55), .ixs 1 (.tmp 52) (.tmp 54), none, false⟩,
   ⟨(some 56), .load1 (.tmp 55), none, false⟩,
   ⟨(some 57), .bin .mul (.tmp 51) (.tmp 56), none, false⟩,
   ⟨(some 58), .fadr 0 (.tmp 2), none, false⟩,
   ⟨(some 59), .load1 (.tmp 58), none, false⟩,
   ⟨(some 60), .bin .rem (.tmp 57) (.tmp 59), none, false⟩,
   ⟨(some 61), .bslice 2 1 1 [.int .i64 0] [(0, 1, (.tmp 60))], none, false⟩,
   ⟨(some 62), .app 2 1 8 (.tmp 49) (.tmp 61), none, false⟩,
   ⟨(some 8), .mv (.tmp 62), none, false⟩])))
  (.reg [⟨(some 63), .bin .add (.tmp 45) (.const (.int .i64 1)), none, false⟩,
   ⟨(some 45), .mv (.tmp 63), none, false⟩])))))))
  (.seq (.reg [⟨(some 64), .mv (.tmp 8), none, false⟩,
   ⟨(some 4), .mv (.tmp 64), none, false⟩])
  .ret))))))⟩

theorem s86 : compFn Try.prog Try.f86 = some c86 := by kernel_rfl

/-- loop.example/g01262/spec.l07Plain -/
def c90 : XFn :=
 ⟨[.celln 6 4],
  (.seq (.reg [⟨(some 6), .alloc 48 [.int .i64 0, .int .i64 0, .slice none 0 0, .slice none 0 0], none, false⟩])
  (.seq (.reg [⟨(some 9), .mv (.tmp 0), none, false⟩,
   ⟨(some 10), .mv (.tmp 1), none, false⟩,
   ⟨(some 11), .bslice 96 3 0 [.int .i64 0, .int .i64 0, .int .i64 0] [], none, false⟩,
   ⟨(some 12), .bslice 98 2 0 [.int .i64 0, .int .i64 0] [], none, false⟩,
   ⟨(some 13), .build [.int .i64 0, .int .i64 0, .slice none 0 0, .slice none 0 0] [(0, 1, (.tmp 9)), (1, 1, (.tmp 10)), (2, 1, (.tmp 11)), (3, 1, (.tmp 12))], none, false⟩,
   ⟨(some 7), .alloc 48 [.int .i64 0, .int .i64 0, .slice none 0 0, .slice none 0 0], none, false⟩,
   ⟨none, .store 4 (.tmp 7) (.tmp 13), none, false⟩])
  (.seq (.seq (.reg [⟨(some 8), .mv (.const (.int .i64 0)), none, false⟩])
  (.blk 0 (.loop (.seq (.seq (.reg [⟨(some 14), .mv (.tmp 8), none, false⟩,
   ⟨(some 15), .mv (.tmp 2), none, false⟩,
   ⟨(some 16), .len (.tmp 15), none, false⟩,
   ⟨(some 17), .bin .lss (.tmp 14) (.tmp 16), none, false⟩])
  (.cond (.tmp 17) .skip (.exit 0)))
  (.seq (.blk 1 (.reg [⟨(some 20), .loadn 4 (.tmp 7), none, false⟩,
   ⟨(some 21), .mv (.tmp 2), none, false⟩,
   ⟨(some 22), .mv (.tmp 8), none, false⟩,
   ⟨(some 23), .ixs 1 (.tmp 21) (.tmp 22), none, false⟩,
   ⟨(some 24), .load1 (.tmp 23), none, false⟩,
   ⟨(some 25), .call (.func 127) [(.tmp 20), (.tmp 24)], none, false⟩,
   ⟨none, .store 4 (.tmp 7) (.tmp 25), none, false⟩]))
  (.reg [⟨(some 18), .mv (.tmp 8), none, false⟩,
   ⟨(some 19), .bin .add (.tmp 18) (.const (.int .i64 1)), none, false⟩,
   ⟨(some 8), .mv (.tmp 19), none, false⟩]))))))
  (.seq (.reg [⟨(some 26), .loadn 4 (.tmp 7), none, false⟩,
   ⟨none, .store 4 (.tmp 6) (.tmp 26), none, false⟩])
  .ret))))⟩

theorem s90 : compFn Try.prog Try.f90 = some c90 := by kernel_rfl

/-- loop.example/g01262/impl.finished -/
def c92 : XFn :=
 ⟨[.celln 4 4],
  (.seq (.reg [⟨(some 2), .box 48 (.tmp 0), none, false⟩,
   ⟨(some 4), .alloc 48 [.int .i64 0, .int .i64 0, .slice none 0 0, .slice none 0 0], none, false⟩])
  (.seq (.seq (.reg [⟨(some 10), .mv (.tmp 1), none, false⟩,
   ⟨(some 11), .len (.tmp 10), none, false⟩,
   ⟨(some 12), .mv (.const (.int .i64 0)), none, false⟩])
  (.blk 0 (.loop (.seq (.reg [⟨(some 13), .bin .lss (.tmp 12) (.tmp 11), none, false⟩])
  (.seq (.cond (.tmp 13) .skip (.exit 0))
  (.seq (.blk 1 (.seq (.reg [⟨(some 14), .ixs 1 (.tmp 10) (.tmp 12), none, false⟩,
   ⟨(some 15), .load1 (.tmp 14), none, false⟩,
   ⟨(some 6), .mv (.tmp 15), none, false⟩])
  (.seq (.reg [⟨(some 16), .build [.int .i64 0, .int .i64 0] [], none, false⟩,
   ⟨(some 7), .alloc 98 [.int .i64 0, .int .i64 0], none, false⟩,
   ⟨none, .store 2 (.tmp 7) (.tmp 16), none, false⟩])
  (.seq (.seq (.reg [⟨(some 17), .mv (.tmp 6), none, false⟩,
   ⟨(some 18), .len (.tmp 17), none, false⟩,
   ⟨(some 19), .mv (.const (.int .i64 0)), none, false⟩])
  (.blk 2 (.loop (.seq (.reg [⟨(some 20), .bin .lss (.tmp 19) (.tmp 18), none, false⟩])
  (.seq (.cond (.tmp 20) .skip (.exit 2))
  (.seq (.blk 3 (.seq (.reg [⟨(some 21), .mv (.tmp 19), none, false⟩,
   ⟨(some 22), .ixs 1 (.tmp 17) (.tmp 19), none, false⟩,
   ⟨(some 23), .load1 (.tmp 22), none, false⟩,
   ⟨(some 8), .mv (.tmp 21), none, false⟩,
   ⟨(some 9), .mv (.tmp 23), none, false⟩])
  (.blk 4 (.seq (.reg [⟨(some 52), .mv (.tmp 9), none, false⟩,
   ⟨(some 53), .bin .eql (.tmp 52) (.const (.int .i64 0)), none, false⟩,
   ⟨(some 51), .mv (.tmp 53), none, false⟩])
  (.cond (.tmp 51) .skip (.seq (.reg [⟨(some 55), .fadr 1 (.tmp 7), none, false⟩,
   ⟨(some 56), .load1 (.tmp 55), none, false⟩,
   ⟨(some 57), .bin .eql (.tmp 56) (.const (.int .i64 0)), none, false⟩,
   ⟨(some 54), .mv (.tmp 57), none, false⟩])
  (.cond (.tmp 54) (.reg [⟨(some 58), .mv (.tmp 8), none, false⟩,
   ⟨(some 59), .mv (.tmp 9), none, false⟩,
   ⟨(some 60), .build [.int .i64 0, .int .i64 0] [(0, 1, (.tmp 58)), (1, 1, (.tmp 59))], none, false⟩,
   ⟨none, .store 2 (.tmp 7) (.tmp 60), none, false⟩]) (.seq (.reg [⟨(some 24), .fadr 2 (.tmp 2), none, false⟩,
   ⟨(some 25), .load1 (.tmp 24), none, false⟩,
   ⟨(some 26), .fadr 0 (.tmp 7), none, false⟩,
   ⟨(some 27), .load1 (.tmp 26), none, false⟩,
   ⟨(some 28), .mv (.tmp 8), none, false⟩,
   ⟨(some 29), .mv (.tmp 9), none, false⟩,
   ⟨(some 30), .fadr 0 (.tmp 2), none, false⟩,
   ⟨(some 31), .load1 (.tmp 30), none, false⟩,
   ⟨(some 32), .fadr 1 (.tmp 7), none, false⟩,
   ⟨(some 33), .load1 (.tmp 32), none, false⟩,
   ⟨(some 34), .call (.func 71) [(.tmp 31), (.tmp 33)], none, true⟩,
   ⟨(some 35), .bin .mul (.tmp 29) (.tmp 34), none, false⟩,
   ⟨(some 36), .fadr 0 (.tmp 2), none, false⟩,
   ⟨(some 37), .load1 (.tmp 36), none, false⟩,
   ⟨(some 38), .bin .rem (.tmp 35) (.tmp 37), none, false⟩,
   ⟨(some 39), .build [.int .i64 0, .int .i64 0, .int .i64 0] [(0, 1, (.tmp 27)), (1, 1, (.tmp 28)), (2, 1, (.tmp 38))], none, false⟩,
   ⟨(some 40), .bslice 96 3 1 [.int .i64 0, .int .i64 0, .int .i64 0] [(0, 3, (.tmp 39))], none, false⟩,
   ⟨(some 41), .app 96 3 24 (.tmp 25) (.tmp 40), none, false⟩,
   ⟨(some 42), .fadr 2 (.tmp 2), none, false⟩,
   ⟨none, .store 1 (.tmp 42) (.tmp 41), none, false⟩])
  (.reg [⟨(some 43), .fadr 1 (.tmp 2), none, false⟩,
   ⟨(some 44), .load1 (.tmp 43), none, false⟩,
   ⟨(some 45), .fadr 2 (.tmp 2), none, false⟩,
   ⟨(some 46), .load1 (.tmp 45), none, false⟩,
   ⟨(some 47), .len (.tmp 46), none, false⟩,
   ⟨(some 48), .bin .add (.tmp 44) (.tmp 47), none, false⟩,
   ⟨(some 49), .bin .sub (.tmp 48) (.const (.int .i64 1)), none, false⟩,
   ⟨(some 50), .fadr 0 (.tmp 7), none, false⟩,
   ⟨none, .store 1 (.tmp 50) (.tmp 49), none, false⟩])))))))))
  (.reg [⟨(some 61), .bin .add (.tmp 19) (.const (.int .i64 1)), none, false⟩,
   ⟨(some 19), .mv (.tmp 61), none, false⟩])))))))
  (.reg [⟨(some 62), .fadr 3 (.tmp 2), none, false⟩,
   ⟨(some 63), .load1 (.tmp 62), none, false⟩,
   ⟨(some 64), .loadn 2 (.tmp 7), none, false⟩,
   ⟨(some 65), .bslice 98 2 1 [.int .i64 0, .int .i64 0] [(0, 2, (.tmp 64))], none, false⟩,
   ⟨(some 66), .app 98 2 16 (.tmp 63) (.tmp 65), none, false⟩,
   ⟨(some 67), .fadr 3 (.tmp 2), none, false⟩,
   ⟨none, .store 1 (.tmp 67) (.tmp 66), none, false⟩])))))
  (.reg [⟨(some 68), .bin .add (.tmp 12) (.const (.int .i64 1)), none, false⟩,
   ⟨(some 12), .mv (.tmp 68), none, false⟩])))))))
  (.seq (.reg [⟨(some 69), .loadn 4 (.tmp 2), none, false⟩,
   ⟨none, .store 4 (.tmp 4) (.tmp 69), none, false⟩])
  .ret)))⟩

theorem s92 : compFn Try.prog Try.f92 = some c92 := by kernel_rfl

/-- loop.example/g01262/impl.transposed -/
def c94 : XFn :=
 ⟨[.tmp 2],
  (.seq (.reg [⟨(some 2), .mv (.const (.slice none 0 0)), none, false⟩])
  (.seq (.reg [⟨(some 8), .bslice 22 1 0 [.slice none 0 0] [], none, false⟩,
   ⟨(some 3), .mv (.tmp 8), none, false⟩])
  (.seq (.seq (.reg [⟨(some 9), .mv (.tmp 0), none, false⟩,
   ⟨(some 10), .ixs 1 (.tmp 9) (.const (.int .i64 0)), none, false⟩,
   ⟨(some 11), .load1 (.tmp 10), none, false⟩,
   ⟨(some 12), .len (.tmp 11), none, false⟩,
   ⟨(some 13), .mv (.const (.int .i64 0)), none, false⟩])
  (.blk 0 (.loop (.seq (.reg [⟨(some 14), .bin .lss (.tmp 13) (.tmp 12), none, false⟩])
  (.seq (.cond (.tmp 14) .skip (.exit 0))
  (.seq (.blk 1 (.seq (.reg [⟨(some 15), .mv (.tmp 13), none, false⟩,
   ⟨(some 4), .mv (.tmp 15), none, false⟩])
  (.seq (.reg [⟨(some 16), .bslice 2 1 0 [.int .i64 0] [], none, false⟩,
   ⟨(some 5), .mv (.tmp 16), none, false⟩])
  (.seq (.seq (.reg [⟨(some 17), .mv (.tmp 0), none, false⟩,
   ⟨(some 18), .len (.tmp 17), none, false⟩,
   ⟨(some 19), .mv (.const (.int .i64 0)), none, false⟩])
  (.blk 2 (.loop (.seq (.reg [⟨(some 20), .bin .lss (.tmp 19) (.tmp 18), none, false⟩])
  (.seq (.cond (.tmp 20) .skip (.exit 2))
  (.seq (.blk 3 (.seq (.reg [⟨(some 21), .ixs 1 (.tmp 17) (.tmp 19), none, false⟩,
   ⟨(some 22), .load1 (.tmp 21), none, false⟩,
   ⟨(some 7), .mv (.tmp 22), none, false⟩])
  (.reg [⟨(some 23), .mv (.tmp 5), none, false⟩,
   ⟨(some 24), .mv (.tmp 7), none, false⟩,
   ⟨(some 25), .mv (.tmp 4), none, false⟩,
   ⟨(some 26), .ixs 1 (.tmp 24) (.tmp 25), none, false⟩,
   ⟨(some 27), .load1 (.tmp 26), none, false⟩,
   ⟨(some 28), .bslice 2 1 1 [.int .i64 0] [(0, 1, (.tmp 27))], none, false⟩,
   ⟨(some 29), .app 2 1 8 (.tmp 23) (.tmp 28), none, false⟩,
   ⟨(some 5), .mv (.tmp 29), none, false⟩])))
  (.reg [⟨(some 30), .bin .add (.tmp 19) (.const (.int .i64 1)), none, false⟩,
   ⟨(some 19), .mv (.tmp 30), none, false⟩])))))))
  (.reg [⟨(some 31), .mv (.tmp 3), none, false⟩,
   ⟨(some 32), .mv (.tmp 5), none, false⟩,
   ⟨(some 33), .bslice 22 1 1 [.slice none 0 0] [(0, 1, (.tmp 32))], none, false⟩,
   ⟨(some 34), .app 22 1 24 (.tmp 31) (.tmp 33), none, false⟩,
   ⟨(some 3), .mv (.tmp 34), none, false⟩])))))
  (.reg [⟨(some 35), .bin .add (.tmp 13) (.const (.int .i64 1)), none, false⟩,
   ⟨(some 13), .mv (.tmp 35), none, false⟩])))))))
  (.seq (.reg [⟨(some 36), .mv (.tmp 3), none, false⟩,
   ⟨(some 2), .mv (.tmp 36), none, false⟩])
  .ret))))⟩

theorem s94 : compFn Try.prog Try.f94 = some c94 := by kernel_rfl

/-- loop.example/g01262/spec.l07Shared -/
def c95 : XFn :=
 ⟨[.celln 6 4],
  (.seq (.reg [⟨(some 6), .alloc 48 [.int .i64 0, .int .i64 0, .slice none 0 0, .slice none 0 0], none, false⟩])
  (.seq (.reg [⟨(some 17), .mv (.tmp 0), none, false⟩,
   ⟨(some 18), .mv (.tmp 1), none, false⟩,
   ⟨(some 19), .bslice 96 3 0 [.int .i64 0, .int .i64 0, .int .i64 0] [], none, false⟩,
   ⟨(some 20), .bslice 98 2 0 [.int .i64 0, .int .i64 0] [], none, false⟩,
   ⟨(some 21), .build [.int .i64 0, .int .i64 0, .slice none 0 0, .slice none 0 0] [(0, 1, (.tmp 17)), (1, 1, (.tmp 18)), (2, 1, (.tmp 19)), (3, 1, (.tmp 20))], none, false⟩,
   ⟨(some 22), .bslice 22 1 0 [.slice none 0 0] [], none, false⟩,
   ⟨(some 7), .alloc 48 [.int .i64 0, .int .i64 0, .slice none 0 0, .slice none 0 0], none, false⟩,
   ⟨none, .store 4 (.tmp 7) (.tmp 21), none, false⟩,
   ⟨(some 8), .mv (.tmp 22), none, false⟩])
  (.seq (.seq (.reg [⟨(some 9), .mv (.const (.int .i64 0)), none, false⟩])
  (.blk 0 (.loop (.seq (.seq (.reg [⟨(some 23), .mv (.tmp 9), none, false⟩,
   ⟨(some 24), .mv (.tmp 2), none, false⟩,
   ⟨(some 25), .len (.tmp 24), none, false⟩,
   ⟨(some 26), .bin .lss (.tmp 23) (.tmp 25), none, false⟩])
  (.cond (.tmp 26) .skip (.exit 0)))
  (.seq (.blk 1 (.reg [⟨(some 29), .mv (.tmp 8), none, false⟩,
   ⟨(some 30), .mv (.tmp 2), none, false⟩,
   ⟨(some 31), .mv (.tmp 9), none, false⟩,
   ⟨(some 32), .ixs 1 (.tmp 30) (.tmp 31), none, false⟩,
   ⟨(some 33), .load1 (.tmp 32), none, false⟩,
   ⟨(some 34), .call (.func 113) [(.tmp 33)], none, false⟩,
   ⟨(some 35), .bslice 22 1 1 [.slice none 0 0] [(0, 1, (.tmp 34))], none, false⟩,
   ⟨(some 36), .app 22 1 24 (.tmp 29) (.tmp 35), none, false⟩,
   ⟨(some 8), .mv (.tmp 36), none, false⟩]))
  (.reg [⟨(some 27), .mv (.tmp 9), none, false⟩,
   ⟨(some 28), .bin .add (.tmp 27) (.const (.int .i64 1)), none, false⟩,
   ⟨(some 9), .mv (.tmp 28), none, false⟩]))))))
  (.seq (.blk 2 (.loop (.blk 3 (.seq (.reg [⟨(some 38), .mv (.tmp 0), none, false⟩,
   ⟨(some 39), .mv (.tmp 8), none, false⟩,
   ⟨(some 40), .call (.func 129) [(.tmp 38), (.tmp 39)], none, false⟩,
   ⟨(some 37), .mv (.tmp 40), none, false⟩,
   ⟨(some 41), .ext (.tmp 37) 0, none, false⟩,
   ⟨(some 42), .ext (.tmp 37) 1, none, false⟩,
   ⟨(some 10), .alloc 96 [.int .i64 0, .int .i64 0, .int .i64 0], none, false⟩,
   ⟨none, .store 3 (.tmp 10) (.tmp 41), none, false⟩,
   ⟨(some 11), .mv (.tmp 42), none, false⟩])
  (.seq (.seq (.reg [⟨(some 43), .mv (.tmp 11), none, false⟩,
   ⟨(some 44), .bin .lss (.tmp 43) (.const (.int .i64 2)), none, false⟩])
  (.cond (.tmp 44) (.exit 2) .skip))
  (.seq (.reg [⟨(some 45), .fadr 2 (.tmp 7), none, false⟩,
   ⟨(some 46), .load1 (.tmp 45), none, false⟩,
   ⟨(some 47), .loadn 3 (.tmp 10), none, false⟩,
   ⟨(some 48), .bslice 96 3 1 [.int .i64 0, .int .i64 0, .int .i64 0] [(0, 3, (.tmp 47))], none, false⟩,
   ⟨(some 49), .app 96 3 24 (.tmp 46) (.tmp 48), none, false⟩,
   ⟨(some 50), .fadr 2 (.tmp 7), none, false⟩,
   ⟨none, .store 1 (.tmp 50) (.tmp 49), none, false⟩])
  (.seq (.reg [⟨(some 12), .mv (.const (.int .i64 0)), none, false⟩])
  (.blk 4 (.loop (.seq (.seq (.reg [⟨(some 51), .mv (.tmp 12), none, false⟩,
   ⟨(some 52), .mv (.tmp 8), none, false⟩,
   ⟨(some 53), .len (.tmp 52), none, false⟩,
   ⟨(some 54), .bin .lss (.tmp 51) (.tmp 53), none, false⟩])
  (.cond (.tmp 54) .skip (.exit 4)))
  (.seq (.blk 5 (.seq (.reg [⟨(some 57), .mv (.tmp 8), none, false⟩,
   ⟨(some 58), .mv (.tmp 12), none, false⟩,
   ⟨(some 59), .ixs 1 (.tmp 57) (.tmp 58), none, false⟩,
   ⟨(some 60), .load1 (.tmp 59), none, false⟩,
   ⟨(some 13), .mv (.tmp 60), none, false⟩,
   ⟨(some 14), .mv (.const (.int .i64 0)), none, false⟩])
  (.seq (.seq (.reg [⟨(some 61), .mv (.tmp 13), none, false⟩,
   ⟨(some 62), .fadr 0 (.tmp 10), none, false⟩,
   ⟨(some 63), .load1 (.tmp 62), none, false⟩,
   ⟨(some 64), .ixs 1 (.tmp 61) (.tmp 63), none, false⟩,
   ⟨(some 65), .load1 (.tmp 64), none, false⟩,
   ⟨(some 15), .mv (.tmp 65), none, false⟩])
  (.seq (.reg [⟨(some 66), .mv (.tmp 15), none, false⟩,
   ⟨(some 67), .bin .neq (.tmp 66) (.const (.int .i64 0)), none, false⟩,
   ⟨(some 68), .mv (.tmp 67), none, false⟩,
   ⟨(some 69), .mv (.tmp 13), (some (68, true)), false⟩,
   ⟨(some 70), .fadr 1 (.tmp 10), (some (68, true)), false⟩,
   ⟨(some 71), .load1 (.tmp 70), (some (68, true)), false⟩,
   ⟨(some 72), .ixs 1 (.tmp 69) (.tmp 71), (some (68, true)), false⟩,
   ⟨(some 73), .load1 (.tmp 72), (some (68, true)), false⟩,
   ⟨(some 74), .mv (.tmp 15), (some (68, true)), false⟩,
   ⟨(some 75), .fadr 2 (.tmp 10), (some (68, true)), false⟩,
   ⟨(some 76), .load1 (.tmp 75), (some (68, true)), false⟩,
   ⟨(some 77), .bin .mul (.tmp 74) (.tmp 76), (some (68, true)), false⟩,
   ⟨(some 78), .mv (.tmp 0), (some (68, true)), false⟩,
   ⟨(some 79), .bin .rem (.tmp 77) (.tmp 78), (some (68, true)), false⟩,
   ⟨(some 80), .bin .eql (.tmp 73) (.tmp 79), (some (68, true)), false⟩,
   ⟨(some 81), .pick (.tmp 68) (.tmp 80) (.const (.bool false)), none, false⟩])
  (.cond (.tmp 81) (.seq (.reg [⟨(some 82), .mv (.tmp 15), none, false⟩,
   ⟨(some 14), .mv (.tmp 82), none, false⟩])
  (.seq (.reg [⟨(some 83), .mv (.tmp 13), none, false⟩,
   ⟨(some 84), .fadr 0 (.tmp 10), none, false⟩,
   ⟨(some 85), .load1 (.tmp 84), none, false⟩,
   ⟨(some 86), .ixs 1 (.tmp 83) (.tmp 85), none, false⟩,
   ⟨none, .store 1 (.tmp 86) (.const (.int .i64 0)), none, false⟩])
  (.reg [⟨(some 87), .mv (.tmp 13), none, false⟩,
   ⟨(some 88), .fadr 1 (.tmp 10), none, false⟩,
   ⟨(some 89), .load1 (.tmp 88), none, false⟩,
   ⟨(some 90), .ixs 1 (.tmp 87) (.tmp 89), none, false⟩,
   ⟨none, .store 1 (.tmp 90) (.const (.int .i64 0)), none, false⟩]))) .skip)))
  (.reg [⟨(some 91), .mv (.tmp 8), none, false⟩,
   ⟨(some 92), .mv (.tmp 12), none, false⟩,
   ⟨(some 93), .mv (.tmp 13), none, false⟩,
   ⟨(some 94), .mv (.tmp 14), none, false⟩,
   ⟨(some 95), .bslice 2 1 1 [.int .i64 0] [(0, 1, (.tmp 94))], none, false⟩,
   ⟨(some 96), .app 2 1 8 (.tmp 93) (.tmp 95), none, false⟩,
   ⟨(some 97), .ixs 1 (.tmp 91) (.tmp 92), none, false⟩,
   ⟨none, .store 1 (.tmp 97) (.tmp 96), none, false⟩]))))
  (.reg [⟨(some 55), .mv (.tmp 12), none, false⟩,
   ⟨(some 56), .bin .add (.tmp 55) (.const (.int .i64 1)), none, false⟩,
   ⟨(some 12), .mv (.tmp 56), none, false⟩]))))))))))))
  (.seq (.seq (.reg [⟨(some 16), .mv (.const (.int .i64 0)), none, false⟩])
  (.blk 6 (.loop (.seq (.seq (.reg [⟨(some 98), .mv (.tmp 16), none, false⟩,
   ⟨(some 99), .mv (.tmp 8), none, false⟩,
   ⟨(some 100), .len (.tmp 99), none, false⟩,
   ⟨(some 101), .bin .lss (.tmp 98) (.tmp 100), none, false⟩])
  (.cond (.tmp 101) .skip (.exit 6)))
  (.seq (.blk 7 (.reg [⟨(some 104), .loadn 4 (.tmp 7), none, false⟩,
   ⟨(some 105), .mv (.tmp 8), none, false⟩,
   ⟨(some 106), .mv (.tmp 16), none, false⟩,
   ⟨(some 107), .ixs 1 (.tmp 105) (.tmp 106), none, false⟩,
   ⟨(some 108), .load1 (.tmp 107), none, false⟩,
   ⟨(some 109), .call (.func 127) [(.tmp 104), (.tmp 108)], none, false⟩,
   ⟨none, .store 4 (.tmp 7) (.tmp 109), none, false⟩]))
  (.reg [⟨(some 102), .mv (.tmp 16), none, false⟩,
   ⟨(some 103), .bin .add (.tmp 102) (.const (.int .i64 1)), none, false⟩,
   ⟨(some 16), .mv (.tmp 103), none, false⟩]))))))
  (.seq (.reg [⟨(some 110), .loadn 4 (.tmp 7), none, false⟩,
   ⟨none, .store 4 (.tmp 6) (.tmp 110), none, false⟩])
  .ret))))))⟩

theorem s95 : compFn Try.prog Try.f95 = some c95 := by kernel_rfl

/-- loop.example/g01262/impl.sharedProgram -/
def c96 : XFn :=
 ⟨[.celln 6 4],
  (.seq (.reg [⟨(some 6), .alloc 48 [.int .i64 0, .int .i64 0, .slice none 0 0, .slice none 0 0], none, false⟩])
  (.seq (.reg [⟨(some 24), .mv (.tmp 0), none, false⟩,
   ⟨(some 25), .mv (.tmp 1), none, false⟩,
   ⟨(some 26), .build [.int .i64 0, .int .i64 0, .slice none 0 0, .slice none 0 0] [(0, 1, (.tmp 24)), (1, 1, (.tmp 25))], none, false⟩,
   ⟨(some 27), .mv (.tmp 1), none, false⟩,
   ⟨(some 28), .mks 144 5 20 [.int .u32 0, .int .u32 0, .int .u32 0, .int .u32 0, .int .u32 0] (.tmp 27), none, false⟩,
   ⟨(some 8), .mv (.tmp 28), none, false⟩,
   ⟨(some 7), .boxn 48 4 (.tmp 26), none, false⟩])
  (.seq (.seq (.reg [⟨(some 29), .mv (.tmp 2), none, false⟩,
   ⟨(some 30), .len (.tmp 29), none, false⟩,
   ⟨(some 31), .mv (.const (.int .i64 0)), none, false⟩])
  (.blk 0 (.loop (.seq (.reg [⟨(some 32), .bin .lss (.tmp 31) (.tmp 30), none, false⟩])
  (.seq (.cond (.tmp 32) .skip (.exit 0))
  (.seq (.blk 1 (.seq (.reg [⟨(some 33), .mv (.tmp 31), none, false⟩,
   ⟨(some 34), .ixs 1 (.tmp 29) (.tmp 31), none, false⟩,
   ⟨(some 35), .load1 (.tmp 34), none, false⟩,
   ⟨(some 9), .mv (.tmp 33), none, false⟩,
   ⟨(some 10), .mv (.tmp 35), none, false⟩])
  (.seq (.reg [⟨(some 36), .mv (.tmp 10), none, false⟩,
   ⟨(some 37), .len (.tmp 36), none, false⟩,
   ⟨(some 38), .mv (.const (.int .i64 0)), none, false⟩])
  (.blk 2 (.loop (.seq (.reg [⟨(some 39), .bin .lss (.tmp 38) (.tmp 37), none, false⟩])
  (.seq (.cond (.tmp 39) .skip (.exit 2))
  (.seq (.blk 3 (.seq (.reg [⟨(some 40), .mv (.tmp 38), none, false⟩,
   ⟨(some 41), .ixs 1 (.tmp 36) (.tmp 38), none, false⟩,
   ⟨(some 42), .load1 (.tmp 41), none, false⟩,
   ⟨(some 11), .mv (.tmp 40), none, false⟩,
   ⟨(some 12), .mv (.tmp 42), none, false⟩])
  (.reg [⟨(some 43), .mv (.tmp 8), none, false⟩,
   ⟨(some 44), .mv (.tmp 11), none, false⟩,
   ⟨(some 45), .mv (.tmp 12), none, false⟩,
   ⟨(some 46), .ixs 5 (.tmp 43) (.tmp 44), none, false⟩,
   ⟨(some 47), .ixa 5 1 (.tmp 46) (.tmp 45), none, false⟩,
   ⟨(some 48), .load1 (.tmp 47), none, false⟩,
   ⟨(some 49), .mv (.tmp 9), none, false⟩,
   ⟨(some 50), .bin .shl (.const (.int .u32 1)) (.tmp 49), none, false⟩,
   ⟨(some 51), .bin .or (.tmp 48) (.tmp 50), none, false⟩,
   ⟨(some 52), .ixs 5 (.tmp 43) (.tmp 44), none, false⟩,
   ⟨(some 53), .ixa 5 1 (.tmp 52) (.tmp 45), none, false⟩,
   ⟨none, .store 1 (.tmp 53) (.tmp 51), none, false⟩])))
  (.reg [⟨(some 54), .bin .add (.tmp 38) (.const (.int .i64 1)), none, false⟩,
   ⟨(some 38), .mv (.tmp 54), none, false⟩])))))))))
  (.reg [⟨(some 55), .bin .add (.tmp 31) (.const (.int .i64 1)), none, false⟩,
   ⟨(some 31), .mv (.tmp 55), none, false⟩])))))))
  (.seq (.blk 4 (.loop (.blk 5 (.seq (.reg [⟨(some 57), .mv (.tmp 0), none, false⟩,
   ⟨(some 58), .mv (.tmp 8), none, false⟩,
   ⟨(some 59), .call (.func 130) [(.tmp 57), (.tmp 58)], none, false⟩,
   ⟨(some 56), .mv (.tmp 59), none, false⟩,
   ⟨(some 60), .ext (.tmp 56) 0, none, false⟩,
   ⟨(some 61), .ext (.tmp 56) 1, none, false⟩,
   ⟨(some 13), .alloc 146 [.int .i64 0, .int .i64 0, .int .i64 0], none, false⟩,
   ⟨none, .store 3 (.tmp 13) (.tmp 60), none, false⟩,
   ⟨(some 14), .mv (.tmp 61), none, false⟩])
  (.seq (.seq (.reg [⟨(some 62), .mv (.tmp 14), none, false⟩,
   ⟨(some 63), .un .not (.tmp 62), none, false⟩])
  (.cond (.tmp 63) (.exit 4) .skip))
  (.seq (.reg [⟨(some 64), .mv (.tmp 0), none, false⟩,
   ⟨(some 65), .mv (.tmp 8), none, false⟩,
   ⟨(some 66), .fadr 0 (.tmp 13), none, false⟩,
   ⟨(some 67), .load1 (.tmp 66), none, false⟩,
   ⟨(some 68), .ixs 5 (.tmp 65) (.tmp 67), none, false⟩,
   ⟨(some 69), .loadn 5 (.tmp 68), none, false⟩,
   ⟨(some 70), .mv (.tmp 8), none, false⟩,
   ⟨(some 71), .fadr 1 (.tmp 13), none, false⟩,
   ⟨(some 72), .load1 (.tmp 71), none, false⟩,
   ⟨(some 73), .ixs 5 (.tmp 70) (.tmp 72), none, false⟩,
   ⟨(some 74), .loadn 5 (.tmp 73), none, false⟩,
   ⟨(some 75), .fadr 2 (.tmp 13), none, false⟩,
   ⟨(some 76), .load1 (.tmp 75), none, false⟩,
   ⟨(some 77), .call (.func 131) [(.tmp 64), (.tmp 69), (.tmp 74), (.tmp 76)], none, false⟩,
   ⟨(some 78), .build [.int .u32 0, .int .u32 0, .int .u32 0, .int .u32 0, .int .u32 0] [], none, false⟩,
   ⟨(some 15), .mv (.tmp 77), none, false⟩,
   ⟨(some 16), .boxn 144 5 (.tmp 78), none, false⟩])
  (.seq (.seq (.reg [⟨(some 17), .mv (.const (.int .i64 1)), none, false⟩])
  (.blk 6 (.loop (.seq (.seq (.reg [⟨(some 79), .mv (.tmp 17), none, false⟩,
   ⟨(some 80), .mv (.tmp 0), none, false⟩,
   ⟨(some 81), .bin .lss (.tmp 79) (.tmp 80), none, false⟩])
  (.cond (.tmp 81) .skip (.exit 6)))
  (.seq (.blk 7 (.seq (.reg [⟨(some 84), .mv (.tmp 17), none, false⟩,
   ⟨(some 85), .mv (.tmp 8), none, false⟩,
   ⟨(some 86), .fadr 0 (.tmp 13), none, false⟩,
   ⟨(some 87), .load1 (.tmp 86), none, false⟩,
   ⟨(some 88), .mv (.tmp 17), none, false⟩,
   ⟨(some 89), .ixs 5 (.tmp 85) (.tmp 87), none, false⟩,
   ⟨(some 90), .ixa 5 1 (.tmp 89) (.tmp 88), none, false⟩,
   ⟨(some 91), .load1 (.tmp 90), none, false⟩,
   ⟨(some 92), .mv (.tmp 15), none, false⟩,
   ⟨(some 93), .bin .and (.tmp 91) (.tmp 92), none, false⟩,
   ⟨(some 94), .ixa 5 1 (.tmp 16) (.tmp 84), none, false⟩,
   ⟨none, .store 1 (.tmp 94) (.tmp 93), none, false⟩])
  (.seq (.reg [⟨(some 95), .mv (.tmp 8), none, false⟩,
   ⟨(some 96), .fadr 0 (.tmp 13), none, false⟩,
   ⟨(some 97), .load1 (.tmp 96), none, false⟩,
   ⟨(some 98), .mv (.tmp 17), none, false⟩,
   ⟨(some 99), .ixs 5 (.tmp 95) (.tmp 97), none, false⟩,
   ⟨(some 100), .ixa 5 1 (.tmp 99) (.tmp 98), none, false⟩,
   ⟨(some 101), .load1 (.tmp 100), none, false⟩,
   ⟨(some 102), .mv (.tmp 15), none, false⟩,
   ⟨(some 103), .bin .andNot (.tmp 101) (.tmp 102), none, false⟩,
   ⟨(some 104), .ixs 5 (.tmp 95) (.tmp 97), none, false⟩,
   ⟨(some 105), .ixa 5 1 (.tmp 104) (.tmp 98), none, false⟩,
   ⟨none, .store 1 (.tmp 105) (.tmp 103), none, false⟩])
  (.reg [⟨(some 106), .mv (.tmp 8), none, false⟩,
   ⟨(some 107), .fadr 1 (.tmp 13), none, false⟩,
   ⟨(some 108), .load1 (.tmp 107), none, false⟩,
   ⟨(some 109), .mv (.tmp 17), none, false⟩,
   ⟨(some 110), .ixs 5 (.tmp 106) (.tmp 108), none, false⟩,
   ⟨(some 111), .ixa 5 1 (.tmp 110) (.tmp 109), none, false⟩,
   ⟨(some 112), .load1 (.tmp 111), none, false⟩,
   ⟨(some 113), .mv (.tmp 15), none, false⟩,
   ⟨(some 114), .bin .andNot (.tmp 112) (.tmp 113), none, false⟩,
   ⟨(some 115), .ixs 5 (.tmp 106) (.tmp 108), none, false⟩,
   ⟨(some 116), .ixa 5 1 (.tmp 115) (.tmp 109), none, false⟩,
   ⟨none, .store 1 (.tmp 116) (.tmp 114), none, false⟩]))))
  (.reg [⟨(some 82), .mv (.tmp 17), none, false⟩,
   ⟨(some 83), .bin .add (.tmp 82) (.const (.int .i64 1)), none, false⟩,
   ⟨(some 17), .mv (.tmp 83), none, false⟩]))))))
  (.seq (.reg [⟨(some 117), .mv (.tmp 8), none, false⟩,
   ⟨(some 118), .loadn 5 (.tmp 16), none, false⟩,
   ⟨(some 119), .bslice 144 5 1 [.int .u32 0, .int .u32 0, .int .u32 0, .int .u32 0, .int .u32 0] [(0, 5, (.tmp 118))], none, false⟩,
   ⟨(some 120), .app 144 5 20 (.tmp 117) (.tmp 119), none, false⟩,
   ⟨(some 8), .mv (.tmp 120), none, false⟩])
  (.reg [⟨(some 121), .fadr 2 (.tmp 7), none, false⟩,
   ⟨(some 122), .load1 (.tmp 121), none, false⟩,
   ⟨(some 123), .fadr 0 (.tmp 13), none, false⟩,
   ⟨(some 124), .load1 (.tmp 123), none, false⟩,
   ⟨(some 125), .fadr 1 (.tmp 13), none, false⟩,
   ⟨(some 126), .load1 (.tmp 125), none, false⟩,
   ⟨(some 127), .fadr 2 (.tmp 13), none, false⟩,
   ⟨(some 128), .load1 (.tmp 127), none, false⟩,
   ⟨(some 129), .build [.int .i64 0, .int .i64 0, .int .i64 0] [(0, 1, (.tmp 124)), (1, 1, (.tmp 126)), (2, 1, (.tmp 128))], none, false⟩,
   ⟨(some 130), .bslice 96 3 1 [.int .i64 0, .int .i64 0, .int .i64 0] [(0, 3, (.tmp 129))], none, false⟩,
   ⟨(some 131), .app 96 3 24 (.tmp 122) (.tmp 130), none, false⟩,
   ⟨(some 132), .fadr 2 (.tmp 7), none, false⟩,
   ⟨none, .store 1 (.tmp 132) (.tmp 131), none, false⟩])))))))))
  (.seq (.reg [⟨(some 133), .bslice 22 1 0 [.slice none 0 0] [], none, false⟩,
   ⟨(some 18), .mv (.tmp 133), none, false⟩])
  (.seq (.seq (.reg [⟨(some 134), .mv (.tmp 2), none, false⟩,
   ⟨(some 135), .len (.tmp 134), none, false⟩,
   ⟨(some 136), .mv (.const (.int .i64 0)), none, false⟩])
  (.blk 8 (.loop (.seq (.reg [⟨(some 137), .bin .lss (.tmp 136) (.tmp 135), none, false⟩])
  (.seq (.cond (.tmp 137) .skip (.exit 8))
  (.seq (.blk 9 (.seq (.reg [⟨(some 138), .mv (.tmp 136), none, false⟩,
   ⟨(some 19), .mv (.tmp 138), none, false⟩])
  (.seq (.reg [⟨(some 139), .mv (.tmp 8), none, false⟩,
   ⟨(some 140), .len (.tmp 139), none, false⟩,
   ⟨(some 141), .mks 2 1 8 [.int .i64 0] (.tmp 140), none, false⟩,
   ⟨(some 20), .mv (.tmp 141), none, false⟩])
  (.seq (.seq (.reg [⟨(some 142), .mv (.tmp 8), none, false⟩,
   ⟨(some 143), .len (.tmp 142), none, false⟩,
   ⟨(some 144), .mv (.const (.int .i64 0)), none, false⟩])
  (.blk 10 (.loop (.seq (.reg [⟨(some 145), .bin .lss (.tmp 144) (.tmp 143), none, false⟩])
  (.seq (.cond (.tmp 145) .skip (.exit 10))
  (.seq (.blk 11 (.seq (.reg [⟨(some 146), .mv (.tmp 144), none, false⟩,
   ⟨(some 147), .ixs 5 (.tmp 142) (.tmp 144), none, false⟩,
   ⟨(some 148), .loadn 5 (.tmp 147), none, false⟩,
   ⟨(some 22), .alloc 144 [.int .u32 0, .int .u32 0, .int .u32 0, .int .u32 0, .int .u32 0], none, false⟩,
   ⟨(some 21), .mv (.tmp 146), none, false⟩,
   ⟨none, .store 5 (.tmp 22) (.tmp 148), none, false⟩])
  (.seq (.reg [⟨(some 23), .mv (.const (.int .i64 1)), none, false⟩])
  (.blk 12 (.loop (.seq (.seq (.reg [⟨(some 149), .mv (.tmp 23), none, false⟩,
   ⟨(some 150), .mv (.tmp 0), none, false⟩,
   ⟨(some 151), .bin .lss (.tmp 149) (.tmp 150), none, false⟩])
  (.cond (.tmp 151) .skip (.exit 12)))
  (.seq (.blk 13 (.seq (.reg [⟨(some 154), .mv (.tmp 23), none, false⟩,
   ⟨(some 155), .ixa 5 1 (.tmp 22) (.tmp 154), none, false⟩,
   ⟨(some 156), .load1 (.tmp 155), none, false⟩,
   ⟨(some 157), .mv (.tmp 19), none, false⟩,
   ⟨(some 158), .bin .shr (.tmp 156) (.tmp 157), none, false⟩,
   ⟨(some 159), .bin .and (.tmp 158) (.const (.int .u32 1)), none, false⟩,
   ⟨(some 160), .bin .eql (.tmp 159) (.const (.int .u32 1)), none, false⟩])
  (.cond (.tmp 160) (.reg [⟨(some 161), .mv (.tmp 20), none, false⟩,
   ⟨(some 162), .mv (.tmp 21), none, false⟩,
   ⟨(some 163), .mv (.tmp 23), none, false⟩,
   ⟨(some 164), .ixs 1 (.tmp 161) (.tmp 162), none, false⟩,
   ⟨none, .store 1 (.tmp 164) (.tmp 163), none, false⟩]) .skip)))
  (.reg [⟨(some 152), .mv (.tmp 23), none, false⟩,
   ⟨(some 153), .bin .add (.tmp 152) (.const (.int .i64 1)), none, false⟩,
   ⟨(some 23), .mv (.tmp 153), none, false⟩]))))))))
  (.reg [⟨(some 165), .bin .add (.tmp 144) (.const (.int .i64 1)), none, false⟩,
   ⟨(some 144), .mv (.tmp 165), none, false⟩])))))))
  (.reg [⟨(some 166), .mv (.tmp 18), none, false⟩,
   ⟨(some 167), .mv (.tmp 20), none, false⟩,
   ⟨(some 168), .bslice 22 1 1 [.slice none 0 0] [(0, 1, (.tmp 167))], none, false⟩,
   ⟨(some 169), .app 22 1 24 (.tmp 166) (.tmp 168), none, false⟩,
   ⟨(some 18), .mv (.tmp 169), none, false⟩])))))
  (.reg [⟨(some 170), .bin .add (.tmp 136) (.const (.int .i64 1)), none, false⟩,
   ⟨(some 136), .mv (.tmp 170), none, false⟩])))))))
  (.seq (.reg [⟨(some 171), .loadn 4 (.tmp 7), none, false⟩,
   ⟨(some 172), .mv (.tmp 18), none, false⟩,
   ⟨(some 173), .call (.func 92) [(.tmp 171), (.tmp 172)], none, false⟩,
   ⟨none, .store 4 (.tmp 6) (.tmp 173), none, false⟩])
  .ret)))))))⟩

theorem s96 : compFn Try.prog Try.f96 = some c96 := by kernel_rfl

/-- loop.example/g01262/laws.szProductS -/
def c97 : XFn :=
 ⟨[.tmp 4],
  (.seq (.reg [⟨(some 4), .mv (.const (.int .i64 0)), none, false⟩])
  (.seq (.reg [⟨(some 5), .mv (.tmp 1), none, false⟩,
   ⟨(some 6), .mv (.tmp 0), none, false⟩,
   ⟨(some 7), .len (.tmp 6), none, false⟩,
   ⟨(some 8), .bin .sub (.tmp 5) (.tmp 7), none, false⟩,
   ⟨(some 1), .mv (.tmp 8), none, false⟩])
  (.seq (.seq (.reg [⟨(some 9), .mv (.tmp 1), none, false⟩,
   ⟨(some 10), .bin .lss (.tmp 9) (.const (.int .i64 0)), none, false⟩])
  (.cond (.tmp 10) (.seq (.reg [⟨(some 4), .mv (.const (.int .i64 (-1))), none, false⟩])
  .ret) .skip))
  (.seq (.reg [⟨(some 11), .mv (.tmp 1), none, false⟩,
   ⟨(some 4), .mv (.tmp 11), none, false⟩])
  .ret))))⟩

theorem s97 : compFn Try.prog Try.f97 = some c97 := by kernel_rfl

/-- loop.example/g01262/spec.l01Is -/
def c98 : XFn :=
 ⟨[.tmp 2],
  (.seq (.reg [⟨(some 1), .box 71 (.tmp 0), none, false⟩,
   ⟨(some 2), .mv (.const (.bool false)), none, false⟩])
  (.seq (.seq (.reg [⟨(some 4), .fadr 0 (.tmp 1), none, false⟩,
   ⟨(some 5), .load1 (.tmp 4), none, false⟩,
   ⟨(some 6), .fadr 1 (.tmp 1), none, false⟩,
   ⟨(some 7), .load1 (.tmp 6), none, false⟩,
   ⟨(some 8), .fadr 2 (.tmp 1), none, false⟩,
   ⟨(some 9), .load1 (.tmp 8), none, false⟩,
   ⟨(some 10), .fadr 3 (.tmp 1), none, false⟩,
   ⟨(some 11), .load1 (.tmp 10), none, false⟩,
   ⟨(some 12), .call (.func 132) [(.tmp 5), (.tmp 7), (.tmp 9), (.tmp 11)], none, false⟩,
   ⟨(some 13), .un .not (.tmp 12), none, false⟩,
   ⟨(some 14), .mv (.tmp 13), none, false⟩,
   ⟨(some 15), .fadr 4 (.tmp 1), (some (14, false)), false⟩,
   ⟨(some 16), .load1 (.tmp 15), (some (14, false)), false⟩,
   ⟨(some 17), .len (.tmp 16), (some (14, false)), false⟩,
   ⟨(some 18), .bin .gtr (.tmp 17) (.const (.int .i64 30)), (some (14, false)), false⟩,
   ⟨(some 19), .pick (.tmp 14) (.const (.bool true)) (.tmp 18), none, false⟩])
  (.cond (.tmp 19) (.seq (.reg [⟨(some 2), .mv (.const (.bool false)), none, false⟩])
  .ret) .skip))
  (.seq (.seq (.reg [⟨(some 3), .mv (.const (.int .i64 0)), none, false⟩])
  (.blk 0 (.loop (.seq (.seq (.reg [⟨(some 20), .mv (.tmp 3), none, false⟩,
   ⟨(some 21), .fadr 4 (.tmp 1), none, false⟩,
   ⟨(some 22), .load1 (.tmp 21), none, false⟩,
   ⟨(some 23), .len (.tmp 22), none, false⟩,
   ⟨(some 24), .bin .lss (.tmp 20) (.tmp 23), none, false⟩])
  (.cond (.tmp 24) .skip (.exit 0)))
  (.seq (.blk 1 (.seq (.reg [⟨(some 27), .loadn 5 (.tmp 1), none, false⟩,
   ⟨(some 28), .fadr 4 (.tmp 1), none, false⟩,
   ⟨(some 29), .load1 (.tmp 28), none, false⟩,
   ⟨(some 30), .mv (.tmp 3), none, false⟩,
   ⟨(some 31), .ixs 27 (.tmp 29) (.tmp 30), none, false⟩,
   ⟨(some 32), .loadn 27 (.tmp 31), none, false⟩,
   ⟨(some 33), .call (.func 133) [(.tmp 27), (.tmp 32)], none, false⟩,
   ⟨(some 34), .un .not (.tmp 33), none, false⟩])
  (.cond (.tmp 34) (.seq (.reg [⟨(some 2), .mv (.const (.bool false)), none, false⟩])
  .ret) .skip)))
  (.reg [⟨(some 25), .mv (.tmp 3), none, false⟩,
   ⟨(some 26), .bin .add (.tmp 25) (.const (.int .i64 1)), none, false⟩,
   ⟨(some 3), .mv (.tmp 26), none, false⟩]))))))
  (.seq (.reg [⟨(some 2), .mv (.const (.bool true)), none, false⟩])
  .ret))))⟩

theorem s98 : compFn Try.prog Try.f98 = some c98 := by kernel_rfl

/-- loop.example/g01262/spec.l01Matrix -/
def c99 : XFn :=
 ⟨[.tmp 8],
  (.seq (.reg [⟨(some 8), .mv (.const (.bool false)), none, false⟩])
  (.seq (.seq (.reg [⟨(some 11), .mv (.tmp 1), none, false⟩,
   ⟨(some 12), .len (.tmp 11), none, false⟩,
   ⟨(some 13), .mv (.tmp 2), none, false⟩,
   ⟨(some 14), .bin .neq (.tmp 12) (.tmp 13), none, false⟩])
  (.cond (.tmp 14) (.seq (.reg [⟨(some 8), .mv (.const (.bool false)), none, false⟩])
  .ret) .skip))
  (.seq (.seq (.reg [⟨(some 9), .mv (.const (.int .i64 0)), none, false⟩])
  (.blk 0 (.loop (.seq (.seq (.reg [⟨(some 15), .mv (.tmp 9), none, false⟩,
   ⟨(some 16), .mv (.tmp 1), none, false⟩,
   ⟨(some 17), .len (.tmp 16), none, false⟩,
   ⟨(some 18), .bin .lss (.tmp 15) (.tmp 17), none, false⟩])
  (.cond (.tmp 18) .skip (.exit 0)))
  (.seq (.blk 1 (.seq (.seq (.reg [⟨(some 21), .mv (.tmp 1), none, false⟩,
   ⟨(some 22), .mv (.tmp 9), none, false⟩,
   ⟨(some 23), .ixs 1 (.tmp 21) (.tmp 22), none, false⟩,
   ⟨(some 24), .load1 (.tmp 23), none, false⟩,
   ⟨(some 25), .len (.tmp 24), none, false⟩,
   ⟨(some 26), .mv (.tmp 3), none, false⟩,
   ⟨(some 27), .bin .neq (.tmp 25) (.tmp 26), none, false⟩])
  (.cond (.tmp 27) (.seq (.reg [⟨(some 8), .mv (.const (.bool false)), none, false⟩])
  .ret) .skip))
  (.seq (.reg [⟨(some 10), .mv (.const (.int .i64 0)), none, false⟩])
  (.blk 2 (.loop (.seq (.seq (.reg [⟨(some 28), .mv (.tmp 10), none, false⟩,
   ⟨(some 29), .mv (.tmp 1), none, false⟩,
   ⟨(some 30), .mv (.tmp 9), none, false⟩,
   ⟨(some 31), .ixs 1 (.tmp 29) (.tmp 30), none, false⟩,
   ⟨(some 32), .load1 (.tmp 31), none, false⟩,
   ⟨(some 33), .len (.tmp 32), none, false⟩,
   ⟨(some 34), .bin .lss (.tmp 28) (.tmp 33), none, false⟩])
  (.cond (.tmp 34) .skip (.exit 2)))
  (.seq (.blk 3 (.seq (.reg [⟨(some 37), .mv (.tmp 1), none, false⟩,
   ⟨(some 38), .mv (.tmp 9), none, false⟩,
   ⟨(some 39), .ixs 1 (.tmp 37) (.tmp 38), none, false⟩,
   ⟨(some 40), .load1 (.tmp 39), none, false⟩,
   ⟨(some 41), .mv (.tmp 10), none, false⟩,
   ⟨(some 42), .ixs 1 (.tmp 40) (.tmp 41), none, false⟩,
   ⟨(some 43), .load1 (.tmp 42), none, false⟩,
   ⟨(some 44), .mv (.tmp 0), none, false⟩,
   ⟨(some 45), .bin .sub (.tmp 44) (.const (.int .i64 1)), none, false⟩,
   ⟨(some 46), .call (.func 115) [(.tmp 43), (.const (.int .i64 0)), (.tmp 45)], none, false⟩,
   ⟨(some 47), .un .not (.tmp 46), none, false⟩])
  (.cond (.tmp 47) (.seq (.reg [⟨(some 8), .mv (.const (.bool false)), none, false⟩])
  .ret) .skip)))
  (.reg [⟨(some 35), .mv (.tmp 10), none, false⟩,
   ⟨(some 36), .bin .add (.tmp 35) (.const (.int .i64 1)), none, false⟩,
   ⟨(some 10), .mv (.tmp 36), none, false⟩]))))))))
  (.reg [⟨(some 19), .mv (.tmp 9), none, false⟩,
   ⟨(some 20), .bin .add (.tmp 19) (.const (.int .i64 1)), none, false⟩,
   ⟨(some 9), .mv (.tmp 20), none, false⟩]))))))
  (.seq (.reg [⟨(some 8), .mv (.const (.bool true)), none, false⟩])
  .ret))))⟩

theorem s99 : compFn Try.prog Try.f99 = some c99 := by kernel_rfl

/-- loop.example/g01262/laws.toProductS -/
def c101 : XFn :=
 ⟨[.tmp 2],
  (.seq (.reg [⟨(some 2), .mv (.const (.slice none 0 0)), none, false⟩])
  (.seq (.reg [⟨(some 5), .mv (.tmp 0), none, false⟩,
   ⟨(some 6), .len (.tmp 5), none, false⟩,
   ⟨(some 7), .mks 155 27 27 [.int .u8 0, .int .u8 0, .int .u8 0, .int .u8 0, .int .u8 0, .int .u8 0, .int .u8 0, .int .u8 0, .int .u8 0, .int .u8 0, .int .u8 0, .int .u8 0, .int .u8 0, .int .u8 0, .int .u8 0, .int .u8 0, .int .u8 0, .int .u8 0, .int .u8 0, .int .u8 0, .int .u8 0, .int .u8 0, .int .u8 0, .int .u8 0, .int .u8 0, .int .u8 0, .int .u8 0] (.tmp 6), none, false⟩,
   ⟨(some 3), .mv (.tmp 7), none, false⟩])
  (.seq (.seq (.reg [⟨(some 4), .mv (.const (.int .i64 0)), none, false⟩])
  (.blk 0 (.loop (.seq (.seq (.reg [⟨(some 8), .mv (.tmp 4), none, false⟩,
   ⟨(some 9), .mv (.tmp 0), none, false⟩,
   ⟨(some 10), .len (.tmp 9), none, false⟩,
   ⟨(some 11), .bin .lss (.tmp 8) (.tmp 10), none, false⟩])
  (.cond (.tmp 11) .skip (.exit 0)))
  (.seq (.blk 1 (.reg [⟨(some 14), .mv (.tmp 3), none, false⟩,
   ⟨(some 15), .mv (.tmp 4), none, false⟩,
   ⟨(some 16), .mv (.tmp 0), none, false⟩,
   ⟨(some 17), .mv (.tmp 4), none, false⟩,
   ⟨(some 18), .ixs 27 (.tmp 16) (.tmp 17), none, false⟩,
   ⟨(some 19), .loadn 27 (.tmp 18), none, false⟩,
   ⟨(some 20), .call (.func 135) [(.tmp 19)], none, false⟩,
   ⟨(some 21), .ixs 27 (.tmp 14) (.tmp 15), none, false⟩,
   ⟨none, .store 27 (.tmp 21) (.tmp 20), none, false⟩]))
  (.reg [⟨(some 12), .mv (.tmp 4), none, false⟩,
   ⟨(some 13), .bin .add (.tmp 12) (.const (.int .i64 1)), none, false⟩,
   ⟨(some 4), .mv (.tmp 13), none, false⟩]))))))
  (.seq (.reg [⟨(some 22), .mv (.tmp 3), none, false⟩,
   ⟨(some 2), .mv (.tmp 22), none, false⟩])
  .ret))))⟩

theorem s101 : compFn Try.prog Try.f101 = some c101 := by kernel_rfl

/-- loop.example/g01262/impl.matricesCode -/
def c102 : XFn :=
 ⟨[.tmp 6],
  (.seq (.reg [⟨(some 3), .box 71 (.tmp 0), none, false⟩,
   ⟨(some 6), .mv (.const (.int .i64 0)), none, false⟩])
  (.seq (.blk 0 (.seq (.reg [⟨(some 8), .loadn 5 (.tmp 3), none, false⟩,
   ⟨(some 9), .call (.func 136) [(.tmp 8)], none, false⟩,
   ⟨(some 10), .un .not (.tmp 9), none, false⟩,
   ⟨(some 7), .mv (.tmp 10), none, false⟩])
  (.cond (.tmp 7) (.seq (.reg [⟨(some 6), .mv (.const (.int .i64 1)), none, false⟩])
  .ret) (.seq (.reg [⟨(some 12), .fadr 0 (.tmp 3), none, false⟩,
   ⟨(some 13), .load1 (.tmp 12), none, false⟩,
   ⟨(some 14), .fadr 1 (.tmp 3), none, false⟩,
   ⟨(some 15), .load1 (.tmp 14), none, false⟩,
   ⟨(some 16), .fadr 2 (.tmp 3), none, false⟩,
   ⟨(some 17), .load1 (.tmp 16), none, false⟩,
   ⟨(some 18), .mv (.tmp 1), none, false⟩,
   ⟨(some 19), .call (.func 128) [(.tmp 13), (.tmp 15), (.tmp 17), (.tmp 18)], none, false⟩,
   ⟨(some 20), .un .not (.tmp 19), none, false⟩,
   ⟨(some 21), .mv (.tmp 20), none, false⟩,
   ⟨(some 22), .fadr 0 (.tmp 3), (some (21, false)), false⟩,
   ⟨(some 23), .load1 (.tmp 22), (some (21, false)), false⟩,
   ⟨(some 24), .fadr 2 (.tmp 3), (some (21, false)), false⟩,
   ⟨(some 25), .load1 (.tmp 24), (some (21, false)), false⟩,
   ⟨(some 26), .fadr 3 (.tmp 3), (some (21, false)), false⟩,
   ⟨(some 27), .load1 (.tmp 26), (some (21, false)), false⟩,
   ⟨(some 28), .mv (.tmp 2), (some (21, false)), false⟩,
   ⟨(some 29), .call (.func 128) [(.tmp 23), (.tmp 25), (.tmp 27), (.tmp 28)], (some (21, false)), false⟩,
   ⟨(some 30), .un .not (.tmp 29), (some (21, false)), false⟩,
   ⟨(some 31), .pick (.tmp 21) (.const (.bool true)) (.tmp 30), none, false⟩,
   ⟨(some 11), .mv (.tmp 31), none, false⟩])
  (.cond (.tmp 11) (.seq (.reg [⟨(some 6), .mv (.const (.int .i64 2)), none, false⟩])
  .ret) .skip)))))
  (.seq (.reg [⟨(some 6), .mv (.const (.int .i64 0)), none, false⟩])
  .ret)))⟩

theorem s102 : compFn Try.prog Try.f102 = some c102 := by kernel_rfl

/-- loop.example/g01262/impl.parted -/
def c103 : XFn :=
 ⟨[.tmp 4],
  (.seq (.reg [⟨(some 4), .mv (.const (.slice none 0 0)), none, false⟩])
  (.seq (.reg [⟨(some 7), .bslice 22 1 0 [.slice none 0 0] [], none, false⟩,
   ⟨(some 5), .mv (.tmp 7), none, false⟩])
  (.seq (.seq (.reg [⟨(some 6), .mv (.const (.int .i64 0)), none, false⟩])
  (.blk 0 (.loop (.seq (.seq (.reg [⟨(some 8), .mv (.tmp 6), none, false⟩,
   ⟨(some 9), .mv (.tmp 0), none, false⟩,
   ⟨(some 10), .len (.tmp 9), none, false⟩,
   ⟨(some 11), .bin .lss (.tmp 8) (.tmp 10), none, false⟩])
  (.cond (.tmp 11) .skip (.exit 0)))
  (.seq (.blk 1 (.reg [⟨(some 15), .mv (.tmp 5), none, false⟩,
   ⟨(some 16), .mv (.tmp 0), none, false⟩,
   ⟨(some 17), .mv (.tmp 6), none, false⟩,
   ⟨(some 18), .mv (.tmp 6), none, false⟩,
   ⟨(some 19), .mv (.tmp 1), none, false⟩,
   ⟨(some 20), .bin .add (.tmp 18) (.tmp 19), none, false⟩,
   ⟨(some 21), .slc 1 (.tmp 16) (some (.tmp 17)) (some (.tmp 20)), none, false⟩,
   ⟨(some 22), .call (.func 126) [(.tmp 21)], none, false⟩,
   ⟨(some 23), .bslice 22 1 1 [.slice none 0 0] [(0, 1, (.tmp 22))], none, false⟩,
   ⟨(some 24), .app 22 1 24 (.tmp 15) (.tmp 23), none, false⟩,
   ⟨(some 5), .mv (.tmp 24), none, false⟩]))
  (.reg [⟨(some 12), .mv (.tmp 6), none, false⟩,
   ⟨(some 13), .mv (.tmp 1), none, false⟩,
   ⟨(some 14), .bin .add (.tmp 12) (.tmp 13), none, false⟩,
   ⟨(some 6), .mv (.tmp 14), none, false⟩]))))))
  (.seq (.reg [⟨(some 25), .mv (.tmp 5), none, false⟩,
   ⟨(some 4), .mv (.tmp 25), none, false⟩])
  .ret))))⟩

theorem s103 : compFn Try.prog Try.f103 = some c103 := by kernel_rfl

/-- slices.Concat[[]int64,int64] -/
def c105 : XFn :=
 ⟨[.tmp 2],
  (.seq (.reg [⟨(some 2), .mv (.const (.slice none 0 0)), none, false⟩])
  (.seq (.reg [⟨(some 3), .mv (.const (.int .i64 0)), none, false⟩])
  (.seq (.seq (.reg [⟨(some 9), .mv (.tmp 0), none, false⟩,
   ⟨(some 10), .len (.tmp 9), none, false⟩,
   ⟨(some 11), .mv (.const (.int .i64 0)), none, false⟩])
  (.blk 0 (.loop (.seq (.reg [⟨(some 12), .bin .lss (.tmp 11) (.tmp 10), none, false⟩])
  (.seq (.cond (.tmp 12) .skip (.exit 0))
  (.seq (.blk 1 (.seq (.reg [⟨(some 13), .ixs 1 (.tmp 9) (.tmp 11), none, false⟩,
   ⟨(some 14), .load1 (.tmp 13), none, false⟩,
   ⟨(some 5), .mv (.tmp 14), none, false⟩])
  (.seq (.reg [⟨(some 15), .mv (.tmp 3), none, false⟩,
   ⟨(some 16), .mv (.tmp 5), none, false⟩,
   ⟨(some 17), .len (.tmp 16), none, false⟩,
   ⟨(some 18), .bin .add (.tmp 15) (.tmp 17), none, false⟩,
   ⟨(some 3), .mv (.tmp 18), none, false⟩])
  (.seq (.reg [⟨(some 19), .mv (.tmp 3), none, false⟩,
   ⟨(some 20), .bin .lss (.tmp 19) (.const (.int .i64 0)), none, false⟩])
  (.cond (.tmp 20) (.reg [⟨(some 21), .fail, none, false⟩,
   ⟨none, .fail, none, false⟩]) .skip)))))
  (.reg [⟨(some 22), .bin .add (.tmp 11) (.const (.int .i64 1)), none, false⟩,
   ⟨(some 11), .mv (.tmp 22), none, false⟩])))))))
  (.seq (.reg [⟨(some 23), .mv (.tmp 3), none, false⟩,
   ⟨(some 24), .call (.func 138) [(.const (.slice none 0 0)), (.tmp 23)], none, false⟩,
   ⟨(some 6), .mv (.tmp 24), none, false⟩])
  (.seq (.seq (.reg [⟨(some 25), .mv (.tmp 0), none, false⟩,
   ⟨(some 26), .len (.tmp 25), none, false⟩,
   ⟨(some 27), .mv (.const (.int .i64 0)), none, false⟩])
  (.blk 2 (.loop (.seq (.reg [⟨(some 28), .bin .lss (.tmp 27) (.tmp 26), none, false⟩])
  (.seq (.cond (.tmp 28) .skip (.exit 2))
  (.seq (.blk 3 (.seq (.reg [⟨(some 29), .ixs 1 (.tmp 25) (.tmp 27), none, false⟩,
   ⟨(some 30), .load1 (.tmp 29), none, false⟩,
   ⟨(some 8), .mv (.tmp 30), none, false⟩])
  (.reg [⟨(some 31), .mv (.tmp 6), none, false⟩,
   ⟨(some 32), .mv (.tmp 8), none, false⟩,
   ⟨(some 33), .app 2 1 8 (.tmp 31) (.tmp 32), none, false⟩,
   ⟨(some 6), .mv (.tmp 33), none, false⟩])))
  (.reg [⟨(some 34), .bin .add (.tmp 27) (.const (.int .i64 1)), none, false⟩,
   ⟨(some 27), .mv (.tmp 34), none, false⟩])))))))
  (.seq (.reg [⟨(some 35), .mv (.tmp 6), none, false⟩,
   ⟨(some 2), .mv (.tmp 35), none, false⟩])
  .ret))))))⟩

theorem s105 : compFn Try.prog Try.f105 = some c105 := by kernel_rfl

/-- loop.example/g01262/laws.eqProductS -/
def c106 : XFn :=
 ⟨[.tmp 4],
  (.seq (.reg [⟨(some 4), .mv (.const (.bool false)), none, false⟩])
  (.seq (.seq (.reg [⟨(some 6), .mv (.tmp 0), none, false⟩,
   ⟨(some 7), .len (.tmp 6), none, false⟩,
   ⟨(some 8), .mv (.tmp 1), none, false⟩,
   ⟨(some 9), .len (.tmp 8), none, false⟩,
   ⟨(some 10), .bin .neq (.tmp 7) (.tmp 9), none, false⟩])
  (.cond (.tmp 10) (.seq (.reg [⟨(some 4), .mv (.const (.bool false)), none, false⟩])
  .ret) .skip))
  (.seq (.seq (.reg [⟨(some 5), .mv (.const (.int .i64 0)), none, false⟩])
  (.blk 0 (.loop (.seq (.seq (.reg [⟨(some 11), .mv (.tmp 5), none, false⟩,
   ⟨(some 12), .mv (.tmp 0), none, false⟩,
   ⟨(some 13), .len (.tmp 12), none, false⟩,
   ⟨(some 14), .bin .lss (.tmp 11) (.tmp 13), none, false⟩])
  (.cond (.tmp 14) .skip (.exit 0)))
  (.seq (.blk 1 (.seq (.reg [⟨(some 17), .mv (.tmp 0), none, false⟩,
   ⟨(some 18), .mv (.tmp 5), none, false⟩,
   ⟨(some 19), .ixs 27 (.tmp 17) (.tmp 18), none, false⟩,
   ⟨(some 20), .loadn 27 (.tmp 19), none, false⟩,
   ⟨(some 21), .mv (.tmp 1), none, false⟩,
   ⟨(some 22), .mv (.tmp 5), none, false⟩,
   ⟨(some 23), .ixs 27 (.tmp 21) (.tmp 22), none, false⟩,
   ⟨(some 24), .loadn 27 (.tmp 23), none, false⟩,
   ⟨(some 25), .call (.func 139) [(.tmp 20), (.tmp 24)], none, false⟩,
   ⟨(some 26), .un .not (.tmp 25), none, false⟩])
  (.cond (.tmp 26) (.seq (.reg [⟨(some 4), .mv (.const (.bool false)), none, false⟩])
  .ret) .skip)))
  (.reg [⟨(some 15), .mv (.tmp 5), none, false⟩,
   ⟨(some 16), .bin .add (.tmp 15) (.const (.int .i64 1)), none, false⟩,
   ⟨(some 5), .mv (.tmp 16), none, false⟩]))))))
  (.seq (.reg [⟨(some 4), .mv (.const (.bool true)), none, false⟩])
  .ret))))⟩

theorem s106 : compFn Try.prog Try.f106 = some c106 := by kernel_rfl

/-- loop.example/g01262/laws.markProductS -/
def c107 : XFn :=
 ⟨[.tmp 4],
  (.seq (.reg [⟨(some 4), .mv (.const (.int .i64 0)), none, false⟩])
  (.seq (.seq (.reg [⟨(some 5), .mv (.const (.int .i64 0)), none, false⟩])
  (.blk 0 (.loop (.seq (.seq (.reg [⟨(some 9), .mv (.tmp 5), none, false⟩,
   ⟨(some 10), .mv (.tmp 0), none, false⟩,
   ⟨(some 11), .len (.tmp 10), none, false⟩,
   ⟨(some 12), .bin .lss (.tmp 9) (.tmp 11), none, false⟩])
  (.cond (.tmp 12) .skip (.exit 0)))
  (.seq (.blk 1 (.seq (.seq (.reg [⟨(some 6), .mv (.const (.int .i64 0)), none, false⟩])
  (.blk 2 (.loop (.seq (.seq (.reg [⟨(some 15), .mv (.tmp 6), none, false⟩,
   ⟨(some 16), .bin .lss (.tmp 15) (.const (.int .i64 9)), none, false⟩])
  (.cond (.tmp 16) .skip (.exit 2)))
  (.seq (.blk 3 (.seq (.reg [⟨(some 19), .mv (.tmp 0), none, false⟩,
   ⟨(some 20), .mv (.tmp 5), none, false⟩,
   ⟨(some 21), .mv (.tmp 6), none, false⟩,
   ⟨(some 22), .mv (.tmp 1), none, false⟩,
   ⟨(some 23), .conv .u8 (.tmp 22), none, false⟩,
   ⟨(some 24), .ixs 27 (.tmp 19) (.tmp 20), none, false⟩,
   ⟨(some 25), .fadr 0 (.tmp 24), none, false⟩,
   ⟨(some 26), .ixa 9 1 (.tmp 25) (.tmp 21), none, false⟩,
   ⟨none, .store 1 (.tmp 26) (.tmp 23), none, false⟩])
  (.reg [⟨(some 27), .mv (.tmp 1), none, false⟩,
   ⟨(some 28), .bin .add (.tmp 27) (.const (.int .i64 1)), none, false⟩,
   ⟨(some 1), .mv (.tmp 28), none, false⟩])))
  (.reg [⟨(some 17), .mv (.tmp 6), none, false⟩,
   ⟨(some 18), .bin .add (.tmp 17) (.const (.int .i64 1)), none, false⟩,
   ⟨(some 6), .mv (.tmp 18), none, false⟩]))))))
  (.seq (.seq (.reg [⟨(some 7), .mv (.const (.int .i64 0)), none, false⟩])
  (.blk 4 (.loop (.seq (.seq (.reg [⟨(some 29), .mv (.tmp 7), none, false⟩,
   ⟨(some 30), .bin .lss (.tmp 29) (.const (.int .i64 9)), none, false⟩])
  (.cond (.tmp 30) .skip (.exit 4)))
  (.seq (.blk 5 (.seq (.reg [⟨(some 33), .mv (.tmp 0), none, false⟩,
   ⟨(some 34), .mv (.tmp 5), none, false⟩,
   ⟨(some 35), .mv (.tmp 7), none, false⟩,
   ⟨(some 36), .mv (.tmp 1), none, false⟩,
   ⟨(some 37), .conv .u8 (.tmp 36), none, false⟩,
   ⟨(some 38), .ixs 27 (.tmp 33) (.tmp 34), none, false⟩,
   ⟨(some 39), .fadr 9 (.tmp 38), none, false⟩,
   ⟨(some 40), .ixa 9 1 (.tmp 39) (.tmp 35), none, false⟩,
   ⟨none, .store 1 (.tmp 40) (.tmp 37), none, false⟩])
  (.reg [⟨(some 41), .mv (.tmp 1), none, false⟩,
   ⟨(some 42), .bin .add (.tmp 41) (.const (.int .i64 1)), none, false⟩,
   ⟨(some 1), .mv (.tmp 42), none, false⟩])))
  (.reg [⟨(some 31), .mv (.tmp 7), none, false⟩,
   ⟨(some 32), .bin .add (.tmp 31) (.const (.int .i64 1)), none, false⟩,
   ⟨(some 7), .mv (.tmp 32), none, false⟩]))))))
  (.seq (.reg [⟨(some 8), .mv (.const (.int .i64 0)), none, false⟩])
  (.blk 6 (.loop (.seq (.seq (.reg [⟨(some 43), .mv (.tmp 8), none, false⟩,
   ⟨(some 44), .bin .lss (.tmp 43) (.const (.int .i64 9)), none, false⟩])
  (.cond (.tmp 44) .skip (.exit 6)))
  (.seq (.blk 7 (.seq (.reg [⟨(some 47), .mv (.tmp 0), none, false⟩,
   ⟨(some 48), .mv (.tmp 5), none, false⟩,
   ⟨(some 49), .mv (.tmp 8), none, false⟩,
   ⟨(some 50), .mv (.tmp 1), none, false⟩,
   ⟨(some 51), .conv .u8 (.tmp 50), none, false⟩,
   ⟨(some 52), .ixs 27 (.tmp 47) (.tmp 48), none, false⟩,
   ⟨(some 53), .fadr 18 (.tmp 52), none, false⟩,
   ⟨(some 54), .ixa 9 1 (.tmp 53) (.tmp 49), none, false⟩,
   ⟨none, .store 1 (.tmp 54) (.tmp 51), none, false⟩])
  (.reg [⟨(some 55), .mv (.tmp 1), none, false⟩,
   ⟨(some 56), .bin .add (.tmp 55) (.const (.int .i64 1)), none, false⟩,
   ⟨(some 1), .mv (.tmp 56), none, false⟩])))
  (.reg [⟨(some 45), .mv (.tmp 8), none, false⟩,
   ⟨(some 46), .bin .add (.tmp 45) (.const (.int .i64 1)), none, false⟩,
   ⟨(some 8), .mv (.tmp 46), none, false⟩])))))))))
  (.reg [⟨(some 13), .mv (.tmp 5), none, false⟩,
   ⟨(some 14), .bin .add (.tmp 13) (.const (.int .i64 1)), none, false⟩,
   ⟨(some 5), .mv (.tmp 14), none, false⟩]))))))
  (.seq (.reg [⟨(some 57), .mv (.tmp 1), none, false⟩,
   ⟨(some 4), .mv (.tmp 57), none, false⟩])
  .ret)))⟩

theorem s107 : compFn Try.prog Try.f107 = some c107 := by kernel_rfl

/-- loop.example/g01262/spec.l07Code -/
def c108 : XFn :=
 ⟨[.tmp 2],
  (.seq (.reg [⟨(some 1), .box 71 (.tmp 0), none, false⟩,
   ⟨(some 2), .mv (.const (.int .i64 0)), none, false⟩])
  (.seq (.blk 0 (.seq (.reg [⟨(some 4), .loadn 5 (.tmp 1), none, false⟩,
   ⟨(some 5), .call (.func 98) [(.tmp 4)], none, false⟩,
   ⟨(some 6), .un .not (.tmp 5), none, false⟩,
   ⟨(some 3), .mv (.tmp 6), none, false⟩])
  (.cond (.tmp 3) (.seq (.reg [⟨(some 2), .mv (.const (.int .i64 1)), none, false⟩])
  .ret) (.seq (.reg [⟨(some 8), .fadr 4 (.tmp 1), none, false⟩,
   ⟨(some 9), .load1 (.tmp 8), none, false⟩,
   ⟨(some 10), .len (.tmp 9), none, false⟩,
   ⟨(some 11), .bin .eql (.tmp 10) (.const (.int .i64 0)), none, false⟩,
   ⟨(some 7), .mv (.tmp 11), none, false⟩])
  (.cond (.tmp 7) (.seq (.reg [⟨(some 2), .mv (.const (.int .i64 5)), none, false⟩])
  .ret) .skip)))))
  (.seq (.reg [⟨(some 2), .mv (.const (.int .i64 0)), none, false⟩])
  .ret)))⟩

theorem s108 : compFn Try.prog Try.f108 = some c108 := by kernel_rfl

/-- loop.example/g01262/spec.l07Programs -/
def c109 : XFn :=
 ⟨[.tmp 4],
  (.seq (.reg [⟨(some 2), .box 71 (.tmp 0), none, false⟩,
   ⟨(some 4), .mv (.const (.slice none 0 0)), none, false⟩])
  (.seq (.reg [⟨(some 16), .loadn 5 (.tmp 2), none, false⟩,
   ⟨(some 17), .call (.func 140) [(.tmp 16)], none, false⟩,
   ⟨(some 15), .mv (.tmp 17), none, false⟩,
   ⟨(some 18), .ext (.tmp 15) 0, none, false⟩,
   ⟨(some 19), .ext (.tmp 15) 1, none, false⟩,
   ⟨(some 20), .ext (.tmp 15) 2, none, false⟩,
   ⟨(some 5), .mv (.tmp 18), none, false⟩,
   ⟨(some 6), .mv (.tmp 19), none, false⟩,
   ⟨(some 7), .mv (.tmp 20), none, false⟩])
  (.seq (.reg [⟨(some 21), .bslice 22 1 0 [.slice none 0 0] [], none, false⟩,
   ⟨(some 22), .bslice 22 1 0 [.slice none 0 0] [], none, false⟩,
   ⟨(some 23), .bslice 22 1 0 [.slice none 0 0] [], none, false⟩,
   ⟨(some 8), .mv (.tmp 21), none, false⟩,
   ⟨(some 9), .mv (.tmp 22), none, false⟩,
   ⟨(some 10), .mv (.tmp 23), none, false⟩])
  (.seq (.seq (.reg [⟨(some 11), .mv (.const (.int .i64 0)), none, false⟩])
  (.blk 0 (.loop (.seq (.seq (.reg [⟨(some 24), .mv (.tmp 11), none, false⟩,
   ⟨(some 25), .fadr 4 (.tmp 2), none, false⟩,
   ⟨(some 26), .load1 (.tmp 25), none, false⟩,
   ⟨(some 27), .len (.tmp 26), none, false⟩,
   ⟨(some 28), .bin .lss (.tmp 24) (.tmp 27), none, false⟩])
  (.cond (.tmp 28) .skip (.exit 0)))
  (.seq (.blk 1 (.seq (.reg [⟨(some 31), .mv (.tmp 8), none, false⟩,
   ⟨(some 32), .fadr 4 (.tmp 2), none, false⟩,
   ⟨(some 33), .load1 (.tmp 32), none, false⟩,
   ⟨(some 34), .mv (.tmp 11), none, false⟩,
   ⟨(some 35), .ixs 27 (.tmp 33) (.tmp 34), none, false⟩,
   ⟨(some 36), .fadr 0 (.tmp 35), none, false⟩,
   ⟨(some 37), .loadn 9 (.tmp 36), none, false⟩,
   ⟨(some 38), .mv (.tmp 5), none, false⟩,
   ⟨(some 39), .call (.func 141) [(.tmp 37), (.tmp 38)], none, false⟩,
   ⟨(some 40), .bslice 22 1 1 [.slice none 0 0] [(0, 1, (.tmp 39))], none, false⟩,
   ⟨(some 41), .app 22 1 24 (.tmp 31) (.tmp 40), none, false⟩,
   ⟨(some 8), .mv (.tmp 41), none, false⟩])
  (.reg [⟨(some 42), .mv (.tmp 9), none, false⟩,
   ⟨(some 43), .fadr 4 (.tmp 2), none, false⟩,
   ⟨(some 44), .load1 (.tmp 43), none, false⟩,
   ⟨(some 45), .mv (.tmp 11), none, false⟩,
   ⟨(some 46), .ixs 27 (.tmp 44) (.tmp 45), none, false⟩,
   ⟨(some 47), .fadr 9 (.tmp 46), none, false⟩,
   ⟨(some 48), .loadn 9 (.tmp 47), none, false⟩,
   ⟨(some 49), .mv (.tmp 6), none, false⟩,
   ⟨(some 50), .call (.func 141) [(.tmp 48), (.tmp 49)], none, false⟩,
   ⟨(some 51), .bslice 22 1 1 [.slice none 0 0] [(0, 1, (.tmp 50))], none, false⟩,
   ⟨(some 52), .app 22 1 24 (.tmp 42) (.tmp 51), none, false⟩,
   ⟨(some 9), .mv (.tmp 52), none, false⟩])))
  (.reg [⟨(some 29), .mv (.tmp 11), none, false⟩,
   ⟨(some 30), .bin .add (.tmp 29) (.const (.int .i64 1)), none, false⟩,
   ⟨(some 11), .mv (.tmp 30), none, false⟩]))))))
  (.seq (.seq (.reg [⟨(some 12), .mv (.const (.int .i64 0)), none, false⟩])
  (.blk 2 (.loop (.seq (.seq (.reg [⟨(some 53), .mv (.tmp 12), none, false⟩,
   ⟨(some 54), .mv (.tmp 7), none, false⟩,
   ⟨(some 55), .bin .lss (.tmp 53) (.tmp 54), none, false⟩])
  (.cond (.tmp 55) .skip (.exit 2)))
  (.seq (.blk 3 (.seq (.reg [⟨(some 58), .bslice 2 1 0 [.int .i64 0] [], none, false⟩,
   ⟨(some 13), .mv (.tmp 58), none, false⟩])
  (.seq (.seq (.reg [⟨(some 14), .mv (.const (.int .i64 0)), none, false⟩])
  (.blk 4 (.loop (.seq (.seq (.reg [⟨(some 59), .mv (.tmp 14), none, false⟩,
   ⟨(some 60), .fadr 4 (.tmp 2), none, false⟩,
   ⟨(some 61), .load1 (.tmp 60), none, false⟩,
   ⟨(some 62), .len (.tmp 61), none, false⟩,
   ⟨(some 63), .bin .lss (.tmp 59) (.tmp 62), none, false⟩])
  (.cond (.tmp 63) .skip (.exit 4)))
  (.seq (.blk 5 (.reg [⟨(some 66), .mv (.tmp 13), none, false⟩,
   ⟨(some 67), .fadr 4 (.tmp 2), none, false⟩,
   ⟨(some 68), .load1 (.tmp 67), none, false⟩,
   ⟨(some 69), .mv (.tmp 14), none, false⟩,
   ⟨(some 70), .mv (.tmp 12), none, false⟩,
   ⟨(some 71), .ixs 27 (.tmp 68) (.tmp 69), none, false⟩,
   ⟨(some 72), .fadr 18 (.tmp 71), none, false⟩,
   ⟨(some 73), .ixa 9 1 (.tmp 72) (.tmp 70), none, false⟩,
   ⟨(some 74), .load1 (.tmp 73), none, false⟩,
   ⟨(some 75), .conv .i64 (.tmp 74), none, false⟩,
   ⟨(some 76), .bslice 2 1 1 [.int .i64 0] [(0, 1, (.tmp 75))], none, false⟩,
   ⟨(some 77), .app 2 1 8 (.tmp 66) (.tmp 76), none, false⟩,
   ⟨(some 13), .mv (.tmp 77), none, false⟩]))
  (.reg [⟨(some 64), .mv (.tmp 14), none, false⟩,
   ⟨(some 65), .bin .add (.tmp 64) (.const (.int .i64 1)), none, false⟩,
   ⟨(some 14), .mv (.tmp 65), none, false⟩]))))))
  (.reg [⟨(some 78), .mv (.tmp 10), none, false⟩,
   ⟨(some 79), .mv (.tmp 13), none, false⟩,
   ⟨(some 80), .bslice 22 1 1 [.slice none 0 0] [(0, 1, (.tmp 79))], none, false⟩,
   ⟨(some 81), .app 22 1 24 (.tmp 78) (.tmp 80), none, false⟩,
   ⟨(some 10), .mv (.tmp 81), none, false⟩]))))
  (.reg [⟨(some 56), .mv (.tmp 12), none, false⟩,
   ⟨(some 57), .bin .add (.tmp 56) (.const (.int .i64 1)), none, false⟩,
   ⟨(some 12), .mv (.tmp 57), none, false⟩]))))))
  (.seq (.reg [⟨(some 82), .fadr 0 (.tmp 2), none, false⟩,
   ⟨(some 83), .load1 (.tmp 82), none, false⟩,
   ⟨(some 84), .mv (.tmp 5), none, false⟩,
   ⟨(some 85), .mv (.tmp 8), none, false⟩,
   ⟨(some 86), .mv (.tmp 1), none, false⟩,
   ⟨(some 87), .call (.func 142) [(.tmp 83), (.tmp 84), (.tmp 85), (.tmp 86)], none, true⟩,
   ⟨(some 88), .fadr 0 (.tmp 2), none, false⟩,
   ⟨(some 89), .load1 (.tmp 88), none, false⟩,
   ⟨(some 90), .mv (.tmp 6), none, false⟩,
   ⟨(some 91), .mv (.tmp 9), none, false⟩,
   ⟨(some 92), .mv (.tmp 1), none, false⟩,
   ⟨(some 93), .call (.func 142) [(.tmp 89), (.tmp 90), (.tmp 91), (.tmp 92)], none, true⟩,
   ⟨(some 94), .fadr 0 (.tmp 2), none, false⟩,
   ⟨(some 95), .load1 (.tmp 94), none, false⟩,
   ⟨(some 96), .fadr 4 (.tmp 2), none, false⟩,
   ⟨(some 97), .load1 (.tmp 96), none, false⟩,
   ⟨(some 98), .len (.tmp 97), none, false⟩,
   ⟨(some 99), .mv (.tmp 10), none, false⟩,
   ⟨(some 100), .mv (.tmp 1), none, false⟩,
   ⟨(some 101), .call (.func 142) [(.tmp 95), (.tmp 98), (.tmp 99), (.tmp 100)], none, false⟩,
   ⟨(some 102), .bslice 48 4 3 [.int .i64 0, .int .i64 0, .slice none 0 0, .slice none 0 0] [(0, 4, (.tmp 87)), (4, 4, (.tmp 93)), (8, 4, (.tmp 101))], none, false⟩,
   ⟨(some 4), .mv (.tmp 102), none, false⟩])
  .ret))))))⟩

theorem s109 : compFn Try.prog Try.f109 = some c109 := by kernel_rfl

/-- loop.example/g01262/impl.programsOf -/
def c111 : XFn :=
 ⟨[.tmp 4],
  (.seq (.reg [⟨(some 2), .box 71 (.tmp 0), none, false⟩,
   ⟨(some 3), .box 4 (.tmp 1), none, false⟩,
   ⟨(some 4), .mv (.const (.slice none 0 0)), none, false⟩])
  (.seq (.reg [⟨(some 8), .loadn 5 (.tmp 2), none, false⟩,
   ⟨(some 9), .call (.func 143) [(.tmp 8)], none, false⟩,
   ⟨(some 10), .bslice 48 4 0 [.int .i64 0, .int .i64 0, .slice none 0 0, .slice none 0 0] [], none, false⟩,
   ⟨(some 5), .alloc 167 [.int .i64 0, .int .i64 0, .int .i64 0], none, false⟩,
   ⟨(some 6), .alloc 78 [.slice none 0 0], none, false⟩,
   ⟨none, .store 3 (.tmp 5) (.tmp 9), none, false⟩,
   ⟨none, .store 1 (.tmp 6) (.tmp 10), none, false⟩])
  (.seq (.reg [⟨(some 11), .mkf 144 [(.tmp 3), (.tmp 6), (.tmp 2)], none, false⟩,
   ⟨(some 7), .mv (.tmp 11), none, false⟩])
  (.seq (.reg [⟨(some 12), .mv (.tmp 7), none, false⟩,
   ⟨(some 13), .ixa 3 1 (.tmp 5) (.const (.int .i64 0)), none, false⟩,
   ⟨(some 14), .load1 (.tmp 13), none, false⟩,
   ⟨(some 15), .loadn 5 (.tmp 2), none, false⟩,
   ⟨(some 16), .ixa 3 1 (.tmp 5) (.const (.int .i64 0)), none, false⟩,
   ⟨(some 17), .load1 (.tmp 16), none, false⟩,
   ⟨(some 18), .call (.func 145) [(.tmp 15), (.const (.int .i64 0)), (.tmp 17)], none, true⟩,
   ⟨(some 19), .call (.tmp 12) [(.tmp 14), (.tmp 18)], none, false⟩])
  (.seq (.reg [⟨(some 20), .mv (.tmp 7), none, false⟩,
   ⟨(some 21), .ixa 3 1 (.tmp 5) (.const (.int .i64 1)), none, false⟩,
   ⟨(some 22), .load1 (.tmp 21), none, false⟩,
   ⟨(some 23), .loadn 5 (.tmp 2), none, false⟩,
   ⟨(some 24), .ixa 3 1 (.tmp 5) (.const (.int .i64 1)), none, false⟩,
   ⟨(some 25), .load1 (.tmp 24), none, false⟩,
   ⟨(some 26), .call (.func 145) [(.tmp 23), (.const (.int .i64 1)), (.tmp 25)], none, true⟩,
   ⟨(some 27), .call (.tmp 20) [(.tmp 22), (.tmp 26)], none, false⟩])
  (.seq (.reg [⟨(some 28), .mv (.tmp 7), none, false⟩,
   ⟨(some 29), .fadr 4 (.tmp 2), none, false⟩,
   ⟨(some 30), .load1 (.tmp 29), none, false⟩,
   ⟨(some 31), .len (.tmp 30), none, false⟩,
   ⟨(some 32), .loadn 5 (.tmp 2), none, false⟩,
   ⟨(some 33), .ixa 3 1 (.tmp 5) (.const (.int .i64 2)), none, false⟩,
   ⟨(some 34), .load1 (.tmp 33), none, false⟩,
   ⟨(some 35), .call (.func 145) [(.tmp 32), (.const (.int .i64 2)), (.tmp 34)], none, true⟩,
   ⟨(some 36), .call (.func 94) [(.tmp 35)], none, true⟩,
   ⟨(some 37), .call (.tmp 28) [(.tmp 31), (.tmp 36)], none, false⟩])
  (.seq (.reg [⟨(some 38), .load1 (.tmp 6), none, false⟩,
   ⟨(some 4), .mv (.tmp 38), none, false⟩])
  .ret)))))))⟩

theorem s111 : compFn Try.prog Try.f111 = some c111 := by kernel_rfl

/-- loop.example/g01262/spec.l07Joined -/
def c112 : XFn :=
 ⟨[.tmp 2],
  (.seq (.reg [⟨(some 2), .mv (.const (.slice none 0 0)), none, false⟩])
  (.seq (.reg [⟨(some 5), .bslice 2 1 0 [.int .i64 0] [], none, false⟩,
   ⟨(some 3), .mv (.tmp 5), none, false⟩])
  (.seq (.seq (.reg [⟨(some 4), .mv (.const (.int .i64 0)), none, false⟩])
  (.blk 0 (.loop (.seq (.seq (.reg [⟨(some 6), .mv (.tmp 4), none, false⟩,
   ⟨(some 7), .mv (.tmp 0), none, false⟩,
   ⟨(some 8), .len (.tmp 7), none, false⟩,
   ⟨(some 9), .bin .lss (.tmp 6) (.tmp 8), none, false⟩])
  (.cond (.tmp 9) .skip (.exit 0)))
  (.seq (.blk 1 (.reg [⟨(some 12), .mv (.tmp 3), none, false⟩,
   ⟨(some 13), .mv (.tmp 0), none, false⟩,
   ⟨(some 14), .mv (.tmp 4), none, false⟩,
   ⟨(some 15), .ixs 1 (.tmp 13) (.tmp 14), none, false⟩,
   ⟨(some 16), .load1 (.tmp 15), none, false⟩,
   ⟨(some 17), .app 2 1 8 (.tmp 12) (.tmp 16), none, false⟩,
   ⟨(some 3), .mv (.tmp 17), none, false⟩]))
  (.reg [⟨(some 10), .mv (.tmp 4), none, false⟩,
   ⟨(some 11), .bin .add (.tmp 10) (.const (.int .i64 1)), none, false⟩,
   ⟨(some 4), .mv (.tmp 11), none, false⟩]))))))
  (.seq (.reg [⟨(some 18), .mv (.tmp 3), none, false⟩,
   ⟨(some 2), .mv (.tmp 18), none, false⟩])
  .ret))))⟩

theorem s112 : compFn Try.prog Try.f112 = some c112 := by kernel_rfl

/-- loop.example/g01262/spec.l01Own -/
def c113 : XFn :=
 ⟨[.tmp 2],
  (.seq (.reg [⟨(some 2), .mv (.const (.slice none 0 0)), none, false⟩])
  (.seq (.reg [⟨(some 3), .bslice 2 1 0 [.int .i64 0] [], none, false⟩,
   ⟨(some 4), .mv (.tmp 0), none, false⟩,
   ⟨(some 5), .app 2 1 8 (.tmp 3) (.tmp 4), none, false⟩,
   ⟨(some 2), .mv (.tmp 5), none, false⟩])
  .ret))⟩

theorem s113 : compFn Try.prog Try.f113 = some c113 := by kernel_rfl

/-- loop.example/g01262/spec.l01Prime -/
def c114 : XFn :=
 ⟨[.tmp 2],
  (.seq (.reg [⟨(some 2), .mv (.const (.bool false)), none, false⟩])
  (.seq (.reg [⟨(some 3), .mv (.tmp 0), none, false⟩,
   ⟨(some 4), .bin .eql (.tmp 3) (.const (.int .i64 2)), none, false⟩,
   ⟨(some 5), .mv (.tmp 4), none, false⟩,
   ⟨(some 6), .mv (.tmp 0), (some (5, false)), false⟩,
   ⟨(some 7), .bin .eql (.tmp 6) (.const (.int .i64 3)), (some (5, false)), false⟩,
   ⟨(some 8), .pick (.tmp 5) (.const (.bool true)) (.tmp 7), none, false⟩,
   ⟨(some 9), .mv (.tmp 8), none, false⟩,
   ⟨(some 10), .mv (.tmp 0), (some (9, false)), false⟩,
   ⟨(some 11), .bin .eql (.tmp 10) (.const (.int .i64 5)), (some (9, false)), false⟩,
   ⟨(some 12), .pick (.tmp 9) (.const (.bool true)) (.tmp 11), none, false⟩,
   ⟨(some 2), .mv (.tmp 12), none, false⟩])
  .ret))⟩

theorem s114 : compFn Try.prog Try.f114 = some c114 := by kernel_rfl

/-- loop.example/g01262/spec.l01In -/
def c115 : XFn :=
 ⟨[.tmp 6],
  (.seq (.reg [⟨(some 6), .mv (.const (.bool false)), none, false⟩])
  (.seq (.reg [⟨(some 7), .mv (.tmp 0), none, false⟩,
   ⟨(some 8), .mv (.tmp 1), none, false⟩,
   ⟨(some 9), .bin .geq (.tmp 7) (.tmp 8), none, false⟩,
   ⟨(some 10), .mv (.tmp 9), none, false⟩,
   ⟨(some 11), .mv (.tmp 0), (some (10, true)), false⟩,
   ⟨(some 12), .mv (.tmp 2), (some (10, true)), false⟩,
   ⟨(some 13), .bin .leq (.tmp 11) (.tmp 12), (some (10, true)), false⟩,
   ⟨(some 14), .pick (.tmp 10) (.tmp 13) (.const (.bool false)), none, false⟩,
   ⟨(some 6), .mv (.tmp 14), none, false⟩])
  .ret))⟩

theorem s115 : compFn Try.prog Try.f115 = some c115 := by kernel_rfl

/-- loop.example/g01262/spec.l01Inverse -/
def c116 : XFn :=
 ⟨[.tmp 4],
  (.seq (.reg [⟨(some 4), .mv (.const (.int .i64 0)), none, false⟩])
  (.seq (.seq (.reg [⟨(some 5), .mv (.const (.int .i64 1)), none, false⟩])
  (.blk 0 (.loop (.seq (.seq (.reg [⟨(some 6), .mv (.tmp 5), none, false⟩,
   ⟨(some 7), .mv (.tmp 0), none, false⟩,
   ⟨(some 8), .bin .lss (.tmp 6) (.tmp 7), none, false⟩])
  (.cond (.tmp 8) .skip (.exit 0)))
  (.seq (.blk 1 (.seq (.reg [⟨(some 11), .mv (.tmp 5), none, false⟩,
   ⟨(some 12), .mv (.tmp 0), none, false⟩,
   ⟨(some 13), .mv (.tmp 1), none, false⟩,
   ⟨(some 14), .call (.func 146) [(.tmp 12), (.tmp 13)], none, false⟩,
   ⟨(some 15), .bin .mul (.tmp 11) (.tmp 14), none, false⟩,
   ⟨(some 16), .mv (.tmp 0), none, false⟩,
   ⟨(some 17), .bin .rem (.tmp 15) (.tmp 16), none, false⟩,
   ⟨(some 18), .bin .eql (.tmp 17) (.const (.int .i64 1)), none, false⟩])
  (.cond (.tmp 18) (.seq (.reg [⟨(some 19), .mv (.tmp 5), none, false⟩,
   ⟨(some 4), .mv (.tmp 19), none, false⟩])
  .ret) .skip)))
  (.reg [⟨(some 9), .mv (.tmp 5), none, false⟩,
   ⟨(some 10), .bin .add (.tmp 9) (.const (.int .i64 1)), none, false⟩,
   ⟨(some 5), .mv (.tmp 10), none, false⟩]))))))
  (.seq (.reg [⟨(some 4), .mv (.const (.int .i64 0)), none, false⟩])
  .ret)))⟩

theorem s116 : compFn Try.prog Try.f116 = some c116 := by kernel_rfl

/-- loop.example/g01262/impl.isPrime -/
def c118 : XFn :=
 ⟨[.tmp 2],
  (.seq (.reg [⟨(some 2), .mv (.const (.bool false)), none, false⟩])
  (.seq (.reg [⟨(some 3), .mv (.tmp 0), none, false⟩,
   ⟨(some 4), .bin .eql (.tmp 3) (.const (.int .i64 2)), none, false⟩,
   ⟨(some 5), .mv (.tmp 4), none, false⟩,
   ⟨(some 6), .mv (.tmp 0), (some (5, false)), false⟩,
   ⟨(some 7), .bin .eql (.tmp 6) (.const (.int .i64 3)), (some (5, false)), false⟩,
   ⟨(some 8), .pick (.tmp 5) (.const (.bool true)) (.tmp 7), none, false⟩,
   ⟨(some 9), .mv (.tmp 8), none, false⟩,
   ⟨(some 10), .mv (.tmp 0), (some (9, false)), false⟩,
   ⟨(some 11), .bin .eql (.tmp 10) (.const (.int .i64 5)), (some (9, false)), false⟩,
   ⟨(some 12), .pick (.tmp 9) (.const (.bool true)) (.tmp 11), none, false⟩,
   ⟨(some 2), .mv (.tmp 12), none, false⟩])
  .ret))⟩

theorem s118 : compFn Try.prog Try.f118 = some c118 := by kernel_rfl

/-- slices.Clone[[]int64,int64] -/
def c126 : XFn :=
 ⟨[.tmp 2],
  (.seq (.reg [⟨(some 2), .mv (.const (.slice none 0 0)), none, false⟩])
  (.seq (.seq (.reg [⟨(some 3), .mv (.tmp 0), none, false⟩,
   ⟨(some 4), .isnil false (.tmp 3), none, false⟩])
  (.cond (.tmp 4) (.seq (.reg [⟨(some 2), .mv (.const (.slice none 0 0)), none, false⟩])
  .ret) .skip))
  (.seq (.reg [⟨(some 5), .bslice 2 1 0 [.int .i64 0] [], none, false⟩,
   ⟨(some 6), .mv (.tmp 0), none, false⟩,
   ⟨(some 7), .app 2 1 8 (.tmp 5) (.tmp 6), none, false⟩,
   ⟨(some 2), .mv (.tmp 7), none, false⟩])
  .ret)))⟩

theorem s126 : compFn Try.prog Try.f126 = some c126 := by kernel_rfl

/-- loop.example/g01262/spec.l07Row -/
def c127 : XFn :=
 ⟨[.celln 4 4],
  (.seq (.reg [⟨(some 2), .box 48 (.tmp 0), none, false⟩,
   ⟨(some 4), .alloc 48 [.int .i64 0, .int .i64 0, .slice none 0 0, .slice none 0 0], none, false⟩])
  (.seq (.reg [⟨(some 5), .mv (.const (.int .i64 (-1))), none, false⟩,
   ⟨(some 6), .mv (.const (.int .i64 0)), none, false⟩])
  (.seq (.seq (.reg [⟨(some 7), .mv (.const (.int .i64 0)), none, false⟩])
  (.blk 0 (.loop (.seq (.seq (.reg [⟨(some 8), .mv (.tmp 7), none, false⟩,
   ⟨(some 9), .mv (.tmp 1), none, false⟩,
   ⟨(some 10), .len (.tmp 9), none, false⟩,
   ⟨(some 11), .bin .lss (.tmp 8) (.tmp 10), none, false⟩])
  (.cond (.tmp 11) .skip (.exit 0)))
  (.seq (.blk 1 (.blk 2 (.seq (.reg [⟨(some 42), .mv (.tmp 1), none, false⟩,
   ⟨(some 43), .mv (.tmp 7), none, false⟩,
   ⟨(some 44), .ixs 1 (.tmp 42) (.tmp 43), none, false⟩,
   ⟨(some 45), .load1 (.tmp 44), none, false⟩,
   ⟨(some 46), .bin .eql (.tmp 45) (.const (.int .i64 0)), none, false⟩,
   ⟨(some 41), .mv (.tmp 46), none, false⟩])
  (.cond (.tmp 41) .skip (.seq (.reg [⟨(some 48), .mv (.tmp 5), none, false⟩,
   ⟨(some 49), .bin .lss (.tmp 48) (.const (.int .i64 0)), none, false⟩,
   ⟨(some 47), .mv (.tmp 49), none, false⟩])
  (.cond (.tmp 47) (.seq (.reg [⟨(some 50), .mv (.tmp 7), none, false⟩,
   ⟨(some 5), .mv (.tmp 50), none, false⟩])
  (.reg [⟨(some 51), .mv (.tmp 1), none, false⟩,
   ⟨(some 52), .mv (.tmp 7), none, false⟩,
   ⟨(some 53), .ixs 1 (.tmp 51) (.tmp 52), none, false⟩,
   ⟨(some 54), .load1 (.tmp 53), none, false⟩,
   ⟨(some 6), .mv (.tmp 54), none, false⟩])) (.seq (.reg [⟨(some 14), .fadr 2 (.tmp 2), none, false⟩,
   ⟨(some 15), .load1 (.tmp 14), none, false⟩,
   ⟨(some 16), .mv (.tmp 5), none, false⟩,
   ⟨(some 17), .mv (.tmp 7), none, false⟩,
   ⟨(some 18), .mv (.tmp 1), none, false⟩,
   ⟨(some 19), .mv (.tmp 7), none, false⟩,
   ⟨(some 20), .ixs 1 (.tmp 18) (.tmp 19), none, false⟩,
   ⟨(some 21), .load1 (.tmp 20), none, false⟩,
   ⟨(some 22), .fadr 0 (.tmp 2), none, false⟩,
   ⟨(some 23), .load1 (.tmp 22), none, false⟩,
   ⟨(some 24), .mv (.tmp 6), none, false⟩,
   ⟨(some 25), .call (.func 116) [(.tmp 23), (.tmp 24)], none, true⟩,
   ⟨(some 26), .bin .mul (.tmp 21) (.tmp 25), none, false⟩,
   ⟨(some 27), .fadr 0 (.tmp 2), none, false⟩,
   ⟨(some 28), .load1 (.tmp 27), none, false⟩,
   ⟨(some 29), .bin .rem (.tmp 26) (.tmp 28), none, false⟩,
   ⟨(some 30), .build [.int .i64 0, .int .i64 0, .int .i64 0] [(0, 1, (.tmp 16)), (1, 1, (.tmp 17)), (2, 1, (.tmp 29))], none, false⟩,
   ⟨(some 31), .bslice 96 3 1 [.int .i64 0, .int .i64 0, .int .i64 0] [(0, 3, (.tmp 30))], none, false⟩,
   ⟨(some 32), .app 96 3 24 (.tmp 15) (.tmp 31), none, false⟩,
   ⟨(some 33), .fadr 2 (.tmp 2), none, false⟩,
   ⟨none, .store 1 (.tmp 33) (.tmp 32), none, false⟩])
  (.reg [⟨(some 34), .fadr 1 (.tmp 2), none, false⟩,
   ⟨(some 35), .load1 (.tmp 34), none, false⟩,
   ⟨(some 36), .fadr 2 (.tmp 2), none, false⟩,
   ⟨(some 37), .load1 (.tmp 36), none, false⟩,
   ⟨(some 38), .len (.tmp 37), none, false⟩,
   ⟨(some 39), .bin .add (.tmp 35) (.tmp 38), none, false⟩,
   ⟨(some 40), .bin .sub (.tmp 39) (.const (.int .i64 1)), none, false⟩,
   ⟨(some 5), .mv (.tmp 40), none, false⟩]))))))))
  (.reg [⟨(some 12), .mv (.tmp 7), none, false⟩,
   ⟨(some 13), .bin .add (.tmp 12) (.const (.int .i64 1)), none, false⟩,
   ⟨(some 7), .mv (.tmp 13), none, false⟩]))))))
  (.seq (.reg [⟨(some 55), .fadr 3 (.tmp 2), none, false⟩,
   ⟨(some 56), .load1 (.tmp 55), none, false⟩,
   ⟨(some 57), .mv (.tmp 5), none, false⟩,
   ⟨(some 58), .mm true (.tmp 57) [(.const (.int .i64 0))], none, false⟩,
   ⟨(some 59), .mv (.tmp 6), none, false⟩,
   ⟨(some 60), .build [.int .i64 0, .int .i64 0] [(0, 1, (.tmp 58)), (1, 1, (.tmp 59))], none, false⟩,
   ⟨(some 61), .bslice 98 2 1 [.int .i64 0, .int .i64 0] [(0, 2, (.tmp 60))], none, false⟩,
   ⟨(some 62), .app 98 2 16 (.tmp 56) (.tmp 61), none, false⟩,
   ⟨(some 63), .fadr 3 (.tmp 2), none, false⟩,
   ⟨none, .store 1 (.tmp 63) (.tmp 62), none, false⟩])
  (.seq (.reg [⟨(some 64), .loadn 4 (.tmp 2), none, false⟩,
   ⟨none, .store 4 (.tmp 4) (.tmp 64), none, false⟩])
  .ret)))))⟩

theorem s127 : compFn Try.prog Try.f127 = some c127 := by kernel_rfl

/-- loop.example/g01262/impl.isMatrix -/
def c128 : XFn :=
 ⟨[.tmp 8],
  (.seq (.reg [⟨(some 8), .mv (.const (.bool false)), none, false⟩])
  (.seq (.seq (.reg [⟨(some 11), .mv (.tmp 3), none, false⟩,
   ⟨(some 12), .len (.tmp 11), none, false⟩,
   ⟨(some 13), .mv (.const (.int .i64 0)), none, false⟩])
  (.blk 0 (.loop (.seq (.reg [⟨(some 14), .bin .lss (.tmp 13) (.tmp 12), none, false⟩])
  (.seq (.cond (.tmp 14) .skip (.exit 0))
  (.seq (.blk 1 (.seq (.reg [⟨(some 15), .ixs 1 (.tmp 11) (.tmp 13), none, false⟩,
   ⟨(some 16), .load1 (.tmp 15), none, false⟩,
   ⟨(some 10), .mv (.tmp 16), none, false⟩])
  (.seq (.reg [⟨(some 17), .mv (.tmp 10), none, false⟩,
   ⟨(some 18), .len (.tmp 17), none, false⟩,
   ⟨(some 19), .mv (.tmp 2), none, false⟩,
   ⟨(some 20), .bin .neq (.tmp 18) (.tmp 19), none, false⟩,
   ⟨(some 21), .mv (.tmp 20), none, false⟩,
   ⟨(some 22), .mv (.tmp 0), (some (21, false)), false⟩,
   ⟨(some 23), .mv (.tmp 10), (some (21, false)), false⟩,
   ⟨(some 24), .call (.func 85) [(.tmp 22), (.tmp 23)], (some (21, false)), false⟩,
   ⟨(some 25), .un .not (.tmp 24), (some (21, false)), false⟩,
   ⟨(some 26), .pick (.tmp 21) (.const (.bool true)) (.tmp 25), none, false⟩])
  (.cond (.tmp 26) (.seq (.reg [⟨(some 8), .mv (.const (.bool false)), none, false⟩])
  .ret) .skip))))
  (.reg [⟨(some 27), .bin .add (.tmp 13) (.const (.int .i64 1)), none, false⟩,
   ⟨(some 13), .mv (.tmp 27), none, false⟩])))))))
  (.seq (.reg [⟨(some 28), .mv (.tmp 3), none, false⟩,
   ⟨(some 29), .len (.tmp 28), none, false⟩,
   ⟨(some 30), .mv (.tmp 1), none, false⟩,
   ⟨(some 31), .bin .eql (.tmp 29) (.tmp 30), none, false⟩,
   ⟨(some 8), .mv (.tmp 31), none, false⟩])
  .ret)))⟩

theorem s128 : compFn Try.prog Try.f128 = some c128 := by kernel_rfl

/-- loop.example/g01262/spec.l07Best -/
def c129 : XFn :=
 ⟨[.celln 4 3, .tmp 5],
  (.seq (.reg [⟨(some 4), .alloc 96 [.int .i64 0, .int .i64 0, .int .i64 0], none, false⟩,
   ⟨(some 5), .mv (.const (.int .i64 0)), none, false⟩])
  (.seq (.reg [⟨(some 16), .build [.int .i64 0, .int .i64 0, .int .i64 0] [], none, false⟩,
   ⟨(some 6), .alloc 96 [.int .i64 0, .int .i64 0, .int .i64 0], none, false⟩,
   ⟨none, .store 3 (.tmp 6) (.tmp 16), none, false⟩,
   ⟨(some 7), .mv (.const (.int .i64 0)), none, false⟩])
  (.seq (.reg [⟨(some 17), .mv (.tmp 1), none, false⟩,
   ⟨(some 18), .ixs 1 (.tmp 17) (.const (.int .i64 0)), none, false⟩,
   ⟨(some 19), .load1 (.tmp 18), none, false⟩,
   ⟨(some 20), .len (.tmp 19), none, false⟩,
   ⟨(some 8), .mv (.tmp 20), none, false⟩])
  (.seq (.seq (.reg [⟨(some 9), .mv (.const (.int .i64 0)), none, false⟩])
  (.blk 0 (.loop (.seq (.seq (.reg [⟨(some 21), .mv (.tmp 9), none, false⟩,
   ⟨(some 22), .mv (.tmp 8), none, false⟩,
   ⟨(some 23), .bin .lss (.tmp 21) (.tmp 22), none, false⟩])
  (.cond (.tmp 23) .skip (.exit 0)))
  (.seq (.blk 1 (.seq (.reg [⟨(some 26), .mv (.tmp 9), none, false⟩,
   ⟨(some 27), .bin .add (.tmp 26) (.const (.int .i64 1)), none, false⟩,
   ⟨(some 10), .mv (.tmp 27), none, false⟩])
  (.blk 2 (.loop (.seq (.seq (.reg [⟨(some 28), .mv (.tmp 10), none, false⟩,
   ⟨(some 29), .mv (.tmp 8), none, false⟩,
   ⟨(some 30), .bin .lss (.tmp 28) (.tmp 29), none, false⟩])
  (.cond (.tmp 30) .skip (.exit 2)))
  (.seq (.blk 3 (.seq (.reg [⟨(some 33), .mv (.tmp 0), none, false⟩,
   ⟨(some 34), .mks 2 1 8 [.int .i64 0] (.tmp 33), none, false⟩,
   ⟨(some 11), .mv (.tmp 34), none, false⟩])
  (.seq (.seq (.reg [⟨(some 12), .mv (.const (.int .i64 0)), none, false⟩])
  (.blk 4 (.loop (.seq (.seq (.reg [⟨(some 35), .mv (.tmp 12), none, false⟩,
   ⟨(some 36), .mv (.tmp 1), none, false⟩,
   ⟨(some 37), .len (.tmp 36), none, false⟩,
   ⟨(some 38), .bin .lss (.tmp 35) (.tmp 37), none, false⟩])
  (.cond (.tmp 38) .skip (.exit 4)))
  (.seq (.blk 5 (.seq (.reg [⟨(some 41), .mv (.tmp 1), none, false⟩,
   ⟨(some 42), .mv (.tmp 12), none, false⟩,
   ⟨(some 43), .ixs 1 (.tmp 41) (.tmp 42), none, false⟩,
   ⟨(some 44), .load1 (.tmp 43), none, false⟩,
   ⟨(some 45), .mv (.tmp 9), none, false⟩,
   ⟨(some 46), .ixs 1 (.tmp 44) (.tmp 45), none, false⟩,
   ⟨(some 47), .load1 (.tmp 46), none, false⟩,
   ⟨(some 48), .mv (.tmp 1), none, false⟩,
   ⟨(some 49), .mv (.tmp 12), none, false⟩,
   ⟨(some 50), .ixs 1 (.tmp 48) (.tmp 49), none, false⟩,
   ⟨(some 51), .load1 (.tmp 50), none, false⟩,
   ⟨(some 52), .mv (.tmp 10), none, false⟩,
   ⟨(some 53), .ixs 1 (.tmp 51) (.tmp 52), none, false⟩,
   ⟨(some 54), .load1 (.tmp 53), none, false⟩,
   ⟨(some 13), .mv (.tmp 47), none, false⟩,
   ⟨(some 14), .mv (.tmp 54), none, false⟩])
  (.seq (.reg [⟨(some 55), .mv (.tmp 13), none, false⟩,
   ⟨(some 56), .bin .neq (.tmp 55) (.const (.int .i64 0)), none, false⟩,
   ⟨(some 57), .mv (.tmp 56), none, false⟩,
   ⟨(some 58), .mv (.tmp 14), (some (57, true)), false⟩,
   ⟨(some 59), .bin .neq (.tmp 58) (.const (.int .i64 0)), (some (57, true)), false⟩,
   ⟨(some 60), .pick (.tmp 57) (.tmp 59) (.const (.bool false)), none, false⟩])
  (.cond (.tmp 60) (.reg [⟨(some 61), .mv (.tmp 11), none, false⟩,
   ⟨(some 62), .mv (.tmp 14), none, false⟩,
   ⟨(some 63), .mv (.tmp 0), none, false⟩,
   ⟨(some 64), .mv (.tmp 13), none, false⟩,
   ⟨(some 65), .call (.func 116) [(.tmp 63), (.tmp 64)], none, false⟩,
   ⟨(some 66), .bin .mul (.tmp 62) (.tmp 65), none, false⟩,
   ⟨(some 67), .mv (.tmp 0), none, false⟩,
   ⟨(some 68), .bin .rem (.tmp 66) (.tmp 67), none, false⟩,
   ⟨(some 69), .ixs 1 (.tmp 61) (.tmp 68), none, false⟩,
   ⟨(some 70), .load1 (.tmp 69), none, false⟩,
   ⟨(some 71), .bin .add (.tmp 70) (.const (.int .i64 1)), none, false⟩,
   ⟨(some 72), .ixs 1 (.tmp 61) (.tmp 68), none, false⟩,
   ⟨none, .store 1 (.tmp 72) (.tmp 71), none, false⟩]) .skip))))
  (.reg [⟨(some 39), .mv (.tmp 12), none, false⟩,
   ⟨(some 40), .bin .add (.tmp 39) (.const (.int .i64 1)), none, false⟩,
   ⟨(some 12), .mv (.tmp 40), none, false⟩]))))))
  (.seq (.reg [⟨(some 15), .mv (.const (.int .i64 1)), none, false⟩])
  (.blk 6 (.loop (.seq (.seq (.reg [⟨(some 73), .mv (.tmp 15), none, false⟩,
   ⟨(some 74), .mv (.tmp 0), none, false⟩,
   ⟨(some 75), .bin .lss (.tmp 73) (.tmp 74), none, false⟩])
  (.cond (.tmp 75) .skip (.exit 6)))
  (.seq (.blk 7 (.seq (.reg [⟨(some 78), .mv (.tmp 11), none, false⟩,
   ⟨(some 79), .mv (.tmp 15), none, false⟩,
   ⟨(some 80), .ixs 1 (.tmp 78) (.tmp 79), none, false⟩,
   ⟨(some 81), .load1 (.tmp 80), none, false⟩,
   ⟨(some 82), .mv (.tmp 7), none, false⟩,
   ⟨(some 83), .bin .gtr (.tmp 81) (.tmp 82), none, false⟩])
  (.cond (.tmp 83) (.seq (.reg [⟨(some 84), .mv (.tmp 11), none, false⟩,
   ⟨(some 85), .mv (.tmp 15), none, false⟩,
   ⟨(some 86), .ixs 1 (.tmp 84) (.tmp 85), none, false⟩,
   ⟨(some 87), .load1 (.tmp 86), none, false⟩,
   ⟨(some 7), .mv (.tmp 87), none, false⟩])
  (.reg [⟨(some 88), .mv (.tmp 9), none, false⟩,
   ⟨(some 89), .mv (.tmp 10), none, false⟩,
   ⟨(some 90), .mv (.tmp 15), none, false⟩,
   ⟨(some 91), .build [.int .i64 0, .int .i64 0, .int .i64 0] [(0, 1, (.tmp 88)), (1, 1, (.tmp 89)), (2, 1, (.tmp 90))], none, false⟩,
   ⟨none, .store 3 (.tmp 6) (.tmp 91), none, false⟩])) .skip)))
  (.reg [⟨(some 76), .mv (.tmp 15), none, false⟩,
   ⟨(some 77), .bin .add (.tmp 76) (.const (.int .i64 1)), none, false⟩,
   ⟨(some 15), .mv (.tmp 77), none, false⟩])))))))))
  (.reg [⟨(some 31), .mv (.tmp 10), none, false⟩,
   ⟨(some 32), .bin .add (.tmp 31) (.const (.int .i64 1)), none, false⟩,
   ⟨(some 10), .mv (.tmp 32), none, false⟩])))))))
  (.reg [⟨(some 24), .mv (.tmp 9), none, false⟩,
   ⟨(some 25), .bin .add (.tmp 24) (.const (.int .i64 1)), none, false⟩,
   ⟨(some 9), .mv (.tmp 25), none, false⟩]))))))
  (.seq (.reg [⟨(some 92), .loadn 3 (.tmp 6), none, false⟩,
   ⟨(some 93), .mv (.tmp 7), none, false⟩,
   ⟨none, .store 3 (.tmp 4) (.tmp 92), none, false⟩,
   ⟨(some 5), .mv (.tmp 93), none, false⟩])
  .ret)))))⟩

theorem s129 : compFn Try.prog Try.f129 = some c129 := by kernel_rfl

/-- loop.example/g01262/impl.mostRows -/
def c130 : XFn :=
 ⟨[.celln 4 3, .tmp 5],
  (.seq (.reg [⟨(some 4), .alloc 146 [.int .i64 0, .int .i64 0, .int .i64 0], none, false⟩,
   ⟨(some 5), .mv (.const (.bool false)), none, false⟩])
  (.seq (.reg [⟨(some 16), .build [.int .i64 0, .int .i64 0, .int .i64 0] [], none, false⟩,
   ⟨(some 6), .alloc 146 [.int .i64 0, .int .i64 0, .int .i64 0], none, false⟩,
   ⟨none, .store 3 (.tmp 6) (.tmp 16), none, false⟩,
   ⟨(some 7), .mv (.const (.int .i64 1)), none, false⟩])
  (.seq (.seq (.reg [⟨(some 17), .mv (.tmp 1), none, false⟩,
   ⟨(some 18), .len (.tmp 17), none, false⟩,
   ⟨(some 19), .mv (.const (.int .i64 0)), none, false⟩])
  (.blk 0 (.loop (.seq (.reg [⟨(some 20), .bin .lss (.tmp 19) (.tmp 18), none, false⟩])
  (.seq (.cond (.tmp 20) .skip (.exit 0))
  (.seq (.blk 1 (.seq (.reg [⟨(some 21), .mv (.tmp 19), none, false⟩,
   ⟨(some 22), .ixs 5 (.tmp 17) (.tmp 19), none, false⟩,
   ⟨(some 23), .loadn 5 (.tmp 22), none, false⟩,
   ⟨(some 9), .alloc 144 [.int .u32 0, .int .u32 0, .int .u32 0, .int .u32 0, .int .u32 0], none, false⟩,
   ⟨(some 8), .mv (.tmp 21), none, false⟩,
   ⟨none, .store 5 (.tmp 9) (.tmp 23), none, false⟩])
  (.seq (.reg [⟨(some 10), .mv (.const (.int .u32 0)), none, false⟩])
  (.seq (.seq (.reg [⟨(some 24), .slca 5 1 (.tmp 9) (some (.const (.int .i64 1))) none, none, false⟩,
   ⟨(some 25), .len (.tmp 24), none, false⟩,
   ⟨(some 26), .mv (.const (.int .i64 0)), none, false⟩])
  (.blk 2 (.loop (.seq (.reg [⟨(some 27), .bin .lss (.tmp 26) (.tmp 25), none, false⟩])
  (.seq (.cond (.tmp 27) .skip (.exit 2))
  (.seq (.blk 3 (.seq (.reg [⟨(some 28), .ixs 1 (.tmp 24) (.tmp 26), none, false⟩,
   ⟨(some 29), .load1 (.tmp 28), none, false⟩,
   ⟨(some 12), .mv (.tmp 29), none, false⟩])
  (.reg [⟨(some 30), .mv (.tmp 10), none, false⟩,
   ⟨(some 31), .mv (.tmp 12), none, false⟩,
   ⟨(some 32), .bin .or (.tmp 30) (.tmp 31), none, false⟩,
   ⟨(some 10), .mv (.tmp 32), none, false⟩])))
  (.reg [⟨(some 33), .bin .add (.tmp 26) (.const (.int .i64 1)), none, false⟩,
   ⟨(some 26), .mv (.tmp 33), none, false⟩])))))))
  (.seq (.seq (.reg [⟨(some 34), .mv (.tmp 10), none, false⟩,
   ⟨(some 35), .call (.func 149) [(.tmp 34)], none, false⟩,
   ⟨(some 36), .mv (.tmp 7), none, false⟩,
   ⟨(some 37), .bin .leq (.tmp 35) (.tmp 36), none, false⟩])
  (.cond (.tmp 37) (.exit 1) .skip))
  (.seq (.reg [⟨(some 38), .mv (.tmp 8), none, false⟩,
   ⟨(some 39), .bin .add (.tmp 38) (.const (.int .i64 1)), none, false⟩,
   ⟨(some 13), .mv (.tmp 39), none, false⟩])
  (.blk 4 (.loop (.seq (.seq (.reg [⟨(some 40), .mv (.tmp 13), none, false⟩,
   ⟨(some 41), .mv (.tmp 1), none, false⟩,
   ⟨(some 42), .len (.tmp 41), none, false⟩,
   ⟨(some 43), .bin .lss (.tmp 40) (.tmp 42), none, false⟩])
  (.cond (.tmp 43) .skip (.exit 4)))
  (.seq (.blk 5 (.seq (.reg [⟨(some 14), .mv (.const (.int .i64 1)), none, false⟩])
  (.blk 6 (.loop (.seq (.seq (.reg [⟨(some 46), .mv (.tmp 14), none, false⟩,
   ⟨(some 47), .mv (.tmp 0), none, false⟩,
   ⟨(some 48), .bin .lss (.tmp 46) (.tmp 47), none, false⟩])
  (.cond (.tmp 48) .skip (.exit 6)))
  (.seq (.blk 7 (.seq (.reg [⟨(some 51), .mv (.tmp 0), none, false⟩,
   ⟨(some 52), .loadn 5 (.tmp 9), none, false⟩,
   ⟨(some 53), .mv (.tmp 1), none, false⟩,
   ⟨(some 54), .mv (.tmp 13), none, false⟩,
   ⟨(some 55), .ixs 5 (.tmp 53) (.tmp 54), none, false⟩,
   ⟨(some 56), .loadn 5 (.tmp 55), none, false⟩,
   ⟨(some 57), .mv (.tmp 14), none, false⟩,
   ⟨(some 58), .call (.func 131) [(.tmp 51), (.tmp 52), (.tmp 56), (.tmp 57)], none, false⟩,
   ⟨(some 59), .call (.func 149) [(.tmp 58)], none, false⟩,
   ⟨(some 15), .mv (.tmp 59), none, false⟩])
  (.seq (.reg [⟨(some 60), .mv (.tmp 15), none, false⟩,
   ⟨(some 61), .mv (.tmp 7), none, false⟩,
   ⟨(some 62), .bin .gtr (.tmp 60) (.tmp 61), none, false⟩])
  (.cond (.tmp 62) (.reg [⟨(some 63), .mv (.tmp 8), none, false⟩,
   ⟨(some 64), .mv (.tmp 13), none, false⟩,
   ⟨(some 65), .mv (.tmp 14), none, false⟩,
   ⟨(some 66), .build [.int .i64 0, .int .i64 0, .int .i64 0] [(0, 1, (.tmp 63)), (1, 1, (.tmp 64)), (2, 1, (.tmp 65))], none, false⟩,
   ⟨(some 67), .mv (.tmp 15), none, false⟩,
   ⟨none, .store 3 (.tmp 6) (.tmp 66), none, false⟩,
   ⟨(some 7), .mv (.tmp 67), none, false⟩]) .skip))))
  (.reg [⟨(some 49), .mv (.tmp 14), none, false⟩,
   ⟨(some 50), .bin .add (.tmp 49) (.const (.int .i64 1)), none, false⟩,
   ⟨(some 14), .mv (.tmp 50), none, false⟩])))))))
  (.reg [⟨(some 44), .mv (.tmp 13), none, false⟩,
   ⟨(some 45), .bin .add (.tmp 44) (.const (.int .i64 1)), none, false⟩,
   ⟨(some 13), .mv (.tmp 45), none, false⟩])))))))))))
  (.reg [⟨(some 68), .bin .add (.tmp 19) (.const (.int .i64 1)), none, false⟩,
   ⟨(some 19), .mv (.tmp 68), none, false⟩])))))))
  (.seq (.reg [⟨(some 69), .loadn 3 (.tmp 6), none, false⟩,
   ⟨(some 70), .mv (.tmp 7), none, false⟩,
   ⟨(some 71), .bin .gtr (.tmp 70) (.const (.int .i64 1)), none, false⟩,
   ⟨none, .store 3 (.tmp 4) (.tmp 69), none, false⟩,
   ⟨(some 5), .mv (.tmp 71), none, false⟩])
  .ret))))⟩

theorem s130 : compFn Try.prog Try.f130 = some c130 := by kernel_rfl

/-- loop.example/g01262/impl.rowsWith -/
def c131 : XFn :=
 ⟨[.tmp 8],
  (.seq (.reg [⟨(some 5), .box 144 (.tmp 1), none, false⟩,
   ⟨(some 6), .box 144 (.tmp 2), none, false⟩,
   ⟨(some 8), .mv (.const (.int .u32 0)), none, false⟩])
  (.seq (.reg [⟨(some 9), .mv (.const (.int .u32 0)), none, false⟩])
  (.seq (.seq (.reg [⟨(some 10), .mv (.const (.int .i64 1)), none, false⟩])
  (.blk 0 (.loop (.seq (.seq (.reg [⟨(some 11), .mv (.tmp 10), none, false⟩,
   ⟨(some 12), .mv (.tmp 0), none, false⟩,
   ⟨(some 13), .bin .lss (.tmp 11) (.tmp 12), none, false⟩])
  (.cond (.tmp 13) .skip (.exit 0)))
  (.seq (.blk 1 (.reg [⟨(some 16), .mv (.tmp 9), none, false⟩,
   ⟨(some 17), .mv (.tmp 10), none, false⟩,
   ⟨(some 18), .ixa 5 1 (.tmp 5) (.tmp 17), none, false⟩,
   ⟨(some 19), .load1 (.tmp 18), none, false⟩,
   ⟨(some 20), .mv (.tmp 10), none, false⟩,
   ⟨(some 21), .mv (.tmp 3), none, false⟩,
   ⟨(some 22), .bin .mul (.tmp 20) (.tmp 21), none, false⟩,
   ⟨(some 23), .mv (.tmp 0), none, false⟩,
   ⟨(some 24), .bin .rem (.tmp 22) (.tmp 23), none, false⟩,
   ⟨(some 25), .ixa 5 1 (.tmp 6) (.tmp 24), none, false⟩,
   ⟨(some 26), .load1 (.tmp 25), none, false⟩,
   ⟨(some 27), .bin .and (.tmp 19) (.tmp 26), none, false⟩,
   ⟨(some 28), .bin .or (.tmp 16) (.tmp 27), none, false⟩,
   ⟨(some 9), .mv (.tmp 28), none, false⟩]))
  (.reg [⟨(some 14), .mv (.tmp 10), none, false⟩,
   ⟨(some 15), .bin .add (.tmp 14) (.const (.int .i64 1)), none, false⟩,
   ⟨(some 10), .mv (.tmp 15), none, false⟩]))))))
  (.seq (.reg [⟨(some 29), .mv (.tmp 9), none, false⟩,
   ⟨(some 8), .mv (.tmp 29), none, false⟩])
  .ret))))⟩

theorem s131 : compFn Try.prog Try.f131 = some c131 := by kernel_rfl

/-- loop.example/g01262/spec.l01Sizes -/
def c132 : XFn :=
 ⟨[.tmp 8],
  (.seq (.reg [⟨(some 8), .mv (.const (.bool false)), none, false⟩])
  (.seq (.reg [⟨(some 9), .mv (.tmp 0), none, false⟩,
   ⟨(some 10), .call (.func 114) [(.tmp 9)], none, false⟩,
   ⟨(some 11), .mv (.tmp 10), none, false⟩,
   ⟨(some 12), .mv (.tmp 1), (some (11, true)), false⟩,
   ⟨(some 13), .call (.func 115) [(.tmp 12), (.const (.int .i64 1)), (.const (.int .i64 3))], (some (11, true)), false⟩,
   ⟨(some 14), .pick (.tmp 11) (.tmp 13) (.const (.bool false)), none, false⟩,
   ⟨(some 15), .mv (.tmp 14), none, false⟩,
   ⟨(some 16), .mv (.tmp 2), (some (15, true)), false⟩,
   ⟨(some 17), .call (.func 115) [(.tmp 16), (.const (.int .i64 1)), (.const (.int .i64 3))], (some (15, true)), false⟩,
   ⟨(some 18), .pick (.tmp 15) (.tmp 17) (.const (.bool false)), none, false⟩,
   ⟨(some 19), .mv (.tmp 18), none, false⟩,
   ⟨(some 20), .mv (.tmp 3), (some (19, true)), false⟩,
   ⟨(some 21), .call (.func 115) [(.tmp 20), (.const (.int .i64 1)), (.const (.int .i64 3))], (some (19, true)), false⟩,
   ⟨(some 22), .pick (.tmp 19) (.tmp 21) (.const (.bool false)), none, false⟩,
   ⟨(some 8), .mv (.tmp 22), none, false⟩])
  .ret))⟩

theorem s132 : compFn Try.prog Try.f132 = some c132 := by kernel_rfl

/-- loop.example/g01262/spec.l01Product -/
def c133 : XFn :=
 ⟨[.tmp 4],
  (.seq (.reg [⟨(some 2), .box 71 (.tmp 0), none, false⟩,
   ⟨(some 3), .box 155 (.tmp 1), none, false⟩,
   ⟨(some 4), .mv (.const (.bool false)), none, false⟩])
  (.seq (.reg [⟨(some 9), .loadn 5 (.tmp 2), none, false⟩,
   ⟨(some 10), .call (.func 140) [(.tmp 9)], none, false⟩,
   ⟨(some 8), .mv (.tmp 10), none, false⟩,
   ⟨(some 11), .ext (.tmp 8) 0, none, false⟩,
   ⟨(some 12), .ext (.tmp 8) 1, none, false⟩,
   ⟨(some 13), .ext (.tmp 8) 2, none, false⟩,
   ⟨(some 5), .mv (.tmp 11), none, false⟩,
   ⟨(some 6), .mv (.tmp 12), none, false⟩,
   ⟨(some 7), .mv (.tmp 13), none, false⟩])
  (.seq (.seq (.reg [⟨(some 14), .fadr 0 (.tmp 2), none, false⟩,
   ⟨(some 15), .load1 (.tmp 14), none, false⟩,
   ⟨(some 16), .fadr 0 (.tmp 3), none, false⟩,
   ⟨(some 17), .loadn 9 (.tmp 16), none, false⟩,
   ⟨(some 18), .mv (.tmp 5), none, false⟩,
   ⟨(some 19), .call (.func 150) [(.tmp 15), (.tmp 17), (.tmp 18)], none, false⟩,
   ⟨(some 20), .un .not (.tmp 19), none, false⟩,
   ⟨(some 21), .mv (.tmp 20), none, false⟩,
   ⟨(some 22), .fadr 0 (.tmp 2), (some (21, false)), false⟩,
   ⟨(some 23), .load1 (.tmp 22), (some (21, false)), false⟩,
   ⟨(some 24), .fadr 9 (.tmp 3), (some (21, false)), false⟩,
   ⟨(some 25), .loadn 9 (.tmp 24), (some (21, false)), false⟩,
   ⟨(some 26), .mv (.tmp 6), (some (21, false)), false⟩,
   ⟨(some 27), .call (.func 150) [(.tmp 23), (.tmp 25), (.tmp 26)], (some (21, false)), false⟩,
   ⟨(some 28), .un .not (.tmp 27), (some (21, false)), false⟩,
   ⟨(some 29), .pick (.tmp 21) (.const (.bool true)) (.tmp 28), none, false⟩,
   ⟨(some 30), .mv (.tmp 29), none, false⟩,
   ⟨(some 31), .fadr 0 (.tmp 2), (some (30, false)), false⟩,
   ⟨(some 32), .load1 (.tmp 31), (some (30, false)), false⟩,
   ⟨(some 33), .fadr 18 (.tmp 3), (some (30, false)), false⟩,
   ⟨(some 34), .loadn 9 (.tmp 33), (some (30, false)), false⟩,
   ⟨(some 35), .mv (.tmp 7), (some (30, false)), false⟩,
   ⟨(some 36), .call (.func 150) [(.tmp 32), (.tmp 34), (.tmp 35)], (some (30, false)), false⟩,
   ⟨(some 37), .un .not (.tmp 36), (some (30, false)), false⟩,
   ⟨(some 38), .pick (.tmp 30) (.const (.bool true)) (.tmp 37), none, false⟩])
  (.cond (.tmp 38) (.seq (.reg [⟨(some 4), .mv (.const (.bool false)), none, false⟩])
  .ret) .skip))
  (.seq (.reg [⟨(some 39), .fadr 0 (.tmp 3), none, false⟩,
   ⟨(some 40), .loadn 9 (.tmp 39), none, false⟩,
   ⟨(some 41), .call (.func 151) [(.tmp 40)], none, false⟩,
   ⟨(some 42), .un .not (.tmp 41), none, false⟩,
   ⟨(some 43), .mv (.tmp 42), none, false⟩,
   ⟨(some 44), .fadr 9 (.tmp 3), (some (43, true)), false⟩,
   ⟨(some 45), .loadn 9 (.tmp 44), (some (43, true)), false⟩,
   ⟨(some 46), .call (.func 151) [(.tmp 45)], (some (43, true)), false⟩,
   ⟨(some 47), .un .not (.tmp 46), (some (43, true)), false⟩,
   ⟨(some 48), .pick (.tmp 43) (.tmp 47) (.const (.bool false)), none, false⟩,
   ⟨(some 49), .mv (.tmp 48), none, false⟩,
   ⟨(some 50), .fadr 18 (.tmp 3), (some (49, true)), false⟩,
   ⟨(some 51), .loadn 9 (.tmp 50), (some (49, true)), false⟩,
   ⟨(some 52), .call (.func 151) [(.tmp 51)], (some (49, true)), false⟩,
   ⟨(some 53), .un .not (.tmp 52), (some (49, true)), false⟩,
   ⟨(some 54), .pick (.tmp 49) (.tmp 53) (.const (.bool false)), none, false⟩,
   ⟨(some 4), .mv (.tmp 54), none, false⟩])
  .ret))))⟩

theorem s133 : compFn Try.prog Try.f133 = some c133 := by kernel_rfl

/-- loop.example/g01262/laws.toProduct -/
def c135 : XFn :=
 ⟨[.celln 2 27],
  (.seq (.reg [⟨(some 1), .box 159 (.tmp 0), none, false⟩,
   ⟨(some 2), .alloc 155 [.int .u8 0, .int .u8 0, .int .u8 0, .int .u8 0, .int .u8 0, .int .u8 0, .int .u8 0, .int .u8 0, .int .u8 0, .int .u8 0, .int .u8 0, .int .u8 0, .int .u8 0, .int .u8 0, .int .u8 0, .int .u8 0, .int .u8 0, .int .u8 0, .int .u8 0, .int .u8 0, .int .u8 0, .int .u8 0, .int .u8 0, .int .u8 0, .int .u8 0, .int .u8 0, .int .u8 0], none, false⟩])
  (.seq (.reg [⟨(some 3), .alloc 155 [.int .u8 0, .int .u8 0, .int .u8 0, .int .u8 0, .int .u8 0, .int .u8 0, .int .u8 0, .int .u8 0, .int .u8 0, .int .u8 0, .int .u8 0, .int .u8 0, .int .u8 0, .int .u8 0, .int .u8 0, .int .u8 0, .int .u8 0, .int .u8 0, .int .u8 0, .int .u8 0, .int .u8 0, .int .u8 0, .int .u8 0, .int .u8 0, .int .u8 0, .int .u8 0, .int .u8 0], none, false⟩])
  (.seq (.reg [⟨(some 4), .fadr 0 (.tmp 1), none, false⟩,
   ⟨(some 5), .loadn 9 (.tmp 4), none, false⟩,
   ⟨(some 6), .call (.func 152) [(.tmp 5)], none, false⟩,
   ⟨(some 7), .fadr 0 (.tmp 3), none, false⟩,
   ⟨none, .store 9 (.tmp 7) (.tmp 6), none, false⟩])
  (.seq (.reg [⟨(some 8), .fadr 9 (.tmp 1), none, false⟩,
   ⟨(some 9), .loadn 9 (.tmp 8), none, false⟩,
   ⟨(some 10), .call (.func 152) [(.tmp 9)], none, false⟩,
   ⟨(some 11), .fadr 9 (.tmp 3), none, false⟩,
   ⟨none, .store 9 (.tmp 11) (.tmp 10), none, false⟩])
  (.seq (.reg [⟨(some 12), .fadr 18 (.tmp 1), none, false⟩,
   ⟨(some 13), .loadn 9 (.tmp 12), none, false⟩,
   ⟨(some 14), .call (.func 152) [(.tmp 13)], none, false⟩,
   ⟨(some 15), .fadr 18 (.tmp 3), none, false⟩,
   ⟨none, .store 9 (.tmp 15) (.tmp 14), none, false⟩])
  (.seq (.reg [⟨(some 16), .loadn 27 (.tmp 3), none, false⟩,
   ⟨none, .store 27 (.tmp 2) (.tmp 16), none, false⟩])
  .ret))))))⟩

theorem s135 : compFn Try.prog Try.f135 = some c135 := by kernel_rfl

/-- loop.example/g01262/impl.IsScheme -/
def c136 : XFn :=
 ⟨[.tmp 2],
  (.seq (.reg [⟨(some 1), .box 71 (.tmp 0), none, false⟩,
   ⟨(some 2), .mv (.const (.bool false)), none, false⟩])
  (.seq (.seq (.reg [⟨(some 5), .fadr 0 (.tmp 1), none, false⟩,
   ⟨(some 6), .load1 (.tmp 5), none, false⟩,
   ⟨(some 7), .call (.func 118) [(.tmp 6)], none, false⟩,
   ⟨(some 8), .un .not (.tmp 7), none, false⟩,
   ⟨(some 9), .mv (.tmp 8), none, false⟩,
   ⟨(some 10), .fadr 1 (.tmp 1), (some (9, false)), false⟩,
   ⟨(some 11), .load1 (.tmp 10), (some (9, false)), false⟩,
   ⟨(some 12), .fadr 2 (.tmp 1), (some (9, false)), false⟩,
   ⟨(some 13), .load1 (.tmp 12), (some (9, false)), false⟩,
   ⟨(some 14), .fadr 3 (.tmp 1), (some (9, false)), false⟩,
   ⟨(some 15), .load1 (.tmp 14), (some (9, false)), false⟩,
   ⟨(some 16), .bslice 2 1 3 [.int .i64 0] [(0, 1, (.tmp 11)), (1, 1, (.tmp 13)), (2, 1, (.tmp 15))], (some (9, false)), false⟩,
   ⟨(some 17), .call (.func 153) [(.tmp 16)], (some (9, false)), false⟩,
   ⟨(some 18), .un .not (.tmp 17), (some (9, false)), false⟩,
   ⟨(some 19), .pick (.tmp 9) (.const (.bool true)) (.tmp 18), none, false⟩,
   ⟨(some 20), .mv (.tmp 19), none, false⟩,
   ⟨(some 21), .fadr 4 (.tmp 1), (some (20, false)), false⟩,
   ⟨(some 22), .load1 (.tmp 21), (some (20, false)), false⟩,
   ⟨(some 23), .len (.tmp 22), (some (20, false)), false⟩,
   ⟨(some 24), .bin .gtr (.tmp 23) (.const (.int .i64 30)), (some (20, false)), false⟩,
   ⟨(some 25), .pick (.tmp 20) (.const (.bool true)) (.tmp 24), none, false⟩])
  (.cond (.tmp 25) (.seq (.reg [⟨(some 2), .mv (.const (.bool false)), none, false⟩])
  .ret) .skip))
  (.seq (.seq (.reg [⟨(some 26), .fadr 4 (.tmp 1), none, false⟩,
   ⟨(some 27), .load1 (.tmp 26), none, false⟩,
   ⟨(some 28), .len (.tmp 27), none, false⟩,
   ⟨(some 29), .mv (.const (.int .i64 0)), none, false⟩])
  (.blk 0 (.loop (.seq (.reg [⟨(some 30), .bin .lss (.tmp 29) (.tmp 28), none, false⟩])
  (.seq (.cond (.tmp 30) .skip (.exit 0))
  (.seq (.blk 1 (.seq (.reg [⟨(some 31), .ixs 27 (.tmp 27) (.tmp 29), none, false⟩,
   ⟨(some 32), .loadn 27 (.tmp 31), none, false⟩,
   ⟨(some 4), .alloc 155 [.int .u8 0, .int .u8 0, .int .u8 0, .int .u8 0, .int .u8 0, .int .u8 0, .int .u8 0, .int .u8 0, .int .u8 0, .int .u8 0, .int .u8 0, .int .u8 0, .int .u8 0, .int .u8 0, .int .u8 0, .int .u8 0, .int .u8 0, .int .u8 0, .int .u8 0, .int .u8 0, .int .u8 0, .int .u8 0, .int .u8 0, .int .u8 0, .int .u8 0, .int .u8 0, .int .u8 0], none, false⟩,
   ⟨none, .store 27 (.tmp 4) (.tmp 32), none, false⟩])
  (.seq (.reg [⟨(some 33), .fadr 0 (.tmp 1), none, false⟩,
   ⟨(some 34), .load1 (.tmp 33), none, false⟩,
   ⟨(some 35), .loadn 5 (.tmp 1), none, false⟩,
   ⟨(some 36), .call (.func 143) [(.tmp 35)], none, true⟩,
   ⟨(some 37), .loadn 27 (.tmp 4), none, false⟩,
   ⟨(some 38), .call (.func 154) [(.tmp 34), (.tmp 36), (.tmp 37)], none, false⟩,
   ⟨(some 39), .un .not (.tmp 38), none, false⟩])
  (.cond (.tmp 39) (.seq (.reg [⟨(some 2), .mv (.const (.bool false)), none, false⟩])
  .ret) .skip))))
  (.reg [⟨(some 40), .bin .add (.tmp 29) (.const (.int .i64 1)), none, false⟩,
   ⟨(some 29), .mv (.tmp 40), none, false⟩])))))))
  (.seq (.reg [⟨(some 2), .mv (.const (.bool true)), none, false⟩])
  .ret))))⟩

theorem s136 : compFn Try.prog Try.f136 = some c136 := by kernel_rfl

/-- slices.Grow[[]int64,int64] -/
def c138 : XFn :=
 ⟨[.tmp 4],
  (.seq (.reg [⟨(some 4), .mv (.const (.slice none 0 0)), none, false⟩])
  (.seq (.seq (.reg [⟨(some 5), .mv (.tmp 1), none, false⟩,
   ⟨(some 6), .bin .lss (.tmp 5) (.const (.int .i64 0)), none, false⟩])
  (.cond (.tmp 6) (.reg [⟨(some 7), .fail, none, false⟩,
   ⟨none, .fail, none, false⟩]) .skip))
  (.seq (.seq (.reg [⟨(some 8), .mv (.tmp 1), none, false⟩,
   ⟨(some 9), .mv (.tmp 0), none, false⟩,
   ⟨(some 10), .cap (.tmp 9), none, false⟩,
   ⟨(some 11), .mv (.tmp 0), none, false⟩,
   ⟨(some 12), .len (.tmp 11), none, false⟩,
   ⟨(some 13), .bin .sub (.tmp 10) (.tmp 12), none, false⟩,
   ⟨(some 14), .bin .sub (.tmp 8) (.tmp 13), none, false⟩,
   ⟨(some 1), .mv (.tmp 14), none, false⟩])
  (.seq (.reg [⟨(some 15), .mv (.tmp 1), none, false⟩,
   ⟨(some 16), .bin .gtr (.tmp 15) (.const (.int .i64 0)), none, false⟩])
  (.cond (.tmp 16) (.reg [⟨(some 17), .mv (.tmp 0), none, false⟩,
   ⟨(some 18), .mv (.tmp 0), none, false⟩,
   ⟨(some 19), .cap (.tmp 18), none, false⟩,
   ⟨(some 20), .slc 1 (.tmp 17) none (some (.tmp 19)), none, false⟩,
   ⟨(some 21), .mv (.tmp 1), none, false⟩,
   ⟨(some 22), .appz 2 1 8 (.tmp 20) (.tmp 21), none, false⟩,
   ⟨(some 23), .mv (.tmp 0), none, false⟩,
   ⟨(some 24), .len (.tmp 23), none, false⟩,
   ⟨(some 25), .slc 1 (.tmp 22) none (some (.tmp 24)), none, false⟩,
   ⟨(some 0), .mv (.tmp 25), none, false⟩]) .skip)))
  (.seq (.reg [⟨(some 26), .mv (.tmp 0), none, false⟩,
   ⟨(some 4), .mv (.tmp 26), none, false⟩])
  .ret))))⟩

theorem s138 : compFn Try.prog Try.f138 = some c138 := by kernel_rfl

/-- loop.example/g01262/laws.eqProduct -/
def c139 : XFn :=
 ⟨[.tmp 4],
  (.seq (.reg [⟨(some 2), .box 155 (.tmp 0), none, false⟩,
   ⟨(some 3), .box 155 (.tmp 1), none, false⟩,
   ⟨(some 4), .mv (.const (.bool false)), none, false⟩])
  (.seq (.seq (.reg [⟨(some 5), .fadr 0 (.tmp 2), none, false⟩,
   ⟨(some 6), .loadn 9 (.tmp 5), none, false⟩,
   ⟨(some 7), .fadr 0 (.tmp 3), none, false⟩,
   ⟨(some 8), .loadn 9 (.tmp 7), none, false⟩,
   ⟨(some 9), .call (.func 155) [(.tmp 6), (.tmp 8)], none, false⟩,
   ⟨(some 10), .un .not (.tmp 9), none, false⟩])
  (.cond (.tmp 10) (.seq (.reg [⟨(some 4), .mv (.const (.bool false)), none, false⟩])
  .ret) .skip))
  (.seq (.seq (.reg [⟨(some 11), .fadr 9 (.tmp 2), none, false⟩,
   ⟨(some 12), .loadn 9 (.tmp 11), none, false⟩,
   ⟨(some 13), .fadr 9 (.tmp 3), none, false⟩,
   ⟨(some 14), .loadn 9 (.tmp 13), none, false⟩,
   ⟨(some 15), .call (.func 155) [(.tmp 12), (.tmp 14)], none, false⟩,
   ⟨(some 16), .un .not (.tmp 15), none, false⟩])
  (.cond (.tmp 16) (.seq (.reg [⟨(some 4), .mv (.const (.bool false)), none, false⟩])
  .ret) .skip))
  (.seq (.seq (.reg [⟨(some 17), .fadr 18 (.tmp 2), none, false⟩,
   ⟨(some 18), .loadn 9 (.tmp 17), none, false⟩,
   ⟨(some 19), .fadr 18 (.tmp 3), none, false⟩,
   ⟨(some 20), .loadn 9 (.tmp 19), none, false⟩,
   ⟨(some 21), .call (.func 155) [(.tmp 18), (.tmp 20)], none, false⟩,
   ⟨(some 22), .un .not (.tmp 21), none, false⟩])
  (.cond (.tmp 22) (.seq (.reg [⟨(some 4), .mv (.const (.bool false)), none, false⟩])
  .ret) .skip))
  (.seq (.reg [⟨(some 4), .mv (.const (.bool true)), none, false⟩])
  .ret)))))⟩

theorem s139 : compFn Try.prog Try.f139 = some c139 := by kernel_rfl

/-- loop.example/g01262/spec.l01Lengths -/
def c140 : XFn :=
 ⟨[.tmp 2, .tmp 3, .tmp 4],
  (.seq (.reg [⟨(some 1), .box 71 (.tmp 0), none, false⟩,
   ⟨(some 2), .mv (.const (.int .i64 0)), none, false⟩,
   ⟨(some 3), .mv (.const (.int .i64 0)), none, false⟩,
   ⟨(some 4), .mv (.const (.int .i64 0)), none, false⟩])
  (.seq (.reg [⟨(some 5), .fadr 1 (.tmp 1), none, false⟩,
   ⟨(some 6), .load1 (.tmp 5), none, false⟩,
   ⟨(some 7), .fadr 2 (.tmp 1), none, false⟩,
   ⟨(some 8), .load1 (.tmp 7), none, false⟩,
   ⟨(some 9), .bin .mul (.tmp 6) (.tmp 8), none, false⟩,
   ⟨(some 10), .fadr 2 (.tmp 1), none, false⟩,
   ⟨(some 11), .load1 (.tmp 10), none, false⟩,
   ⟨(some 12), .fadr 3 (.tmp 1), none, false⟩,
   ⟨(some 13), .load1 (.tmp 12), none, false⟩,
   ⟨(some 14), .bin .mul (.tmp 11) (.tmp 13), none, false⟩,
   ⟨(some 15), .fadr 1 (.tmp 1), none, false⟩,
   ⟨(some 16), .load1 (.tmp 15), none, false⟩,
   ⟨(some 17), .fadr 3 (.tmp 1), none, false⟩,
   ⟨(some 18), .load1 (.tmp 17), none, false⟩,
   ⟨(some 19), .bin .mul (.tmp 16) (.tmp 18), none, false⟩,
   ⟨(some 2), .mv (.tmp 9), none, false⟩,
   ⟨(some 3), .mv (.tmp 14), none, false⟩,
   ⟨(some 4), .mv (.tmp 19), none, false⟩])
  .ret))⟩

theorem s140 : compFn Try.prog Try.f140 = some c140 := by kernel_rfl

/-- loop.example/g01262/spec.l07Numbers -/
def c141 : XFn :=
 ⟨[.tmp 4],
  (.seq (.reg [⟨(some 2), .box 153 (.tmp 0), none, false⟩,
   ⟨(some 4), .mv (.const (.slice none 0 0)), none, false⟩])
  (.seq (.reg [⟨(some 7), .bslice 2 1 0 [.int .i64 0] [], none, false⟩,
   ⟨(some 5), .mv (.tmp 7), none, false⟩])
  (.seq (.seq (.reg [⟨(some 6), .mv (.const (.int .i64 0)), none, false⟩])
  (.blk 0 (.loop (.seq (.seq (.reg [⟨(some 8), .mv (.tmp 6), none, false⟩,
   ⟨(some 9), .mv (.tmp 1), none, false⟩,
   ⟨(some 10), .bin .lss (.tmp 8) (.tmp 9), none, false⟩])
  (.cond (.tmp 10) .skip (.exit 0)))
  (.seq (.blk 1 (.reg [⟨(some 13), .mv (.tmp 5), none, false⟩,
   ⟨(some 14), .mv (.tmp 6), none, false⟩,
   ⟨(some 15), .ixa 9 1 (.tmp 2) (.tmp 14), none, false⟩,
   ⟨(some 16), .load1 (.tmp 15), none, false⟩,
   ⟨(some 17), .conv .i64 (.tmp 16), none, false⟩,
   ⟨(some 18), .bslice 2 1 1 [.int .i64 0] [(0, 1, (.tmp 17))], none, false⟩,
   ⟨(some 19), .app 2 1 8 (.tmp 13) (.tmp 18), none, false⟩,
   ⟨(some 5), .mv (.tmp 19), none, false⟩]))
  (.reg [⟨(some 11), .mv (.tmp 6), none, false⟩,
   ⟨(some 12), .bin .add (.tmp 11) (.const (.int .i64 1)), none, false⟩,
   ⟨(some 6), .mv (.tmp 12), none, false⟩]))))))
  (.seq (.reg [⟨(some 20), .mv (.tmp 5), none, false⟩,
   ⟨(some 4), .mv (.tmp 20), none, false⟩])
  .ret))))⟩

theorem s141 : compFn Try.prog Try.f141 = some c141 := by kernel_rfl

/-- loop.example/g01262/spec.l07Of -/
def c142 : XFn :=
 ⟨[.celln 8 4],
  (.seq (.reg [⟨(some 8), .alloc 48 [.int .i64 0, .int .i64 0, .slice none 0 0, .slice none 0 0], none, false⟩])
  (.seq (.seq (.reg [⟨(some 9), .mv (.tmp 3), none, false⟩])
  (.cond (.tmp 9) (.seq (.reg [⟨(some 10), .mv (.tmp 0), none, false⟩,
   ⟨(some 11), .mv (.tmp 1), none, false⟩,
   ⟨(some 12), .mv (.tmp 2), none, false⟩,
   ⟨(some 13), .call (.func 95) [(.tmp 10), (.tmp 11), (.tmp 12)], none, false⟩,
   ⟨none, .store 4 (.tmp 8) (.tmp 13), none, false⟩])
  .ret) .skip))
  (.seq (.reg [⟨(some 14), .mv (.tmp 0), none, false⟩,
   ⟨(some 15), .mv (.tmp 1), none, false⟩,
   ⟨(some 16), .mv (.tmp 2), none, false⟩,
   ⟨(some 17), .call (.func 90) [(.tmp 14), (.tmp 15), (.tmp 16)], none, false⟩,
   ⟨none, .store 4 (.tmp 8) (.tmp 17), none, false⟩])
  .ret)))⟩

theorem s142 : compFn Try.prog Try.f142 = some c142 := by kernel_rfl

/-- loop.example/g01262/impl.placesOf -/
def c143 : XFn :=
 ⟨[.celln 2 3],
  (.seq (.reg [⟨(some 1), .box 71 (.tmp 0), none, false⟩,
   ⟨(some 2), .alloc 167 [.int .i64 0, .int .i64 0, .int .i64 0], none, false⟩])
  (.seq (.reg [⟨(some 3), .fadr 1 (.tmp 1), none, false⟩,
   ⟨(some 4), .load1 (.tmp 3), none, false⟩,
   ⟨(some 5), .fadr 2 (.tmp 1), none, false⟩,
   ⟨(some 6), .load1 (.tmp 5), none, false⟩,
   ⟨(some 7), .bin .mul (.tmp 4) (.tmp 6), none, false⟩,
   ⟨(some 8), .fadr 2 (.tmp 1), none, false⟩,
   ⟨(some 9), .load1 (.tmp 8), none, false⟩,
   ⟨(some 10), .fadr 3 (.tmp 1), none, false⟩,
   ⟨(some 11), .load1 (.tmp 10), none, false⟩,
   ⟨(some 12), .bin .mul (.tmp 9) (.tmp 11), none, false⟩,
   ⟨(some 13), .fadr 1 (.tmp 1), none, false⟩,
   ⟨(some 14), .load1 (.tmp 13), none, false⟩,
   ⟨(some 15), .fadr 3 (.tmp 1), none, false⟩,
   ⟨(some 16), .load1 (.tmp 15), none, false⟩,
   ⟨(some 17), .bin .mul (.tmp 14) (.tmp 16), none, false⟩,
   ⟨(some 18), .build [.int .i64 0, .int .i64 0, .int .i64 0] [(0, 1, (.tmp 7)), (1, 1, (.tmp 12)), (2, 1, (.tmp 17))], none, false⟩,
   ⟨none, .store 3 (.tmp 2) (.tmp 18), none, false⟩])
  .ret))⟩

theorem s143 : compFn Try.prog Try.f143 = some c143 := by kernel_rfl

/-- loop.example/g01262/impl.programsOf$1 -/
def c144 : XFn :=
 ⟨[],
  (.seq (.reg [⟨(some 7), .load1 (.tmp 2), none, false⟩])
  (.cond (.tmp 7) (.reg [⟨(some 8), .load1 (.tmp 3), none, false⟩,
   ⟨(some 9), .fadr 0 (.tmp 4), none, false⟩,
   ⟨(some 10), .load1 (.tmp 9), none, false⟩,
   ⟨(some 11), .mv (.tmp 0), none, false⟩,
   ⟨(some 12), .mv (.tmp 1), none, false⟩,
   ⟨(some 13), .call (.func 96) [(.tmp 10), (.tmp 11), (.tmp 12)], none, true⟩,
   ⟨(some 14), .bslice 48 4 1 [.int .i64 0, .int .i64 0, .slice none 0 0, .slice none 0 0] [(0, 4, (.tmp 13))], none, false⟩,
   ⟨(some 15), .app 48 4 64 (.tmp 8) (.tmp 14), none, false⟩,
   ⟨none, .store 1 (.tmp 3) (.tmp 15), none, false⟩]) (.reg [⟨(some 16), .load1 (.tmp 3), none, false⟩,
   ⟨(some 17), .fadr 0 (.tmp 4), none, false⟩,
   ⟨(some 18), .load1 (.tmp 17), none, false⟩,
   ⟨(some 19), .mv (.tmp 0), none, false⟩,
   ⟨(some 20), .build [.int .i64 0, .int .i64 0, .slice none 0 0, .slice none 0 0] [(0, 1, (.tmp 18)), (1, 1, (.tmp 19))], none, false⟩,
   ⟨(some 21), .mv (.tmp 1), none, false⟩,
   ⟨(some 22), .call (.func 92) [(.tmp 20), (.tmp 21)], none, true⟩,
   ⟨(some 23), .bslice 48 4 1 [.int .i64 0, .int .i64 0, .slice none 0 0, .slice none 0 0] [(0, 4, (.tmp 22))], none, false⟩,
   ⟨(some 24), .app 48 4 64 (.tmp 16) (.tmp 23), none, false⟩,
   ⟨none, .store 1 (.tmp 3) (.tmp 24), none, false⟩])))⟩

theorem s144 : compFn Try.prog Try.f144 = some c144 := by kernel_rfl

/-- loop.example/g01262/impl.lists -/
def c145 : XFn :=
 ⟨[.tmp 6],
  (.seq (.reg [⟨(some 3), .box 71 (.tmp 0), none, false⟩,
   ⟨(some 6), .mv (.const (.slice none 0 0)), none, false⟩])
  (.seq (.reg [⟨(some 10), .bslice 22 1 0 [.slice none 0 0] [], none, false⟩,
   ⟨(some 7), .mv (.tmp 10), none, false⟩])
  (.seq (.seq (.reg [⟨(some 11), .fadr 4 (.tmp 3), none, false⟩,
   ⟨(some 12), .load1 (.tmp 11), none, false⟩,
   ⟨(some 13), .len (.tmp 12), none, false⟩,
   ⟨(some 14), .mv (.const (.int .i64 0)), none, false⟩])
  (.blk 0 (.loop (.seq (.reg [⟨(some 15), .bin .lss (.tmp 14) (.tmp 13), none, false⟩])
  (.seq (.cond (.tmp 15) .skip (.exit 0))
  (.seq (.blk 1 (.seq (.reg [⟨(some 16), .ixs 27 (.tmp 12) (.tmp 14), none, false⟩,
   ⟨(some 17), .loadn 27 (.tmp 16), none, false⟩,
   ⟨(some 9), .alloc 155 [.int .u8 0, .int .u8 0, .int .u8 0, .int .u8 0, .int .u8 0, .int .u8 0, .int .u8 0, .int .u8 0, .int .u8 0, .int .u8 0, .int .u8 0, .int .u8 0, .int .u8 0, .int .u8 0, .int .u8 0, .int .u8 0, .int .u8 0, .int .u8 0, .int .u8 0, .int .u8 0, .int .u8 0, .int .u8 0, .int .u8 0, .int .u8 0, .int .u8 0, .int .u8 0, .int .u8 0], none, false⟩,
   ⟨none, .store 27 (.tmp 9) (.tmp 17), none, false⟩])
  (.reg [⟨(some 18), .mv (.tmp 7), none, false⟩,
   ⟨(some 19), .loadn 27 (.tmp 9), none, false⟩,
   ⟨(some 20), .call (.func 157) [(.tmp 19)], none, false⟩,
   ⟨(some 21), .mv (.tmp 1), none, false⟩,
   ⟨(some 22), .idxn 3 9 (.tmp 20) (.tmp 21), none, false⟩,
   ⟨(some 23), .mv (.tmp 2), none, false⟩,
   ⟨(some 24), .call (.func 156) [(.tmp 22), (.const (.int .i64 1)), (.tmp 23)], none, false⟩,
   ⟨(some 25), .ixs 1 (.tmp 24) (.const (.int .i64 0)), none, false⟩,
   ⟨(some 26), .load1 (.tmp 25), none, false⟩,
   ⟨(some 27), .bslice 22 1 1 [.slice none 0 0] [(0, 1, (.tmp 26))], none, false⟩,
   ⟨(some 28), .app 22 1 24 (.tmp 18) (.tmp 27), none, false⟩,
   ⟨(some 7), .mv (.tmp 28), none, false⟩])))
  (.reg [⟨(some 29), .bin .add (.tmp 14) (.const (.int .i64 1)), none, false⟩,
   ⟨(some 14), .mv (.tmp 29), none, false⟩])))))))
  (.seq (.reg [⟨(some 30), .mv (.tmp 7), none, false⟩,
   ⟨(some 6), .mv (.tmp 30), none, false⟩])
  .ret))))⟩

theorem s145 : compFn Try.prog Try.f145 = some c145 := by kernel_rfl

/-- loop.example/g01262/spec.l01Mod -/
def c146 : XFn :=
 ⟨[.tmp 4],
  (.seq (.reg [⟨(some 4), .mv (.const (.int .i64 0)), none, false⟩])
  (.seq (.reg [⟨(some 5), .mv (.tmp 1), none, false⟩,
   ⟨(some 6), .mv (.tmp 0), none, false⟩,
   ⟨(some 7), .bin .rem (.tmp 5) (.tmp 6), none, false⟩,
   ⟨(some 8), .mv (.tmp 0), none, false⟩,
   ⟨(some 9), .bin .add (.tmp 7) (.tmp 8), none, false⟩,
   ⟨(some 10), .mv (.tmp 0), none, false⟩,
   ⟨(some 11), .bin .rem (.tmp 9) (.tmp 10), none, false⟩,
   ⟨(some 4), .mv (.tmp 11), none, false⟩])
  .ret))⟩

theorem s146 : compFn Try.prog Try.f146 = some c146 := by kernel_rfl

/-- math/bits.OnesCount32 -/
def c149 : XFn :=
 ⟨[.tmp 2],
  (.seq (.reg [⟨(some 2), .mv (.const (.int .i64 0)), none, false⟩])
  (.seq (.reg [⟨(some 3), .mv (.tmp 0), none, false⟩,
   ⟨(some 4), .bin .shr (.tmp 3) (.const (.int .u64 24)), none, false⟩,
   ⟨(some 5), .idxs [0, 1, 1, 2, 1, 2, 2, 3, 1, 2, 2, 3, 2, 3, 3, 4, 1, 2, 2, 3, 2, 3, 3, 4, 2, 3, 3, 4, 3, 4, 4, 5, 1, 2, 2, 3, 2, 3, 3, 4, 2, 3, 3, 4, 3, 4, 4, 5, 2, 3, 3, 4, 3, 4, 4, 5, 3, 4, 4, 5, 4, 5, 5, 6, 1, 2, 2, 3, 2, 3, 3, 4, 2, 3, 3, 4, 3, 4, 4, 5, 2, 3, 3, 4, 3, 4, 4, 5, 3, 4, 4, 5, 4, 5, 5, 6, 2, 3, 3, 4, 3, 4, 4, 5, 3, 4, 4, 5, 4, 5, 5, 6, 3, 4, 4, 5, 4, 5, 5, 6, 4, 5, 5, 6, 5, 6, 6, 7, 1, 2, 2, 3, 2, 3, 3, 4, 2, 3, 3, 4, 3, 4, 4, 5, 2, 3, 3, 4, 3, 4, 4, 5, 3, 4, 4, 5, 4, 5, 5, 6, 2, 3, 3, 4, 3, 4, 4, 5, 3, 4, 4, 5, 4, 5, 5, 6, 3, 4, 4, 5, 4, 5, 5, 6, 4, 5, 5, 6, 5, 6, 6, 7, 2, 3, 3, 4, 3, 4, 4, 5, 3, 4, 4, 5, 4, 5, 5, 6, 3, 4, 4, 5, 4, 5, 5, 6, 4, 5, 5, 6, 5, 6, 6, 7, 3, 4, 4, 5, 4, 5, 5, 6, 4, 5, 5, 6, 5, 6, 6, 7, 4, 5, 5, 6, 5, 6, 6, 7, 5, 6, 6, 7, 6, 7, 7, 8] (.tmp 4), none, false⟩,
   ⟨(some 6), .mv (.tmp 0), none, false⟩,
   ⟨(some 7), .bin .shr (.tmp 6) (.const (.int .u64 16)), none, false⟩,
   ⟨(some 8), .bin .and (.tmp 7) (.const (.int .u32 255)), none, false⟩,
   ⟨(some 9), .idxs [0, 1, 1, 2, 1, 2, 2, 3, 1, 2, 2, 3, 2, 3, 3, 4, 1, 2, 2, 3, 2, 3, 3, 4, 2, 3, 3, 4, 3, 4, 4, 5, 1, 2, 2, 3, 2, 3, 3, 4, 2, 3, 3, 4, 3, 4, 4, 5, 2, 3, 3, 4, 3, 4, 4, 5, 3, 4, 4, 5, 4, 5, 5, 6, 1, 2, 2, 3, 2, 3, 3, 4, 2, 3, 3, 4, 3, 4, 4, 5, 2, 3, 3, 4, 3, 4, 4, 5, 3, 4, 4, 5, 4, 5, 5, 6, 2, 3, 3, 4, 3, 4, 4, 5, 3, 4, 4, 5, 4, 5, 5, 6, 3, 4, 4, 5, 4, 5, 5, 6, 4, 5, 5, 6, 5, 6, 6, 7, 1, 2, 2, 3, 2, 3, 3, 4, 2, 3, 3, 4, 3, 4, 4, 5, 2, 3, 3, 4, 3, 4, 4, 5, 3, 4, 4, 5, 4, 5, 5, 6, 2, 3, 3, 4, 3, 4, 4, 5, 3, 4, 4, 5, 4, 5, 5, 6, 3, 4, 4, 5, 4, 5, 5, 6, 4, 5, 5, 6, 5, 6, 6, 7, 2, 3, 3, 4, 3, 4, 4, 5, 3, 4, 4, 5, 4, 5, 5, 6, 3, 4, 4, 5, 4, 5, 5, 6, 4, 5, 5, 6, 5, 6, 6, 7, 3, 4, 4, 5, 4, 5, 5, 6, 4, 5, 5, 6, 5, 6, 6, 7, 4, 5, 5, 6, 5, 6, 6, 7, 5, 6, 6, 7, 6, 7, 7, 8] (.tmp 8), none, false⟩,
   ⟨(some 10), .bin .add (.tmp 5) (.tmp 9), none, false⟩,
   ⟨(some 11), .mv (.tmp 0), none, false⟩,
   ⟨(some 12), .bin .shr (.tmp 11) (.const (.int .u64 8)), none, false⟩,
   ⟨(some 13), .bin .and (.tmp 12) (.const (.int .u32 255)), none, false⟩,
   ⟨(some 14), .idxs [0, 1, 1, 2, 1, 2, 2, 3, 1, 2, 2, 3, 2, 3, 3, 4, 1, 2, 2, 3, 2, 3, 3, 4, 2, 3, 3, 4, 3, 4, 4, 5, 1, 2, 2, 3, 2, 3, 3, 4, 2, 3, 3, 4, 3, 4, 4, 5, 2, 3, 3, 4, 3, 4, 4, 5, 3, 4, 4, 5, 4, 5, 5, 6, 1, 2, 2, 3, 2, 3, 3, 4, 2, 3, 3, 4, 3, 4, 4, 5, 2, 3, 3, 4, 3, 4, 4, 5, 3, 4, 4, 5, 4, 5, 5, 6, 2, 3, 3, 4, 3, 4, 4, 5, 3, 4, 4, 5, 4, 5, 5, 6, 3, 4, 4, 5, 4, 5, 5, 6, 4, 5, 5, 6, 5, 6, 6, 7, 1, 2, 2, 3, 2, 3, 3, 4, 2, 3, 3, 4, 3, 4, 4, 5, 2, 3, 3, 4, 3, 4, 4, 5, 3, 4, 4, 5, 4, 5, 5, 6, 2, 3, 3, 4, 3, 4, 4, 5, 3, 4, 4, 5, 4, 5, 5, 6, 3, 4, 4, 5, 4, 5, 5, 6, 4, 5, 5, 6, 5, 6, 6, 7, 2, 3, 3, 4, 3, 4, 4, 5, 3, 4, 4, 5, 4, 5, 5, 6, 3, 4, 4, 5, 4, 5, 5, 6, 4, 5, 5, 6, 5, 6, 6, 7, 3, 4, 4, 5, 4, 5, 5, 6, 4, 5, 5, 6, 5, 6, 6, 7, 4, 5, 5, 6, 5, 6, 6, 7, 5, 6, 6, 7, 6, 7, 7, 8] (.tmp 13), none, false⟩,
   ⟨(some 15), .bin .add (.tmp 10) (.tmp 14), none, false⟩,
   ⟨(some 16), .mv (.tmp 0), none, false⟩,
   ⟨(some 17), .bin .and (.tmp 16) (.const (.int .u32 255)), none, false⟩,
   ⟨(some 18), .idxs [0, 1, 1, 2, 1, 2, 2, 3, 1, 2, 2, 3, 2, 3, 3, 4, 1, 2, 2, 3, 2, 3, 3, 4, 2, 3, 3, 4, 3, 4, 4, 5, 1, 2, 2, 3, 2, 3, 3, 4, 2, 3, 3, 4, 3, 4, 4, 5, 2, 3, 3, 4, 3, 4, 4, 5, 3, 4, 4, 5, 4, 5, 5, 6, 1, 2, 2, 3, 2, 3, 3, 4, 2, 3, 3, 4, 3, 4, 4, 5, 2, 3, 3, 4, 3, 4, 4, 5, 3, 4, 4, 5, 4, 5, 5, 6, 2, 3, 3, 4, 3, 4, 4, 5, 3, 4, 4, 5, 4, 5, 5, 6, 3, 4, 4, 5, 4, 5, 5, 6, 4, 5, 5, 6, 5, 6, 6, 7, 1, 2, 2, 3, 2, 3, 3, 4, 2, 3, 3, 4, 3, 4, 4, 5, 2, 3, 3, 4, 3, 4, 4, 5, 3, 4, 4, 5, 4, 5, 5, 6, 2, 3, 3, 4, 3, 4, 4, 5, 3, 4, 4, 5, 4, 5, 5, 6, 3, 4, 4, 5, 4, 5, 5, 6, 4, 5, 5, 6, 5, 6, 6, 7, 2, 3, 3, 4, 3, 4, 4, 5, 3, 4, 4, 5, 4, 5, 5, 6, 3, 4, 4, 5, 4, 5, 5, 6, 4, 5, 5, 6, 5, 6, 6, 7, 3, 4, 4, 5, 4, 5, 5, 6, 4, 5, 5, 6, 5, 6, 6, 7, 4, 5, 5, 6, 5, 6, 6, 7, 5, 6, 6, 7, 6, 7, 7, 8] (.tmp 17), none, false⟩,
   ⟨(some 19), .bin .add (.tmp 15) (.tmp 18), none, false⟩,
   ⟨(some 20), .conv .i64 (.tmp 19), none, false⟩,
   ⟨(some 2), .mv (.tmp 20), none, false⟩])
  .ret))⟩

theorem s149 : compFn Try.prog Try.f149 = some c149 := by kernel_rfl

/-- loop.example/g01262/spec.l01Form -/
def c150 : XFn :=
 ⟨[.tmp 6],
  (.seq (.reg [⟨(some 4), .box 153 (.tmp 1), none, false⟩,
   ⟨(some 6), .mv (.const (.bool false)), none, false⟩])
  (.seq (.seq (.reg [⟨(some 7), .mv (.const (.int .i64 0)), none, false⟩])
  (.blk 0 (.loop (.seq (.seq (.reg [⟨(some 8), .mv (.tmp 7), none, false⟩,
   ⟨(some 9), .bin .lss (.tmp 8) (.const (.int .i64 9)), none, false⟩])
  (.cond (.tmp 9) .skip (.exit 0)))
  (.seq (.blk 1 (.seq (.reg [⟨(some 12), .mv (.tmp 7), none, false⟩,
   ⟨(some 13), .ixa 9 1 (.tmp 4) (.tmp 12), none, false⟩,
   ⟨(some 14), .load1 (.tmp 13), none, false⟩,
   ⟨(some 15), .conv .i64 (.tmp 14), none, false⟩,
   ⟨(some 16), .mv (.tmp 0), none, false⟩,
   ⟨(some 17), .bin .geq (.tmp 15) (.tmp 16), none, false⟩,
   ⟨(some 18), .mv (.tmp 17), none, false⟩,
   ⟨(some 19), .mv (.tmp 7), (some (18, false)), false⟩,
   ⟨(some 20), .mv (.tmp 2), (some (18, false)), false⟩,
   ⟨(some 21), .bin .geq (.tmp 19) (.tmp 20), (some (18, false)), false⟩,
   ⟨(some 22), .mv (.tmp 21), (some (18, false)), false⟩,
   ⟨(some 23), .mv (.tmp 7), (some (22, true)), false⟩,
   ⟨(some 24), .ixa 9 1 (.tmp 4) (.tmp 23), (some (22, true)), false⟩,
   ⟨(some 25), .load1 (.tmp 24), (some (22, true)), false⟩,
   ⟨(some 26), .bin .neq (.tmp 25) (.const (.int .u8 0)), (some (22, true)), false⟩,
   ⟨(some 27), .pick (.tmp 22) (.tmp 26) (.const (.bool false)), (some (18, false)), false⟩,
   ⟨(some 28), .pick (.tmp 18) (.const (.bool true)) (.tmp 27), none, false⟩])
  (.cond (.tmp 28) (.seq (.reg [⟨(some 6), .mv (.const (.bool false)), none, false⟩])
  .ret) .skip)))
  (.reg [⟨(some 10), .mv (.tmp 7), none, false⟩,
   ⟨(some 11), .bin .add (.tmp 10) (.const (.int .i64 1)), none, false⟩,
   ⟨(some 7), .mv (.tmp 11), none, false⟩]))))))
  (.seq (.reg [⟨(some 6), .mv (.const (.bool true)), none, false⟩])
  .ret)))⟩

theorem s150 : compFn Try.prog Try.f150 = some c150 := by kernel_rfl

/-- loop.example/g01262/spec.l01Zero -/
def c151 : XFn :=
 ⟨[.tmp 2],
  (.seq (.reg [⟨(some 1), .box 153 (.tmp 0), none, false⟩,
   ⟨(some 2), .mv (.const (.bool false)), none, false⟩])
  (.seq (.reg [⟨(some 3), .loadn 9 (.tmp 1), none, false⟩,
   ⟨(some 4), .build [.int .u8 0, .int .u8 0, .int .u8 0, .int .u8 0, .int .u8 0, .int .u8 0, .int .u8 0, .int .u8 0, .int .u8 0] [], none, false⟩,
   ⟨(some 5), .eqa false 9 (.tmp 3) (.tmp 4), none, false⟩,
   ⟨(some 2), .mv (.tmp 5), none, false⟩])
  .ret))⟩

theorem s151 : compFn Try.prog Try.f151 = some c151 := by kernel_rfl

/-- loop.example/g01262/laws.toForm -/
def c152 : XFn :=
 ⟨[.celln 2 9],
  (.seq (.reg [⟨(some 1), .box 152 (.tmp 0), none, false⟩,
   ⟨(some 2), .alloc 153 [.int .u8 0, .int .u8 0, .int .u8 0, .int .u8 0, .int .u8 0, .int .u8 0, .int .u8 0, .int .u8 0, .int .u8 0], none, false⟩])
  (.seq (.reg [⟨(some 3), .alloc 153 [.int .u8 0, .int .u8 0, .int .u8 0, .int .u8 0, .int .u8 0, .int .u8 0, .int .u8 0, .int .u8 0, .int .u8 0], none, false⟩])
  (.seq (.seq (.reg [⟨(some 4), .mv (.const (.int .i64 0)), none, false⟩])
  (.blk 0 (.loop (.seq (.seq (.reg [⟨(some 5), .mv (.tmp 4), none, false⟩,
   ⟨(some 6), .bin .lss (.tmp 5) (.const (.int .i64 9)), none, false⟩])
  (.cond (.tmp 6) .skip (.exit 0)))
  (.seq (.blk 1 (.reg [⟨(some 9), .mv (.tmp 4), none, false⟩,
   ⟨(some 10), .mv (.tmp 4), none, false⟩,
   ⟨(some 11), .ixa 9 1 (.tmp 1) (.tmp 10), none, false⟩,
   ⟨(some 12), .load1 (.tmp 11), none, false⟩,
   ⟨(some 13), .ixa 9 1 (.tmp 3) (.tmp 9), none, false⟩,
   ⟨none, .store 1 (.tmp 13) (.tmp 12), none, false⟩]))
  (.reg [⟨(some 7), .mv (.tmp 4), none, false⟩,
   ⟨(some 8), .bin .add (.tmp 7) (.const (.int .i64 1)), none, false⟩,
   ⟨(some 4), .mv (.tmp 8), none, false⟩]))))))
  (.seq (.reg [⟨(some 14), .loadn 9 (.tmp 3), none, false⟩,
   ⟨none, .store 9 (.tmp 2) (.tmp 14), none, false⟩])
  .ret))))⟩

theorem s152 : compFn Try.prog Try.f152 = some c152 := by kernel_rfl

/-- loop.example/g01262/impl.isSize -/
def c153 : XFn :=
 ⟨[.tmp 2],
  (.seq (.reg [⟨(some 2), .mv (.const (.bool false)), none, false⟩])
  (.seq (.seq (.reg [⟨(some 5), .mv (.tmp 0), none, false⟩,
   ⟨(some 6), .len (.tmp 5), none, false⟩,
   ⟨(some 7), .mv (.const (.int .i64 0)), none, false⟩])
  (.blk 0 (.loop (.seq (.reg [⟨(some 8), .bin .lss (.tmp 7) (.tmp 6), none, false⟩])
  (.seq (.cond (.tmp 8) .skip (.exit 0))
  (.seq (.blk 1 (.seq (.reg [⟨(some 9), .ixs 1 (.tmp 5) (.tmp 7), none, false⟩,
   ⟨(some 10), .load1 (.tmp 9), none, false⟩,
   ⟨(some 4), .mv (.tmp 10), none, false⟩])
  (.seq (.reg [⟨(some 11), .mv (.tmp 4), none, false⟩,
   ⟨(some 12), .bin .lss (.tmp 11) (.const (.int .i64 1)), none, false⟩,
   ⟨(some 13), .mv (.tmp 12), none, false⟩,
   ⟨(some 14), .mv (.tmp 4), (some (13, false)), false⟩,
   ⟨(some 15), .bin .gtr (.tmp 14) (.const (.int .i64 3)), (some (13, false)), false⟩,
   ⟨(some 16), .pick (.tmp 13) (.const (.bool true)) (.tmp 15), none, false⟩])
  (.cond (.tmp 16) (.seq (.reg [⟨(some 2), .mv (.const (.bool false)), none, false⟩])
  .ret) .skip))))
  (.reg [⟨(some 17), .bin .add (.tmp 7) (.const (.int .i64 1)), none, false⟩,
   ⟨(some 7), .mv (.tmp 17), none, false⟩])))))))
  (.seq (.reg [⟨(some 2), .mv (.const (.bool true)), none, false⟩])
  .ret)))⟩

theorem s153 : compFn Try.prog Try.f153 = some c153 := by kernel_rfl

/-- loop.example/g01262/impl.isProduct -/
def c154 : XFn :=
 ⟨[.tmp 6],
  (.seq (.reg [⟨(some 4), .box 167 (.tmp 1), none, false⟩,
   ⟨(some 5), .box 155 (.tmp 2), none, false⟩,
   ⟨(some 6), .mv (.const (.bool false)), none, false⟩])
  (.seq (.seq (.reg [⟨(some 9), .loadn 27 (.tmp 5), none, false⟩,
   ⟨(some 10), .call (.func 157) [(.tmp 9)], none, false⟩,
   ⟨(some 11), .mv (.const (.int .i64 0)), none, false⟩])
  (.blk 0 (.loop (.seq (.reg [⟨(some 12), .bin .lss (.tmp 11) (.const (.int .i64 3)), none, false⟩])
  (.seq (.cond (.tmp 12) .skip (.exit 0))
  (.seq (.blk 1 (.seq (.reg [⟨(some 13), .mv (.tmp 11), none, false⟩,
   ⟨(some 14), .idxn 3 9 (.tmp 10) (.tmp 11), none, false⟩,
   ⟨(some 8), .alloc 153 [.int .u8 0, .int .u8 0, .int .u8 0, .int .u8 0, .int .u8 0, .int .u8 0, .int .u8 0, .int .u8 0, .int .u8 0], none, false⟩,
   ⟨(some 7), .mv (.tmp 13), none, false⟩,
   ⟨none, .store 9 (.tmp 8) (.tmp 14), none, false⟩])
  (.seq (.reg [⟨(some 15), .mv (.tmp 0), none, false⟩,
   ⟨(some 16), .mv (.tmp 7), none, false⟩,
   ⟨(some 17), .ixa 3 1 (.tmp 4) (.tmp 16), none, false⟩,
   ⟨(some 18), .load1 (.tmp 17), none, false⟩,
   ⟨(some 19), .loadn 9 (.tmp 8), none, false⟩,
   ⟨(some 20), .call (.func 161) [(.tmp 15), (.tmp 18), (.tmp 19)], none, false⟩,
   ⟨(some 21), .un .not (.tmp 20), none, false⟩])
  (.cond (.tmp 21) (.seq (.reg [⟨(some 6), .mv (.const (.bool false)), none, false⟩])
  .ret) .skip))))
  (.reg [⟨(some 22), .bin .add (.tmp 11) (.const (.int .i64 1)), none, false⟩,
   ⟨(some 11), .mv (.tmp 22), none, false⟩])))))))
  (.seq (.reg [⟨(some 23), .loadn 27 (.tmp 5), none, false⟩,
   ⟨(some 24), .call (.func 162) [(.tmp 23)], none, false⟩,
   ⟨(some 25), .un .not (.tmp 24), none, false⟩,
   ⟨(some 6), .mv (.tmp 25), none, false⟩])
  .ret)))⟩

theorem s154 : compFn Try.prog Try.f154 = some c154 := by kernel_rfl

/-- loop.example/g01262/laws.eqForm -/
def c155 : XFn :=
 ⟨[.tmp 4],
  (.seq (.reg [⟨(some 2), .box 153 (.tmp 0), none, false⟩,
   ⟨(some 3), .box 153 (.tmp 1), none, false⟩,
   ⟨(some 4), .mv (.const (.bool false)), none, false⟩])
  (.seq (.seq (.reg [⟨(some 5), .mv (.const (.int .i64 0)), none, false⟩])
  (.blk 0 (.loop (.seq (.seq (.reg [⟨(some 6), .mv (.tmp 5), none, false⟩,
   ⟨(some 7), .bin .lss (.tmp 6) (.const (.int .i64 9)), none, false⟩])
  (.cond (.tmp 7) .skip (.exit 0)))
  (.seq (.blk 1 (.seq (.reg [⟨(some 10), .mv (.tmp 5), none, false⟩,
   ⟨(some 11), .ixa 9 1 (.tmp 2) (.tmp 10), none, false⟩,
   ⟨(some 12), .load1 (.tmp 11), none, false⟩,
   ⟨(some 13), .mv (.tmp 5), none, false⟩,
   ⟨(some 14), .ixa 9 1 (.tmp 3) (.tmp 13), none, false⟩,
   ⟨(some 15), .load1 (.tmp 14), none, false⟩,
   ⟨(some 16), .bin .neq (.tmp 12) (.tmp 15), none, false⟩])
  (.cond (.tmp 16) (.seq (.reg [⟨(some 4), .mv (.const (.bool false)), none, false⟩])
  .ret) .skip)))
  (.reg [⟨(some 8), .mv (.tmp 5), none, false⟩,
   ⟨(some 9), .bin .add (.tmp 8) (.const (.int .i64 1)), none, false⟩,
   ⟨(some 5), .mv (.tmp 9), none, false⟩]))))))
  (.seq (.reg [⟨(some 4), .mv (.const (.bool true)), none, false⟩])
  .ret)))⟩

theorem s155 : compFn Try.prog Try.f155 = some c155 := by kernel_rfl

/-- loop.example/g01262/impl.matrixOf -/
def c156 : XFn :=
 ⟨[.tmp 6],
  (.seq (.reg [⟨(some 3), .box 153 (.tmp 0), none, false⟩,
   ⟨(some 6), .mv (.const (.slice none 0 0)), none, false⟩])
  (.seq (.reg [⟨(some 9), .bslice 2 1 0 [.int .i64 0] [], none, false⟩,
   ⟨(some 7), .mv (.tmp 9), none, false⟩])
  (.seq (.seq (.reg [⟨(some 10), .mv (.tmp 1), none, false⟩,
   ⟨(some 11), .mv (.tmp 2), none, false⟩,
   ⟨(some 12), .bin .mul (.tmp 10) (.tmp 11), none, false⟩,
   ⟨(some 13), .mv (.const (.int .i64 0)), none, false⟩])
  (.blk 0 (.loop (.seq (.reg [⟨(some 14), .bin .lss (.tmp 13) (.tmp 12), none, false⟩])
  (.seq (.cond (.tmp 14) .skip (.exit 0))
  (.seq (.blk 1 (.seq (.reg [⟨(some 15), .mv (.tmp 13), none, false⟩,
   ⟨(some 8), .mv (.tmp 15), none, false⟩])
  (.reg [⟨(some 16), .mv (.tmp 7), none, false⟩,
   ⟨(some 17), .mv (.tmp 8), none, false⟩,
   ⟨(some 18), .ixa 9 1 (.tmp 3) (.tmp 17), none, false⟩,
   ⟨(some 19), .load1 (.tmp 18), none, false⟩,
   ⟨(some 20), .conv .i64 (.tmp 19), none, false⟩,
   ⟨(some 21), .bslice 2 1 1 [.int .i64 0] [(0, 1, (.tmp 20))], none, false⟩,
   ⟨(some 22), .app 2 1 8 (.tmp 16) (.tmp 21), none, false⟩,
   ⟨(some 7), .mv (.tmp 22), none, false⟩])))
  (.reg [⟨(some 23), .bin .add (.tmp 13) (.const (.int .i64 1)), none, false⟩,
   ⟨(some 13), .mv (.tmp 23), none, false⟩])))))))
  (.seq (.reg [⟨(some 24), .mv (.tmp 7), none, false⟩,
   ⟨(some 25), .mv (.tmp 2), none, false⟩,
   ⟨(some 26), .call (.func 103) [(.tmp 24), (.tmp 25)], none, false⟩,
   ⟨(some 6), .mv (.tmp 26), none, false⟩])
  .ret))))⟩

theorem s156 : compFn Try.prog Try.f156 = some c156 := by kernel_rfl

/-- loop.example/g01262/impl.factors -/
def c157 : XFn :=
 ⟨[.celln 2 27],
  (.seq (.reg [⟨(some 1), .box 155 (.tmp 0), none, false⟩,
   ⟨(some 2), .alloc 181 [.int .u8 0, .int .u8 0, .int .u8 0, .int .u8 0, .int .u8 0, .int .u8 0, .int .u8 0, .int .u8 0, .int .u8 0, .int .u8 0, .int .u8 0, .int .u8 0, .int .u8 0, .int .u8 0, .int .u8 0, .int .u8 0, .int .u8 0, .int .u8 0, .int .u8 0, .int .u8 0, .int .u8 0, .int .u8 0, .int .u8 0, .int .u8 0, .int .u8 0, .int .u8 0, .int .u8 0], none, false⟩])
  (.seq (.reg [⟨(some 3), .fadr 0 (.tmp 1), none, false⟩,
   ⟨(some 4), .loadn 9 (.tmp 3), none, false⟩,
   ⟨(some 5), .fadr 9 (.tmp 1), none, false⟩,
   ⟨(some 6), .loadn 9 (.tmp 5), none, false⟩,
   ⟨(some 7), .fadr 18 (.tmp 1), none, false⟩,
   ⟨(some 8), .loadn 9 (.tmp 7), none, false⟩,
   ⟨(some 9), .build [.int .u8 0, .int .u8 0, .int .u8 0, .int .u8 0, .int .u8 0, .int .u8 0, .int .u8 0, .int .u8 0, .int .u8 0, .int .u8 0, .int .u8 0, .int .u8 0, .int .u8 0, .int .u8 0, .int .u8 0, .int .u8 0, .int .u8 0, .int .u8 0, .int .u8 0, .int .u8 0, .int .u8 0, .int .u8 0, .int .u8 0, .int .u8 0, .int .u8 0, .int .u8 0, .int .u8 0] [(0, 9, (.tmp 4)), (9, 9, (.tmp 6)), (18, 9, (.tmp 8))], none, false⟩,
   ⟨none, .store 27 (.tmp 2) (.tmp 9), none, false⟩])
  .ret))⟩

theorem s157 : compFn Try.prog Try.f157 = some c157 := by kernel_rfl

/-- loop.example/g01262/impl.isForm -/
def c161 : XFn :=
 ⟨[.tmp 6],
  (.seq (.reg [⟨(some 5), .box 153 (.tmp 2), none, false⟩,
   ⟨(some 6), .mv (.const (.bool false)), none, false⟩])
  (.seq (.seq (.reg [⟨(some 9), .loadn 9 (.tmp 5), none, false⟩,
   ⟨(some 10), .mv (.const (.int .i64 0)), none, false⟩])
  (.blk 0 (.loop (.seq (.reg [⟨(some 11), .bin .lss (.tmp 10) (.const (.int .i64 9)), none, false⟩])
  (.seq (.cond (.tmp 11) .skip (.exit 0))
  (.seq (.blk 1 (.seq (.reg [⟨(some 12), .mv (.tmp 10), none, false⟩,
   ⟨(some 13), .idx1 9 (.tmp 9) (.tmp 10), none, false⟩,
   ⟨(some 7), .mv (.tmp 12), none, false⟩,
   ⟨(some 8), .mv (.tmp 13), none, false⟩])
  (.seq (.reg [⟨(some 14), .mv (.tmp 8), none, false⟩,
   ⟨(some 15), .conv .i64 (.tmp 14), none, false⟩,
   ⟨(some 16), .mv (.tmp 0), none, false⟩,
   ⟨(some 17), .bin .geq (.tmp 15) (.tmp 16), none, false⟩,
   ⟨(some 18), .mv (.tmp 17), none, false⟩,
   ⟨(some 19), .mv (.tmp 8), (some (18, false)), false⟩,
   ⟨(some 20), .bin .neq (.tmp 19) (.const (.int .u8 0)), (some (18, false)), false⟩,
   ⟨(some 21), .mv (.tmp 20), (some (18, false)), false⟩,
   ⟨(some 22), .mv (.tmp 7), (some (21, true)), false⟩,
   ⟨(some 23), .mv (.tmp 1), (some (21, true)), false⟩,
   ⟨(some 24), .bin .geq (.tmp 22) (.tmp 23), (some (21, true)), false⟩,
   ⟨(some 25), .pick (.tmp 21) (.tmp 24) (.const (.bool false)), (some (18, false)), false⟩,
   ⟨(some 26), .pick (.tmp 18) (.const (.bool true)) (.tmp 25), none, false⟩])
  (.cond (.tmp 26) (.seq (.reg [⟨(some 6), .mv (.const (.bool false)), none, false⟩])
  .ret) .skip))))
  (.reg [⟨(some 27), .bin .add (.tmp 10) (.const (.int .i64 1)), none, false⟩,
   ⟨(some 10), .mv (.tmp 27), none, false⟩])))))))
  (.seq (.reg [⟨(some 6), .mv (.const (.bool true)), none, false⟩])
  .ret)))⟩

theorem s161 : compFn Try.prog Try.f161 = some c161 := by kernel_rfl

/-- loop.example/g01262/impl.hasZero -/
def c162 : XFn :=
 ⟨[.tmp 2],
  (.seq (.reg [⟨(some 1), .box 155 (.tmp 0), none, false⟩,
   ⟨(some 2), .mv (.const (.bool false)), none, false⟩])
  (.seq (.reg [⟨(some 3), .fadr 0 (.tmp 1), none, false⟩,
   ⟨(some 4), .loadn 9 (.tmp 3), none, false⟩,
   ⟨(some 5), .build [.int .u8 0, .int .u8 0, .int .u8 0, .int .u8 0, .int .u8 0, .int .u8 0, .int .u8 0, .int .u8 0, .int .u8 0] [], none, false⟩,
   ⟨(some 6), .eqa false 9 (.tmp 4) (.tmp 5), none, false⟩,
   ⟨(some 7), .mv (.tmp 6), none, false⟩,
   ⟨(some 8), .fadr 9 (.tmp 1), (some (7, false)), false⟩,
   ⟨(some 9), .loadn 9 (.tmp 8), (some (7, false)), false⟩,
   ⟨(some 10), .build [.int .u8 0, .int .u8 0, .int .u8 0, .int .u8 0, .int .u8 0, .int .u8 0, .int .u8 0, .int .u8 0, .int .u8 0] [], (some (7, false)), false⟩,
   ⟨(some 11), .eqa false 9 (.tmp 9) (.tmp 10), (some (7, false)), false⟩,
   ⟨(some 12), .pick (.tmp 7) (.const (.bool true)) (.tmp 11), none, false⟩,
   ⟨(some 13), .mv (.tmp 12), none, false⟩,
   ⟨(some 14), .fadr 18 (.tmp 1), (some (13, false)), false⟩,
   ⟨(some 15), .loadn 9 (.tmp 14), (some (13, false)), false⟩,
   ⟨(some 16), .build [.int .u8 0, .int .u8 0, .int .u8 0, .int .u8 0, .int .u8 0, .int .u8 0, .int .u8 0, .int .u8 0, .int .u8 0] [], (some (13, false)), false⟩,
   ⟨(some 17), .eqa false 9 (.tmp 15) (.tmp 16), (some (13, false)), false⟩,
   ⟨(some 18), .pick (.tmp 13) (.const (.bool true)) (.tmp 17), none, false⟩,
   ⟨(some 2), .mv (.tmp 18), none, false⟩])
  .ret))⟩

theorem s162 : compFn Try.prog Try.f162 = some c162 := by kernel_rfl

def tab : List (Nat × XFn) := [(14, c14), (22, c22), (24, c24), (25, c25), (30, c30), (33, c33), (34, c34), (36, c36), (41, c41), (43, c43), (49, c49), (51, c51), (53, c53), (54, c54), (62, c62), (63, c63), (64, c64), (71, c71), (84, c84), (85, c85), (86, c86), (90, c90), (92, c92), (94, c94), (95, c95), (96, c96), (97, c97), (98, c98), (99, c99), (101, c101), (102, c102), (103, c103), (105, c105), (106, c106), (107, c107), (108, c108), (109, c109), (111, c111), (112, c112), (113, c113), (114, c114), (115, c115), (116, c116), (118, c118), (126, c126), (127, c127), (128, c128), (129, c129), (130, c130), (131, c131), (132, c132), (133, c133), (135, c135), (136, c136), (138, c138), (139, c139), (140, c140), (141, c141), (142, c142), (143, c143), (144, c144), (145, c145), (146, c146), (149, c149), (150, c150), (151, c151), (152, c152), (153, c153), (154, c154), (155, c155), (156, c156), (157, c157), (161, c161), (162, c162)]
def T (g : FuncId) : Option XFn := tab.lookup g
theorem orders : Try.prog.follows .mixedOrders = true := by kernel_rfl
theorem tsound : TSound Try.prog T := by
  refine tsound_of_all (P := Try.prog) (tab := tab) ?_
  intro p hp
  simp only [tab, List.mem_cons, List.not_mem_nil, or_false] at hp
  rcases hp with rfl | rfl | rfl | rfl | rfl | rfl | rfl | rfl | rfl | rfl | rfl | rfl | rfl | rfl | rfl | rfl | rfl | rfl | rfl | rfl | rfl | rfl | rfl | rfl | rfl | rfl | rfl | rfl | rfl | rfl | rfl | rfl | rfl | rfl | rfl | rfl | rfl | rfl | rfl | rfl | rfl | rfl | rfl | rfl | rfl | rfl | rfl | rfl | rfl | rfl | rfl | rfl | rfl | rfl | rfl | rfl | rfl | rfl | rfl | rfl | rfl | rfl | rfl | rfl | rfl | rfl | rfl | rfl | rfl | rfl | rfl | rfl | rfl | rfl
  · exact ⟨_, Try.func14, s14⟩
  · exact ⟨_, Try.func22, s22⟩
  · exact ⟨_, Try.func24, s24⟩
  · exact ⟨_, Try.func25, s25⟩
  · exact ⟨_, Try.func30, s30⟩
  · exact ⟨_, Try.func33, s33⟩
  · exact ⟨_, Try.func34, s34⟩
  · exact ⟨_, Try.func36, s36⟩
  · exact ⟨_, Try.func41, s41⟩
  · exact ⟨_, Try.func43, s43⟩
  · exact ⟨_, Try.func49, s49⟩
  · exact ⟨_, Try.func51, s51⟩
  · exact ⟨_, Try.func53, s53⟩
  · exact ⟨_, Try.func54, s54⟩
  · exact ⟨_, Try.func62, s62⟩
  · exact ⟨_, Try.func63, s63⟩
  · exact ⟨_, Try.func64, s64⟩
  · exact ⟨_, Try.func71, s71⟩
  · exact ⟨_, Try.func84, s84⟩
  · exact ⟨_, Try.func85, s85⟩
  · exact ⟨_, Try.func86, s86⟩
  · exact ⟨_, Try.func90, s90⟩
  · exact ⟨_, Try.func92, s92⟩
  · exact ⟨_, Try.func94, s94⟩
  · exact ⟨_, Try.func95, s95⟩
  · exact ⟨_, Try.func96, s96⟩
  · exact ⟨_, Try.func97, s97⟩
  · exact ⟨_, Try.func98, s98⟩
  · exact ⟨_, Try.func99, s99⟩
  · exact ⟨_, Try.func101, s101⟩
  · exact ⟨_, Try.func102, s102⟩
  · exact ⟨_, Try.func103, s103⟩
  · exact ⟨_, Try.func105, s105⟩
  · exact ⟨_, Try.func106, s106⟩
  · exact ⟨_, Try.func107, s107⟩
  · exact ⟨_, Try.func108, s108⟩
  · exact ⟨_, Try.func109, s109⟩
  · exact ⟨_, Try.func111, s111⟩
  · exact ⟨_, Try.func112, s112⟩
  · exact ⟨_, Try.func113, s113⟩
  · exact ⟨_, Try.func114, s114⟩
  · exact ⟨_, Try.func115, s115⟩
  · exact ⟨_, Try.func116, s116⟩
  · exact ⟨_, Try.func118, s118⟩
  · exact ⟨_, Try.func126, s126⟩
  · exact ⟨_, Try.func127, s127⟩
  · exact ⟨_, Try.func128, s128⟩
  · exact ⟨_, Try.func129, s129⟩
  · exact ⟨_, Try.func130, s130⟩
  · exact ⟨_, Try.func131, s131⟩
  · exact ⟨_, Try.func132, s132⟩
  · exact ⟨_, Try.func133, s133⟩
  · exact ⟨_, Try.func135, s135⟩
  · exact ⟨_, Try.func136, s136⟩
  · exact ⟨_, Try.func138, s138⟩
  · exact ⟨_, Try.func139, s139⟩
  · exact ⟨_, Try.func140, s140⟩
  · exact ⟨_, Try.func141, s141⟩
  · exact ⟨_, Try.func142, s142⟩
  · exact ⟨_, Try.func143, s143⟩
  · exact ⟨_, Try.func144, s144⟩
  · exact ⟨_, Try.func145, s145⟩
  · exact ⟨_, Try.func146, s146⟩
  · exact ⟨_, Try.func149, s149⟩
  · exact ⟨_, Try.func150, s150⟩
  · exact ⟨_, Try.func151, s151⟩
  · exact ⟨_, Try.func152, s152⟩
  · exact ⟨_, Try.func153, s153⟩
  · exact ⟨_, Try.func154, s154⟩
  · exact ⟨_, Try.func155, s155⟩
  · exact ⟨_, Try.func156, s156⟩
  · exact ⟨_, Try.func157, s157⟩
  · exact ⟨_, Try.func161, s161⟩
  · exact ⟨_, Try.func162, s162⟩
end Go.Proofs.Ytilpnbejpndgpaa.X
