/- Texts of one claim, put together by merge.py: XCode. -/
import Derived.Test.YtilpnbejpndgpaaMC2
/- The abstract code of the seat's functions, printed by a program of this session, and that it is what the compiler of XComp makes. -/
set_option linter.unusedVariables false
set_option maxRecDepth 4000
namespace Go.Proofs.Ytilpnbejpndgpaa.X
open Go Go.RowKit

/-- loop.example/g01262/impl.mostRows -/
def c130 : XFn :=
 ⟨[.celln 4 3, .tmp 5],
  (.seq (.reg [⟨(some 4), .alloc 146 [.int .i64 0, .int .i64 0, .int .i64 0], none, false⟩,
   ⟨(some 5), .mv (.const (.bool false)), none, false⟩])
  (.seq (.reg [⟨(some 16), .build [.int .i64 0, .int .i64 0, .int .i64 0] [], none, false⟩,
   ⟨(some 6), .alloc 146 [.int .i64 0, .int .i64 0, .int .i64 0], none, false⟩,
   ⟨none, .store 3 (.tmp 6) (.tmp 16), none, false⟩,
   ⟨(some 7), .mv (.const (.int .i64 1)), none, false⟩])
  (.seq (.seq (.reg [⟨(some 17), .mv (.tmp 1), none, false⟩,
   ⟨(some 18), .len (.tmp 17), none, false⟩,
   ⟨(some 19), .mv (.const (.int .i64 0)), none, false⟩])
  (.blk 0 (.loop (.seq (.reg [⟨(some 20), .bin .lss (.tmp 19) (.tmp 18), none, false⟩])
  (.seq (.cond (.tmp 20) .skip (.exit 0))
  (.seq (.blk 1 (.seq (.reg [⟨(some 21), .mv (.tmp 19), none, false⟩,
   ⟨(some 22), .ixs 5 (.tmp 17) (.tmp 19), none, false⟩,
   ⟨(some 23), .loadn 5 (.tmp 22), none, false⟩,
   ⟨(some 9), .alloc 144 [.int .u32 0, .int .u32 0, .int .u32 0, .int .u32 0, .int .u32 0], none, false⟩,
   ⟨(some 8), .mv (.tmp 21), none, false⟩,
   ⟨none, .store 5 (.tmp 9) (.tmp 23), none, false⟩])
  (.seq (.reg [⟨(some 10), .mv (.const (.int .u32 0)), none, false⟩])
  (.seq (.seq (.reg [⟨(some 24), .slca 5 1 (.tmp 9) (some (.const (.int .i64 1))) none, none, false⟩,
   ⟨(some 25), .len (.tmp 24), none, false⟩,
   ⟨(some 26), .mv (.const (.int .i64 0)), none, false⟩])
  (.blk 2 (.loop (.seq (.reg [⟨(some 27), .bin .lss (.tmp 26) (.tmp 25), none, false⟩])
  (.seq (.cond (.tmp 27) .skip (.exit 2))
  (.seq (.blk 3 (.seq (.reg [⟨(some 28), .ixs 1 (.tmp 24) (.tmp 26), none, false⟩,
   ⟨(some 29), .load1 (.tmp 28), none, false⟩,
   ⟨(some 12), .mv (.tmp 29), none, false⟩])
  (.reg [⟨(some 30), .mv (.tmp 10), none, false⟩,
   ⟨(some 31), .mv (.tmp 12), none, false⟩,
   ⟨(some 32), .bin .or (.tmp 30) (.tmp 31), none, false⟩,
   ⟨(some 10), .mv (.tmp 32), none, false⟩])))
  (.reg [⟨(some 33), .bin .add (.tmp 26) (.const (.int .i64 1)), none, false⟩,
   ⟨(some 26), .mv (.tmp 33), none, false⟩])))))))
  (.seq (.seq (.reg [⟨(some 34), .mv (.tmp 10), none, false⟩,
   ⟨(some 35), .call (.func 149) [(.tmp 34)], none, false⟩,
   ⟨(some 36), .mv (.tmp 7), none, false⟩,
   ⟨(some 37), .bin .leq (.tmp 35) (.tmp 36), none, false⟩])
  (.cond (.tmp 37) (.exit 1) .skip))
  (.seq (.reg [⟨(some 38), .mv (.tmp 8), none, false⟩,
   ⟨(some 39), .bin .add (.tmp 38) (.const (.int .i64 1)), none, false⟩,
   ⟨(some 13), .mv (.tmp 39), none, false⟩])
  (.blk 4 (.loop (.seq (.seq (.reg [⟨(some 40), .mv (.tmp 13), none, false⟩,
   ⟨(some 41), .mv (.tmp 1), none, false⟩,
   ⟨(some 42), .len (.tmp 41), none, false⟩,
   ⟨(some 43), .bin .lss (.tmp 40) (.tmp 42), none, false⟩])
  (.cond (.tmp 43) .skip (.exit 4)))
  (.seq (.blk 5 (.seq (.reg [⟨(some 14), .mv (.const (.int .i64 1)), none, false⟩])
  (.blk 6 (.loop (.seq (.seq (.reg [⟨(some 46), .mv (.tmp 14), none, false⟩,
   ⟨(some 47), .mv (.tmp 0), none, false⟩,
   ⟨(some 48), .bin .lss (.tmp 46) (.tmp 47), none, false⟩])
  (.cond (.tmp 48) .skip (.exit 6)))
  (.seq (.blk 7 (.seq (.reg [⟨(some 51), .mv (.tmp 0), none, false⟩,
   ⟨(some 52), .loadn 5 (.tmp 9), none, false⟩,
   ⟨(some 53), .mv (.tmp 1), none, false⟩,
   ⟨(some 54), .mv (.tmp 13), none, false⟩,
   ⟨(some 55), .ixs 5 (.tmp 53) (.tmp 54), none, false⟩,
   ⟨(some 56), .loadn 5 (.tmp 55), none, false⟩,
   ⟨(some 57), .mv (.tmp 14), none, false⟩,
   ⟨(some 58), .call (.func 131) [(.tmp 51), (.tmp 52), (.tmp 56), (.tmp 57)], none, false⟩,
   ⟨(some 59), .call (.func 149) [(.tmp 58)], none, false⟩,
   ⟨(some 15), .mv (.tmp 59), none, false⟩])
  (.seq (.reg [⟨(some 60), .mv (.tmp 15), none, false⟩,
   ⟨(some 61), .mv (.tmp 7), none, false⟩,
   ⟨(some 62), .bin .gtr (.tmp 60) (.tmp 61), none, false⟩])
  (.cond (.tmp 62) (.reg [⟨(some 63), .mv (.tmp 8), none, false⟩,
   ⟨(some 64), .mv (.tmp 13), none, false⟩,
   ⟨(some 65), .mv (.tmp 14), none, false⟩,
   ⟨(some 66), .build [.int .i64 0, .int .i64 0, .int .i64 0] [(0, 1, (.tmp 63)), (1, 1, (.tmp 64)), (2, 1, (.tmp 65))], none, false⟩,
   ⟨(some 67), .mv (.tmp 15), none, false⟩,
   ⟨none, .store 3 (.tmp 6) (.tmp 66), none, false⟩,
   ⟨(some 7), .mv (.tmp 67), none, false⟩]) .skip))))
  (.reg [⟨(some 49), .mv (.tmp 14), none, false⟩,
   ⟨(some 50), .bin .add (.tmp 49) (.const (.int .i64 1)), none, false⟩,
   ⟨(some 14), .mv (.tmp 50), none, false⟩])))))))
  (.reg [⟨(some 44), .mv (.tmp 13), none, false⟩,
   ⟨(some 45), .bin .add (.tmp 44) (.const (.int .i64 1)), none, false⟩,
   ⟨(some 13), .mv (.tmp 45), none, false⟩])))))))))))
  (.reg [⟨(some 68), .bin .add (.tmp 19) (.const (.int .i64 1)), none, false⟩,
   ⟨(some 19), .mv (.tmp 68), none, false⟩])))))))
  (.seq (.reg [⟨(some 69), .loadn 3 (.tmp 6), none, false⟩,
   ⟨(some 70), .mv (.tmp 7), none, false⟩,
   ⟨(some 71), .bin .gtr (.tmp 70) (.const (.int .i64 1)), none, false⟩,
   ⟨none, .store 3 (.tmp 4) (.tmp 69), none, false⟩,
   ⟨(some 5), .mv (.tmp 71), none, false⟩])
  .ret))))⟩

theorem s130 : compFn Try.prog Try.f130 = some c130 := by kernel_rfl

/-- loop.example/g01262/impl.rowsWith -/
def c131 : XFn :=
 ⟨[.tmp 8],
  (.seq (.reg [⟨(some 5), .box 144 (.tmp 1), none, false⟩,
   ⟨(some 6), .box 144 (.tmp 2), none, false⟩,
   ⟨(some 8), .mv (.const (.int .u32 0)), none, false⟩])
  (.seq (.reg [⟨(some 9), .mv (.const (.int .u32 0)), none, false⟩])
  (.seq (.seq (.reg [⟨(some 10), .mv (.const (.int .i64 1)), none, false⟩])
  (.blk 0 (.loop (.seq (.seq (.reg [⟨(some 11), .mv (.tmp 10), none, false⟩,
   ⟨(some 12), .mv (.tmp 0), none, false⟩,
   ⟨(some 13), .bin .lss (.tmp 11) (.tmp 12), none, false⟩])
  (.cond (.tmp 13) .skip (.exit 0)))
  (.seq (.blk 1 (.reg [⟨(some 16), .mv (.tmp 9), none, false⟩,
   ⟨(some 17), .mv (.tmp 10), none, false⟩,
   ⟨(some 18), .ixa 5 1 (.tmp 5) (.tmp 17), none, false⟩,
   ⟨(some 19), .load1 (.tmp 18), none, false⟩,
   ⟨(some 20), .mv (.tmp 10), none, false⟩,
   ⟨(some 21), .mv (.tmp 3), none, false⟩,
   ⟨(some 22), .bin .mul (.tmp 20) (.tmp 21), none, false⟩,
   ⟨(some 23), .mv (.tmp 0), none, false⟩,
   ⟨(some 24), .bin .rem (.tmp 22) (.tmp 23), none, false⟩,
   ⟨(some 25), .ixa 5 1 (.tmp 6) (.tmp 24), none, false⟩,
   ⟨(some 26), .load1 (.tmp 25), none, false⟩,
   ⟨(some 27), .bin .and (.tmp 19) (.tmp 26), none, false⟩,
   ⟨(some 28), .bin .or (.tmp 16) (.tmp 27), none, false⟩,
   ⟨(some 9), .mv (.tmp 28), none, false⟩]))
  (.reg [⟨(some 14), .mv (.tmp 10), none, false⟩,
   ⟨(some 15), .bin .add (.tmp 14) (.const (.int .i64 1)), none, false⟩,
   ⟨(some 10), .mv (.tmp 15), none, false⟩]))))))
  (.seq (.reg [⟨(some 29), .mv (.tmp 9), none, false⟩,
   ⟨(some 8), .mv (.tmp 29), none, false⟩])
  .ret))))⟩

theorem s131 : compFn Try.prog Try.f131 = some c131 := by kernel_rfl

/-- loop.example/g01262/spec.l01Sizes -/
def c132 : XFn :=
 ⟨[.tmp 8],
  (.seq (.reg [⟨(some 8), .mv (.const (.bool false)), none, false⟩])
  (.seq (.reg [⟨(some 9), .mv (.tmp 0), none, false⟩,
   ⟨(some 10), .call (.func 114) [(.tmp 9)], none, false⟩,
   ⟨(some 11), .mv (.tmp 10), none, false⟩,
   ⟨(some 12), .mv (.tmp 1), (some (11, true)), false⟩,
   ⟨(some 13), .call (.func 115) [(.tmp 12), (.const (.int .i64 1)), (.const (.int .i64 3))], (some (11, true)), false⟩,
   ⟨(some 14), .pick (.tmp 11) (.tmp 13) (.const (.bool false)), none, false⟩,
   ⟨(some 15), .mv (.tmp 14), none, false⟩,
   ⟨(some 16), .mv (.tmp 2), (some (15, true)), false⟩,
   ⟨(some 17), .call (.func 115) [(.tmp 16), (.const (.int .i64 1)), (.const (.int .i64 3))], (some (15, true)), false⟩,
   ⟨(some 18), .pick (.tmp 15) (.tmp 17) (.const (.bool false)), none, false⟩,
   ⟨(some 19), .mv (.tmp 18), none, false⟩,
   ⟨(some 20), .mv (.tmp 3), (some (19, true)), false⟩,
   ⟨(some 21), .call (.func 115) [(.tmp 20), (.const (.int .i64 1)), (.const (.int .i64 3))], (some (19, true)), false⟩,
   ⟨(some 22), .pick (.tmp 19) (.tmp 21) (.const (.bool false)), none, false⟩,
   ⟨(some 8), .mv (.tmp 22), none, false⟩])
  .ret))⟩

theorem s132 : compFn Try.prog Try.f132 = some c132 := by kernel_rfl

/-- loop.example/g01262/spec.l01Product -/
def c133 : XFn :=
 ⟨[.tmp 4],
  (.seq (.reg [⟨(some 2), .box 71 (.tmp 0), none, false⟩,
   ⟨(some 3), .box 155 (.tmp 1), none, false⟩,
   ⟨(some 4), .mv (.const (.bool false)), none, false⟩])
  (.seq (.reg [⟨(some 9), .loadn 5 (.tmp 2), none, false⟩,
   ⟨(some 10), .call (.func 140) [(.tmp 9)], none, false⟩,
   ⟨(some 8), .mv (.tmp 10), none, false⟩,
   ⟨(some 11), .ext (.tmp 8) 0, none, false⟩,
   ⟨(some 12), .ext (.tmp 8) 1, none, false⟩,
   ⟨(some 13), .ext (.tmp 8) 2, none, false⟩,
   ⟨(some 5), .mv (.tmp 11), none, false⟩,
   ⟨(some 6), .mv (.tmp 12), none, false⟩,
   ⟨(some 7), .mv (.tmp 13), none, false⟩])
  (.seq (.seq (.reg [⟨(some 14), .fadr 0 (.tmp 2), none, false⟩,
   ⟨(some 15), .load1 (.tmp 14), none, false⟩,
   ⟨(some 16), .fadr 0 (.tmp 3), none, false⟩,
   ⟨(some 17), .loadn 9 (.tmp 16), none, false⟩,
   ⟨(some 18), .mv (.tmp 5), none, false⟩,
   ⟨(some 19), .call (.func 150) [(.tmp 15), (.tmp 17), (.tmp 18)], none, false⟩,
   ⟨(some 20), .un .not (.tmp 19), none, false⟩,
   ⟨(some 21), .mv (.tmp 20), none, false⟩,
   ⟨(some 22), .fadr 0 (.tmp 2), (some (21, false)), false⟩,
   ⟨(some 23), .load1 (.tmp 22), (some (21, false)), false⟩,
   ⟨(some 24), .fadr 9 (.tmp 3), (some (21, false)), false⟩,
   ⟨(some 25), .loadn 9 (.tmp 24), (some (21, false)), false⟩,
   ⟨(some 26), .mv (.tmp 6), (some (21, false)), false⟩,
   ⟨(some 27), .call (.func 150) [(.tmp 23), (.tmp 25), (.tmp 26)], (some (21, false)), false⟩,
   ⟨(some 28), .un .not (.tmp 27), (some (21, false)), false⟩,
   ⟨(some 29), .pick (.tmp 21) (.const (.bool true)) (.tmp 28), none, false⟩,
   ⟨(some 30), .mv (.tmp 29), none, false⟩,
   ⟨(some 31), .fadr 0 (.tmp 2), (some (30, false)), false⟩,
   ⟨(some 32), .load1 (.tmp 31), (some (30, false)), false⟩,
   ⟨(some 33), .fadr 18 (.tmp 3), (some (30, false)), false⟩,
   ⟨(some 34), .loadn 9 (.tmp 33), (some (30, false)), false⟩,
   ⟨(some 35), .mv (.tmp 7), (some (30, false)), false⟩,
   ⟨(some 36), .call (.func 150) [(.tmp 32), (.tmp 34), (.tmp 35)], (some (30, false)), false⟩,
   ⟨(some 37), .un .not (.tmp 36), (some (30, false)), false⟩,
   ⟨(some 38), .pick (.tmp 30) (.const (.bool true)) (.tmp 37), none, false⟩])
  (.cond (.tmp 38) (.seq (.reg [⟨(some 4), .mv (.const (.bool false)), none, false⟩])
  .ret) .skip))
  (.seq (.reg [⟨(some 39), .fadr 0 (.tmp 3), none, false⟩,
   ⟨(some 40), .loadn 9 (.tmp 39), none, false⟩,
   ⟨(some 41), .call (.func 151) [(.tmp 40)], none, false⟩,
   ⟨(some 42), .un .not (.tmp 41), none, false⟩,
   ⟨(some 43), .mv (.tmp 42), none, false⟩,
   ⟨(some 44), .fadr 9 (.tmp 3), (some (43, true)), false⟩,
   ⟨(some 45), .loadn 9 (.tmp 44), (some (43, true)), false⟩,
   ⟨(some 46), .call (.func 151) [(.tmp 45)], (some (43, true)), false⟩,
   ⟨(some 47), .un .not (.tmp 46), (some (43, true)), false⟩,
   ⟨(some 48), .pick (.tmp 43) (.tmp 47) (.const (.bool false)), none, false⟩,
   ⟨(some 49), .mv (.tmp 48), none, false⟩,
   ⟨(some 50), .fadr 18 (.tmp 3), (some (49, true)), false⟩,
   ⟨(some 51), .loadn 9 (.tmp 50), (some (49, true)), false⟩,
   ⟨(some 52), .call (.func 151) [(.tmp 51)], (some (49, true)), false⟩,
   ⟨(some 53), .un .not (.tmp 52), (some (49, true)), false⟩,
   ⟨(some 54), .pick (.tmp 49) (.tmp 53) (.const (.bool false)), none, false⟩,
   ⟨(some 4), .mv (.tmp 54), none, false⟩])
  .ret))))⟩

theorem s133 : compFn Try.prog Try.f133 = some c133 := by kernel_rfl

/-- loop.example/g01262/spec.l01At -/
def c134 : XFn :=
 ⟨[.tmp 4],
  (.seq (.reg [⟨(some 2), .box 153 (.tmp 0), none, false⟩,
   ⟨(some 4), .mv (.const (.int .i64 0)), none, false⟩])
  (.seq (.reg [⟨(some 5), .mv (.const (.int .i64 0)), none, false⟩,
   ⟨(some 6), .mv (.const (.int .i64 0)), none, false⟩])
  (.seq (.seq (.reg [⟨(some 7), .mv (.const (.int .i64 0)), none, false⟩])
  (.blk 0 (.loop (.seq (.seq (.reg [⟨(some 9), .mv (.tmp 7), none, false⟩,
   ⟨(some 10), .mv (.tmp 1), none, false⟩,
   ⟨(some 11), .len (.tmp 10), none, false⟩,
   ⟨(some 12), .bin .lss (.tmp 9) (.tmp 11), none, false⟩])
  (.cond (.tmp 12) .skip (.exit 0)))
  (.seq (.blk 1 (.seq (.reg [⟨(some 8), .mv (.const (.int .i64 0)), none, false⟩])
  (.blk 2 (.loop (.seq (.seq (.reg [⟨(some 15), .mv (.tmp 8), none, false⟩,
   ⟨(some 16), .mv (.tmp 1), none, false⟩,
   ⟨(some 17), .mv (.tmp 7), none, false⟩,
   ⟨(some 18), .ixs 1 (.tmp 16) (.tmp 17), none, false⟩,
   ⟨(some 19), .load1 (.tmp 18), none, false⟩,
   ⟨(some 20), .len (.tmp 19), none, false⟩,
   ⟨(some 21), .bin .lss (.tmp 15) (.tmp 20), none, false⟩])
  (.cond (.tmp 21) .skip (.exit 2)))
  (.seq (.blk 3 (.seq (.reg [⟨(some 24), .mv (.tmp 5), none, false⟩,
   ⟨(some 25), .mv (.tmp 6), none, false⟩,
   ⟨(some 26), .ixa 9 1 (.tmp 2) (.tmp 25), none, false⟩,
   ⟨(some 27), .load1 (.tmp 26), none, false⟩,
   ⟨(some 28), .conv .i64 (.tmp 27), none, false⟩,
   ⟨(some 29), .mv (.tmp 1), none, false⟩,
   ⟨(some 30), .mv (.tmp 7), none, false⟩,
   ⟨(some 31), .ixs 1 (.tmp 29) (.tmp 30), none, false⟩,
   ⟨(some 32), .load1 (.tmp 31), none, false⟩,
   ⟨(some 33), .mv (.tmp 8), none, false⟩,
   ⟨(some 34), .ixs 1 (.tmp 32) (.tmp 33), none, false⟩,
   ⟨(some 35), .load1 (.tmp 34), none, false⟩,
   ⟨(some 36), .bin .mul (.tmp 28) (.tmp 35), none, false⟩,
   ⟨(some 37), .bin .add (.tmp 24) (.tmp 36), none, false⟩,
   ⟨(some 5), .mv (.tmp 37), none, false⟩])
  (.reg [⟨(some 38), .mv (.tmp 6), none, false⟩,
   ⟨(some 39), .bin .add (.tmp 38) (.const (.int .i64 1)), none, false⟩,
   ⟨(some 6), .mv (.tmp 39), none, false⟩])))
  (.reg [⟨(some 22), .mv (.tmp 8), none, false⟩,
   ⟨(some 23), .bin .add (.tmp 22) (.const (.int .i64 1)), none, false⟩,
   ⟨(some 8), .mv (.tmp 23), none, false⟩])))))))
  (.reg [⟨(some 13), .mv (.tmp 7), none, false⟩,
   ⟨(some 14), .bin .add (.tmp 13) (.const (.int .i64 1)), none, false⟩,
   ⟨(some 7), .mv (.tmp 14), none, false⟩]))))))
  (.seq (.reg [⟨(some 40), .mv (.tmp 5), none, false⟩,
   ⟨(some 4), .mv (.tmp 40), none, false⟩])
  .ret))))⟩

theorem s134 : compFn Try.prog Try.f134 = some c134 := by kernel_rfl

/-- loop.example/g01262/laws.toProduct -/
def c135 : XFn :=
 ⟨[.celln 2 27],
  (.seq (.reg [⟨(some 1), .box 159 (.tmp 0), none, false⟩,
   ⟨(some 2), .alloc 155 [.int .u8 0, .int .u8 0, .int .u8 0, .int .u8 0, .int .u8 0, .int .u8 0, .int .u8 0, .int .u8 0, .int .u8 0, .int .u8 0, .int .u8 0, .int .u8 0, .int .u8 0, .int .u8 0, .int .u8 0, .int .u8 0, .int .u8 0, .int .u8 0, .int .u8 0, .int .u8 0, .int .u8 0, .int .u8 0, .int .u8 0, .int .u8 0, .int .u8 0, .int .u8 0, .int .u8 0], none, false⟩])
  (.seq (.reg [⟨(some 3), .alloc 155 [.int .u8 0, .int .u8 0, .int .u8 0, .int .u8 0, .int .u8 0, .int .u8 0, .int .u8 0, .int .u8 0, .int .u8 0, .int .u8 0, .int .u8 0, .int .u8 0, .int .u8 0, .int .u8 0, .int .u8 0, .int .u8 0, .int .u8 0, .int .u8 0, .int .u8 0, .int .u8 0, .int .u8 0, .int .u8 0, .int .u8 0, .int .u8 0, .int .u8 0, .int .u8 0, .int .u8 0], none, false⟩])
  (.seq (.reg [⟨(some 4), .fadr 0 (.tmp 1), none, false⟩,
   ⟨(some 5), .loadn 9 (.tmp 4), none, false⟩,
   ⟨(some 6), .call (.func 152) [(.tmp 5)], none, false⟩,
   ⟨(some 7), .fadr 0 (.tmp 3), none, false⟩,
   ⟨none, .store 9 (.tmp 7) (.tmp 6), none, false⟩])
  (.seq (.reg [⟨(some 8), .fadr 9 (.tmp 1), none, false⟩,
   ⟨(some 9), .loadn 9 (.tmp 8), none, false⟩,
   ⟨(some 10), .call (.func 152) [(.tmp 9)], none, false⟩,
   ⟨(some 11), .fadr 9 (.tmp 3), none, false⟩,
   ⟨none, .store 9 (.tmp 11) (.tmp 10), none, false⟩])
  (.seq (.reg [⟨(some 12), .fadr 18 (.tmp 1), none, false⟩,
   ⟨(some 13), .loadn 9 (.tmp 12), none, false⟩,
   ⟨(some 14), .call (.func 152) [(.tmp 13)], none, false⟩,
   ⟨(some 15), .fadr 18 (.tmp 3), none, false⟩,
   ⟨none, .store 9 (.tmp 15) (.tmp 14), none, false⟩])
  (.seq (.reg [⟨(some 16), .loadn 27 (.tmp 3), none, false⟩,
   ⟨none, .store 27 (.tmp 2) (.tmp 16), none, false⟩])
  .ret))))))⟩

theorem s135 : compFn Try.prog Try.f135 = some c135 := by kernel_rfl

/-- loop.example/g01262/impl.IsScheme -/
def c136 : XFn :=
 ⟨[.tmp 2],
  (.seq (.reg [⟨(some 1), .box 71 (.tmp 0), none, false⟩,
   ⟨(some 2), .mv (.const (.bool false)), none, false⟩])
  (.seq (.seq (.reg [⟨(some 5), .fadr 0 (.tmp 1), none, false⟩,
   ⟨(some 6), .load1 (.tmp 5), none, false⟩,
   ⟨(some 7), .call (.func 118) [(.tmp 6)], none, false⟩,
   ⟨(some 8), .un .not (.tmp 7), none, false⟩,
   ⟨(some 9), .mv (.tmp 8), none, false⟩,
   ⟨(some 10), .fadr 1 (.tmp 1), (some (9, false)), false⟩,
   ⟨(some 11), .load1 (.tmp 10), (some (9, false)), false⟩,
   ⟨(some 12), .fadr 2 (.tmp 1), (some (9, false)), false⟩,
   ⟨(some 13), .load1 (.tmp 12), (some (9, false)), false⟩,
   ⟨(some 14), .fadr 3 (.tmp 1), (some (9, false)), false⟩,
   ⟨(some 15), .load1 (.tmp 14), (some (9, false)), false⟩,
   ⟨(some 16), .bslice 2 1 3 [.int .i64 0] [(0, 1, (.tmp 11)), (1, 1, (.tmp 13)), (2, 1, (.tmp 15))], (some (9, false)), false⟩,
   ⟨(some 17), .call (.func 153) [(.tmp 16)], (some (9, false)), false⟩,
   ⟨(some 18), .un .not (.tmp 17), (some (9, false)), false⟩,
   ⟨(some 19), .pick (.tmp 9) (.const (.bool true)) (.tmp 18), none, false⟩,
   ⟨(some 20), .mv (.tmp 19), none, false⟩,
   ⟨(some 21), .fadr 4 (.tmp 1), (some (20, false)), false⟩,
   ⟨(some 22), .load1 (.tmp 21), (some (20, false)), false⟩,
   ⟨(some 23), .len (.tmp 22), (some (20, false)), false⟩,
   ⟨(some 24), .bin .gtr (.tmp 23) (.const (.int .i64 30)), (some (20, false)), false⟩,
   ⟨(some 25), .pick (.tmp 20) (.const (.bool true)) (.tmp 24), none, false⟩])
  (.cond (.tmp 25) (.seq (.reg [⟨(some 2), .mv (.const (.bool false)), none, false⟩])
  .ret) .skip))
  (.seq (.seq (.reg [⟨(some 26), .fadr 4 (.tmp 1), none, false⟩,
   ⟨(some 27), .load1 (.tmp 26), none, false⟩,
   ⟨(some 28), .len (.tmp 27), none, false⟩,
   ⟨(some 29), .mv (.const (.int .i64 0)), none, false⟩])
  (.blk 0 (.loop (.seq (.reg [⟨(some 30), .bin .lss (.tmp 29) (.tmp 28), none, false⟩])
  (.seq (.cond (.tmp 30) .skip (.exit 0))
  (.seq (.blk 1 (.seq (.reg [⟨(some 31), .ixs 27 (.tmp 27) (.tmp 29), none, false⟩,
   ⟨(some 32), .loadn 27 (.tmp 31), none, false⟩,
   ⟨(some 4), .alloc 155 [.int .u8 0, .int .u8 0, .int .u8 0, .int .u8 0, .int .u8 0, .int .u8 0, .int .u8 0, .int .u8 0, .int .u8 0, .int .u8 0, .int .u8 0, .int .u8 0, .int .u8 0, .int .u8 0, .int .u8 0, .int .u8 0, .int .u8 0, .int .u8 0, .int .u8 0, .int .u8 0, .int .u8 0, .int .u8 0, .int .u8 0, .int .u8 0, .int .u8 0, .int .u8 0, .int .u8 0], none, false⟩,
   ⟨none, .store 27 (.tmp 4) (.tmp 32), none, false⟩])
  (.seq (.reg [⟨(some 33), .fadr 0 (.tmp 1), none, false⟩,
   ⟨(some 34), .load1 (.tmp 33), none, false⟩,
   ⟨(some 35), .loadn 5 (.tmp 1), none, false⟩,
   ⟨(some 36), .call (.func 143) [(.tmp 35)], none, true⟩,
   ⟨(some 37), .loadn 27 (.tmp 4), none, false⟩,
   ⟨(some 38), .call (.func 154) [(.tmp 34), (.tmp 36), (.tmp 37)], none, false⟩,
   ⟨(some 39), .un .not (.tmp 38), none, false⟩])
  (.cond (.tmp 39) (.seq (.reg [⟨(some 2), .mv (.const (.bool false)), none, false⟩])
  .ret) .skip))))
  (.reg [⟨(some 40), .bin .add (.tmp 29) (.const (.int .i64 1)), none, false⟩,
   ⟨(some 29), .mv (.tmp 40), none, false⟩])))))))
  (.seq (.reg [⟨(some 2), .mv (.const (.bool true)), none, false⟩])
  .ret))))⟩

theorem s136 : compFn Try.prog Try.f136 = some c136 := by kernel_rfl

/-- loop.example/g01262/impl.at -/
def c137 : XFn :=
 ⟨[.tmp 6],
  (.seq (.reg [⟨(some 4), .box 153 (.tmp 1), none, false⟩,
   ⟨(some 6), .mv (.const (.int .i64 0)), none, false⟩])
  (.seq (.reg [⟨(some 7), .mv (.const (.int .i64 0)), none, false⟩])
  (.seq (.seq (.reg [⟨(some 10), .mv (.tmp 2), none, false⟩,
   ⟨(some 11), .len (.tmp 10), none, false⟩,
   ⟨(some 12), .mv (.const (.int .i64 0)), none, false⟩])
  (.blk 0 (.loop (.seq (.reg [⟨(some 13), .bin .lss (.tmp 12) (.tmp 11), none, false⟩])
  (.seq (.cond (.tmp 13) .skip (.exit 0))
  (.seq (.blk 1 (.seq (.reg [⟨(some 14), .mv (.tmp 12), none, false⟩,
   ⟨(some 15), .ixs 1 (.tmp 10) (.tmp 12), none, false⟩,
   ⟨(some 16), .load1 (.tmp 15), none, false⟩,
   ⟨(some 8), .mv (.tmp 14), none, false⟩,
   ⟨(some 9), .mv (.tmp 16), none, false⟩])
  (.reg [⟨(some 17), .mv (.tmp 7), none, false⟩,
   ⟨(some 18), .mv (.tmp 8), none, false⟩,
   ⟨(some 19), .ixa 9 1 (.tmp 4) (.tmp 18), none, false⟩,
   ⟨(some 20), .load1 (.tmp 19), none, false⟩,
   ⟨(some 21), .conv .i64 (.tmp 20), none, false⟩,
   ⟨(some 22), .mv (.tmp 9), none, false⟩,
   ⟨(some 23), .bin .mul (.tmp 21) (.tmp 22), none, false⟩,
   ⟨(some 24), .bin .add (.tmp 17) (.tmp 23), none, false⟩,
   ⟨(some 7), .mv (.tmp 24), none, false⟩])))
  (.reg [⟨(some 25), .bin .add (.tmp 12) (.const (.int .i64 1)), none, false⟩,
   ⟨(some 12), .mv (.tmp 25), none, false⟩])))))))
  (.seq (.reg [⟨(some 26), .mv (.tmp 7), none, false⟩,
   ⟨(some 27), .mv (.tmp 0), none, false⟩,
   ⟨(some 28), .bin .rem (.tmp 26) (.tmp 27), none, false⟩,
   ⟨(some 6), .mv (.tmp 28), none, false⟩])
  .ret))))⟩

theorem s137 : compFn Try.prog Try.f137 = some c137 := by kernel_rfl

/-- loop.example/g01262/laws.eqProduct -/
def c139 : XFn :=
 ⟨[.tmp 4],
  (.seq (.reg [⟨(some 2), .box 155 (.tmp 0), none, false⟩,
   ⟨(some 3), .box 155 (.tmp 1), none, false⟩,
   ⟨(some 4), .mv (.const (.bool false)), none, false⟩])
  (.seq (.seq (.reg [⟨(some 5), .fadr 0 (.tmp 2), none, false⟩,
   ⟨(some 6), .loadn 9 (.tmp 5), none, false⟩,
   ⟨(some 7), .fadr 0 (.tmp 3), none, false⟩,
   ⟨(some 8), .loadn 9 (.tmp 7), none, false⟩,
   ⟨(some 9), .call (.func 155) [(.tmp 6), (.tmp 8)], none, false⟩,
   ⟨(some 10), .un .not (.tmp 9), none, false⟩])
  (.cond (.tmp 10) (.seq (.reg [⟨(some 4), .mv (.const (.bool false)), none, false⟩])
  .ret) .skip))
  (.seq (.seq (.reg [⟨(some 11), .fadr 9 (.tmp 2), none, false⟩,
   ⟨(some 12), .loadn 9 (.tmp 11), none, false⟩,
   ⟨(some 13), .fadr 9 (.tmp 3), none, false⟩,
   ⟨(some 14), .loadn 9 (.tmp 13), none, false⟩,
   ⟨(some 15), .call (.func 155) [(.tmp 12), (.tmp 14)], none, false⟩,
   ⟨(some 16), .un .not (.tmp 15), none, false⟩])
  (.cond (.tmp 16) (.seq (.reg [⟨(some 4), .mv (.const (.bool false)), none, false⟩])
  .ret) .skip))
  (.seq (.seq (.reg [⟨(some 17), .fadr 18 (.tmp 2), none, false⟩,
   ⟨(some 18), .loadn 9 (.tmp 17), none, false⟩,
   ⟨(some 19), .fadr 18 (.tmp 3), none, false⟩,
   ⟨(some 20), .loadn 9 (.tmp 19), none, false⟩,
   ⟨(some 21), .call (.func 155) [(.tmp 18), (.tmp 20)], none, false⟩,
   ⟨(some 22), .un .not (.tmp 21), none, false⟩])
  (.cond (.tmp 22) (.seq (.reg [⟨(some 4), .mv (.const (.bool false)), none, false⟩])
  .ret) .skip))
  (.seq (.reg [⟨(some 4), .mv (.const (.bool true)), none, false⟩])
  .ret)))))⟩

theorem s139 : compFn Try.prog Try.f139 = some c139 := by kernel_rfl

/-- loop.example/g01262/spec.l01Lengths -/
def c140 : XFn :=
 ⟨[.tmp 2, .tmp 3, .tmp 4],
  (.seq (.reg [⟨(some 1), .box 71 (.tmp 0), none, false⟩,
   ⟨(some 2), .mv (.const (.int .i64 0)), none, false⟩,
   ⟨(some 3), .mv (.const (.int .i64 0)), none, false⟩,
   ⟨(some 4), .mv (.const (.int .i64 0)), none, false⟩])
  (.seq (.reg [⟨(some 5), .fadr 1 (.tmp 1), none, false⟩,
   ⟨(some 6), .load1 (.tmp 5), none, false⟩,
   ⟨(some 7), .fadr 2 (.tmp 1), none, false⟩,
   ⟨(some 8), .load1 (.tmp 7), none, false⟩,
   ⟨(some 9), .bin .mul (.tmp 6) (.tmp 8), none, false⟩,
   ⟨(some 10), .fadr 2 (.tmp 1), none, false⟩,
   ⟨(some 11), .load1 (.tmp 10), none, false⟩,
   ⟨(some 12), .fadr 3 (.tmp 1), none, false⟩,
   ⟨(some 13), .load1 (.tmp 12), none, false⟩,
   ⟨(some 14), .bin .mul (.tmp 11) (.tmp 13), none, false⟩,
   ⟨(some 15), .fadr 1 (.tmp 1), none, false⟩,
   ⟨(some 16), .load1 (.tmp 15), none, false⟩,
   ⟨(some 17), .fadr 3 (.tmp 1), none, false⟩,
   ⟨(some 18), .load1 (.tmp 17), none, false⟩,
   ⟨(some 19), .bin .mul (.tmp 16) (.tmp 18), none, false⟩,
   ⟨(some 2), .mv (.tmp 9), none, false⟩,
   ⟨(some 3), .mv (.tmp 14), none, false⟩,
   ⟨(some 4), .mv (.tmp 19), none, false⟩])
  .ret))⟩

theorem s140 : compFn Try.prog Try.f140 = some c140 := by kernel_rfl

/-- loop.example/g01262/spec.l07Numbers -/
def c141 : XFn :=
 ⟨[.tmp 4],
  (.seq (.reg [⟨(some 2), .box 153 (.tmp 0), none, false⟩,
   ⟨(some 4), .mv (.const (.slice none 0 0)), none, false⟩])
  (.seq (.reg [⟨(some 7), .bslice 2 1 0 [.int .i64 0] [], none, false⟩,
   ⟨(some 5), .mv (.tmp 7), none, false⟩])
  (.seq (.seq (.reg [⟨(some 6), .mv (.const (.int .i64 0)), none, false⟩])
  (.blk 0 (.loop (.seq (.seq (.reg [⟨(some 8), .mv (.tmp 6), none, false⟩,
   ⟨(some 9), .mv (.tmp 1), none, false⟩,
   ⟨(some 10), .bin .lss (.tmp 8) (.tmp 9), none, false⟩])
  (.cond (.tmp 10) .skip (.exit 0)))
  (.seq (.blk 1 (.reg [⟨(some 13), .mv (.tmp 5), none, false⟩,
   ⟨(some 14), .mv (.tmp 6), none, false⟩,
   ⟨(some 15), .ixa 9 1 (.tmp 2) (.tmp 14), none, false⟩,
   ⟨(some 16), .load1 (.tmp 15), none, false⟩,
   ⟨(some 17), .conv .i64 (.tmp 16), none, false⟩,
   ⟨(some 18), .bslice 2 1 1 [.int .i64 0] [(0, 1, (.tmp 17))], none, false⟩,
   ⟨(some 19), .app 2 1 8 (.tmp 13) (.tmp 18), none, false⟩,
   ⟨(some 5), .mv (.tmp 19), none, false⟩]))
  (.reg [⟨(some 11), .mv (.tmp 6), none, false⟩,
   ⟨(some 12), .bin .add (.tmp 11) (.const (.int .i64 1)), none, false⟩,
   ⟨(some 6), .mv (.tmp 12), none, false⟩]))))))
  (.seq (.reg [⟨(some 20), .mv (.tmp 5), none, false⟩,
   ⟨(some 4), .mv (.tmp 20), none, false⟩])
  .ret))))⟩

theorem s141 : compFn Try.prog Try.f141 = some c141 := by kernel_rfl

/-- loop.example/g01262/spec.l07Of -/
def c142 : XFn :=
 ⟨[.celln 8 4],
  (.seq (.reg [⟨(some 8), .alloc 48 [.int .i64 0, .int .i64 0, .slice none 0 0, .slice none 0 0], none, false⟩])
  (.seq (.seq (.reg [⟨(some 9), .mv (.tmp 3), none, false⟩])
  (.cond (.tmp 9) (.seq (.reg [⟨(some 10), .mv (.tmp 0), none, false⟩,
   ⟨(some 11), .mv (.tmp 1), none, false⟩,
   ⟨(some 12), .mv (.tmp 2), none, false⟩,
   ⟨(some 13), .call (.func 95) [(.tmp 10), (.tmp 11), (.tmp 12)], none, false⟩,
   ⟨none, .store 4 (.tmp 8) (.tmp 13), none, false⟩])
  .ret) .skip))
  (.seq (.reg [⟨(some 14), .mv (.tmp 0), none, false⟩,
   ⟨(some 15), .mv (.tmp 1), none, false⟩,
   ⟨(some 16), .mv (.tmp 2), none, false⟩,
   ⟨(some 17), .call (.func 90) [(.tmp 14), (.tmp 15), (.tmp 16)], none, false⟩,
   ⟨none, .store 4 (.tmp 8) (.tmp 17), none, false⟩])
  .ret)))⟩

theorem s142 : compFn Try.prog Try.f142 = some c142 := by kernel_rfl

/-- loop.example/g01262/impl.placesOf -/
def c143 : XFn :=
 ⟨[.celln 2 3],
  (.seq (.reg [⟨(some 1), .box 71 (.tmp 0), none, false⟩,
   ⟨(some 2), .alloc 167 [.int .i64 0, .int .i64 0, .int .i64 0], none, false⟩])
  (.seq (.reg [⟨(some 3), .fadr 1 (.tmp 1), none, false⟩,
   ⟨(some 4), .load1 (.tmp 3), none, false⟩,
   ⟨(some 5), .fadr 2 (.tmp 1), none, false⟩,
   ⟨(some 6), .load1 (.tmp 5), none, false⟩,
   ⟨(some 7), .bin .mul (.tmp 4) (.tmp 6), none, false⟩,
   ⟨(some 8), .fadr 2 (.tmp 1), none, false⟩,
   ⟨(some 9), .load1 (.tmp 8), none, false⟩,
   ⟨(some 10), .fadr 3 (.tmp 1), none, false⟩,
   ⟨(some 11), .load1 (.tmp 10), none, false⟩,
   ⟨(some 12), .bin .mul (.tmp 9) (.tmp 11), none, false⟩,
   ⟨(some 13), .fadr 1 (.tmp 1), none, false⟩,
   ⟨(some 14), .load1 (.tmp 13), none, false⟩,
   ⟨(some 15), .fadr 3 (.tmp 1), none, false⟩,
   ⟨(some 16), .load1 (.tmp 15), none, false⟩,
   ⟨(some 17), .bin .mul (.tmp 14) (.tmp 16), none, false⟩,
   ⟨(some 18), .build [.int .i64 0, .int .i64 0, .int .i64 0] [(0, 1, (.tmp 7)), (1, 1, (.tmp 12)), (2, 1, (.tmp 17))], none, false⟩,
   ⟨none, .store 3 (.tmp 2) (.tmp 18), none, false⟩])
  .ret))⟩

theorem s143 : compFn Try.prog Try.f143 = some c143 := by kernel_rfl

/-- loop.example/g01262/impl.programsOf$1 -/
def c144 : XFn :=
 ⟨[],
  (.seq (.reg [⟨(some 7), .load1 (.tmp 2), none, false⟩])
  (.cond (.tmp 7) (.reg [⟨(some 8), .load1 (.tmp 3), none, false⟩,
   ⟨(some 9), .fadr 0 (.tmp 4), none, false⟩,
   ⟨(some 10), .load1 (.tmp 9), none, false⟩,
   ⟨(some 11), .mv (.tmp 0), none, false⟩,
   ⟨(some 12), .mv (.tmp 1), none, false⟩,
   ⟨(some 13), .call (.func 96) [(.tmp 10), (.tmp 11), (.tmp 12)], none, true⟩,
   ⟨(some 14), .bslice 48 4 1 [.int .i64 0, .int .i64 0, .slice none 0 0, .slice none 0 0] [(0, 4, (.tmp 13))], none, false⟩,
   ⟨(some 15), .app 48 4 64 (.tmp 8) (.tmp 14), none, false⟩,
   ⟨none, .store 1 (.tmp 3) (.tmp 15), none, false⟩]) (.reg [⟨(some 16), .load1 (.tmp 3), none, false⟩,
   ⟨(some 17), .fadr 0 (.tmp 4), none, false⟩,
   ⟨(some 18), .load1 (.tmp 17), none, false⟩,
   ⟨(some 19), .mv (.tmp 0), none, false⟩,
   ⟨(some 20), .build [.int .i64 0, .int .i64 0, .slice none 0 0, .slice none 0 0] [(0, 1, (.tmp 18)), (1, 1, (.tmp 19))], none, false⟩,
   ⟨(some 21), .mv (.tmp 1), none, false⟩,
   ⟨(some 22), .call (.func 92) [(.tmp 20), (.tmp 21)], none, true⟩,
   ⟨(some 23), .bslice 48 4 1 [.int .i64 0, .int .i64 0, .slice none 0 0, .slice none 0 0] [(0, 4, (.tmp 22))], none, false⟩,
   ⟨(some 24), .app 48 4 64 (.tmp 16) (.tmp 23), none, false⟩,
   ⟨none, .store 1 (.tmp 3) (.tmp 24), none, false⟩])))⟩

theorem s144 : compFn Try.prog Try.f144 = some c144 := by kernel_rfl

/-- loop.example/g01262/impl.lists -/
def c145 : XFn :=
 ⟨[.tmp 6],
  (.seq (.reg [⟨(some 3), .box 71 (.tmp 0), none, false⟩,
   ⟨(some 6), .mv (.const (.slice none 0 0)), none, false⟩])
  (.seq (.reg [⟨(some 10), .bslice 22 1 0 [.slice none 0 0] [], none, false⟩,
   ⟨(some 7), .mv (.tmp 10), none, false⟩])
  (.seq (.seq (.reg [⟨(some 11), .fadr 4 (.tmp 3), none, false⟩,
   ⟨(some 12), .load1 (.tmp 11), none, false⟩,
   ⟨(some 13), .len (.tmp 12), none, false⟩,
   ⟨(some 14), .mv (.const (.int .i64 0)), none, false⟩])
  (.blk 0 (.loop (.seq (.reg [⟨(some 15), .bin .lss (.tmp 14) (.tmp 13), none, false⟩])
  (.seq (.cond (.tmp 15) .skip (.exit 0))
  (.seq (.blk 1 (.seq (.reg [⟨(some 16), .ixs 27 (.tmp 12) (.tmp 14), none, false⟩,
   ⟨(some 17), .loadn 27 (.tmp 16), none, false⟩,
   ⟨(some 9), .alloc 155 [.int .u8 0, .int .u8 0, .int .u8 0, .int .u8 0, .int .u8 0, .int .u8 0, .int .u8 0, .int .u8 0, .int .u8 0, .int .u8 0, .int .u8 0, .int .u8 0, .int .u8 0, .int .u8 0, .int .u8 0, .int .u8 0, .int .u8 0, .int .u8 0, .int .u8 0, .int .u8 0, .int .u8 0, .int .u8 0, .int .u8 0, .int .u8 0, .int .u8 0, .int .u8 0, .int .u8 0], none, false⟩,
   ⟨none, .store 27 (.tmp 9) (.tmp 17), none, false⟩])
  (.reg [⟨(some 18), .mv (.tmp 7), none, false⟩,
   ⟨(some 19), .loadn 27 (.tmp 9), none, false⟩,
   ⟨(some 20), .call (.func 157) [(.tmp 19)], none, false⟩,
   ⟨(some 21), .mv (.tmp 1), none, false⟩,
   ⟨(some 22), .idxn 3 9 (.tmp 20) (.tmp 21), none, false⟩,
   ⟨(some 23), .mv (.tmp 2), none, false⟩,
   ⟨(some 24), .call (.func 156) [(.tmp 22), (.const (.int .i64 1)), (.tmp 23)], none, false⟩,
   ⟨(some 25), .ixs 1 (.tmp 24) (.const (.int .i64 0)), none, false⟩,
   ⟨(some 26), .load1 (.tmp 25), none, false⟩,
   ⟨(some 27), .bslice 22 1 1 [.slice none 0 0] [(0, 1, (.tmp 26))], none, false⟩,
   ⟨(some 28), .app 22 1 24 (.tmp 18) (.tmp 27), none, false⟩,
   ⟨(some 7), .mv (.tmp 28), none, false⟩])))
  (.reg [⟨(some 29), .bin .add (.tmp 14) (.const (.int .i64 1)), none, false⟩,
   ⟨(some 14), .mv (.tmp 29), none, false⟩])))))))
  (.seq (.reg [⟨(some 30), .mv (.tmp 7), none, false⟩,
   ⟨(some 6), .mv (.tmp 30), none, false⟩])
  .ret))))⟩

theorem s145 : compFn Try.prog Try.f145 = some c145 := by kernel_rfl

/-- loop.example/g01262/spec.l01Mod -/
def c146 : XFn :=
 ⟨[.tmp 4],
  (.seq (.reg [⟨(some 4), .mv (.const (.int .i64 0)), none, false⟩])
  (.seq (.reg [⟨(some 5), .mv (.tmp 1), none, false⟩,
   ⟨(some 6), .mv (.tmp 0), none, false⟩,
   ⟨(some 7), .bin .rem (.tmp 5) (.tmp 6), none, false⟩,
   ⟨(some 8), .mv (.tmp 0), none, false⟩,
   ⟨(some 9), .bin .add (.tmp 7) (.tmp 8), none, false⟩,
   ⟨(some 10), .mv (.tmp 0), none, false⟩,
   ⟨(some 11), .bin .rem (.tmp 9) (.tmp 10), none, false⟩,
   ⟨(some 4), .mv (.tmp 11), none, false⟩])
  .ret))⟩

theorem s146 : compFn Try.prog Try.f146 = some c146 := by kernel_rfl

/-- loop.example/g01262/impl.turned -/
def c147 : XFn :=
 ⟨[.celln 4 5],
  (.seq (.reg [⟨(some 2), .box 28 (.tmp 0), none, false⟩,
   ⟨(some 4), .alloc 28 [.int .i64 0, .int .i64 0, .int .i64 0, .int .i64 0, .slice none 0 0], none, false⟩])
  (.seq (.seq (.reg [⟨(some 5), .mv (.tmp 1), none, false⟩,
   ⟨(some 6), .mv (.const (.int .i64 0)), none, false⟩])
  (.blk 0 (.loop (.seq (.reg [⟨(some 7), .bin .lss (.tmp 6) (.tmp 5), none, false⟩])
  (.seq (.cond (.tmp 7) .skip (.exit 0))
  (.seq (.blk 1 (.reg [⟨(some 8), .loadn 5 (.tmp 2), none, false⟩,
   ⟨(some 9), .call (.func 158) [(.tmp 8)], none, false⟩,
   ⟨none, .store 5 (.tmp 2) (.tmp 9), none, false⟩]))
  (.reg [⟨(some 10), .bin .add (.tmp 6) (.const (.int .i64 1)), none, false⟩,
   ⟨(some 6), .mv (.tmp 10), none, false⟩])))))))
  (.seq (.reg [⟨(some 11), .loadn 5 (.tmp 2), none, false⟩,
   ⟨none, .store 5 (.tmp 4) (.tmp 11), none, false⟩])
  .ret)))⟩

theorem s147 : compFn Try.prog Try.f147 = some c147 := by kernel_rfl

/-- loop.example/g01262/impl.rank -/
def c148 : XFn :=
 ⟨[.tmp 4],
  (.seq (.reg [⟨(some 4), .mv (.const (.int .i64 0)), none, false⟩])
  (.seq (.reg [⟨(some 15), .bslice 22 1 0 [.slice none 0 0] [], none, false⟩,
   ⟨(some 5), .mv (.tmp 15), none, false⟩])
  (.seq (.seq (.reg [⟨(some 16), .mv (.tmp 1), none, false⟩,
   ⟨(some 17), .len (.tmp 16), none, false⟩,
   ⟨(some 18), .mv (.const (.int .i64 0)), none, false⟩])
  (.blk 0 (.loop (.seq (.reg [⟨(some 19), .bin .lss (.tmp 18) (.tmp 17), none, false⟩])
  (.seq (.cond (.tmp 19) .skip (.exit 0))
  (.seq (.blk 1 (.seq (.reg [⟨(some 20), .ixs 1 (.tmp 16) (.tmp 18), none, false⟩,
   ⟨(some 21), .load1 (.tmp 20), none, false⟩,
   ⟨(some 7), .mv (.tmp 21), none, false⟩])
  (.reg [⟨(some 22), .mv (.tmp 5), none, false⟩,
   ⟨(some 23), .mv (.tmp 7), none, false⟩,
   ⟨(some 24), .call (.func 126) [(.tmp 23)], none, false⟩,
   ⟨(some 25), .bslice 22 1 1 [.slice none 0 0] [(0, 1, (.tmp 24))], none, false⟩,
   ⟨(some 26), .app 22 1 24 (.tmp 22) (.tmp 25), none, false⟩,
   ⟨(some 5), .mv (.tmp 26), none, false⟩])))
  (.reg [⟨(some 27), .bin .add (.tmp 18) (.const (.int .i64 1)), none, false⟩,
   ⟨(some 18), .mv (.tmp 27), none, false⟩])))))))
  (.seq (.reg [⟨(some 8), .mv (.const (.int .i64 0)), none, false⟩])
  (.seq (.seq (.reg [⟨(some 9), .alloc 3 [.int .i64 0], none, false⟩,
   ⟨none, .store 1 (.tmp 9) (.const (.int .i64 0)), none, false⟩])
  (.blk 2 (.loop (.seq (.seq (.reg [⟨(some 28), .mv (.tmp 8), none, false⟩,
   ⟨(some 29), .mv (.tmp 5), none, false⟩,
   ⟨(some 30), .len (.tmp 29), none, false⟩,
   ⟨(some 31), .bin .lss (.tmp 28) (.tmp 30), none, false⟩,
   ⟨(some 32), .mv (.tmp 31), none, false⟩,
   ⟨(some 33), .load1 (.tmp 9), (some (32, true)), false⟩,
   ⟨(some 34), .mv (.tmp 5), (some (32, true)), false⟩,
   ⟨(some 35), .ixs 1 (.tmp 34) (.const (.int .i64 0)), (some (32, true)), false⟩,
   ⟨(some 36), .load1 (.tmp 35), (some (32, true)), false⟩,
   ⟨(some 37), .len (.tmp 36), (some (32, true)), false⟩,
   ⟨(some 38), .bin .lss (.tmp 33) (.tmp 37), (some (32, true)), false⟩,
   ⟨(some 39), .pick (.tmp 32) (.tmp 38) (.const (.bool false)), none, false⟩])
  (.cond (.tmp 39) .skip (.exit 2)))
  (.seq (.blk 3 (.seq (.reg [⟨(some 42), .mv (.tmp 5), none, false⟩,
   ⟨(some 43), .mv (.tmp 8), none, false⟩,
   ⟨(some 44), .slc 1 (.tmp 42) (some (.tmp 43)) none, none, false⟩,
   ⟨(some 45), .mkf 160 [(.tmp 9)], none, false⟩,
   ⟨(some 46), .call (.func 159) [(.tmp 44), (.tmp 45)], none, false⟩,
   ⟨(some 10), .mv (.tmp 46), none, false⟩])
  (.seq (.seq (.reg [⟨(some 47), .mv (.tmp 10), none, false⟩,
   ⟨(some 48), .bin .lss (.tmp 47) (.const (.int .i64 0)), none, false⟩])
  (.cond (.tmp 48) (.exit 3) .skip))
  (.seq (.reg [⟨(some 49), .mv (.tmp 5), none, false⟩,
   ⟨(some 50), .mv (.tmp 8), none, false⟩,
   ⟨(some 51), .mv (.tmp 5), none, false⟩,
   ⟨(some 52), .mv (.tmp 8), none, false⟩,
   ⟨(some 53), .mv (.tmp 10), none, false⟩,
   ⟨(some 54), .bin .add (.tmp 52) (.tmp 53), none, false⟩,
   ⟨(some 55), .mv (.tmp 5), none, false⟩,
   ⟨(some 56), .mv (.tmp 8), none, false⟩,
   ⟨(some 57), .mv (.tmp 10), none, false⟩,
   ⟨(some 58), .bin .add (.tmp 56) (.tmp 57), none, false⟩,
   ⟨(some 59), .ixs 1 (.tmp 55) (.tmp 58), none, false⟩,
   ⟨(some 60), .load1 (.tmp 59), none, false⟩,
   ⟨(some 61), .mv (.tmp 5), none, false⟩,
   ⟨(some 62), .mv (.tmp 8), none, false⟩,
   ⟨(some 63), .ixs 1 (.tmp 61) (.tmp 62), none, false⟩,
   ⟨(some 64), .load1 (.tmp 63), none, false⟩,
   ⟨(some 65), .ixs 1 (.tmp 49) (.tmp 50), none, false⟩,
   ⟨none, .store 1 (.tmp 65) (.tmp 60), none, false⟩,
   ⟨(some 66), .ixs 1 (.tmp 51) (.tmp 54), none, false⟩,
   ⟨none, .store 1 (.tmp 66) (.tmp 64), none, false⟩])
  (.seq (.reg [⟨(some 67), .mv (.tmp 0), none, false⟩,
   ⟨(some 68), .mv (.tmp 5), none, false⟩,
   ⟨(some 69), .mv (.tmp 8), none, false⟩,
   ⟨(some 70), .ixs 1 (.tmp 68) (.tmp 69), none, false⟩,
   ⟨(some 71), .load1 (.tmp 70), none, false⟩,
   ⟨(some 72), .load1 (.tmp 9), none, false⟩,
   ⟨(some 73), .ixs 1 (.tmp 71) (.tmp 72), none, false⟩,
   ⟨(some 74), .load1 (.tmp 73), none, false⟩,
   ⟨(some 75), .call (.func 71) [(.tmp 67), (.tmp 74)], none, false⟩,
   ⟨(some 11), .mv (.tmp 75), none, false⟩])
  (.seq (.seq (.reg [⟨(some 76), .mv (.tmp 8), none, false⟩,
   ⟨(some 77), .bin .add (.tmp 76) (.const (.int .i64 1)), none, false⟩,
   ⟨(some 12), .mv (.tmp 77), none, false⟩])
  (.blk 4 (.loop (.seq (.seq (.reg [⟨(some 78), .mv (.tmp 12), none, false⟩,
   ⟨(some 79), .mv (.tmp 5), none, false⟩,
   ⟨(some 80), .len (.tmp 79), none, false⟩,
   ⟨(some 81), .bin .lss (.tmp 78) (.tmp 80), none, false⟩])
  (.cond (.tmp 81) .skip (.exit 4)))
  (.seq (.blk 5 (.seq (.reg [⟨(some 84), .mv (.tmp 5), none, false⟩,
   ⟨(some 85), .mv (.tmp 12), none, false⟩,
   ⟨(some 86), .ixs 1 (.tmp 84) (.tmp 85), none, false⟩,
   ⟨(some 87), .load1 (.tmp 86), none, false⟩,
   ⟨(some 88), .load1 (.tmp 9), none, false⟩,
   ⟨(some 89), .ixs 1 (.tmp 87) (.tmp 88), none, false⟩,
   ⟨(some 90), .load1 (.tmp 89), none, false⟩,
   ⟨(some 91), .mv (.tmp 11), none, false⟩,
   ⟨(some 92), .bin .mul (.tmp 90) (.tmp 91), none, false⟩,
   ⟨(some 93), .mv (.tmp 0), none, false⟩,
   ⟨(some 94), .bin .rem (.tmp 92) (.tmp 93), none, false⟩,
   ⟨(some 13), .mv (.tmp 94), none, false⟩])
  (.seq (.reg [⟨(some 95), .mv (.tmp 5), none, false⟩,
   ⟨(some 96), .mv (.tmp 12), none, false⟩,
   ⟨(some 97), .ixs 1 (.tmp 95) (.tmp 96), none, false⟩,
   ⟨(some 98), .load1 (.tmp 97), none, false⟩,
   ⟨(some 99), .len (.tmp 98), none, false⟩,
   ⟨(some 100), .mv (.const (.int .i64 0)), none, false⟩])
  (.blk 6 (.loop (.seq (.reg [⟨(some 101), .bin .lss (.tmp 100) (.tmp 99), none, false⟩])
  (.seq (.cond (.tmp 101) .skip (.exit 6))
  (.seq (.blk 7 (.seq (.reg [⟨(some 102), .mv (.tmp 100), none, false⟩,
   ⟨(some 14), .mv (.tmp 102), none, false⟩])
  (.reg [⟨(some 103), .mv (.tmp 5), none, false⟩,
   ⟨(some 104), .mv (.tmp 12), none, false⟩,
   ⟨(some 105), .ixs 1 (.tmp 103) (.tmp 104), none, false⟩,
   ⟨(some 106), .load1 (.tmp 105), none, false⟩,
   ⟨(some 107), .mv (.tmp 14), none, false⟩,
   ⟨(some 108), .mv (.tmp 5), none, false⟩,
   ⟨(some 109), .mv (.tmp 12), none, false⟩,
   ⟨(some 110), .ixs 1 (.tmp 108) (.tmp 109), none, false⟩,
   ⟨(some 111), .load1 (.tmp 110), none, false⟩,
   ⟨(some 112), .mv (.tmp 14), none, false⟩,
   ⟨(some 113), .ixs 1 (.tmp 111) (.tmp 112), none, false⟩,
   ⟨(some 114), .load1 (.tmp 113), none, false⟩,
   ⟨(some 115), .mv (.tmp 13), none, false⟩,
   ⟨(some 116), .mv (.tmp 5), none, false⟩,
   ⟨(some 117), .mv (.tmp 8), none, false⟩,
   ⟨(some 118), .ixs 1 (.tmp 116) (.tmp 117), none, false⟩,
   ⟨(some 119), .load1 (.tmp 118), none, false⟩,
   ⟨(some 120), .mv (.tmp 14), none, false⟩,
   ⟨(some 121), .ixs 1 (.tmp 119) (.tmp 120), none, false⟩,
   ⟨(some 122), .load1 (.tmp 121), none, false⟩,
   ⟨(some 123), .bin .mul (.tmp 115) (.tmp 122), none, false⟩,
   ⟨(some 124), .bin .sub (.tmp 114) (.tmp 123), none, false⟩,
   ⟨(some 125), .mv (.tmp 0), none, false⟩,
   ⟨(some 126), .bin .rem (.tmp 124) (.tmp 125), none, false⟩,
   ⟨(some 127), .mv (.tmp 0), none, false⟩,
   ⟨(some 128), .bin .add (.tmp 126) (.tmp 127), none, false⟩,
   ⟨(some 129), .mv (.tmp 0), none, false⟩,
   ⟨(some 130), .bin .rem (.tmp 128) (.tmp 129), none, false⟩,
   ⟨(some 131), .ixs 1 (.tmp 106) (.tmp 107), none, false⟩,
   ⟨none, .store 1 (.tmp 131) (.tmp 130), none, false⟩])))
  (.reg [⟨(some 132), .bin .add (.tmp 100) (.const (.int .i64 1)), none, false⟩,
   ⟨(some 100), .mv (.tmp 132), none, false⟩])))))))))
  (.reg [⟨(some 82), .mv (.tmp 12), none, false⟩,
   ⟨(some 83), .bin .add (.tmp 82) (.const (.int .i64 1)), none, false⟩,
   ⟨(some 12), .mv (.tmp 83), none, false⟩]))))))
  (.reg [⟨(some 133), .mv (.tmp 8), none, false⟩,
   ⟨(some 134), .bin .add (.tmp 133) (.const (.int .i64 1)), none, false⟩,
   ⟨(some 8), .mv (.tmp 134), none, false⟩])))))))
  (.seq (.seq (.reg [⟨(some 135), .load1 (.tmp 9), none, false⟩])
  (.reg [⟨(some 9), .alloc 3 [.int .i64 0], none, false⟩,
   ⟨none, .store 1 (.tmp 9) (.tmp 135), none, false⟩]))
  (.reg [⟨(some 40), .load1 (.tmp 9), none, false⟩,
   ⟨(some 41), .bin .add (.tmp 40) (.const (.int .i64 1)), none, false⟩,
   ⟨none, .store 1 (.tmp 9) (.tmp 41), none, false⟩])))))))
  (.seq (.reg [⟨(some 136), .mv (.tmp 8), none, false⟩,
   ⟨(some 4), .mv (.tmp 136), none, false⟩])
  .ret))))))⟩

theorem s148 : compFn Try.prog Try.f148 = some c148 := by kernel_rfl

/-- math/bits.OnesCount32 -/
def c149 : XFn :=
 ⟨[.tmp 2],
  (.seq (.reg [⟨(some 2), .mv (.const (.int .i64 0)), none, false⟩])
  (.seq (.reg [⟨(some 3), .mv (.tmp 0), none, false⟩,
   ⟨(some 4), .bin .shr (.tmp 3) (.const (.int .u64 24)), none, false⟩,
   ⟨(some 5), .idxs [0, 1, 1, 2, 1, 2, 2, 3, 1, 2, 2, 3, 2, 3, 3, 4, 1, 2, 2, 3, 2, 3, 3, 4, 2, 3, 3, 4, 3, 4, 4, 5, 1, 2, 2, 3, 2, 3, 3, 4, 2, 3, 3, 4, 3, 4, 4, 5, 2, 3, 3, 4, 3, 4, 4, 5, 3, 4, 4, 5, 4, 5, 5, 6, 1, 2, 2, 3, 2, 3, 3, 4, 2, 3, 3, 4, 3, 4, 4, 5, 2, 3, 3, 4, 3, 4, 4, 5, 3, 4, 4, 5, 4, 5, 5, 6, 2, 3, 3, 4, 3, 4, 4, 5, 3, 4, 4, 5, 4, 5, 5, 6, 3, 4, 4, 5, 4, 5, 5, 6, 4, 5, 5, 6, 5, 6, 6, 7, 1, 2, 2, 3, 2, 3, 3, 4, 2, 3, 3, 4, 3, 4, 4, 5, 2, 3, 3, 4, 3, 4, 4, 5, 3, 4, 4, 5, 4, 5, 5, 6, 2, 3, 3, 4, 3, 4, 4, 5, 3, 4, 4, 5, 4, 5, 5, 6, 3, 4, 4, 5, 4, 5, 5, 6, 4, 5, 5, 6, 5, 6, 6, 7, 2, 3, 3, 4, 3, 4, 4, 5, 3, 4, 4, 5, 4, 5, 5, 6, 3, 4, 4, 5, 4, 5, 5, 6, 4, 5, 5, 6, 5, 6, 6, 7, 3, 4, 4, 5, 4, 5, 5, 6, 4, 5, 5, 6, 5, 6, 6, 7, 4, 5, 5, 6, 5, 6, 6, 7, 5, 6, 6, 7, 6, 7, 7, 8] (.tmp 4), none, false⟩,
   ⟨(some 6), .mv (.tmp 0), none, false⟩,
   ⟨(some 7), .bin .shr (.tmp 6) (.const (.int .u64 16)), none, false⟩,
   ⟨(some 8), .bin .and (.tmp 7) (.const (.int .u32 255)), none, false⟩,
   ⟨(some 9), .idxs [0, 1, 1, 2, 1, 2, 2, 3, 1, 2, 2, 3, 2, 3, 3, 4, 1, 2, 2, 3, 2, 3, 3, 4, 2, 3, 3, 4, 3, 4, 4, 5, 1, 2, 2, 3, 2, 3, 3, 4, 2, 3, 3, 4, 3, 4, 4, 5, 2, 3, 3, 4, 3, 4, 4, 5, 3, 4, 4, 5, 4, 5, 5, 6, 1, 2, 2, 3, 2, 3, 3, 4, 2, 3, 3, 4, 3, 4, 4, 5, 2, 3, 3, 4, 3, 4, 4, 5, 3, 4, 4, 5, 4, 5, 5, 6, 2, 3, 3, 4, 3, 4, 4, 5, 3, 4, 4, 5, 4, 5, 5, 6, 3, 4, 4, 5, 4, 5, 5, 6, 4, 5, 5, 6, 5, 6, 6, 7, 1, 2, 2, 3, 2, 3, 3, 4, 2, 3, 3, 4, 3, 4, 4, 5, 2, 3, 3, 4, 3, 4, 4, 5, 3, 4, 4, 5, 4, 5, 5, 6, 2, 3, 3, 4, 3, 4, 4, 5, 3, 4, 4, 5, 4, 5, 5, 6, 3, 4, 4, 5, 4, 5, 5, 6, 4, 5, 5, 6, 5, 6, 6, 7, 2, 3, 3, 4, 3, 4, 4, 5, 3, 4, 4, 5, 4, 5, 5, 6, 3, 4, 4, 5, 4, 5, 5, 6, 4, 5, 5, 6, 5, 6, 6, 7, 3, 4, 4, 5, 4, 5, 5, 6, 4, 5, 5, 6, 5, 6, 6, 7, 4, 5, 5, 6, 5, 6, 6, 7, 5, 6, 6, 7, 6, 7, 7, 8] (.tmp 8), none, false⟩,
   ⟨(some 10), .bin .add (.tmp 5) (.tmp 9), none, false⟩,
   ⟨(some 11), .mv (.tmp 0), none, false⟩,
   ⟨(some 12), .bin .shr (.tmp 11) (.const (.int .u64 8)), none, false⟩,
   ⟨(some 13), .bin .and (.tmp 12) (.const (.int .u32 255)), none, false⟩,
   ⟨(some 14), .idxs [0, 1, 1, 2, 1, 2, 2, 3, 1, 2, 2, 3, 2, 3, 3, 4, 1, 2, 2, 3, 2, 3, 3, 4, 2, 3, 3, 4, 3, 4, 4, 5, 1, 2, 2, 3, 2, 3, 3, 4, 2, 3, 3, 4, 3, 4, 4, 5, 2, 3, 3, 4, 3, 4, 4, 5, 3, 4, 4, 5, 4, 5, 5, 6, 1, 2, 2, 3, 2, 3, 3, 4, 2, 3, 3, 4, 3, 4, 4, 5, 2, 3, 3, 4, 3, 4, 4, 5, 3, 4, 4, 5, 4, 5, 5, 6, 2, 3, 3, 4, 3, 4, 4, 5, 3, 4, 4, 5, 4, 5, 5, 6, 3, 4, 4, 5, 4, 5, 5, 6, 4, 5, 5, 6, 5, 6, 6, 7, 1, 2, 2, 3, 2, 3, 3, 4, 2, 3, 3, 4, 3, 4, 4, 5, 2, 3, 3, 4, 3, 4, 4, 5, 3, 4, 4, 5, 4, 5, 5, 6, 2, 3, 3, 4, 3, 4, 4, 5, 3, 4, 4, 5, 4, 5, 5, 6, 3, 4, 4, 5, 4, 5, 5, 6, 4, 5, 5, 6, 5, 6, 6, 7, 2, 3, 3, 4, 3, 4, 4, 5, 3, 4, 4, 5, 4, 5, 5, 6, 3, 4, 4, 5, 4, 5, 5, 6, 4, 5, 5, 6, 5, 6, 6, 7, 3, 4, 4, 5, 4, 5, 5, 6, 4, 5, 5, 6, 5, 6, 6, 7, 4, 5, 5, 6, 5, 6, 6, 7, 5, 6, 6, 7, 6, 7, 7, 8] (.tmp 13), none, false⟩,
   ⟨(some 15), .bin .add (.tmp 10) (.tmp 14), none, false⟩,
   ⟨(some 16), .mv (.tmp 0), none, false⟩,
   ⟨(some 17), .bin .and (.tmp 16) (.const (.int .u32 255)), none, false⟩,
   ⟨(some 18), .idxs [0, 1, 1, 2, 1, 2, 2, 3, 1, 2, 2, 3, 2, 3, 3, 4, 1, 2, 2, 3, 2, 3, 3, 4, 2, 3, 3, 4, 3, 4, 4, 5, 1, 2, 2, 3, 2, 3, 3, 4, 2, 3, 3, 4, 3, 4, 4, 5, 2, 3, 3, 4, 3, 4, 4, 5, 3, 4, 4, 5, 4, 5, 5, 6, 1, 2, 2, 3, 2, 3, 3, 4, 2, 3, 3, 4, 3, 4, 4, 5, 2, 3, 3, 4, 3, 4, 4, 5, 3, 4, 4, 5, 4, 5, 5, 6, 2, 3, 3, 4, 3, 4, 4, 5, 3, 4, 4, 5, 4, 5, 5, 6, 3, 4, 4, 5, 4, 5, 5, 6, 4, 5, 5, 6, 5, 6, 6, 7, 1, 2, 2, 3, 2, 3, 3, 4, 2, 3, 3, 4, 3, 4, 4, 5, 2, 3, 3, 4, 3, 4, 4, 5, 3, 4, 4, 5, 4, 5, 5, 6, 2, 3, 3, 4, 3, 4, 4, 5, 3, 4, 4, 5, 4, 5, 5, 6, 3, 4, 4, 5, 4, 5, 5, 6, 4, 5, 5, 6, 5, 6, 6, 7, 2, 3, 3, 4, 3, 4, 4, 5, 3, 4, 4, 5, 4, 5, 5, 6, 3, 4, 4, 5, 4, 5, 5, 6, 4, 5, 5, 6, 5, 6, 6, 7, 3, 4, 4, 5, 4, 5, 5, 6, 4, 5, 5, 6, 5, 6, 6, 7, 4, 5, 5, 6, 5, 6, 6, 7, 5, 6, 6, 7, 6, 7, 7, 8] (.tmp 17), none, false⟩,
   ⟨(some 19), .bin .add (.tmp 15) (.tmp 18), none, false⟩,
   ⟨(some 20), .conv .i64 (.tmp 19), none, false⟩,
   ⟨(some 2), .mv (.tmp 20), none, false⟩])
  .ret))⟩

theorem s149 : compFn Try.prog Try.f149 = some c149 := by kernel_rfl

/-- loop.example/g01262/spec.l01Form -/
def c150 : XFn :=
 ⟨[.tmp 6],
  (.seq (.reg [⟨(some 4), .box 153 (.tmp 1), none, false⟩,
   ⟨(some 6), .mv (.const (.bool false)), none, false⟩])
  (.seq (.seq (.reg [⟨(some 7), .mv (.const (.int .i64 0)), none, false⟩])
  (.blk 0 (.loop (.seq (.seq (.reg [⟨(some 8), .mv (.tmp 7), none, false⟩,
   ⟨(some 9), .bin .lss (.tmp 8) (.const (.int .i64 9)), none, false⟩])
  (.cond (.tmp 9) .skip (.exit 0)))
  (.seq (.blk 1 (.seq (.reg [⟨(some 12), .mv (.tmp 7), none, false⟩,
   ⟨(some 13), .ixa 9 1 (.tmp 4) (.tmp 12), none, false⟩,
   ⟨(some 14), .load1 (.tmp 13), none, false⟩,
   ⟨(some 15), .conv .i64 (.tmp 14), none, false⟩,
   ⟨(some 16), .mv (.tmp 0), none, false⟩,
   ⟨(some 17), .bin .geq (.tmp 15) (.tmp 16), none, false⟩,
   ⟨(some 18), .mv (.tmp 17), none, false⟩,
   ⟨(some 19), .mv (.tmp 7), (some (18, false)), false⟩,
   ⟨(some 20), .mv (.tmp 2), (some (18, false)), false⟩,
   ⟨(some 21), .bin .geq (.tmp 19) (.tmp 20), (some (18, false)), false⟩,
   ⟨(some 22), .mv (.tmp 21), (some (18, false)), false⟩,
   ⟨(some 23), .mv (.tmp 7), (some (22, true)), false⟩,
   ⟨(some 24), .ixa 9 1 (.tmp 4) (.tmp 23), (some (22, true)), false⟩,
   ⟨(some 25), .load1 (.tmp 24), (some (22, true)), false⟩,
   ⟨(some 26), .bin .neq (.tmp 25) (.const (.int .u8 0)), (some (22, true)), false⟩,
   ⟨(some 27), .pick (.tmp 22) (.tmp 26) (.const (.bool false)), (some (18, false)), false⟩,
   ⟨(some 28), .pick (.tmp 18) (.const (.bool true)) (.tmp 27), none, false⟩])
  (.cond (.tmp 28) (.seq (.reg [⟨(some 6), .mv (.const (.bool false)), none, false⟩])
  .ret) .skip)))
  (.reg [⟨(some 10), .mv (.tmp 7), none, false⟩,
   ⟨(some 11), .bin .add (.tmp 10) (.const (.int .i64 1)), none, false⟩,
   ⟨(some 7), .mv (.tmp 11), none, false⟩]))))))
  (.seq (.reg [⟨(some 6), .mv (.const (.bool true)), none, false⟩])
  .ret)))⟩

theorem s150 : compFn Try.prog Try.f150 = some c150 := by kernel_rfl

/-- loop.example/g01262/spec.l01Zero -/
def c151 : XFn :=
 ⟨[.tmp 2],
  (.seq (.reg [⟨(some 1), .box 153 (.tmp 0), none, false⟩,
   ⟨(some 2), .mv (.const (.bool false)), none, false⟩])
  (.seq (.reg [⟨(some 3), .loadn 9 (.tmp 1), none, false⟩,
   ⟨(some 4), .build [.int .u8 0, .int .u8 0, .int .u8 0, .int .u8 0, .int .u8 0, .int .u8 0, .int .u8 0, .int .u8 0, .int .u8 0] [], none, false⟩,
   ⟨(some 5), .eqa false 9 (.tmp 3) (.tmp 4), none, false⟩,
   ⟨(some 2), .mv (.tmp 5), none, false⟩])
  .ret))⟩

theorem s151 : compFn Try.prog Try.f151 = some c151 := by kernel_rfl

/-- loop.example/g01262/laws.toForm -/
def c152 : XFn :=
 ⟨[.celln 2 9],
  (.seq (.reg [⟨(some 1), .box 152 (.tmp 0), none, false⟩,
   ⟨(some 2), .alloc 153 [.int .u8 0, .int .u8 0, .int .u8 0, .int .u8 0, .int .u8 0, .int .u8 0, .int .u8 0, .int .u8 0, .int .u8 0], none, false⟩])
  (.seq (.reg [⟨(some 3), .alloc 153 [.int .u8 0, .int .u8 0, .int .u8 0, .int .u8 0, .int .u8 0, .int .u8 0, .int .u8 0, .int .u8 0, .int .u8 0], none, false⟩])
  (.seq (.seq (.reg [⟨(some 4), .mv (.const (.int .i64 0)), none, false⟩])
  (.blk 0 (.loop (.seq (.seq (.reg [⟨(some 5), .mv (.tmp 4), none, false⟩,
   ⟨(some 6), .bin .lss (.tmp 5) (.const (.int .i64 9)), none, false⟩])
  (.cond (.tmp 6) .skip (.exit 0)))
  (.seq (.blk 1 (.reg [⟨(some 9), .mv (.tmp 4), none, false⟩,
   ⟨(some 10), .mv (.tmp 4), none, false⟩,
   ⟨(some 11), .ixa 9 1 (.tmp 1) (.tmp 10), none, false⟩,
   ⟨(some 12), .load1 (.tmp 11), none, false⟩,
   ⟨(some 13), .ixa 9 1 (.tmp 3) (.tmp 9), none, false⟩,
   ⟨none, .store 1 (.tmp 13) (.tmp 12), none, false⟩]))
  (.reg [⟨(some 7), .mv (.tmp 4), none, false⟩,
   ⟨(some 8), .bin .add (.tmp 7) (.const (.int .i64 1)), none, false⟩,
   ⟨(some 4), .mv (.tmp 8), none, false⟩]))))))
  (.seq (.reg [⟨(some 14), .loadn 9 (.tmp 3), none, false⟩,
   ⟨none, .store 9 (.tmp 2) (.tmp 14), none, false⟩])
  .ret))))⟩

theorem s152 : compFn Try.prog Try.f152 = some c152 := by kernel_rfl

/-- loop.example/g01262/impl.isSize -/
def c153 : XFn :=
 ⟨[.tmp 2],
  (.seq (.reg [⟨(some 2), .mv (.const (.bool false)), none, false⟩])
  (.seq (.seq (.reg [⟨(some 5), .mv (.tmp 0), none, false⟩,
   ⟨(some 6), .len (.tmp 5), none, false⟩,
   ⟨(some 7), .mv (.const (.int .i64 0)), none, false⟩])
  (.blk 0 (.loop (.seq (.reg [⟨(some 8), .bin .lss (.tmp 7) (.tmp 6), none, false⟩])
  (.seq (.cond (.tmp 8) .skip (.exit 0))
  (.seq (.blk 1 (.seq (.reg [⟨(some 9), .ixs 1 (.tmp 5) (.tmp 7), none, false⟩,
   ⟨(some 10), .load1 (.tmp 9), none, false⟩,
   ⟨(some 4), .mv (.tmp 10), none, false⟩])
  (.seq (.reg [⟨(some 11), .mv (.tmp 4), none, false⟩,
   ⟨(some 12), .bin .lss (.tmp 11) (.const (.int .i64 1)), none, false⟩,
   ⟨(some 13), .mv (.tmp 12), none, false⟩,
   ⟨(some 14), .mv (.tmp 4), (some (13, false)), false⟩,
   ⟨(some 15), .bin .gtr (.tmp 14) (.const (.int .i64 3)), (some (13, false)), false⟩,
   ⟨(some 16), .pick (.tmp 13) (.const (.bool true)) (.tmp 15), none, false⟩])
  (.cond (.tmp 16) (.seq (.reg [⟨(some 2), .mv (.const (.bool false)), none, false⟩])
  .ret) .skip))))
  (.reg [⟨(some 17), .bin .add (.tmp 7) (.const (.int .i64 1)), none, false⟩,
   ⟨(some 7), .mv (.tmp 17), none, false⟩])))))))
  (.seq (.reg [⟨(some 2), .mv (.const (.bool true)), none, false⟩])
  .ret)))⟩

theorem s153 : compFn Try.prog Try.f153 = some c153 := by kernel_rfl

/-- loop.example/g01262/impl.isProduct -/
def c154 : XFn :=
 ⟨[.tmp 6],
  (.seq (.reg [⟨(some 4), .box 167 (.tmp 1), none, false⟩,
   ⟨(some 5), .box 155 (.tmp 2), none, false⟩,
   ⟨(some 6), .mv (.const (.bool false)), none, false⟩])
  (.seq (.seq (.reg [⟨(some 9), .loadn 27 (.tmp 5), none, false⟩,
   ⟨(some 10), .call (.func 157) [(.tmp 9)], none, false⟩,
   ⟨(some 11), .mv (.const (.int .i64 0)), none, false⟩])
  (.blk 0 (.loop (.seq (.reg [⟨(some 12), .bin .lss (.tmp 11) (.const (.int .i64 3)), none, false⟩])
  (.seq (.cond (.tmp 12) .skip (.exit 0))
  (.seq (.blk 1 (.seq (.reg [⟨(some 13), .mv (.tmp 11), none, false⟩,
   ⟨(some 14), .idxn 3 9 (.tmp 10) (.tmp 11), none, false⟩,
   ⟨(some 8), .alloc 153 [.int .u8 0, .int .u8 0, .int .u8 0, .int .u8 0, .int .u8 0, .int .u8 0, .int .u8 0, .int .u8 0, .int .u8 0], none, false⟩,
   ⟨(some 7), .mv (.tmp 13), none, false⟩,
   ⟨none, .store 9 (.tmp 8) (.tmp 14), none, false⟩])
  (.seq (.reg [⟨(some 15), .mv (.tmp 0), none, false⟩,
   ⟨(some 16), .mv (.tmp 7), none, false⟩,
   ⟨(some 17), .ixa 3 1 (.tmp 4) (.tmp 16), none, false⟩,
   ⟨(some 18), .load1 (.tmp 17), none, false⟩,
   ⟨(some 19), .loadn 9 (.tmp 8), none, false⟩,
   ⟨(some 20), .call (.func 161) [(.tmp 15), (.tmp 18), (.tmp 19)], none, false⟩,
   ⟨(some 21), .un .not (.tmp 20), none, false⟩])
  (.cond (.tmp 21) (.seq (.reg [⟨(some 6), .mv (.const (.bool false)), none, false⟩])
  .ret) .skip))))
  (.reg [⟨(some 22), .bin .add (.tmp 11) (.const (.int .i64 1)), none, false⟩,
   ⟨(some 11), .mv (.tmp 22), none, false⟩])))))))
  (.seq (.reg [⟨(some 23), .loadn 27 (.tmp 5), none, false⟩,
   ⟨(some 24), .call (.func 162) [(.tmp 23)], none, false⟩,
   ⟨(some 25), .un .not (.tmp 24), none, false⟩,
   ⟨(some 6), .mv (.tmp 25), none, false⟩])
  .ret)))⟩

theorem s154 : compFn Try.prog Try.f154 = some c154 := by kernel_rfl

/-- loop.example/g01262/laws.eqForm -/
def c155 : XFn :=
 ⟨[.tmp 4],
  (.seq (.reg [⟨(some 2), .box 153 (.tmp 0), none, false⟩,
   ⟨(some 3), .box 153 (.tmp 1), none, false⟩,
   ⟨(some 4), .mv (.const (.bool false)), none, false⟩])
  (.seq (.seq (.reg [⟨(some 5), .mv (.const (.int .i64 0)), none, false⟩])
  (.blk 0 (.loop (.seq (.seq (.reg [⟨(some 6), .mv (.tmp 5), none, false⟩,
   ⟨(some 7), .bin .lss (.tmp 6) (.const (.int .i64 9)), none, false⟩])
  (.cond (.tmp 7) .skip (.exit 0)))
  (.seq (.blk 1 (.seq (.reg [⟨(some 10), .mv (.tmp 5), none, false⟩,
   ⟨(some 11), .ixa 9 1 (.tmp 2) (.tmp 10), none, false⟩,
   ⟨(some 12), .load1 (.tmp 11), none, false⟩,
   ⟨(some 13), .mv (.tmp 5), none, false⟩,
   ⟨(some 14), .ixa 9 1 (.tmp 3) (.tmp 13), none, false⟩,
   ⟨(some 15), .load1 (.tmp 14), none, false⟩,
   ⟨(some 16), .bin .neq (.tmp 12) (.tmp 15), none, false⟩])
  (.cond (.tmp 16) (.seq (.reg [⟨(some 4), .mv (.const (.bool false)), none, false⟩])
  .ret) .skip)))
  (.reg [⟨(some 8), .mv (.tmp 5), none, false⟩,
   ⟨(some 9), .bin .add (.tmp 8) (.const (.int .i64 1)), none, false⟩,
   ⟨(some 5), .mv (.tmp 9), none, false⟩]))))))
  (.seq (.reg [⟨(some 4), .mv (.const (.bool true)), none, false⟩])
  .ret)))⟩

theorem s155 : compFn Try.prog Try.f155 = some c155 := by kernel_rfl

/-- loop.example/g01262/impl.matrixOf -/
def c156 : XFn :=
 ⟨[.tmp 6],
  (.seq (.reg [⟨(some 3), .box 153 (.tmp 0), none, false⟩,
   ⟨(some 6), .mv (.const (.slice none 0 0)), none, false⟩])
  (.seq (.reg [⟨(some 9), .bslice 2 1 0 [.int .i64 0] [], none, false⟩,
   ⟨(some 7), .mv (.tmp 9), none, false⟩])
  (.seq (.seq (.reg [⟨(some 10), .mv (.tmp 1), none, false⟩,
   ⟨(some 11), .mv (.tmp 2), none, false⟩,
   ⟨(some 12), .bin .mul (.tmp 10) (.tmp 11), none, false⟩,
   ⟨(some 13), .mv (.const (.int .i64 0)), none, false⟩])
  (.blk 0 (.loop (.seq (.reg [⟨(some 14), .bin .lss (.tmp 13) (.tmp 12), none, false⟩])
  (.seq (.cond (.tmp 14) .skip (.exit 0))
  (.seq (.blk 1 (.seq (.reg [⟨(some 15), .mv (.tmp 13), none, false⟩,
   ⟨(some 8), .mv (.tmp 15), none, false⟩])
  (.reg [⟨(some 16), .mv (.tmp 7), none, false⟩,
   ⟨(some 17), .mv (.tmp 8), none, false⟩,
   ⟨(some 18), .ixa 9 1 (.tmp 3) (.tmp 17), none, false⟩,
   ⟨(some 19), .load1 (.tmp 18), none, false⟩,
   ⟨(some 20), .conv .i64 (.tmp 19), none, false⟩,
   ⟨(some 21), .bslice 2 1 1 [.int .i64 0] [(0, 1, (.tmp 20))], none, false⟩,
   ⟨(some 22), .app 2 1 8 (.tmp 16) (.tmp 21), none, false⟩,
   ⟨(some 7), .mv (.tmp 22), none, false⟩])))
  (.reg [⟨(some 23), .bin .add (.tmp 13) (.const (.int .i64 1)), none, false⟩,
   ⟨(some 13), .mv (.tmp 23), none, false⟩])))))))
  (.seq (.reg [⟨(some 24), .mv (.tmp 7), none, false⟩,
   ⟨(some 25), .mv (.tmp 2), none, false⟩,
   ⟨(some 26), .call (.func 103) [(.tmp 24), (.tmp 25)], none, false⟩,
   ⟨(some 6), .mv (.tmp 26), none, false⟩])
  .ret))))⟩

theorem s156 : compFn Try.prog Try.f156 = some c156 := by kernel_rfl

/-- loop.example/g01262/impl.factors -/
def c157 : XFn :=
 ⟨[.celln 2 27],
  (.seq (.reg [⟨(some 1), .box 155 (.tmp 0), none, false⟩,
   ⟨(some 2), .alloc 181 [.int .u8 0, .int .u8 0, .int .u8 0, .int .u8 0, .int .u8 0, .int .u8 0, .int .u8 0, .int .u8 0, .int .u8 0, .int .u8 0, .int .u8 0, .int .u8 0, .int .u8 0, .int .u8 0, .int .u8 0, .int .u8 0, .int .u8 0, .int .u8 0, .int .u8 0, .int .u8 0, .int .u8 0, .int .u8 0, .int .u8 0, .int .u8 0, .int .u8 0, .int .u8 0, .int .u8 0], none, false⟩])
  (.seq (.reg [⟨(some 3), .fadr 0 (.tmp 1), none, false⟩,
   ⟨(some 4), .loadn 9 (.tmp 3), none, false⟩,
   ⟨(some 5), .fadr 9 (.tmp 1), none, false⟩,
   ⟨(some 6), .loadn 9 (.tmp 5), none, false⟩,
   ⟨(some 7), .fadr 18 (.tmp 1), none, false⟩,
   ⟨(some 8), .loadn 9 (.tmp 7), none, false⟩,
   ⟨(some 9), .build [.int .u8 0, .int .u8 0, .int .u8 0, .int .u8 0, .int .u8 0, .int .u8 0, .int .u8 0, .int .u8 0, .int .u8 0, .int .u8 0, .int .u8 0, .int .u8 0, .int .u8 0, .int .u8 0, .int .u8 0, .int .u8 0, .int .u8 0, .int .u8 0, .int .u8 0, .int .u8 0, .int .u8 0, .int .u8 0, .int .u8 0, .int .u8 0, .int .u8 0, .int .u8 0, .int .u8 0] [(0, 9, (.tmp 4)), (9, 9, (.tmp 6)), (18, 9, (.tmp 8))], none, false⟩,
   ⟨none, .store 27 (.tmp 2) (.tmp 9), none, false⟩])
  .ret))⟩

theorem s157 : compFn Try.prog Try.f157 = some c157 := by kernel_rfl

/-- loop.example/g01262/impl.turn -/
def c158 : XFn :=
 ⟨[.celln 2 5],
  (.seq (.reg [⟨(some 1), .box 28 (.tmp 0), none, false⟩,
   ⟨(some 2), .alloc 28 [.int .i64 0, .int .i64 0, .int .i64 0, .int .i64 0, .slice none 0 0], none, false⟩])
  (.seq (.reg [⟨(some 3), .fadr 0 (.tmp 1), none, false⟩,
   ⟨(some 4), .load1 (.tmp 3), none, false⟩,
   ⟨(some 5), .fadr 2 (.tmp 1), none, false⟩,
   ⟨(some 6), .load1 (.tmp 5), none, false⟩,
   ⟨(some 7), .fadr 3 (.tmp 1), none, false⟩,
   ⟨(some 8), .load1 (.tmp 7), none, false⟩,
   ⟨(some 9), .fadr 1 (.tmp 1), none, false⟩,
   ⟨(some 10), .load1 (.tmp 9), none, false⟩,
   ⟨(some 11), .mkf 164 [(.tmp 1)], none, false⟩,
   ⟨(some 12), .call (.func 163) [(.tmp 4), (.tmp 6), (.tmp 8), (.tmp 10), (.tmp 11)], none, false⟩,
   ⟨none, .store 5 (.tmp 2) (.tmp 12), none, false⟩])
  .ret))⟩

theorem s158 : compFn Try.prog Try.f158 = some c158 := by kernel_rfl

/-- slices.IndexFunc[[][]int64,[]int64] -/
def c159 : XFn :=
 ⟨[.tmp 4],
  (.seq (.reg [⟨(some 4), .mv (.const (.int .i64 0)), none, false⟩])
  (.seq (.seq (.reg [⟨(some 6), .mv (.tmp 0), none, false⟩,
   ⟨(some 7), .len (.tmp 6), none, false⟩,
   ⟨(some 8), .mv (.const (.int .i64 0)), none, false⟩])
  (.blk 0 (.loop (.seq (.reg [⟨(some 9), .bin .lss (.tmp 8) (.tmp 7), none, false⟩])
  (.seq (.cond (.tmp 9) .skip (.exit 0))
  (.seq (.blk 1 (.seq (.reg [⟨(some 10), .mv (.tmp 8), none, false⟩,
   ⟨(some 5), .mv (.tmp 10), none, false⟩])
  (.seq (.reg [⟨(some 11), .mv (.tmp 1), none, false⟩,
   ⟨(some 12), .mv (.tmp 0), none, false⟩,
   ⟨(some 13), .mv (.tmp 5), none, false⟩,
   ⟨(some 14), .ixs 1 (.tmp 12) (.tmp 13), none, false⟩,
   ⟨(some 15), .load1 (.tmp 14), none, false⟩,
   ⟨(some 16), .call (.tmp 11) [(.tmp 15)], none, false⟩])
  (.cond (.tmp 16) (.seq (.reg [⟨(some 17), .mv (.tmp 5), none, false⟩,
   ⟨(some 4), .mv (.tmp 17), none, false⟩])
  .ret) .skip))))
  (.reg [⟨(some 18), .bin .add (.tmp 8) (.const (.int .i64 1)), none, false⟩,
   ⟨(some 8), .mv (.tmp 18), none, false⟩])))))))
  (.seq (.reg [⟨(some 4), .mv (.const (.int .i64 (-1))), none, false⟩])
  .ret)))⟩

theorem s159 : compFn Try.prog Try.f159 = some c159 := by kernel_rfl

/-- loop.example/g01262/impl.rank$1 -/
def c160 : XFn :=
 ⟨[.tmp 3],
  (.seq (.reg [⟨(some 3), .mv (.const (.bool false)), none, false⟩])
  (.seq (.reg [⟨(some 4), .mv (.tmp 0), none, false⟩,
   ⟨(some 5), .load1 (.tmp 1), none, false⟩,
   ⟨(some 6), .ixs 1 (.tmp 4) (.tmp 5), none, false⟩,
   ⟨(some 7), .load1 (.tmp 6), none, false⟩,
   ⟨(some 8), .bin .neq (.tmp 7) (.const (.int .i64 0)), none, false⟩,
   ⟨(some 3), .mv (.tmp 8), none, false⟩])
  .ret))⟩

theorem s160 : compFn Try.prog Try.f160 = some c160 := by kernel_rfl

/-- loop.example/g01262/impl.isForm -/
def c161 : XFn :=
 ⟨[.tmp 6],
  (.seq (.reg [⟨(some 5), .box 153 (.tmp 2), none, false⟩,
   ⟨(some 6), .mv (.const (.bool false)), none, false⟩])
  (.seq (.seq (.reg [⟨(some 9), .loadn 9 (.tmp 5), none, false⟩,
   ⟨(some 10), .mv (.const (.int .i64 0)), none, false⟩])
  (.blk 0 (.loop (.seq (.reg [⟨(some 11), .bin .lss (.tmp 10) (.const (.int .i64 9)), none, false⟩])
  (.seq (.cond (.tmp 11) .skip (.exit 0))
  (.seq (.blk 1 (.seq (.reg [⟨(some 12), .mv (.tmp 10), none, false⟩,
   ⟨(some 13), .idx1 9 (.tmp 9) (.tmp 10), none, false⟩,
   ⟨(some 7), .mv (.tmp 12), none, false⟩,
   ⟨(some 8), .mv (.tmp 13), none, false⟩])
  (.seq (.reg [⟨(some 14), .mv (.tmp 8), none, false⟩,
   ⟨(some 15), .conv .i64 (.tmp 14), none, false⟩,
   ⟨(some 16), .mv (.tmp 0), none, false⟩,
   ⟨(some 17), .bin .geq (.tmp 15) (.tmp 16), none, false⟩,
   ⟨(some 18), .mv (.tmp 17), none, false⟩,
   ⟨(some 19), .mv (.tmp 8), (some (18, false)), false⟩,
   ⟨(some 20), .bin .neq (.tmp 19) (.const (.int .u8 0)), (some (18, false)), false⟩,
   ⟨(some 21), .mv (.tmp 20), (some (18, false)), false⟩,
   ⟨(some 22), .mv (.tmp 7), (some (21, true)), false⟩,
   ⟨(some 23), .mv (.tmp 1), (some (21, true)), false⟩,
   ⟨(some 24), .bin .geq (.tmp 22) (.tmp 23), (some (21, true)), false⟩,
   ⟨(some 25), .pick (.tmp 21) (.tmp 24) (.const (.bool false)), (some (18, false)), false⟩,
   ⟨(some 26), .pick (.tmp 18) (.const (.bool true)) (.tmp 25), none, false⟩])
  (.cond (.tmp 26) (.seq (.reg [⟨(some 6), .mv (.const (.bool false)), none, false⟩])
  .ret) .skip))))
  (.reg [⟨(some 27), .bin .add (.tmp 10) (.const (.int .i64 1)), none, false⟩,
   ⟨(some 10), .mv (.tmp 27), none, false⟩])))))))
  (.seq (.reg [⟨(some 6), .mv (.const (.bool true)), none, false⟩])
  .ret)))⟩

theorem s161 : compFn Try.prog Try.f161 = some c161 := by kernel_rfl

/-- loop.example/g01262/impl.hasZero -/
def c162 : XFn :=
 ⟨[.tmp 2],
  (.seq (.reg [⟨(some 1), .box 155 (.tmp 0), none, false⟩,
   ⟨(some 2), .mv (.const (.bool false)), none, false⟩])
  (.seq (.reg [⟨(some 3), .fadr 0 (.tmp 1), none, false⟩,
   ⟨(some 4), .loadn 9 (.tmp 3), none, false⟩,
   ⟨(some 5), .build [.int .u8 0, .int .u8 0, .int .u8 0, .int .u8 0, .int .u8 0, .int .u8 0, .int .u8 0, .int .u8 0, .int .u8 0] [], none, false⟩,
   ⟨(some 6), .eqa false 9 (.tmp 4) (.tmp 5), none, false⟩,
   ⟨(some 7), .mv (.tmp 6), none, false⟩,
   ⟨(some 8), .fadr 9 (.tmp 1), (some (7, false)), false⟩,
   ⟨(some 9), .loadn 9 (.tmp 8), (some (7, false)), false⟩,
   ⟨(some 10), .build [.int .u8 0, .int .u8 0, .int .u8 0, .int .u8 0, .int .u8 0, .int .u8 0, .int .u8 0, .int .u8 0, .int .u8 0] [], (some (7, false)), false⟩,
   ⟨(some 11), .eqa false 9 (.tmp 9) (.tmp 10), (some (7, false)), false⟩,
   ⟨(some 12), .pick (.tmp 7) (.const (.bool true)) (.tmp 11), none, false⟩,
   ⟨(some 13), .mv (.tmp 12), none, false⟩,
   ⟨(some 14), .fadr 18 (.tmp 1), (some (13, false)), false⟩,
   ⟨(some 15), .loadn 9 (.tmp 14), (some (13, false)), false⟩,
   ⟨(some 16), .build [.int .u8 0, .int .u8 0, .int .u8 0, .int .u8 0, .int .u8 0, .int .u8 0, .int .u8 0, .int .u8 0, .int .u8 0] [], (some (13, false)), false⟩,
   ⟨(some 17), .eqa false 9 (.tmp 15) (.tmp 16), (some (13, false)), false⟩,
   ⟨(some 18), .pick (.tmp 13) (.const (.bool true)) (.tmp 17), none, false⟩,
   ⟨(some 2), .mv (.tmp 18), none, false⟩])
  .ret))⟩

theorem s162 : compFn Try.prog Try.f162 = some c162 := by kernel_rfl

/-- loop.example/g01262/impl.tensor -/
def c163 : XFn :=
 ⟨[.celln 10 5],
  (.seq (.reg [⟨(some 10), .alloc 28 [.int .i64 0, .int .i64 0, .int .i64 0, .int .i64 0, .slice none 0 0], none, false⟩])
  (.seq (.reg [⟨(some 15), .mv (.tmp 0), none, false⟩,
   ⟨(some 16), .mv (.tmp 1), none, false⟩,
   ⟨(some 17), .mv (.tmp 2), none, false⟩,
   ⟨(some 18), .mv (.tmp 3), none, false⟩,
   ⟨(some 19), .build [.int .i64 0, .int .i64 0, .int .i64 0, .int .i64 0, .slice none 0 0] [(0, 1, (.tmp 15)), (1, 1, (.tmp 16)), (2, 1, (.tmp 17)), (3, 1, (.tmp 18))], none, false⟩,
   ⟨(some 11), .alloc 28 [.int .i64 0, .int .i64 0, .int .i64 0, .int .i64 0, .slice none 0 0], none, false⟩,
   ⟨none, .store 5 (.tmp 11) (.tmp 19), none, false⟩])
  (.seq (.seq (.reg [⟨(some 20), .mv (.tmp 1), none, false⟩,
   ⟨(some 21), .mv (.const (.int .i64 0)), none, false⟩])
  (.blk 0 (.loop (.seq (.reg [⟨(some 22), .bin .lss (.tmp 21) (.tmp 20), none, false⟩])
  (.seq (.cond (.tmp 22) .skip (.exit 0))
  (.seq (.blk 1 (.seq (.reg [⟨(some 23), .mv (.tmp 21), none, false⟩,
   ⟨(some 12), .mv (.tmp 23), none, false⟩])
  (.seq (.reg [⟨(some 24), .mv (.tmp 2), none, false⟩,
   ⟨(some 25), .mv (.const (.int .i64 0)), none, false⟩])
  (.blk 2 (.loop (.seq (.reg [⟨(some 26), .bin .lss (.tmp 25) (.tmp 24), none, false⟩])
  (.seq (.cond (.tmp 26) .skip (.exit 2))
  (.seq (.blk 3 (.seq (.reg [⟨(some 27), .mv (.tmp 25), none, false⟩,
   ⟨(some 13), .mv (.tmp 27), none, false⟩])
  (.seq (.reg [⟨(some 28), .mv (.tmp 3), none, false⟩,
   ⟨(some 29), .mv (.const (.int .i64 0)), none, false⟩])
  (.blk 4 (.loop (.seq (.reg [⟨(some 30), .bin .lss (.tmp 29) (.tmp 28), none, false⟩])
  (.seq (.cond (.tmp 30) .skip (.exit 4))
  (.seq (.blk 5 (.seq (.reg [⟨(some 31), .mv (.tmp 29), none, false⟩,
   ⟨(some 14), .mv (.tmp 31), none, false⟩])
  (.reg [⟨(some 32), .fadr 4 (.tmp 11), none, false⟩,
   ⟨(some 33), .load1 (.tmp 32), none, false⟩,
   ⟨(some 34), .mv (.tmp 4), none, false⟩,
   ⟨(some 35), .mv (.tmp 12), none, false⟩,
   ⟨(some 36), .mv (.tmp 13), none, false⟩,
   ⟨(some 37), .mv (.tmp 14), none, false⟩,
   ⟨(some 38), .call (.tmp 34) [(.tmp 35), (.tmp 36), (.tmp 37)], none, true⟩,
   ⟨(some 39), .mv (.tmp 0), none, false⟩,
   ⟨(some 40), .bin .rem (.tmp 38) (.tmp 39), none, false⟩,
   ⟨(some 41), .bslice 2 1 1 [.int .i64 0] [(0, 1, (.tmp 40))], none, false⟩,
   ⟨(some 42), .app 2 1 8 (.tmp 33) (.tmp 41), none, false⟩,
   ⟨(some 43), .fadr 4 (.tmp 11), none, false⟩,
   ⟨none, .store 1 (.tmp 43) (.tmp 42), none, false⟩])))
  (.reg [⟨(some 44), .bin .add (.tmp 29) (.const (.int .i64 1)), none, false⟩,
   ⟨(some 29), .mv (.tmp 44), none, false⟩])))))))))
  (.reg [⟨(some 45), .bin .add (.tmp 25) (.const (.int .i64 1)), none, false⟩,
   ⟨(some 25), .mv (.tmp 45), none, false⟩])))))))))
  (.reg [⟨(some 46), .bin .add (.tmp 21) (.const (.int .i64 1)), none, false⟩,
   ⟨(some 21), .mv (.tmp 46), none, false⟩])))))))
  (.seq (.reg [⟨(some 47), .loadn 5 (.tmp 11), none, false⟩,
   ⟨none, .store 5 (.tmp 10) (.tmp 47), none, false⟩])
  .ret))))⟩

theorem s163 : compFn Try.prog Try.f163 = some c163 := by kernel_rfl

/-- loop.example/g01262/impl.turn$1 -/
def c164 : XFn :=
 ⟨[.tmp 7],
  (.seq (.reg [⟨(some 7), .mv (.const (.int .i64 0)), none, false⟩])
  (.seq (.reg [⟨(some 8), .loadn 5 (.tmp 3), none, false⟩,
   ⟨(some 9), .mv (.tmp 2), none, false⟩,
   ⟨(some 10), .mv (.tmp 0), none, false⟩,
   ⟨(some 11), .mv (.tmp 1), none, false⟩,
   ⟨(some 12), .call (.func 72) [(.tmp 8), (.tmp 9), (.tmp 10), (.tmp 11)], none, false⟩,
   ⟨(some 7), .mv (.tmp 12), none, false⟩])
  .ret))⟩

theorem s164 : compFn Try.prog Try.f164 = some c164 := by kernel_rfl

def tab : List (Nat × XFn) := [(2, c2), (3, c3), (4, c4), (5, c5), (6, c6), (7, c7), (8, c8), (9, c9), (10, c10), (11, c11), (12, c12), (13, c13), (14, c14), (15, c15), (16, c16), (17, c17), (18, c18), (19, c19), (20, c20), (21, c21), (22, c22), (23, c23), (24, c24), (25, c25), (26, c26), (27, c27), (28, c28), (29, c29), (30, c30), (31, c31), (32, c32), (33, c33), (34, c34), (35, c35), (36, c36), (37, c37), (38, c38), (39, c39), (40, c40), (41, c41), (42, c42), (43, c43), (44, c44), (45, c45), (46, c46), (47, c47), (48, c48), (49, c49), (50, c50), (51, c51), (52, c52), (53, c53), (54, c54), (55, c55), (56, c56), (57, c57), (58, c58), (59, c59), (60, c60), (61, c61), (63, c63), (64, c64), (65, c65), (66, c66), (67, c67), (68, c68), (69, c69), (70, c70), (71, c71), (72, c72), (73, c73), (74, c74), (75, c75), (76, c76), (77, c77), (78, c78), (79, c79), (80, c80), (81, c81), (82, c82), (83, c83), (84, c84), (85, c85), (86, c86), (87, c87), (88, c88), (89, c89), (90, c90), (91, c91), (92, c92), (93, c93), (94, c94), (95, c95), (96, c96), (97, c97), (98, c98), (99, c99), (100, c100), (101, c101), (102, c102), (103, c103), (104, c104), (105, c105), (106, c106), (107, c107), (108, c108), (109, c109), (110, c110), (111, c111), (112, c112), (113, c113), (114, c114), (115, c115), (116, c116), (117, c117), (118, c118), (119, c119), (120, c120), (121, c121), (122, c122), (123, c123), (124, c124), (125, c125), (126, c126), (127, c127), (128, c128), (129, c129), (130, c130), (131, c131), (132, c132), (133, c133), (134, c134), (135, c135), (136, c136), (137, c137), (139, c139), (140, c140), (141, c141), (142, c142), (143, c143), (144, c144), (145, c145), (146, c146), (147, c147), (148, c148), (149, c149), (150, c150), (151, c151), (152, c152), (153, c153), (154, c154), (155, c155), (156, c156), (157, c157), (158, c158), (159, c159), (160, c160), (161, c161), (162, c162), (163, c163), (164, c164)]
def T (g : FuncId) : Option XFn := tab.lookup g
theorem orders : Try.prog.follows .mixedOrders = true := by kernel_rfl
theorem tsound : TSound Try.prog T := by
  refine tsound_of_all (P := Try.prog) (tab := tab) ?_
  intro p hp
  simp only [tab, List.mem_cons, List.not_mem_nil, or_false] at hp
  rcases hp with rfl | rfl | rfl | rfl | rfl | rfl | rfl | rfl | rfl | rfl | rfl | rfl | rfl | rfl | rfl | rfl | rfl | rfl | rfl | rfl | rfl | rfl | rfl | rfl | rfl | rfl | rfl | rfl | rfl | rfl | rfl | rfl | rfl | rfl | rfl | rfl | rfl | rfl | rfl | rfl | rfl | rfl | rfl | rfl | rfl | rfl | rfl | rfl | rfl | rfl | rfl | rfl | rfl | rfl | rfl | rfl | rfl | rfl | rfl | rfl | rfl | rfl | rfl | rfl | rfl | rfl | rfl | rfl | rfl | rfl | rfl | rfl | rfl | rfl | rfl | rfl | rfl | rfl | rfl | rfl | rfl | rfl | rfl | rfl | rfl | rfl | rfl | rfl | rfl | rfl | rfl | rfl | rfl | rfl | rfl | rfl | rfl | rfl | rfl | rfl | rfl | rfl | rfl | rfl | rfl | rfl | rfl | rfl | rfl | rfl | rfl | rfl | rfl | rfl | rfl | rfl | rfl | rfl | rfl | rfl | rfl | rfl | rfl | rfl | rfl | rfl | rfl | rfl | rfl | rfl | rfl | rfl | rfl | rfl | rfl | rfl | rfl | rfl | rfl | rfl | rfl | rfl | rfl | rfl | rfl | rfl | rfl | rfl | rfl | rfl | rfl | rfl | rfl | rfl | rfl | rfl | rfl | rfl | rfl | rfl | rfl
  · exact ⟨_, Try.func2, s2⟩
  · exact ⟨_, Try.func3, s3⟩
  · exact ⟨_, Try.func4, s4⟩
  · exact ⟨_, Try.func5, s5⟩
  · exact ⟨_, Try.func6, s6⟩
  · exact ⟨_, Try.func7, s7⟩
  · exact ⟨_, Try.func8, s8⟩
  · exact ⟨_, Try.func9, s9⟩
  · exact ⟨_, Try.func10, s10⟩
  · exact ⟨_, Try.func11, s11⟩
  · exact ⟨_, Try.func12, s12⟩
  · exact ⟨_, Try.func13, s13⟩
  · exact ⟨_, Try.func14, s14⟩
  · exact ⟨_, Try.func15, s15⟩
  · exact ⟨_, Try.func16, s16⟩
  · exact ⟨_, Try.func17, s17⟩
  · exact ⟨_, Try.func18, s18⟩
  · exact ⟨_, Try.func19, s19⟩
  · exact ⟨_, Try.func20, s20⟩
  · exact ⟨_, Try.func21, s21⟩
  · exact ⟨_, Try.func22, s22⟩
  · exact ⟨_, Try.func23, s23⟩
  · exact ⟨_, Try.func24, s24⟩
  · exact ⟨_, Try.func25, s25⟩
  · exact ⟨_, Try.func26, s26⟩
  · exact ⟨_, Try.func27, s27⟩
  · exact ⟨_, Try.func28, s28⟩
  · exact ⟨_, Try.func29, s29⟩
  · exact ⟨_, Try.func30, s30⟩
  · exact ⟨_, Try.func31, s31⟩
  · exact ⟨_, Try.func32, s32⟩
  · exact ⟨_, Try.func33, s33⟩
  · exact ⟨_, Try.func34, s34⟩
  · exact ⟨_, Try.func35, s35⟩
  · exact ⟨_, Try.func36, s36⟩
  · exact ⟨_, Try.func37, s37⟩
  · exact ⟨_, Try.func38, s38⟩
  · exact ⟨_, Try.func39, s39⟩
  · exact ⟨_, Try.func40, s40⟩
  · exact ⟨_, Try.func41, s41⟩
  · exact ⟨_, Try.func42, s42⟩
  · exact ⟨_, Try.func43, s43⟩
  · exact ⟨_, Try.func44, s44⟩
  · exact ⟨_, Try.func45, s45⟩
  · exact ⟨_, Try.func46, s46⟩
  · exact ⟨_, Try.func47, s47⟩
  · exact ⟨_, Try.func48, s48⟩
  · exact ⟨_, Try.func49, s49⟩
  · exact ⟨_, Try.func50, s50⟩
  · exact ⟨_, Try.func51, s51⟩
  · exact ⟨_, Try.func52, s52⟩
  · exact ⟨_, Try.func53, s53⟩
  · exact ⟨_, Try.func54, s54⟩
  · exact ⟨_, Try.func55, s55⟩
  · exact ⟨_, Try.func56, s56⟩
  · exact ⟨_, Try.func57, s57⟩
  · exact ⟨_, Try.func58, s58⟩
  · exact ⟨_, Try.func59, s59⟩
  · exact ⟨_, Try.func60, s60⟩
  · exact ⟨_, Try.func61, s61⟩
  · exact ⟨_, Try.func63, s63⟩
  · exact ⟨_, Try.func64, s64⟩
  · exact ⟨_, Try.func65, s65⟩
  · exact ⟨_, Try.func66, s66⟩
  · exact ⟨_, Try.func67, s67⟩
  · exact ⟨_, Try.func68, s68⟩
  · exact ⟨_, Try.func69, s69⟩
  · exact ⟨_, Try.func70, s70⟩
  · exact ⟨_, Try.func71, s71⟩
  · exact ⟨_, Try.func72, s72⟩
  · exact ⟨_, Try.func73, s73⟩
  · exact ⟨_, Try.func74, s74⟩
  · exact ⟨_, Try.func75, s75⟩
  · exact ⟨_, Try.func76, s76⟩
  · exact ⟨_, Try.func77, s77⟩
  · exact ⟨_, Try.func78, s78⟩
  · exact ⟨_, Try.func79, s79⟩
  · exact ⟨_, Try.func80, s80⟩
  · exact ⟨_, Try.func81, s81⟩
  · exact ⟨_, Try.func82, s82⟩
  · exact ⟨_, Try.func83, s83⟩
  · exact ⟨_, Try.func84, s84⟩
  · exact ⟨_, Try.func85, s85⟩
  · exact ⟨_, Try.func86, s86⟩
  · exact ⟨_, Try.func87, s87⟩
  · exact ⟨_, Try.func88, s88⟩
  · exact ⟨_, Try.func89, s89⟩
  · exact ⟨_, Try.func90, s90⟩
  · exact ⟨_, Try.func91, s91⟩
  · exact ⟨_, Try.func92, s92⟩
  · exact ⟨_, Try.func93, s93⟩
  · exact ⟨_, Try.func94, s94⟩
  · exact ⟨_, Try.func95, s95⟩
  · exact ⟨_, Try.func96, s96⟩
  · exact ⟨_, Try.func97, s97⟩
  · exact ⟨_, Try.func98, s98⟩
  · exact ⟨_, Try.func99, s99⟩
  · exact ⟨_, Try.func100, s100⟩
  · exact ⟨_, Try.func101, s101⟩
  · exact ⟨_, Try.func102, s102⟩
  · exact ⟨_, Try.func103, s103⟩
  · exact ⟨_, Try.func104, s104⟩
  · exact ⟨_, Try.func105, s105⟩
  · exact ⟨_, Try.func106, s106⟩
  · exact ⟨_, Try.func107, s107⟩
  · exact ⟨_, Try.func108, s108⟩
  · exact ⟨_, Try.func109, s109⟩
  · exact ⟨_, Try.func110, s110⟩
  · exact ⟨_, Try.func111, s111⟩
  · exact ⟨_, Try.func112, s112⟩
  · exact ⟨_, Try.func113, s113⟩
  · exact ⟨_, Try.func114, s114⟩
  · exact ⟨_, Try.func115, s115⟩
  · exact ⟨_, Try.func116, s116⟩
  · exact ⟨_, Try.func117, s117⟩
  · exact ⟨_, Try.func118, s118⟩
  · exact ⟨_, Try.func119, s119⟩
  · exact ⟨_, Try.func120, s120⟩
  · exact ⟨_, Try.func121, s121⟩
  · exact ⟨_, Try.func122, s122⟩
  · exact ⟨_, Try.func123, s123⟩
  · exact ⟨_, Try.func124, s124⟩
  · exact ⟨_, Try.func125, s125⟩
  · exact ⟨_, Try.func126, s126⟩
  · exact ⟨_, Try.func127, s127⟩
  · exact ⟨_, Try.func128, s128⟩
  · exact ⟨_, Try.func129, s129⟩
  · exact ⟨_, Try.func130, s130⟩
  · exact ⟨_, Try.func131, s131⟩
  · exact ⟨_, Try.func132, s132⟩
  · exact ⟨_, Try.func133, s133⟩
  · exact ⟨_, Try.func134, s134⟩
  · exact ⟨_, Try.func135, s135⟩
  · exact ⟨_, Try.func136, s136⟩
  · exact ⟨_, Try.func137, s137⟩
  · exact ⟨_, Try.func139, s139⟩
  · exact ⟨_, Try.func140, s140⟩
  · exact ⟨_, Try.func141, s141⟩
  · exact ⟨_, Try.func142, s142⟩
  · exact ⟨_, Try.func143, s143⟩
  · exact ⟨_, Try.func144, s144⟩
  · exact ⟨_, Try.func145, s145⟩
  · exact ⟨_, Try.func146, s146⟩
  · exact ⟨_, Try.func147, s147⟩
  · exact ⟨_, Try.func148, s148⟩
  · exact ⟨_, Try.func149, s149⟩
  · exact ⟨_, Try.func150, s150⟩
  · exact ⟨_, Try.func151, s151⟩
  · exact ⟨_, Try.func152, s152⟩
  · exact ⟨_, Try.func153, s153⟩
  · exact ⟨_, Try.func154, s154⟩
  · exact ⟨_, Try.func155, s155⟩
  · exact ⟨_, Try.func156, s156⟩
  · exact ⟨_, Try.func157, s157⟩
  · exact ⟨_, Try.func158, s158⟩
  · exact ⟨_, Try.func159, s159⟩
  · exact ⟨_, Try.func160, s160⟩
  · exact ⟨_, Try.func161, s161⟩
  · exact ⟨_, Try.func162, s162⟩
  · exact ⟨_, Try.func163, s163⟩
  · exact ⟨_, Try.func164, s164⟩
theorem t2 : T 2 = some c2 := rfl
theorem t3 : T 3 = some c3 := rfl
theorem t4 : T 4 = some c4 := rfl
theorem t5 : T 5 = some c5 := rfl
theorem t6 : T 6 = some c6 := rfl
theorem t7 : T 7 = some c7 := rfl
theorem t8 : T 8 = some c8 := rfl
theorem t9 : T 9 = some c9 := rfl
theorem t10 : T 10 = some c10 := rfl
theorem t11 : T 11 = some c11 := rfl
theorem t12 : T 12 = some c12 := rfl
theorem t13 : T 13 = some c13 := rfl
theorem t14 : T 14 = some c14 := rfl
theorem t15 : T 15 = some c15 := rfl
theorem t16 : T 16 = some c16 := rfl
theorem t17 : T 17 = some c17 := rfl
theorem t18 : T 18 = some c18 := rfl
theorem t19 : T 19 = some c19 := rfl
theorem t20 : T 20 = some c20 := rfl
theorem t21 : T 21 = some c21 := rfl
theorem t22 : T 22 = some c22 := rfl
theorem t23 : T 23 = some c23 := rfl
theorem t24 : T 24 = some c24 := rfl
theorem t25 : T 25 = some c25 := rfl
theorem t26 : T 26 = some c26 := rfl
theorem t27 : T 27 = some c27 := rfl
theorem t28 : T 28 = some c28 := rfl
theorem t29 : T 29 = some c29 := rfl
theorem t30 : T 30 = some c30 := rfl
theorem t31 : T 31 = some c31 := rfl
theorem t32 : T 32 = some c32 := rfl
theorem t33 : T 33 = some c33 := rfl
theorem t34 : T 34 = some c34 := rfl
theorem t35 : T 35 = some c35 := rfl
theorem t36 : T 36 = some c36 := rfl
theorem t37 : T 37 = some c37 := rfl
theorem t38 : T 38 = some c38 := rfl
theorem t39 : T 39 = some c39 := rfl
theorem t40 : T 40 = some c40 := rfl
theorem t41 : T 41 = some c41 := rfl
theorem t42 : T 42 = some c42 := rfl
theorem t43 : T 43 = some c43 := rfl
theorem t44 : T 44 = some c44 := rfl
theorem t45 : T 45 = some c45 := rfl
theorem t46 : T 46 = some c46 := rfl
theorem t47 : T 47 = some c47 := rfl
theorem t48 : T 48 = some c48 := rfl
theorem t49 : T 49 = some c49 := rfl
theorem t50 : T 50 = some c50 := rfl
theorem t51 : T 51 = some c51 := rfl
theorem t52 : T 52 = some c52 := rfl
theorem t53 : T 53 = some c53 := rfl
theorem t54 : T 54 = some c54 := rfl
theorem t55 : T 55 = some c55 := rfl
theorem t56 : T 56 = some c56 := rfl
theorem t57 : T 57 = some c57 := rfl
theorem t58 : T 58 = some c58 := rfl
theorem t59 : T 59 = some c59 := rfl
theorem t60 : T 60 = some c60 := rfl
theorem t61 : T 61 = some c61 := rfl
theorem t63 : T 63 = some c63 := rfl
theorem t64 : T 64 = some c64 := rfl
theorem t65 : T 65 = some c65 := rfl
theorem t66 : T 66 = some c66 := rfl
theorem t67 : T 67 = some c67 := rfl
theorem t68 : T 68 = some c68 := rfl
theorem t69 : T 69 = some c69 := rfl
theorem t70 : T 70 = some c70 := rfl
theorem t71 : T 71 = some c71 := rfl
theorem t72 : T 72 = some c72 := rfl
theorem t73 : T 73 = some c73 := rfl
theorem t74 : T 74 = some c74 := rfl
theorem t75 : T 75 = some c75 := rfl
theorem t76 : T 76 = some c76 := rfl
theorem t77 : T 77 = some c77 := rfl
theorem t78 : T 78 = some c78 := rfl
theorem t79 : T 79 = some c79 := rfl
theorem t80 : T 80 = some c80 := rfl
theorem t81 : T 81 = some c81 := rfl
theorem t82 : T 82 = some c82 := rfl
theorem t83 : T 83 = some c83 := rfl
theorem t84 : T 84 = some c84 := rfl
theorem t85 : T 85 = some c85 := rfl
theorem t86 : T 86 = some c86 := rfl
theorem t87 : T 87 = some c87 := rfl
theorem t88 : T 88 = some c88 := rfl
theorem t89 : T 89 = some c89 := rfl
theorem t90 : T 90 = some c90 := rfl
theorem t91 : T 91 = some c91 := rfl
theorem t92 : T 92 = some c92 := rfl
theorem t93 : T 93 = some c93 := rfl
theorem t94 : T 94 = some c94 := rfl
theorem t95 : T 95 = some c95 := rfl
theorem t96 : T 96 = some c96 := rfl
theorem t97 : T 97 = some c97 := rfl
theorem t98 : T 98 = some c98 := rfl
theorem t99 : T 99 = some c99 := rfl
theorem t100 : T 100 = some c100 := rfl
theorem t101 : T 101 = some c101 := rfl
theorem t102 : T 102 = some c102 := rfl
theorem t103 : T 103 = some c103 := rfl
theorem t104 : T 104 = some c104 := rfl
theorem t105 : T 105 = some c105 := rfl
theorem t106 : T 106 = some c106 := rfl
theorem t107 : T 107 = some c107 := rfl
theorem t108 : T 108 = some c108 := rfl
theorem t109 : T 109 = some c109 := rfl
theorem t110 : T 110 = some c110 := rfl
theorem t111 : T 111 = some c111 := rfl
theorem t112 : T 112 = some c112 := rfl
theorem t113 : T 113 = some c113 := rfl
theorem t114 : T 114 = some c114 := rfl
theorem t115 : T 115 = some c115 := rfl
theorem t116 : T 116 = some c116 := rfl
theorem t117 : T 117 = some c117 := rfl
theorem t118 : T 118 = some c118 := rfl
theorem t119 : T 119 = some c119 := rfl
theorem t120 : T 120 = some c120 := rfl
theorem t121 : T 121 = some c121 := rfl
theorem t122 : T 122 = some c122 := rfl
theorem t123 : T 123 = some c123 := rfl
theorem t124 : T 124 = some c124 := rfl
theorem t125 : T 125 = some c125 := rfl
theorem t126 : T 126 = some c126 := rfl
theorem t127 : T 127 = some c127 := rfl
theorem t128 : T 128 = some c128 := rfl
theorem t129 : T 129 = some c129 := rfl
theorem t130 : T 130 = some c130 := rfl
theorem t131 : T 131 = some c131 := rfl
theorem t132 : T 132 = some c132 := rfl
theorem t133 : T 133 = some c133 := rfl
theorem t134 : T 134 = some c134 := rfl
theorem t135 : T 135 = some c135 := rfl
theorem t136 : T 136 = some c136 := rfl
theorem t137 : T 137 = some c137 := rfl
theorem t139 : T 139 = some c139 := rfl
theorem t140 : T 140 = some c140 := rfl
theorem t141 : T 141 = some c141 := rfl
theorem t142 : T 142 = some c142 := rfl
theorem t143 : T 143 = some c143 := rfl
theorem t144 : T 144 = some c144 := rfl
theorem t145 : T 145 = some c145 := rfl
theorem t146 : T 146 = some c146 := rfl
theorem t147 : T 147 = some c147 := rfl
theorem t148 : T 148 = some c148 := rfl
theorem t149 : T 149 = some c149 := rfl
theorem t150 : T 150 = some c150 := rfl
theorem t151 : T 151 = some c151 := rfl
theorem t152 : T 152 = some c152 := rfl
theorem t153 : T 153 = some c153 := rfl
theorem t154 : T 154 = some c154 := rfl
theorem t155 : T 155 = some c155 := rfl
theorem t156 : T 156 = some c156 := rfl
theorem t157 : T 157 = some c157 := rfl
theorem t158 : T 158 = some c158 := rfl
theorem t159 : T 159 = some c159 := rfl
theorem t160 : T 160 = some c160 := rfl
theorem t161 : T 161 = some c161 := rfl
theorem t162 : T 162 = some c162 := rfl
theorem t163 : T 163 = some c163 := rfl
theorem t164 : T 164 = some c164 := rfl
end Go.Proofs.Ytilpnbejpndgpaa.X
