/- Texts of one claim, put together by merge.py: XCode2. -/
import Derived.Test.YtapafdpnmakekaaSI3
import Derived.Test.YtapafdpnmakekaaProg
set_option linter.unusedVariables false
set_option maxRecDepth 4000
namespace Go.Proofs.Ytapafdpnmakekaa.X
open Go Go.RowKit
def c183 : XFn :=
 ⟨[.tmp 2],
  (.seq (.reg [⟨(some 2), .mv (.const (.bool false)), none, .f⟩])
  (.seq (.seq (.reg [⟨(some 5), .mv (.tmp 0), none, .f⟩,
   ⟨(some 6), .len (.tmp 5), none, .f⟩,
   ⟨(some 7), .mv (.const (.int .i64 0)), none, .f⟩])
  (.blk 0 (.loop (.seq (.reg [⟨(some 8), .bin .lss (.tmp 7) (.tmp 6), none, .f⟩])
  (.seq (.cond (.tmp 8) .skip (.exit 0))
  (.seq (.blk 1 (.seq (.reg [⟨(some 9), .ixs 1 (.tmp 5) (.tmp 7), none, .f⟩,
   ⟨(some 10), .load1 (.tmp 9), none, .f⟩,
   ⟨(some 4), .mv (.tmp 10), none, .f⟩])
  (.seq (.reg [⟨(some 11), .mv (.tmp 4), none, .f⟩,
   ⟨(some 12), .bin .lss (.tmp 11) (.const (.int .i64 1)), none, .f⟩,
   ⟨(some 13), .mv (.tmp 12), none, .f⟩,
   ⟨(some 14), .mv (.tmp 4), (some (13, false)), .f⟩,
   ⟨(some 15), .bin .gtr (.tmp 14) (.const (.int .i64 9)), (some (13, false)), .f⟩,
   ⟨(some 16), .pick (.tmp 13) (.const (.bool true)) (.tmp 15), none, .f⟩])
  (.cond (.tmp 16) (.seq (.reg [⟨(some 2), .mv (.const (.bool false)), none, .f⟩])
  .ret) .skip))))
  (.reg [⟨(some 17), .bin .add (.tmp 7) (.const (.int .i64 1)), none, .f⟩,
   ⟨(some 7), .mv (.tmp 17), none, .f⟩])))))))
  (.seq (.reg [⟨(some 2), .mv (.const (.bool true)), none, .f⟩])
  .ret)))⟩
theorem s183 : compFn Try.prog Try.f183 = some c183 := by kernel_rfl
def c184 : XFn :=
 ⟨[.tmp 4],
  (.seq (.reg [⟨(some 4), .mv (.const (.bool false)), none, .f⟩])
  (.seq (.seq (.reg [⟨(some 7), .mv (.tmp 1), none, .f⟩,
   ⟨(some 8), .len (.tmp 7), none, .f⟩,
   ⟨(some 9), .mv (.const (.int .i64 0)), none, .f⟩])
  (.blk 0 (.loop (.seq (.reg [⟨(some 10), .bin .lss (.tmp 9) (.tmp 8), none, .f⟩])
  (.seq (.cond (.tmp 10) .skip (.exit 0))
  (.seq (.blk 1 (.seq (.reg [⟨(some 11), .ixs 1 (.tmp 7) (.tmp 9), none, .f⟩,
   ⟨(some 12), .load1 (.tmp 11), none, .f⟩,
   ⟨(some 6), .mv (.tmp 12), none, .f⟩])
  (.seq (.reg [⟨(some 13), .mv (.tmp 6), none, .f⟩,
   ⟨(some 14), .bin .lss (.tmp 13) (.const (.int .i64 0)), none, .f⟩,
   ⟨(some 15), .mv (.tmp 14), none, .f⟩,
   ⟨(some 16), .mv (.tmp 6), (some (15, false)), .f⟩,
   ⟨(some 17), .mv (.tmp 0), (some (15, false)), .f⟩,
   ⟨(some 18), .bin .geq (.tmp 16) (.tmp 17), (some (15, false)), .f⟩,
   ⟨(some 19), .pick (.tmp 15) (.const (.bool true)) (.tmp 18), none, .f⟩])
  (.cond (.tmp 19) (.seq (.reg [⟨(some 4), .mv (.const (.bool false)), none, .f⟩])
  .ret) .skip))))
  (.reg [⟨(some 20), .bin .add (.tmp 9) (.const (.int .i64 1)), none, .f⟩,
   ⟨(some 9), .mv (.tmp 20), none, .f⟩])))))))
  (.seq (.reg [⟨(some 4), .mv (.const (.bool true)), none, .f⟩])
  .ret)))⟩
theorem s184 : compFn Try.prog Try.f184 = some c184 := by kernel_rfl
def c185 : XFn :=
 ⟨[.tmp 2],
  (.seq (.reg [⟨(some 1), .box 36 (.tmp 0), none, .f⟩,
   ⟨(some 2), .mv (.const (.slice none 0 0)), none, .f⟩])
  (.seq (.reg [⟨(some 6), .bslice 2 1 0 [.int .i64 0] [], none, .f⟩,
   ⟨(some 3), .mv (.tmp 6), none, .f⟩])
  (.seq (.seq (.reg [⟨(some 7), .mv (.const (.int .i64 0)), none, .f⟩])
  (.blk 0 (.loop (.seq (.reg [⟨(some 8), .bin .lss (.tmp 7) (.const (.int .i64 3)), none, .f⟩])
  (.seq (.cond (.tmp 8) .skip (.exit 0))
  (.seq (.blk 1 (.seq (.reg [⟨(some 9), .mv (.tmp 7), none, .f⟩,
   ⟨(some 4), .mv (.tmp 9), none, .f⟩])
  (.seq (.reg [⟨(some 10), .loadn 5 (.tmp 1), none, .f⟩,
   ⟨(some 11), .mv (.tmp 4), none, .f⟩,
   ⟨(some 12), .call (.func 245) [(.tmp 10), (.tmp 11)], none, .f⟩,
   ⟨(some 5), .alloc 36 [.int .i64 0, .int .i64 0, .int .i64 0, .int .i64 0, .slice none 0 0], none, .f⟩,
   ⟨none, .store 5 (.tmp 5) (.tmp 12), none, .f⟩])
  (.reg [⟨(some 13), .mv (.tmp 3), none, .f⟩,
   ⟨(some 14), .fadr 0 (.tmp 1), none, .f⟩,
   ⟨(some 15), .load1 (.tmp 14), none, .f⟩,
   ⟨(some 16), .fadr 4 (.tmp 5), none, .f⟩,
   ⟨(some 17), .load1 (.tmp 16), none, .f⟩,
   ⟨(some 18), .fadr 2 (.tmp 5), none, .f⟩,
   ⟨(some 19), .load1 (.tmp 18), none, .f⟩,
   ⟨(some 20), .fadr 3 (.tmp 5), none, .f⟩,
   ⟨(some 21), .load1 (.tmp 20), none, .f⟩,
   ⟨(some 22), .bin .mul (.tmp 19) (.tmp 21), none, .f⟩,
   ⟨(some 23), .call (.func 163) [(.tmp 17), (.tmp 22)], none, .t⟩,
   ⟨(some 24), .call (.func 246) [(.tmp 15), (.tmp 23)], none, .f⟩,
   ⟨(some 25), .bslice 2 1 1 [.int .i64 0] [(0, 1, (.tmp 24))], none, .f⟩,
   ⟨(some 26), .app 2 1 8 (.tmp 13) (.tmp 25), none, .f⟩,
   ⟨(some 3), .mv (.tmp 26), none, .f⟩]))))
  (.reg [⟨(some 27), .bin .add (.tmp 7) (.const (.int .i64 1)), none, .f⟩,
   ⟨(some 7), .mv (.tmp 27), none, .f⟩])))))))
  (.seq (.reg [⟨(some 28), .mv (.tmp 3), none, .f⟩,
   ⟨(some 2), .mv (.tmp 28), none, .f⟩])
  .ret))))⟩
theorem s185 : compFn Try.prog Try.f185 = some c185 := by kernel_rfl
def c190 : XFn :=
 ⟨[.tmp 8],
  (.seq (.reg [⟨(some 4), .box 36 (.tmp 0), none, .f⟩,
   ⟨(some 8), .mv (.const (.int .i64 0)), none, .f⟩])
  (.seq (.reg [⟨(some 9), .fadr 4 (.tmp 4), none, .f⟩,
   ⟨(some 10), .load1 (.tmp 9), none, .f⟩,
   ⟨(some 11), .mv (.tmp 1), none, .f⟩,
   ⟨(some 12), .fadr 2 (.tmp 4), none, .f⟩,
   ⟨(some 13), .load1 (.tmp 12), none, .f⟩,
   ⟨(some 14), .bin .mul (.tmp 11) (.tmp 13), none, .f⟩,
   ⟨(some 15), .mv (.tmp 2), none, .f⟩,
   ⟨(some 16), .bin .add (.tmp 14) (.tmp 15), none, .f⟩,
   ⟨(some 17), .fadr 3 (.tmp 4), none, .f⟩,
   ⟨(some 18), .load1 (.tmp 17), none, .f⟩,
   ⟨(some 19), .bin .mul (.tmp 16) (.tmp 18), none, .f⟩,
   ⟨(some 20), .mv (.tmp 3), none, .f⟩,
   ⟨(some 21), .bin .add (.tmp 19) (.tmp 20), none, .f⟩,
   ⟨(some 22), .ixs 1 (.tmp 10) (.tmp 21), none, .f⟩,
   ⟨(some 23), .load1 (.tmp 22), none, .f⟩,
   ⟨(some 8), .mv (.tmp 23), none, .f⟩])
  .ret))⟩
theorem s190 : compFn Try.prog Try.f190 = some c190 := by kernel_rfl
def c193 : XFn :=
 ⟨[.celln 2 5],
  (.seq (.reg [⟨(some 1), .box 36 (.tmp 0), none, .f⟩,
   ⟨(some 2), .alloc 36 [.int .i64 0, .int .i64 0, .int .i64 0, .int .i64 0, .slice none 0 0], none, .f⟩])
  (.seq (.reg [⟨(some 3), .fadr 0 (.tmp 1), none, .f⟩,
   ⟨(some 4), .load1 (.tmp 3), none, .f⟩,
   ⟨(some 5), .fadr 2 (.tmp 1), none, .f⟩,
   ⟨(some 6), .load1 (.tmp 5), none, .f⟩,
   ⟨(some 7), .fadr 3 (.tmp 1), none, .f⟩,
   ⟨(some 8), .load1 (.tmp 7), none, .f⟩,
   ⟨(some 9), .fadr 1 (.tmp 1), none, .f⟩,
   ⟨(some 10), .load1 (.tmp 9), none, .f⟩,
   ⟨(some 11), .mkf 293 [(.tmp 1)], none, .f⟩,
   ⟨(some 12), .call (.func 178) [(.tmp 4), (.tmp 6), (.tmp 8), (.tmp 10), (.tmp 11)], none, .f⟩,
   ⟨none, .store 5 (.tmp 2) (.tmp 12), none, .f⟩])
  .ret))⟩
theorem s193 : compFn Try.prog Try.f193 = some c193 := by kernel_rfl
def c194 : XFn :=
 ⟨[.celln 2 5],
  (.seq (.reg [⟨(some 1), .box 36 (.tmp 0), none, .f⟩,
   ⟨(some 2), .alloc 36 [.int .i64 0, .int .i64 0, .int .i64 0, .int .i64 0, .slice none 0 0], none, .f⟩])
  (.seq (.reg [⟨(some 7), .fadr 0 (.tmp 1), none, .f⟩,
   ⟨(some 8), .load1 (.tmp 7), none, .f⟩,
   ⟨(some 9), .fadr 2 (.tmp 1), none, .f⟩,
   ⟨(some 10), .load1 (.tmp 9), none, .f⟩,
   ⟨(some 11), .fadr 3 (.tmp 1), none, .f⟩,
   ⟨(some 12), .load1 (.tmp 11), none, .f⟩,
   ⟨(some 13), .fadr 1 (.tmp 1), none, .f⟩,
   ⟨(some 14), .load1 (.tmp 13), none, .f⟩,
   ⟨(some 15), .call (.func 182) [(.tmp 8), (.tmp 10), (.tmp 12), (.tmp 14)], none, .f⟩,
   ⟨(some 3), .alloc 36 [.int .i64 0, .int .i64 0, .int .i64 0, .int .i64 0, .slice none 0 0], none, .f⟩,
   ⟨none, .store 5 (.tmp 3) (.tmp 15), none, .f⟩])
  (.seq (.seq (.reg [⟨(some 4), .mv (.const (.int .i64 0)), none, .f⟩])
  (.blk 0 (.loop (.seq (.seq (.reg [⟨(some 16), .mv (.tmp 4), none, .f⟩,
   ⟨(some 17), .fadr 1 (.tmp 1), none, .f⟩,
   ⟨(some 18), .load1 (.tmp 17), none, .f⟩,
   ⟨(some 19), .bin .lss (.tmp 16) (.tmp 18), none, .f⟩])
  (.cond (.tmp 19) .skip (.exit 0)))
  (.seq (.blk 1 (.seq (.reg [⟨(some 5), .mv (.const (.int .i64 0)), none, .f⟩])
  (.blk 2 (.loop (.seq (.seq (.reg [⟨(some 22), .mv (.tmp 5), none, .f⟩,
   ⟨(some 23), .fadr 2 (.tmp 1), none, .f⟩,
   ⟨(some 24), .load1 (.tmp 23), none, .f⟩,
   ⟨(some 25), .bin .lss (.tmp 22) (.tmp 24), none, .f⟩])
  (.cond (.tmp 25) .skip (.exit 2)))
  (.seq (.blk 3 (.seq (.reg [⟨(some 6), .mv (.const (.int .i64 0)), none, .f⟩])
  (.blk 4 (.loop (.seq (.seq (.reg [⟨(some 28), .mv (.tmp 6), none, .f⟩,
   ⟨(some 29), .fadr 3 (.tmp 1), none, .f⟩,
   ⟨(some 30), .load1 (.tmp 29), none, .f⟩,
   ⟨(some 31), .bin .lss (.tmp 28) (.tmp 30), none, .f⟩])
  (.cond (.tmp 31) .skip (.exit 4)))
  (.seq (.blk 5 (.reg [⟨(some 34), .fadr 4 (.tmp 3), none, .f⟩,
   ⟨(some 35), .load1 (.tmp 34), none, .f⟩,
   ⟨(some 36), .mv (.tmp 5), none, .f⟩,
   ⟨(some 37), .fadr 3 (.tmp 1), none, .f⟩,
   ⟨(some 38), .load1 (.tmp 37), none, .f⟩,
   ⟨(some 39), .bin .mul (.tmp 36) (.tmp 38), none, .f⟩,
   ⟨(some 40), .mv (.tmp 6), none, .f⟩,
   ⟨(some 41), .bin .add (.tmp 39) (.tmp 40), none, .f⟩,
   ⟨(some 42), .fadr 1 (.tmp 1), none, .f⟩,
   ⟨(some 43), .load1 (.tmp 42), none, .f⟩,
   ⟨(some 44), .bin .mul (.tmp 41) (.tmp 43), none, .f⟩,
   ⟨(some 45), .mv (.tmp 4), none, .f⟩,
   ⟨(some 46), .bin .add (.tmp 44) (.tmp 45), none, .f⟩,
   ⟨(some 47), .loadn 5 (.tmp 1), none, .f⟩,
   ⟨(some 48), .mv (.tmp 4), none, .f⟩,
   ⟨(some 49), .mv (.tmp 5), none, .f⟩,
   ⟨(some 50), .mv (.tmp 6), none, .f⟩,
   ⟨(some 51), .call (.func 190) [(.tmp 47), (.tmp 48), (.tmp 49), (.tmp 50)], none, .t⟩,
   ⟨(some 52), .ixs 1 (.tmp 35) (.tmp 46), none, .f⟩,
   ⟨none, .store 1 (.tmp 52) (.tmp 51), none, .f⟩]))
  (.reg [⟨(some 32), .mv (.tmp 6), none, .f⟩,
   ⟨(some 33), .bin .add (.tmp 32) (.const (.int .i64 1)), none, .f⟩,
   ⟨(some 6), .mv (.tmp 33), none, .f⟩])))))))
  (.reg [⟨(some 26), .mv (.tmp 5), none, .f⟩,
   ⟨(some 27), .bin .add (.tmp 26) (.const (.int .i64 1)), none, .f⟩,
   ⟨(some 5), .mv (.tmp 27), none, .f⟩])))))))
  (.reg [⟨(some 20), .mv (.tmp 4), none, .f⟩,
   ⟨(some 21), .bin .add (.tmp 20) (.const (.int .i64 1)), none, .f⟩,
   ⟨(some 4), .mv (.tmp 21), none, .f⟩]))))))
  (.seq (.reg [⟨(some 53), .loadn 5 (.tmp 3), none, .f⟩,
   ⟨none, .store 5 (.tmp 2) (.tmp 53), none, .f⟩])
  .ret))))⟩
theorem s194 : compFn Try.prog Try.f194 = some c194 := by kernel_rfl
def c200 : XFn :=
 ⟨[.tmp 4],
  (.seq (.reg [⟨(some 4), .mv (.const (.bool false)), none, .f⟩])
  (.seq (.seq (.reg [⟨(some 6), .mv (.tmp 0), none, .f⟩,
   ⟨(some 7), .len (.tmp 6), none, .f⟩,
   ⟨(some 8), .mv (.tmp 1), none, .f⟩,
   ⟨(some 9), .len (.tmp 8), none, .f⟩,
   ⟨(some 10), .bin .neq (.tmp 7) (.tmp 9), none, .f⟩])
  (.cond (.tmp 10) (.seq (.reg [⟨(some 4), .mv (.const (.bool false)), none, .f⟩])
  .ret) .skip))
  (.seq (.seq (.reg [⟨(some 11), .mv (.tmp 0), none, .f⟩,
   ⟨(some 12), .len (.tmp 11), none, .f⟩,
   ⟨(some 13), .mv (.const (.int .i64 0)), none, .f⟩])
  (.blk 0 (.loop (.seq (.reg [⟨(some 14), .bin .lss (.tmp 13) (.tmp 12), none, .f⟩])
  (.seq (.cond (.tmp 14) .skip (.exit 0))
  (.seq (.blk 1 (.seq (.reg [⟨(some 15), .mv (.tmp 13), none, .f⟩,
   ⟨(some 5), .mv (.tmp 15), none, .f⟩])
  (.seq (.reg [⟨(some 16), .mv (.tmp 0), none, .f⟩,
   ⟨(some 17), .mv (.tmp 5), none, .f⟩,
   ⟨(some 18), .ixs 1 (.tmp 16) (.tmp 17), none, .f⟩,
   ⟨(some 19), .load1 (.tmp 18), none, .f⟩,
   ⟨(some 20), .mv (.tmp 1), none, .f⟩,
   ⟨(some 21), .mv (.tmp 5), none, .f⟩,
   ⟨(some 22), .ixs 1 (.tmp 20) (.tmp 21), none, .f⟩,
   ⟨(some 23), .load1 (.tmp 22), none, .f⟩,
   ⟨(some 24), .bin .neq (.tmp 19) (.tmp 23), none, .f⟩])
  (.cond (.tmp 24) (.seq (.reg [⟨(some 4), .mv (.const (.bool false)), none, .f⟩])
  .ret) .skip))))
  (.reg [⟨(some 25), .bin .add (.tmp 13) (.const (.int .i64 1)), none, .f⟩,
   ⟨(some 13), .mv (.tmp 25), none, .f⟩])))))))
  (.seq (.reg [⟨(some 4), .mv (.const (.bool true)), none, .f⟩])
  .ret))))⟩
theorem s200 : compFn Try.prog Try.f200 = some c200 := by kernel_rfl
def c222 : XFn :=
 ⟨[.tmp 8],
  (.seq (.reg [⟨(some 4), .box 26 (.tmp 0), none, .f⟩,
   ⟨(some 8), .mv (.const (.int .i64 0)), none, .f⟩])
  (.seq (.reg [⟨(some 9), .mv (.const (.int .i64 0)), none, .f⟩])
  (.seq (.seq (.reg [⟨(some 10), .mv (.const (.int .i64 0)), none, .f⟩])
  (.blk 0 (.loop (.seq (.seq (.reg [⟨(some 12), .mv (.tmp 10), none, .f⟩,
   ⟨(some 13), .fadr 4 (.tmp 4), none, .f⟩,
   ⟨(some 14), .load1 (.tmp 13), none, .f⟩,
   ⟨(some 15), .len (.tmp 14), none, .f⟩,
   ⟨(some 16), .bin .lss (.tmp 12) (.tmp 15), none, .f⟩])
  (.cond (.tmp 16) .skip (.exit 0)))
  (.seq (.blk 1 (.seq (.reg [⟨(some 19), .fadr 4 (.tmp 4), none, .f⟩,
   ⟨(some 20), .load1 (.tmp 19), none, .f⟩,
   ⟨(some 21), .mv (.tmp 10), none, .f⟩,
   ⟨(some 22), .ixs 27 (.tmp 20) (.tmp 21), none, .f⟩,
   ⟨(some 23), .loadn 27 (.tmp 22), none, .f⟩,
   ⟨(some 11), .alloc 138 [.int .u8 0, .int .u8 0, .int .u8 0, .int .u8 0, .int .u8 0, .int .u8 0, .int .u8 0, .int .u8 0, .int .u8 0, .int .u8 0, .int .u8 0, .int .u8 0, .int .u8 0, .int .u8 0, .int .u8 0, .int .u8 0, .int .u8 0, .int .u8 0, .int .u8 0, .int .u8 0, .int .u8 0, .int .u8 0, .int .u8 0, .int .u8 0, .int .u8 0, .int .u8 0, .int .u8 0], none, .f⟩,
   ⟨none, .store 27 (.tmp 11) (.tmp 23), none, .f⟩])
  (.reg [⟨(some 24), .mv (.tmp 9), none, .f⟩,
   ⟨(some 25), .mv (.tmp 1), none, .f⟩,
   ⟨(some 26), .fadr 0 (.tmp 11), none, .f⟩,
   ⟨(some 27), .ixa 9 1 (.tmp 26) (.tmp 25), none, .f⟩,
   ⟨(some 28), .load1 (.tmp 27), none, .f⟩,
   ⟨(some 29), .conv .i64 (.tmp 28), none, .f⟩,
   ⟨(some 30), .mv (.tmp 2), none, .f⟩,
   ⟨(some 31), .fadr 9 (.tmp 11), none, .f⟩,
   ⟨(some 32), .ixa 9 1 (.tmp 31) (.tmp 30), none, .f⟩,
   ⟨(some 33), .load1 (.tmp 32), none, .f⟩,
   ⟨(some 34), .conv .i64 (.tmp 33), none, .f⟩,
   ⟨(some 35), .bin .mul (.tmp 29) (.tmp 34), none, .f⟩,
   ⟨(some 36), .mv (.tmp 3), none, .f⟩,
   ⟨(some 37), .fadr 18 (.tmp 11), none, .f⟩,
   ⟨(some 38), .ixa 9 1 (.tmp 37) (.tmp 36), none, .f⟩,
   ⟨(some 39), .load1 (.tmp 38), none, .f⟩,
   ⟨(some 40), .conv .i64 (.tmp 39), none, .f⟩,
   ⟨(some 41), .bin .mul (.tmp 35) (.tmp 40), none, .f⟩,
   ⟨(some 42), .bin .add (.tmp 24) (.tmp 41), none, .f⟩,
   ⟨(some 9), .mv (.tmp 42), none, .f⟩])))
  (.reg [⟨(some 17), .mv (.tmp 10), none, .f⟩,
   ⟨(some 18), .bin .add (.tmp 17) (.const (.int .i64 1)), none, .f⟩,
   ⟨(some 10), .mv (.tmp 18), none, .f⟩]))))))
  (.seq (.reg [⟨(some 43), .mv (.tmp 9), none, .f⟩,
   ⟨(some 44), .fadr 0 (.tmp 4), none, .f⟩,
   ⟨(some 45), .load1 (.tmp 44), none, .f⟩,
   ⟨(some 46), .bin .rem (.tmp 43) (.tmp 45), none, .f⟩,
   ⟨(some 8), .mv (.tmp 46), none, .f⟩])
  .ret))))⟩
theorem s222 : compFn Try.prog Try.f222 = some c222 := by kernel_rfl
def c224 : XFn :=
 ⟨[.tmp 2],
  (.seq (.reg [⟨(some 2), .mv (.const (.bool false)), none, .f⟩])
  (.seq (.reg [⟨(some 3), .mv (.tmp 0), none, .f⟩,
   ⟨(some 4), .bin .eql (.tmp 3) (.const (.int .i64 2)), none, .f⟩,
   ⟨(some 5), .mv (.tmp 4), none, .f⟩,
   ⟨(some 6), .mv (.tmp 0), (some (5, false)), .f⟩,
   ⟨(some 7), .bin .eql (.tmp 6) (.const (.int .i64 3)), (some (5, false)), .f⟩,
   ⟨(some 8), .pick (.tmp 5) (.const (.bool true)) (.tmp 7), none, .f⟩,
   ⟨(some 9), .mv (.tmp 8), none, .f⟩,
   ⟨(some 10), .mv (.tmp 0), (some (9, false)), .f⟩,
   ⟨(some 11), .bin .eql (.tmp 10) (.const (.int .i64 5)), (some (9, false)), .f⟩,
   ⟨(some 12), .pick (.tmp 9) (.const (.bool true)) (.tmp 11), none, .f⟩,
   ⟨(some 2), .mv (.tmp 12), none, .f⟩])
  .ret))⟩
theorem s224 : compFn Try.prog Try.f224 = some c224 := by kernel_rfl
def c240 : XFn :=
 ⟨[.tmp 2],
  (.seq (.reg [⟨(some 1), .box 36 (.tmp 0), none, .f⟩,
   ⟨(some 2), .mv (.const (.bool false)), none, .f⟩])
  (.seq (.reg [⟨(some 3), .loadn 5 (.tmp 1), none, .f⟩,
   ⟨(some 4), .call (.func 185) [(.tmp 3)], none, .f⟩,
   ⟨(some 5), .bslice 2 1 3 [.int .i64 0] [(0, 1, (.const (.int .i64 1))), (1, 1, (.const (.int .i64 1))), (2, 1, (.const (.int .i64 1)))], none, .f⟩,
   ⟨(some 6), .call (.func 200) [(.tmp 4), (.tmp 5)], none, .f⟩,
   ⟨(some 2), .mv (.tmp 6), none, .f⟩])
  .ret))⟩
theorem s240 : compFn Try.prog Try.f240 = some c240 := by kernel_rfl
def c241 : XFn :=
 ⟨[.tmp 4],
  (.seq (.reg [⟨(some 4), .mv (.const (.int .i64 0)), none, .f⟩])
  (.seq (.seq (.reg [⟨(some 6), .mv (.tmp 0), none, .f⟩,
   ⟨(some 7), .len (.tmp 6), none, .f⟩,
   ⟨(some 8), .mv (.const (.int .i64 0)), none, .f⟩])
  (.blk 0 (.loop (.seq (.reg [⟨(some 9), .bin .lss (.tmp 8) (.tmp 7), none, .f⟩])
  (.seq (.cond (.tmp 9) .skip (.exit 0))
  (.seq (.blk 1 (.seq (.reg [⟨(some 10), .mv (.tmp 8), none, .f⟩,
   ⟨(some 5), .mv (.tmp 10), none, .f⟩])
  (.seq (.reg [⟨(some 11), .mv (.tmp 1), none, .f⟩,
   ⟨(some 12), .mv (.tmp 0), none, .f⟩,
   ⟨(some 13), .mv (.tmp 5), none, .f⟩,
   ⟨(some 14), .ixs 1 (.tmp 12) (.tmp 13), none, .f⟩,
   ⟨(some 15), .load1 (.tmp 14), none, .f⟩,
   ⟨(some 16), .call (.tmp 11) [(.tmp 15)], none, .f⟩])
  (.cond (.tmp 16) (.seq (.reg [⟨(some 17), .mv (.tmp 5), none, .f⟩,
   ⟨(some 4), .mv (.tmp 17), none, .f⟩])
  .ret) .skip))))
  (.reg [⟨(some 18), .bin .add (.tmp 8) (.const (.int .i64 1)), none, .f⟩,
   ⟨(some 8), .mv (.tmp 18), none, .f⟩])))))))
  (.seq (.reg [⟨(some 4), .mv (.const (.int .i64 (-1))), none, .f⟩])
  .ret)))⟩
theorem s241 : compFn Try.prog Try.f241 = some c241 := by kernel_rfl
def c242 : XFn :=
 ⟨[.tmp 2],
  (.seq (.reg [⟨(some 2), .mv (.const (.bool false)), none, .f⟩])
  (.seq (.reg [⟨(some 3), .mv (.tmp 0), none, .f⟩,
   ⟨(some 4), .bin .neq (.tmp 3) (.const (.int .i64 0)), none, .f⟩,
   ⟨(some 2), .mv (.tmp 4), none, .f⟩])
  .ret))⟩
theorem s242 : compFn Try.prog Try.f242 = some c242 := by kernel_rfl
def c243 : XFn :=
 ⟨[.tmp 4],
  (.seq (.reg [⟨(some 4), .mv (.const (.int .i64 0)), none, .f⟩])
  (.seq (.reg [⟨(some 5), .mv (.const (.int .i64 1)), none, .f⟩])
  (.blk 0 (.loop (.seq (.blk 1 (.seq (.reg [⟨(some 8), .mv (.tmp 5), none, .f⟩,
   ⟨(some 9), .mv (.tmp 1), none, .f⟩,
   ⟨(some 10), .bin .mul (.tmp 8) (.tmp 9), none, .f⟩,
   ⟨(some 11), .mv (.tmp 0), none, .f⟩,
   ⟨(some 12), .bin .rem (.tmp 10) (.tmp 11), none, .f⟩,
   ⟨(some 13), .bin .eql (.tmp 12) (.const (.int .i64 1)), none, .f⟩])
  (.cond (.tmp 13) (.seq (.reg [⟨(some 14), .mv (.tmp 5), none, .f⟩,
   ⟨(some 4), .mv (.tmp 14), none, .f⟩])
  .ret) .skip)))
  (.reg [⟨(some 6), .mv (.tmp 5), none, .f⟩,
   ⟨(some 7), .bin .add (.tmp 6) (.const (.int .i64 1)), none, .f⟩,
   ⟨(some 5), .mv (.tmp 7), none, .f⟩]))))))⟩
theorem s243 : compFn Try.prog Try.f243 = some c243 := by kernel_rfl
def c244 : XFn :=
 ⟨[.tmp 2, .tmp 3],
  (.seq (.reg [⟨(some 1), .box 36 (.tmp 0), none, .f⟩,
   ⟨(some 2), .mv (.const (.slice none 0 0)), none, .f⟩,
   ⟨(some 3), .mv (.const (.bool false)), none, .f⟩])
  (.seq (.reg [⟨(some 4), .mv (.const (.int .i64 (-1))), none, .f⟩])
  (.seq (.seq (.reg [⟨(some 17), .fadr 4 (.tmp 1), none, .f⟩,
   ⟨(some 18), .load1 (.tmp 17), none, .f⟩,
   ⟨(some 19), .len (.tmp 18), none, .f⟩,
   ⟨(some 20), .bin .sub (.tmp 19) (.const (.int .i64 1)), none, .f⟩,
   ⟨(some 5), .mv (.tmp 20), none, .f⟩])
  (.blk 0 (.loop (.seq (.seq (.reg [⟨(some 21), .mv (.tmp 5), none, .f⟩,
   ⟨(some 22), .bin .geq (.tmp 21) (.const (.int .i64 0)), none, .f⟩])
  (.cond (.tmp 22) .skip (.exit 0)))
  (.seq (.blk 1 (.seq (.reg [⟨(some 25), .fadr 4 (.tmp 1), none, .f⟩,
   ⟨(some 26), .load1 (.tmp 25), none, .f⟩,
   ⟨(some 27), .mv (.tmp 5), none, .f⟩,
   ⟨(some 28), .ixs 1 (.tmp 26) (.tmp 27), none, .f⟩,
   ⟨(some 29), .load1 (.tmp 28), none, .f⟩,
   ⟨(some 30), .bin .neq (.tmp 29) (.const (.int .i64 0)), none, .f⟩])
  (.cond (.tmp 30) (.reg [⟨(some 31), .mv (.tmp 5), none, .f⟩,
   ⟨(some 4), .mv (.tmp 31), none, .f⟩]) .skip)))
  (.reg [⟨(some 23), .mv (.tmp 5), none, .f⟩,
   ⟨(some 24), .bin .sub (.tmp 23) (.const (.int .i64 1)), none, .f⟩,
   ⟨(some 5), .mv (.tmp 24), none, .f⟩]))))))
  (.seq (.seq (.reg [⟨(some 32), .mv (.tmp 4), none, .f⟩,
   ⟨(some 33), .bin .lss (.tmp 32) (.const (.int .i64 0)), none, .f⟩])
  (.cond (.tmp 33) (.seq (.reg [⟨(some 2), .mv (.const (.slice none 0 0)), none, .f⟩,
   ⟨(some 3), .mv (.const (.bool false)), none, .f⟩])
  .ret) .skip))
  (.seq (.reg [⟨(some 34), .mv (.tmp 4), none, .f⟩,
   ⟨(some 35), .fadr 2 (.tmp 1), none, .f⟩,
   ⟨(some 36), .load1 (.tmp 35), none, .f⟩,
   ⟨(some 37), .fadr 3 (.tmp 1), none, .f⟩,
   ⟨(some 38), .load1 (.tmp 37), none, .f⟩,
   ⟨(some 39), .bin .mul (.tmp 36) (.tmp 38), none, .f⟩,
   ⟨(some 40), .bin .quo (.tmp 34) (.tmp 39), none, .f⟩,
   ⟨(some 41), .mv (.tmp 4), none, .f⟩,
   ⟨(some 42), .fadr 3 (.tmp 1), none, .f⟩,
   ⟨(some 43), .load1 (.tmp 42), none, .f⟩,
   ⟨(some 44), .bin .quo (.tmp 41) (.tmp 43), none, .f⟩,
   ⟨(some 45), .fadr 2 (.tmp 1), none, .f⟩,
   ⟨(some 46), .load1 (.tmp 45), none, .f⟩,
   ⟨(some 47), .bin .rem (.tmp 44) (.tmp 46), none, .f⟩,
   ⟨(some 48), .mv (.tmp 4), none, .f⟩,
   ⟨(some 49), .fadr 3 (.tmp 1), none, .f⟩,
   ⟨(some 50), .load1 (.tmp 49), none, .f⟩,
   ⟨(some 51), .bin .rem (.tmp 48) (.tmp 50), none, .f⟩,
   ⟨(some 6), .mv (.tmp 40), none, .f⟩,
   ⟨(some 7), .mv (.tmp 47), none, .f⟩,
   ⟨(some 8), .mv (.tmp 51), none, .f⟩])
  (.seq (.reg [⟨(some 52), .fadr 0 (.tmp 1), none, .f⟩,
   ⟨(some 53), .load1 (.tmp 52), none, .f⟩,
   ⟨(some 54), .fadr 4 (.tmp 1), none, .f⟩,
   ⟨(some 55), .load1 (.tmp 54), none, .f⟩,
   ⟨(some 56), .mv (.tmp 4), none, .f⟩,
   ⟨(some 57), .ixs 1 (.tmp 55) (.tmp 56), none, .f⟩,
   ⟨(some 58), .load1 (.tmp 57), none, .f⟩,
   ⟨(some 59), .call (.func 311) [(.tmp 53), (.tmp 58)], none, .f⟩,
   ⟨(some 9), .mv (.tmp 59), none, .f⟩])
  (.seq (.reg [⟨(some 60), .bslice 2 1 0 [.int .i64 0] [], none, .f⟩,
   ⟨(some 61), .bslice 2 1 0 [.int .i64 0] [], none, .f⟩,
   ⟨(some 62), .bslice 2 1 0 [.int .i64 0] [], none, .f⟩,
   ⟨(some 10), .mv (.tmp 60), none, .f⟩,
   ⟨(some 11), .mv (.tmp 61), none, .f⟩,
   ⟨(some 12), .mv (.tmp 62), none, .f⟩])
  (.seq (.seq (.reg [⟨(some 13), .mv (.const (.int .i64 0)), none, .f⟩])
  (.blk 2 (.loop (.seq (.seq (.reg [⟨(some 63), .mv (.tmp 13), none, .f⟩,
   ⟨(some 64), .fadr 1 (.tmp 1), none, .f⟩,
   ⟨(some 65), .load1 (.tmp 64), none, .f⟩,
   ⟨(some 66), .bin .lss (.tmp 63) (.tmp 65), none, .f⟩])
  (.cond (.tmp 66) .skip (.exit 2)))
  (.seq (.blk 3 (.reg [⟨(some 69), .mv (.tmp 10), none, .f⟩,
   ⟨(some 70), .loadn 5 (.tmp 1), none, .f⟩,
   ⟨(some 71), .mv (.tmp 13), none, .f⟩,
   ⟨(some 72), .mv (.tmp 7), none, .f⟩,
   ⟨(some 73), .mv (.tmp 8), none, .f⟩,
   ⟨(some 74), .call (.func 190) [(.tmp 70), (.tmp 71), (.tmp 72), (.tmp 73)], none, .t⟩,
   ⟨(some 75), .mv (.tmp 9), none, .f⟩,
   ⟨(some 76), .bin .mul (.tmp 74) (.tmp 75), none, .f⟩,
   ⟨(some 77), .fadr 0 (.tmp 1), none, .f⟩,
   ⟨(some 78), .load1 (.tmp 77), none, .f⟩,
   ⟨(some 79), .bin .rem (.tmp 76) (.tmp 78), none, .f⟩,
   ⟨(some 80), .bslice 2 1 1 [.int .i64 0] [(0, 1, (.tmp 79))], none, .f⟩,
   ⟨(some 81), .app 2 1 8 (.tmp 69) (.tmp 80), none, .f⟩,
   ⟨(some 10), .mv (.tmp 81), none, .f⟩]))
  (.reg [⟨(some 67), .mv (.tmp 13), none, .f⟩,
   ⟨(some 68), .bin .add (.tmp 67) (.const (.int .i64 1)), none, .f⟩,
   ⟨(some 13), .mv (.tmp 68), none, .f⟩]))))))
  (.seq (.seq (.reg [⟨(some 14), .mv (.const (.int .i64 0)), none, .f⟩])
  (.blk 4 (.loop (.seq (.seq (.reg [⟨(some 82), .mv (.tmp 14), none, .f⟩,
   ⟨(some 83), .fadr 2 (.tmp 1), none, .f⟩,
   ⟨(some 84), .load1 (.tmp 83), none, .f⟩,
   ⟨(some 85), .bin .lss (.tmp 82) (.tmp 84), none, .f⟩])
  (.cond (.tmp 85) .skip (.exit 4)))
  (.seq (.blk 5 (.reg [⟨(some 88), .mv (.tmp 11), none, .f⟩,
   ⟨(some 89), .loadn 5 (.tmp 1), none, .f⟩,
   ⟨(some 90), .mv (.tmp 6), none, .f⟩,
   ⟨(some 91), .mv (.tmp 14), none, .f⟩,
   ⟨(some 92), .mv (.tmp 8), none, .f⟩,
   ⟨(some 93), .call (.func 190) [(.tmp 89), (.tmp 90), (.tmp 91), (.tmp 92)], none, .t⟩,
   ⟨(some 94), .mv (.tmp 9), none, .f⟩,
   ⟨(some 95), .bin .mul (.tmp 93) (.tmp 94), none, .f⟩,
   ⟨(some 96), .fadr 0 (.tmp 1), none, .f⟩,
   ⟨(some 97), .load1 (.tmp 96), none, .f⟩,
   ⟨(some 98), .bin .rem (.tmp 95) (.tmp 97), none, .f⟩,
   ⟨(some 99), .bslice 2 1 1 [.int .i64 0] [(0, 1, (.tmp 98))], none, .f⟩,
   ⟨(some 100), .app 2 1 8 (.tmp 88) (.tmp 99), none, .f⟩,
   ⟨(some 11), .mv (.tmp 100), none, .f⟩]))
  (.reg [⟨(some 86), .mv (.tmp 14), none, .f⟩,
   ⟨(some 87), .bin .add (.tmp 86) (.const (.int .i64 1)), none, .f⟩,
   ⟨(some 14), .mv (.tmp 87), none, .f⟩]))))))
  (.seq (.seq (.reg [⟨(some 15), .mv (.const (.int .i64 0)), none, .f⟩])
  (.blk 6 (.loop (.seq (.seq (.reg [⟨(some 101), .mv (.tmp 15), none, .f⟩,
   ⟨(some 102), .fadr 3 (.tmp 1), none, .f⟩,
   ⟨(some 103), .load1 (.tmp 102), none, .f⟩,
   ⟨(some 104), .bin .lss (.tmp 101) (.tmp 103), none, .f⟩])
  (.cond (.tmp 104) .skip (.exit 6)))
  (.seq (.blk 7 (.reg [⟨(some 107), .mv (.tmp 12), none, .f⟩,
   ⟨(some 108), .loadn 5 (.tmp 1), none, .f⟩,
   ⟨(some 109), .mv (.tmp 6), none, .f⟩,
   ⟨(some 110), .mv (.tmp 7), none, .f⟩,
   ⟨(some 111), .mv (.tmp 15), none, .f⟩,
   ⟨(some 112), .call (.func 190) [(.tmp 108), (.tmp 109), (.tmp 110), (.tmp 111)], none, .f⟩,
   ⟨(some 113), .bslice 2 1 1 [.int .i64 0] [(0, 1, (.tmp 112))], none, .f⟩,
   ⟨(some 114), .app 2 1 8 (.tmp 107) (.tmp 113), none, .f⟩,
   ⟨(some 12), .mv (.tmp 114), none, .f⟩]))
  (.reg [⟨(some 105), .mv (.tmp 15), none, .f⟩,
   ⟨(some 106), .bin .add (.tmp 105) (.const (.int .i64 1)), none, .f⟩,
   ⟨(some 15), .mv (.tmp 106), none, .f⟩]))))))
  (.seq (.seq (.reg [⟨(some 16), .mv (.const (.int .i64 0)), none, .f⟩])
  (.blk 8 (.loop (.seq (.seq (.reg [⟨(some 115), .mv (.tmp 16), none, .f⟩,
   ⟨(some 116), .fadr 4 (.tmp 1), none, .f⟩,
   ⟨(some 117), .load1 (.tmp 116), none, .f⟩,
   ⟨(some 118), .len (.tmp 117), none, .f⟩,
   ⟨(some 119), .bin .lss (.tmp 115) (.tmp 118), none, .f⟩])
  (.cond (.tmp 119) .skip (.exit 8)))
  (.seq (.blk 9 (.seq (.reg [⟨(some 122), .mv (.tmp 10), none, .f⟩,
   ⟨(some 123), .mv (.tmp 16), none, .f⟩,
   ⟨(some 124), .fadr 2 (.tmp 1), none, .f⟩,
   ⟨(some 125), .load1 (.tmp 124), none, .f⟩,
   ⟨(some 126), .fadr 3 (.tmp 1), none, .f⟩,
   ⟨(some 127), .load1 (.tmp 126), none, .f⟩,
   ⟨(some 128), .bin .mul (.tmp 125) (.tmp 127), none, .f⟩,
   ⟨(some 129), .bin .quo (.tmp 123) (.tmp 128), none, .f⟩,
   ⟨(some 130), .ixs 1 (.tmp 122) (.tmp 129), none, .f⟩,
   ⟨(some 131), .load1 (.tmp 130), none, .f⟩,
   ⟨(some 132), .mv (.tmp 11), none, .f⟩,
   ⟨(some 133), .mv (.tmp 16), none, .f⟩,
   ⟨(some 134), .fadr 3 (.tmp 1), none, .f⟩,
   ⟨(some 135), .load1 (.tmp 134), none, .f⟩,
   ⟨(some 136), .bin .quo (.tmp 133) (.tmp 135), none, .f⟩,
   ⟨(some 137), .fadr 2 (.tmp 1), none, .f⟩,
   ⟨(some 138), .load1 (.tmp 137), none, .f⟩,
   ⟨(some 139), .bin .rem (.tmp 136) (.tmp 138), none, .f⟩,
   ⟨(some 140), .ixs 1 (.tmp 132) (.tmp 139), none, .f⟩,
   ⟨(some 141), .load1 (.tmp 140), none, .f⟩,
   ⟨(some 142), .bin .mul (.tmp 131) (.tmp 141), none, .f⟩,
   ⟨(some 143), .mv (.tmp 12), none, .f⟩,
   ⟨(some 144), .mv (.tmp 16), none, .f⟩,
   ⟨(some 145), .fadr 3 (.tmp 1), none, .f⟩,
   ⟨(some 146), .load1 (.tmp 145), none, .f⟩,
   ⟨(some 147), .bin .rem (.tmp 144) (.tmp 146), none, .f⟩,
   ⟨(some 148), .ixs 1 (.tmp 143) (.tmp 147), none, .f⟩,
   ⟨(some 149), .load1 (.tmp 148), none, .f⟩,
   ⟨(some 150), .bin .mul (.tmp 142) (.tmp 149), none, .f⟩,
   ⟨(some 151), .fadr 0 (.tmp 1), none, .f⟩,
   ⟨(some 152), .load1 (.tmp 151), none, .f⟩,
   ⟨(some 153), .bin .rem (.tmp 150) (.tmp 152), none, .f⟩,
   ⟨(some 154), .fadr 4 (.tmp 1), none, .f⟩,
   ⟨(some 155), .load1 (.tmp 154), none, .f⟩,
   ⟨(some 156), .mv (.tmp 16), none, .f⟩,
   ⟨(some 157), .ixs 1 (.tmp 155) (.tmp 156), none, .f⟩,
   ⟨(some 158), .load1 (.tmp 157), none, .f⟩,
   ⟨(some 159), .bin .neq (.tmp 153) (.tmp 158), none, .f⟩])
  (.cond (.tmp 159) (.seq (.reg [⟨(some 2), .mv (.const (.slice none 0 0)), none, .f⟩,
   ⟨(some 3), .mv (.const (.bool false)), none, .f⟩])
  .ret) .skip)))
  (.reg [⟨(some 120), .mv (.tmp 16), none, .f⟩,
   ⟨(some 121), .bin .add (.tmp 120) (.const (.int .i64 1)), none, .f⟩,
   ⟨(some 16), .mv (.tmp 121), none, .f⟩]))))))
  (.seq (.reg [⟨(some 160), .mv (.tmp 10), none, .f⟩,
   ⟨(some 161), .mv (.tmp 11), none, .f⟩,
   ⟨(some 162), .mv (.tmp 12), none, .f⟩,
   ⟨(some 163), .bslice 27 1 3 [.slice none 0 0] [(0, 1, (.tmp 160)), (1, 1, (.tmp 161)), (2, 1, (.tmp 162))], none, .f⟩,
   ⟨(some 2), .mv (.tmp 163), none, .f⟩,
   ⟨(some 3), .mv (.const (.bool true)), none, .f⟩])
  .ret))))))))))))⟩
theorem s244 : compFn Try.prog Try.f244 = some c244 := by kernel_rfl
def c245 : XFn :=
 ⟨[.celln 4 5],
  (.seq (.reg [⟨(some 2), .box 36 (.tmp 0), none, .f⟩,
   ⟨(some 4), .alloc 36 [.int .i64 0, .int .i64 0, .int .i64 0, .int .i64 0, .slice none 0 0], none, .f⟩])
  (.seq (.seq (.reg [⟨(some 5), .mv (.tmp 1), none, .f⟩,
   ⟨(some 6), .mv (.const (.int .i64 0)), none, .f⟩])
  (.blk 0 (.loop (.seq (.reg [⟨(some 7), .bin .lss (.tmp 6) (.tmp 5), none, .f⟩])
  (.seq (.cond (.tmp 7) .skip (.exit 0))
  (.seq (.blk 1 (.reg [⟨(some 8), .loadn 5 (.tmp 2), none, .f⟩,
   ⟨(some 9), .call (.func 193) [(.tmp 8)], none, .f⟩,
   ⟨none, .store 5 (.tmp 2) (.tmp 9), none, .f⟩]))
  (.reg [⟨(some 10), .bin .add (.tmp 6) (.const (.int .i64 1)), none, .f⟩,
   ⟨(some 6), .mv (.tmp 10), none, .f⟩])))))))
  (.seq (.reg [⟨(some 11), .loadn 5 (.tmp 2), none, .f⟩,
   ⟨none, .store 5 (.tmp 4) (.tmp 11), none, .f⟩])
  .ret)))⟩
theorem s245 : compFn Try.prog Try.f245 = some c245 := by kernel_rfl
def c246 : XFn :=
 ⟨[.tmp 4],
  (.seq (.reg [⟨(some 4), .mv (.const (.int .i64 0)), none, .f⟩])
  (.seq (.reg [⟨(some 15), .bslice 27 1 0 [.slice none 0 0] [], none, .f⟩,
   ⟨(some 5), .mv (.tmp 15), none, .f⟩])
  (.seq (.seq (.reg [⟨(some 16), .mv (.tmp 1), none, .f⟩,
   ⟨(some 17), .len (.tmp 16), none, .f⟩,
   ⟨(some 18), .mv (.const (.int .i64 0)), none, .f⟩])
  (.blk 0 (.loop (.seq (.reg [⟨(some 19), .bin .lss (.tmp 18) (.tmp 17), none, .f⟩])
  (.seq (.cond (.tmp 19) .skip (.exit 0))
  (.seq (.blk 1 (.seq (.reg [⟨(some 20), .ixs 1 (.tmp 16) (.tmp 18), none, .f⟩,
   ⟨(some 21), .load1 (.tmp 20), none, .f⟩,
   ⟨(some 7), .mv (.tmp 21), none, .f⟩])
  (.reg [⟨(some 22), .mv (.tmp 5), none, .f⟩,
   ⟨(some 23), .mv (.tmp 7), none, .f⟩,
   ⟨(some 24), .call (.func 285) [(.tmp 23)], none, .f⟩,
   ⟨(some 25), .bslice 27 1 1 [.slice none 0 0] [(0, 1, (.tmp 24))], none, .f⟩,
   ⟨(some 26), .app 27 1 24 (.tmp 22) (.tmp 25), none, .f⟩,
   ⟨(some 5), .mv (.tmp 26), none, .f⟩])))
  (.reg [⟨(some 27), .bin .add (.tmp 18) (.const (.int .i64 1)), none, .f⟩,
   ⟨(some 18), .mv (.tmp 27), none, .f⟩])))))))
  (.seq (.reg [⟨(some 8), .mv (.const (.int .i64 0)), none, .f⟩])
  (.seq (.seq (.reg [⟨(some 9), .alloc 3 [.int .i64 0], none, .f⟩,
   ⟨none, .store 1 (.tmp 9) (.const (.int .i64 0)), none, .f⟩])
  (.blk 2 (.loop (.seq (.seq (.reg [⟨(some 28), .mv (.tmp 8), none, .f⟩,
   ⟨(some 29), .mv (.tmp 5), none, .f⟩,
   ⟨(some 30), .len (.tmp 29), none, .f⟩,
   ⟨(some 31), .bin .lss (.tmp 28) (.tmp 30), none, .f⟩,
   ⟨(some 32), .mv (.tmp 31), none, .f⟩,
   ⟨(some 33), .load1 (.tmp 9), (some (32, true)), .f⟩,
   ⟨(some 34), .mv (.tmp 5), (some (32, true)), .f⟩,
   ⟨(some 35), .ixs 1 (.tmp 34) (.const (.int .i64 0)), (some (32, true)), .f⟩,
   ⟨(some 36), .load1 (.tmp 35), (some (32, true)), .f⟩,
   ⟨(some 37), .len (.tmp 36), (some (32, true)), .f⟩,
   ⟨(some 38), .bin .lss (.tmp 33) (.tmp 37), (some (32, true)), .f⟩,
   ⟨(some 39), .pick (.tmp 32) (.tmp 38) (.const (.bool false)), none, .f⟩])
  (.cond (.tmp 39) .skip (.exit 2)))
  (.seq (.blk 3 (.seq (.reg [⟨(some 42), .mv (.tmp 5), none, .f⟩,
   ⟨(some 43), .mv (.tmp 8), none, .f⟩,
   ⟨(some 44), .slc 1 (.tmp 42) (some (.tmp 43)) none, none, .f⟩,
   ⟨(some 45), .mkf 313 [(.tmp 9)], none, .f⟩,
   ⟨(some 46), .call (.func 312) [(.tmp 44), (.tmp 45)], none, .f⟩,
   ⟨(some 10), .mv (.tmp 46), none, .f⟩])
  (.seq (.seq (.reg [⟨(some 47), .mv (.tmp 10), none, .f⟩,
   ⟨(some 48), .bin .lss (.tmp 47) (.const (.int .i64 0)), none, .f⟩])
  (.cond (.tmp 48) (.exit 3) .skip))
  (.seq (.reg [⟨(some 49), .mv (.tmp 5), none, .f⟩,
   ⟨(some 50), .mv (.tmp 8), none, .f⟩,
   ⟨(some 51), .mv (.tmp 5), none, .f⟩,
   ⟨(some 52), .mv (.tmp 8), none, .f⟩,
   ⟨(some 53), .mv (.tmp 10), none, .f⟩,
   ⟨(some 54), .bin .add (.tmp 52) (.tmp 53), none, .f⟩,
   ⟨(some 55), .mv (.tmp 5), none, .f⟩,
   ⟨(some 56), .mv (.tmp 8), none, .f⟩,
   ⟨(some 57), .mv (.tmp 10), none, .f⟩,
   ⟨(some 58), .bin .add (.tmp 56) (.tmp 57), none, .f⟩,
   ⟨(some 59), .ixs 1 (.tmp 55) (.tmp 58), none, .f⟩,
   ⟨(some 60), .load1 (.tmp 59), none, .f⟩,
   ⟨(some 61), .mv (.tmp 5), none, .f⟩,
   ⟨(some 62), .mv (.tmp 8), none, .f⟩,
   ⟨(some 63), .ixs 1 (.tmp 61) (.tmp 62), none, .f⟩,
   ⟨(some 64), .load1 (.tmp 63), none, .f⟩,
   ⟨(some 65), .ixs 1 (.tmp 49) (.tmp 50), none, .f⟩,
   ⟨none, .store 1 (.tmp 65) (.tmp 60), none, .f⟩,
   ⟨(some 66), .ixs 1 (.tmp 51) (.tmp 54), none, .f⟩,
   ⟨none, .store 1 (.tmp 66) (.tmp 64), none, .f⟩])
  (.seq (.reg [⟨(some 67), .mv (.tmp 0), none, .f⟩,
   ⟨(some 68), .mv (.tmp 5), none, .f⟩,
   ⟨(some 69), .mv (.tmp 8), none, .f⟩,
   ⟨(some 70), .ixs 1 (.tmp 68) (.tmp 69), none, .f⟩,
   ⟨(some 71), .load1 (.tmp 70), none, .f⟩,
   ⟨(some 72), .load1 (.tmp 9), none, .f⟩,
   ⟨(some 73), .ixs 1 (.tmp 71) (.tmp 72), none, .f⟩,
   ⟨(some 74), .load1 (.tmp 73), none, .f⟩,
   ⟨(some 75), .call (.func 243) [(.tmp 67), (.tmp 74)], none, .f⟩,
   ⟨(some 11), .mv (.tmp 75), none, .f⟩])
  (.seq (.seq (.reg [⟨(some 76), .mv (.tmp 8), none, .f⟩,
   ⟨(some 77), .bin .add (.tmp 76) (.const (.int .i64 1)), none, .f⟩,
   ⟨(some 12), .mv (.tmp 77), none, .f⟩])
  (.blk 4 (.loop (.seq (.seq (.reg [⟨(some 78), .mv (.tmp 12), none, .f⟩,
   ⟨(some 79), .mv (.tmp 5), none, .f⟩,
   ⟨(some 80), .len (.tmp 79), none, .f⟩,
   ⟨(some 81), .bin .lss (.tmp 78) (.tmp 80), none, .f⟩])
  (.cond (.tmp 81) .skip (.exit 4)))
  (.seq (.blk 5 (.seq (.reg [⟨(some 84), .mv (.tmp 5), none, .f⟩,
   ⟨(some 85), .mv (.tmp 12), none, .f⟩,
   ⟨(some 86), .ixs 1 (.tmp 84) (.tmp 85), none, .f⟩,
   ⟨(some 87), .load1 (.tmp 86), none, .f⟩,
   ⟨(some 88), .load1 (.tmp 9), none, .f⟩,
   ⟨(some 89), .ixs 1 (.tmp 87) (.tmp 88), none, .f⟩,
   ⟨(some 90), .load1 (.tmp 89), none, .f⟩,
   ⟨(some 91), .mv (.tmp 11), none, .f⟩,
   ⟨(some 92), .bin .mul (.tmp 90) (.tmp 91), none, .f⟩,
   ⟨(some 93), .mv (.tmp 0), none, .f⟩,
   ⟨(some 94), .bin .rem (.tmp 92) (.tmp 93), none, .f⟩,
   ⟨(some 13), .mv (.tmp 94), none, .f⟩])
  (.seq (.reg [⟨(some 95), .mv (.tmp 5), none, .f⟩,
   ⟨(some 96), .mv (.tmp 12), none, .f⟩,
   ⟨(some 97), .ixs 1 (.tmp 95) (.tmp 96), none, .f⟩,
   ⟨(some 98), .load1 (.tmp 97), none, .f⟩,
   ⟨(some 99), .len (.tmp 98), none, .f⟩,
   ⟨(some 100), .mv (.const (.int .i64 0)), none, .f⟩])
  (.blk 6 (.loop (.seq (.reg [⟨(some 101), .bin .lss (.tmp 100) (.tmp 99), none, .f⟩])
  (.seq (.cond (.tmp 101) .skip (.exit 6))
  (.seq (.blk 7 (.seq (.reg [⟨(some 102), .mv (.tmp 100), none, .f⟩,
   ⟨(some 14), .mv (.tmp 102), none, .f⟩])
  (.reg [⟨(some 103), .mv (.tmp 5), none, .f⟩,
   ⟨(some 104), .mv (.tmp 12), none, .f⟩,
   ⟨(some 105), .ixs 1 (.tmp 103) (.tmp 104), none, .f⟩,
   ⟨(some 106), .load1 (.tmp 105), none, .f⟩,
   ⟨(some 107), .mv (.tmp 14), none, .f⟩,
   ⟨(some 108), .mv (.tmp 5), none, .f⟩,
   ⟨(some 109), .mv (.tmp 12), none, .f⟩,
   ⟨(some 110), .ixs 1 (.tmp 108) (.tmp 109), none, .f⟩,
   ⟨(some 111), .load1 (.tmp 110), none, .f⟩,
   ⟨(some 112), .mv (.tmp 14), none, .f⟩,
   ⟨(some 113), .ixs 1 (.tmp 111) (.tmp 112), none, .f⟩,
   ⟨(some 114), .load1 (.tmp 113), none, .f⟩,
   ⟨(some 115), .mv (.tmp 13), none, .f⟩,
   ⟨(some 116), .mv (.tmp 5), none, .f⟩,
   ⟨(some 117), .mv (.tmp 8), none, .f⟩,
   ⟨(some 118), .ixs 1 (.tmp 116) (.tmp 117), none, .f⟩,
   ⟨(some 119), .load1 (.tmp 118), none, .f⟩,
   ⟨(some 120), .mv (.tmp 14), none, .f⟩,
   ⟨(some 121), .ixs 1 (.tmp 119) (.tmp 120), none, .f⟩,
   ⟨(some 122), .load1 (.tmp 121), none, .f⟩,
   ⟨(some 123), .bin .mul (.tmp 115) (.tmp 122), none, .f⟩,
   ⟨(some 124), .bin .sub (.tmp 114) (.tmp 123), none, .f⟩,
   ⟨(some 125), .mv (.tmp 0), none, .f⟩,
   ⟨(some 126), .bin .rem (.tmp 124) (.tmp 125), none, .f⟩,
   ⟨(some 127), .mv (.tmp 0), none, .f⟩,
   ⟨(some 128), .bin .add (.tmp 126) (.tmp 127), none, .f⟩,
   ⟨(some 129), .mv (.tmp 0), none, .f⟩,
   ⟨(some 130), .bin .rem (.tmp 128) (.tmp 129), none, .f⟩,
   ⟨(some 131), .ixs 1 (.tmp 106) (.tmp 107), none, .f⟩,
   ⟨none, .store 1 (.tmp 131) (.tmp 130), none, .f⟩])))
  (.reg [⟨(some 132), .bin .add (.tmp 100) (.const (.int .i64 1)), none, .f⟩,
   ⟨(some 100), .mv (.tmp 132), none, .f⟩])))))))))
  (.reg [⟨(some 82), .mv (.tmp 12), none, .f⟩,
   ⟨(some 83), .bin .add (.tmp 82) (.const (.int .i64 1)), none, .f⟩,
   ⟨(some 12), .mv (.tmp 83), none, .f⟩]))))))
  (.reg [⟨(some 133), .mv (.tmp 8), none, .f⟩,
   ⟨(some 134), .bin .add (.tmp 133) (.const (.int .i64 1)), none, .f⟩,
   ⟨(some 8), .mv (.tmp 134), none, .f⟩])))))))
  (.seq (.seq (.reg [⟨(some 135), .load1 (.tmp 9), none, .f⟩])
  (.reg [⟨(some 9), .alloc 3 [.int .i64 0], none, .f⟩,
   ⟨none, .store 1 (.tmp 9) (.tmp 135), none, .f⟩]))
  (.reg [⟨(some 40), .load1 (.tmp 9), none, .f⟩,
   ⟨(some 41), .bin .add (.tmp 40) (.const (.int .i64 1)), none, .f⟩,
   ⟨none, .store 1 (.tmp 9) (.tmp 41), none, .f⟩])))))))
  (.seq (.reg [⟨(some 136), .mv (.tmp 8), none, .f⟩,
   ⟨(some 4), .mv (.tmp 136), none, .f⟩])
  .ret))))))⟩
theorem s246 : compFn Try.prog Try.f246 = some c246 := by kernel_rfl
def c247 : XFn :=
 ⟨[.tmp 4],
  (.seq (.reg [⟨(some 2), .box 36 (.tmp 0), none, .f⟩,
   ⟨(some 4), .mv (.const (.int .i64 0)), none, .f⟩])
  (.seq (.seq (.reg [⟨(some 5), .mv (.tmp 1), none, .f⟩])
  (.blk 0 (.seq (.reg [⟨(some 7), .bin .eql (.tmp 5) (.const (.int .i64 0)), none, .f⟩,
   ⟨(some 6), .mv (.tmp 7), none, .f⟩])
  (.cond (.tmp 6) (.seq (.reg [⟨(some 8), .fadr 1 (.tmp 2), none, .f⟩,
   ⟨(some 9), .load1 (.tmp 8), none, .f⟩,
   ⟨(some 4), .mv (.tmp 9), none, .f⟩])
  .ret) (.seq (.reg [⟨(some 11), .bin .eql (.tmp 5) (.const (.int .i64 1)), none, .f⟩,
   ⟨(some 10), .mv (.tmp 11), none, .f⟩])
  (.cond (.tmp 10) (.seq (.reg [⟨(some 12), .fadr 2 (.tmp 2), none, .f⟩,
   ⟨(some 13), .load1 (.tmp 12), none, .f⟩,
   ⟨(some 4), .mv (.tmp 13), none, .f⟩])
  .ret) .skip))))))
  (.seq (.reg [⟨(some 14), .fadr 3 (.tmp 2), none, .f⟩,
   ⟨(some 15), .load1 (.tmp 14), none, .f⟩,
   ⟨(some 4), .mv (.tmp 15), none, .f⟩])
  .ret)))⟩
theorem s247 : compFn Try.prog Try.f247 = some c247 := by kernel_rfl
def c248 : XFn :=
 ⟨[.tmp 4],
  (.seq (.reg [⟨(some 2), .box 36 (.tmp 0), none, .f⟩,
   ⟨(some 4), .mv (.const (.slice none 0 0)), none, .f⟩])
  (.seq (.reg [⟨(some 9), .bslice 27 1 0 [.slice none 0 0] [], none, .f⟩,
   ⟨(some 5), .mv (.tmp 9), none, .f⟩])
  (.seq (.seq (.reg [⟨(some 6), .mv (.const (.int .i64 0)), none, .f⟩])
  (.blk 0 (.loop (.seq (.seq (.reg [⟨(some 10), .mv (.tmp 6), none, .f⟩,
   ⟨(some 11), .fadr 2 (.tmp 2), none, .f⟩,
   ⟨(some 12), .load1 (.tmp 11), none, .f⟩,
   ⟨(some 13), .bin .lss (.tmp 10) (.tmp 12), none, .f⟩])
  (.cond (.tmp 13) .skip (.exit 0)))
  (.seq (.blk 1 (.seq (.reg [⟨(some 16), .bslice 2 1 0 [.int .i64 0] [], none, .f⟩,
   ⟨(some 7), .mv (.tmp 16), none, .f⟩])
  (.seq (.seq (.reg [⟨(some 8), .mv (.const (.int .i64 0)), none, .f⟩])
  (.blk 2 (.loop (.seq (.seq (.reg [⟨(some 17), .mv (.tmp 8), none, .f⟩,
   ⟨(some 18), .fadr 3 (.tmp 2), none, .f⟩,
   ⟨(some 19), .load1 (.tmp 18), none, .f⟩,
   ⟨(some 20), .bin .lss (.tmp 17) (.tmp 19), none, .f⟩])
  (.cond (.tmp 20) .skip (.exit 2)))
  (.seq (.blk 3 (.reg [⟨(some 23), .mv (.tmp 7), none, .f⟩,
   ⟨(some 24), .loadn 5 (.tmp 2), none, .f⟩,
   ⟨(some 25), .mv (.tmp 1), none, .f⟩,
   ⟨(some 26), .mv (.tmp 6), none, .f⟩,
   ⟨(some 27), .mv (.tmp 8), none, .f⟩,
   ⟨(some 28), .call (.func 190) [(.tmp 24), (.tmp 25), (.tmp 26), (.tmp 27)], none, .f⟩,
   ⟨(some 29), .bslice 2 1 1 [.int .i64 0] [(0, 1, (.tmp 28))], none, .f⟩,
   ⟨(some 30), .app 2 1 8 (.tmp 23) (.tmp 29), none, .f⟩,
   ⟨(some 7), .mv (.tmp 30), none, .f⟩]))
  (.reg [⟨(some 21), .mv (.tmp 8), none, .f⟩,
   ⟨(some 22), .bin .add (.tmp 21) (.const (.int .i64 1)), none, .f⟩,
   ⟨(some 8), .mv (.tmp 22), none, .f⟩]))))))
  (.reg [⟨(some 31), .mv (.tmp 5), none, .f⟩,
   ⟨(some 32), .mv (.tmp 7), none, .f⟩,
   ⟨(some 33), .bslice 27 1 1 [.slice none 0 0] [(0, 1, (.tmp 32))], none, .f⟩,
   ⟨(some 34), .app 27 1 24 (.tmp 31) (.tmp 33), none, .f⟩,
   ⟨(some 5), .mv (.tmp 34), none, .f⟩]))))
  (.reg [⟨(some 14), .mv (.tmp 6), none, .f⟩,
   ⟨(some 15), .bin .add (.tmp 14) (.const (.int .i64 1)), none, .f⟩,
   ⟨(some 6), .mv (.tmp 15), none, .f⟩]))))))
  (.seq (.reg [⟨(some 35), .mv (.tmp 5), none, .f⟩,
   ⟨(some 4), .mv (.tmp 35), none, .f⟩])
  .ret))))⟩
theorem s248 : compFn Try.prog Try.f248 = some c248 := by kernel_rfl
def c249 : XFn :=
 ⟨[.celln 4 5],
  (.seq (.reg [⟨(some 2), .box 36 (.tmp 0), none, .f⟩,
   ⟨(some 4), .alloc 36 [.int .i64 0, .int .i64 0, .int .i64 0, .int .i64 0, .slice none 0 0], none, .f⟩])
  (.seq (.blk 0 (.loop (.seq (.seq (.reg [⟨(some 5), .mv (.tmp 1), none, .f⟩,
   ⟨(some 6), .bin .gtr (.tmp 5) (.const (.int .i64 0)), none, .f⟩])
  (.cond (.tmp 6) .skip (.exit 0)))
  (.seq (.blk 1 (.reg [⟨(some 9), .loadn 5 (.tmp 2), none, .f⟩,
   ⟨(some 10), .call (.func 194) [(.tmp 9)], none, .f⟩,
   ⟨none, .store 5 (.tmp 2) (.tmp 10), none, .f⟩]))
  (.reg [⟨(some 7), .mv (.tmp 1), none, .f⟩,
   ⟨(some 8), .bin .sub (.tmp 7) (.const (.int .i64 1)), none, .f⟩,
   ⟨(some 1), .mv (.tmp 8), none, .f⟩])))))
  (.seq (.reg [⟨(some 11), .loadn 5 (.tmp 2), none, .f⟩,
   ⟨none, .store 5 (.tmp 4) (.tmp 11), none, .f⟩])
  .ret)))⟩
theorem s249 : compFn Try.prog Try.f249 = some c249 := by kernel_rfl
def c250 : XFn :=
 ⟨[.tmp 6],
  (.seq (.reg [⟨(some 6), .mv (.const (.slice none 0 0)), none, .f⟩])
  (.seq (.reg [⟨(some 8), .bslice 2 1 0 [.int .i64 0] [], none, .f⟩,
   ⟨(some 7), .mv (.tmp 8), none, .f⟩])
  (.seq (.blk 0 (.loop (.seq (.seq (.reg [⟨(some 9), .mv (.tmp 2), none, .f⟩,
   ⟨(some 10), .bin .gtr (.tmp 9) (.const (.int .i64 0)), none, .f⟩])
  (.cond (.tmp 10) .skip (.exit 0)))
  (.seq (.blk 1 (.reg [⟨(some 13), .mv (.tmp 7), none, .f⟩,
   ⟨(some 14), .mv (.tmp 0), none, .f⟩,
   ⟨(some 15), .mv (.tmp 1), none, .f⟩,
   ⟨(some 16), .call (.func 148) [(.tmp 14), (.tmp 15)], none, .f⟩,
   ⟨(some 17), .bslice 2 1 1 [.int .i64 0] [(0, 1, (.tmp 16))], none, .f⟩,
   ⟨(some 18), .app 2 1 8 (.tmp 13) (.tmp 17), none, .f⟩,
   ⟨(some 7), .mv (.tmp 18), none, .f⟩]))
  (.reg [⟨(some 11), .mv (.tmp 2), none, .f⟩,
   ⟨(some 12), .bin .sub (.tmp 11) (.const (.int .i64 1)), none, .f⟩,
   ⟨(some 2), .mv (.tmp 12), none, .f⟩])))))
  (.seq (.reg [⟨(some 19), .mv (.tmp 7), none, .f⟩,
   ⟨(some 6), .mv (.tmp 19), none, .f⟩])
  .ret))))⟩
theorem s250 : compFn Try.prog Try.f250 = some c250 := by kernel_rfl
def c251 : XFn :=
 ⟨[.tmp 6],
  (.seq (.reg [⟨(some 6), .mv (.const (.bool false)), none, .f⟩])
  (.seq (.seq (.reg [⟨(some 7), .mv (.const (.int .i64 0)), none, .f⟩])
  (.blk 0 (.loop (.seq (.seq (.reg [⟨(some 8), .mv (.tmp 7), none, .f⟩,
   ⟨(some 9), .mv (.tmp 1), none, .f⟩,
   ⟨(some 10), .len (.tmp 9), none, .f⟩,
   ⟨(some 11), .bin .lss (.tmp 8) (.tmp 10), none, .f⟩])
  (.cond (.tmp 11) .skip (.exit 0)))
  (.seq (.blk 1 (.seq (.reg [⟨(some 14), .mv (.tmp 1), none, .f⟩,
   ⟨(some 15), .mv (.tmp 7), none, .f⟩,
   ⟨(some 16), .ixs 1 (.tmp 14) (.tmp 15), none, .f⟩,
   ⟨(some 17), .load1 (.tmp 16), none, .f⟩,
   ⟨(some 18), .mv (.tmp 0), none, .f⟩,
   ⟨(some 19), .bin .sub (.tmp 18) (.const (.int .i64 1)), none, .f⟩,
   ⟨(some 20), .call (.func 181) [(.tmp 17), (.const (.int .i64 0)), (.tmp 19)], none, .f⟩,
   ⟨(some 21), .un .not (.tmp 20), none, .f⟩])
  (.cond (.tmp 21) (.seq (.reg [⟨(some 6), .mv (.const (.bool false)), none, .f⟩])
  .ret) .skip)))
  (.reg [⟨(some 12), .mv (.tmp 7), none, .f⟩,
   ⟨(some 13), .bin .add (.tmp 12) (.const (.int .i64 1)), none, .f⟩,
   ⟨(some 7), .mv (.tmp 13), none, .f⟩]))))))
  (.seq (.reg [⟨(some 22), .mv (.tmp 1), none, .f⟩,
   ⟨(some 23), .len (.tmp 22), none, .f⟩,
   ⟨(some 24), .mv (.tmp 2), none, .f⟩,
   ⟨(some 25), .bin .eql (.tmp 23) (.tmp 24), none, .f⟩,
   ⟨(some 6), .mv (.tmp 25), none, .f⟩])
  .ret)))⟩
theorem s251 : compFn Try.prog Try.f251 = some c251 := by kernel_rfl
def c252 : XFn :=
 ⟨[.tmp 4],
  (.seq (.reg [⟨(some 4), .mv (.const (.int .i64 0)), none, .f⟩])
  (.seq (.reg [⟨(some 15), .bslice 27 1 0 [.slice none 0 0] [], none, .f⟩,
   ⟨(some 16), .mv (.tmp 1), none, .f⟩,
   ⟨(some 17), .app 27 1 24 (.tmp 15) (.tmp 16), none, .f⟩,
   ⟨(some 5), .mv (.tmp 17), none, .f⟩,
   ⟨(some 6), .mv (.const (.int .i64 0)), none, .f⟩])
  (.seq (.seq (.reg [⟨(some 7), .mv (.const (.int .i64 0)), none, .f⟩])
  (.blk 0 (.loop (.seq (.seq (.reg [⟨(some 18), .mv (.tmp 5), none, .f⟩,
   ⟨(some 19), .len (.tmp 18), none, .f⟩,
   ⟨(some 20), .bin .gtr (.tmp 19) (.const (.int .i64 0)), none, .f⟩,
   ⟨(some 21), .mv (.tmp 20), none, .f⟩,
   ⟨(some 22), .mv (.tmp 7), (some (21, true)), .f⟩,
   ⟨(some 23), .mv (.tmp 5), (some (21, true)), .f⟩,
   ⟨(some 24), .ixs 1 (.tmp 23) (.const (.int .i64 0)), (some (21, true)), .f⟩,
   ⟨(some 25), .load1 (.tmp 24), (some (21, true)), .f⟩,
   ⟨(some 26), .len (.tmp 25), (some (21, true)), .f⟩,
   ⟨(some 27), .bin .lss (.tmp 22) (.tmp 26), (some (21, true)), .f⟩,
   ⟨(some 28), .pick (.tmp 21) (.tmp 27) (.const (.bool false)), none, .f⟩])
  (.cond (.tmp 28) .skip (.exit 0)))
  (.seq (.blk 1 (.seq (.reg [⟨(some 31), .mv (.tmp 6), none, .f⟩,
   ⟨(some 8), .mv (.tmp 31), none, .f⟩])
  (.seq (.blk 2 (.loop (.seq (.seq (.reg [⟨(some 32), .mv (.tmp 8), none, .f⟩,
   ⟨(some 33), .mv (.tmp 5), none, .f⟩,
   ⟨(some 34), .len (.tmp 33), none, .f⟩,
   ⟨(some 35), .bin .lss (.tmp 32) (.tmp 34), none, .f⟩,
   ⟨(some 36), .mv (.tmp 35), none, .f⟩,
   ⟨(some 37), .mv (.tmp 5), (some (36, true)), .f⟩,
   ⟨(some 38), .mv (.tmp 8), (some (36, true)), .f⟩,
   ⟨(some 39), .ixs 1 (.tmp 37) (.tmp 38), (some (36, true)), .f⟩,
   ⟨(some 40), .load1 (.tmp 39), (some (36, true)), .f⟩,
   ⟨(some 41), .mv (.tmp 7), (some (36, true)), .f⟩,
   ⟨(some 42), .ixs 1 (.tmp 40) (.tmp 41), (some (36, true)), .f⟩,
   ⟨(some 43), .load1 (.tmp 42), (some (36, true)), .f⟩,
   ⟨(some 44), .bin .eql (.tmp 43) (.const (.int .i64 0)), (some (36, true)), .f⟩,
   ⟨(some 45), .pick (.tmp 36) (.tmp 44) (.const (.bool false)), none, .f⟩])
  (.cond (.tmp 45) .skip (.exit 2)))
  (.blk 3 (.reg [⟨(some 46), .mv (.tmp 8), none, .f⟩,
   ⟨(some 47), .bin .add (.tmp 46) (.const (.int .i64 1)), none, .f⟩,
   ⟨(some 8), .mv (.tmp 47), none, .f⟩])))))
  (.seq (.seq (.reg [⟨(some 48), .mv (.tmp 8), none, .f⟩,
   ⟨(some 49), .mv (.tmp 5), none, .f⟩,
   ⟨(some 50), .len (.tmp 49), none, .f⟩,
   ⟨(some 51), .bin .eql (.tmp 48) (.tmp 50), none, .f⟩])
  (.cond (.tmp 51) (.exit 1) .skip))
  (.seq (.reg [⟨(some 52), .mv (.tmp 5), none, .f⟩,
   ⟨(some 53), .mv (.tmp 8), none, .f⟩,
   ⟨(some 54), .ixs 1 (.tmp 52) (.tmp 53), none, .f⟩,
   ⟨(some 55), .load1 (.tmp 54), none, .f⟩,
   ⟨(some 9), .mv (.tmp 55), none, .f⟩])
  (.seq (.reg [⟨(some 56), .mv (.tmp 5), none, .f⟩,
   ⟨(some 57), .mv (.tmp 8), none, .f⟩,
   ⟨(some 58), .mv (.tmp 5), none, .f⟩,
   ⟨(some 59), .mv (.tmp 6), none, .f⟩,
   ⟨(some 60), .ixs 1 (.tmp 58) (.tmp 59), none, .f⟩,
   ⟨(some 61), .load1 (.tmp 60), none, .f⟩,
   ⟨(some 62), .ixs 1 (.tmp 56) (.tmp 57), none, .f⟩,
   ⟨none, .store 1 (.tmp 62) (.tmp 61), none, .f⟩])
  (.seq (.reg [⟨(some 63), .mv (.tmp 5), none, .f⟩,
   ⟨(some 64), .mv (.tmp 6), none, .f⟩,
   ⟨(some 65), .mv (.tmp 9), none, .f⟩,
   ⟨(some 66), .ixs 1 (.tmp 63) (.tmp 64), none, .f⟩,
   ⟨none, .store 1 (.tmp 66) (.tmp 65), none, .f⟩])
  (.seq (.reg [⟨(some 67), .mv (.tmp 0), none, .f⟩,
   ⟨(some 68), .mv (.tmp 9), none, .f⟩,
   ⟨(some 69), .mv (.tmp 7), none, .f⟩,
   ⟨(some 70), .ixs 1 (.tmp 68) (.tmp 69), none, .f⟩,
   ⟨(some 71), .load1 (.tmp 70), none, .f⟩,
   ⟨(some 72), .call (.func 311) [(.tmp 67), (.tmp 71)], none, .f⟩,
   ⟨(some 10), .mv (.tmp 72), none, .f⟩])
  (.seq (.seq (.reg [⟨(some 73), .mv (.tmp 6), none, .f⟩,
   ⟨(some 74), .bin .add (.tmp 73) (.const (.int .i64 1)), none, .f⟩,
   ⟨(some 11), .mv (.tmp 74), none, .f⟩])
  (.blk 4 (.loop (.seq (.seq (.reg [⟨(some 75), .mv (.tmp 11), none, .f⟩,
   ⟨(some 76), .mv (.tmp 5), none, .f⟩,
   ⟨(some 77), .len (.tmp 76), none, .f⟩,
   ⟨(some 78), .bin .lss (.tmp 75) (.tmp 77), none, .f⟩])
  (.cond (.tmp 78) .skip (.exit 4)))
  (.seq (.blk 5 (.seq (.reg [⟨(some 81), .mv (.tmp 5), none, .f⟩,
   ⟨(some 82), .mv (.tmp 11), none, .f⟩,
   ⟨(some 83), .ixs 1 (.tmp 81) (.tmp 82), none, .f⟩,
   ⟨(some 84), .load1 (.tmp 83), none, .f⟩,
   ⟨(some 85), .mv (.tmp 7), none, .f⟩,
   ⟨(some 86), .ixs 1 (.tmp 84) (.tmp 85), none, .f⟩,
   ⟨(some 87), .load1 (.tmp 86), none, .f⟩,
   ⟨(some 88), .mv (.tmp 10), none, .f⟩,
   ⟨(some 89), .bin .mul (.tmp 87) (.tmp 88), none, .f⟩,
   ⟨(some 90), .mv (.tmp 0), none, .f⟩,
   ⟨(some 91), .bin .rem (.tmp 89) (.tmp 90), none, .f⟩,
   ⟨(some 92), .bslice 2 1 0 [.int .i64 0] [], none, .f⟩,
   ⟨(some 12), .mv (.tmp 91), none, .f⟩,
   ⟨(some 13), .mv (.tmp 92), none, .f⟩])
  (.seq (.seq (.reg [⟨(some 93), .mv (.tmp 12), none, .f⟩,
   ⟨(some 94), .bin .eql (.tmp 93) (.const (.int .i64 0)), none, .f⟩])
  (.cond (.tmp 94) (.exit 5) .skip))
  (.seq (.seq (.reg [⟨(some 14), .mv (.const (.int .i64 0)), none, .f⟩])
  (.blk 6 (.loop (.seq (.seq (.reg [⟨(some 95), .mv (.tmp 14), none, .f⟩,
   ⟨(some 96), .mv (.tmp 9), none, .f⟩,
   ⟨(some 97), .len (.tmp 96), none, .f⟩,
   ⟨(some 98), .bin .lss (.tmp 95) (.tmp 97), none, .f⟩])
  (.cond (.tmp 98) .skip (.exit 6)))
  (.seq (.blk 7 (.reg [⟨(some 101), .mv (.tmp 13), none, .f⟩,
   ⟨(some 102), .mv (.tmp 0), none, .f⟩,
   ⟨(some 103), .mv (.tmp 5), none, .f⟩,
   ⟨(some 104), .mv (.tmp 11), none, .f⟩,
   ⟨(some 105), .ixs 1 (.tmp 103) (.tmp 104), none, .f⟩,
   ⟨(some 106), .load1 (.tmp 105), none, .f⟩,
   ⟨(some 107), .mv (.tmp 14), none, .f⟩,
   ⟨(some 108), .ixs 1 (.tmp 106) (.tmp 107), none, .f⟩,
   ⟨(some 109), .load1 (.tmp 108), none, .f⟩,
   ⟨(some 110), .mv (.tmp 12), none, .f⟩,
   ⟨(some 111), .mv (.tmp 9), none, .f⟩,
   ⟨(some 112), .mv (.tmp 14), none, .f⟩,
   ⟨(some 113), .ixs 1 (.tmp 111) (.tmp 112), none, .f⟩,
   ⟨(some 114), .load1 (.tmp 113), none, .f⟩,
   ⟨(some 115), .bin .mul (.tmp 110) (.tmp 114), none, .f⟩,
   ⟨(some 116), .bin .sub (.tmp 109) (.tmp 115), none, .f⟩,
   ⟨(some 117), .call (.func 314) [(.tmp 102), (.tmp 116)], none, .f⟩,
   ⟨(some 118), .bslice 2 1 1 [.int .i64 0] [(0, 1, (.tmp 117))], none, .f⟩,
   ⟨(some 119), .app 2 1 8 (.tmp 101) (.tmp 118), none, .f⟩,
   ⟨(some 13), .mv (.tmp 119), none, .f⟩]))
  (.reg [⟨(some 99), .mv (.tmp 14), none, .f⟩,
   ⟨(some 100), .bin .add (.tmp 99) (.const (.int .i64 1)), none, .f⟩,
   ⟨(some 14), .mv (.tmp 100), none, .f⟩]))))))
  (.reg [⟨(some 120), .mv (.tmp 5), none, .f⟩,
   ⟨(some 121), .mv (.tmp 11), none, .f⟩,
   ⟨(some 122), .mv (.tmp 13), none, .f⟩,
   ⟨(some 123), .ixs 1 (.tmp 120) (.tmp 121), none, .f⟩,
   ⟨none, .store 1 (.tmp 123) (.tmp 122), none, .f⟩])))))
  (.reg [⟨(some 79), .mv (.tmp 11), none, .f⟩,
   ⟨(some 80), .bin .add (.tmp 79) (.const (.int .i64 1)), none, .f⟩,
   ⟨(some 11), .mv (.tmp 80), none, .f⟩]))))))
  (.reg [⟨(some 124), .mv (.tmp 6), none, .f⟩,
   ⟨(some 125), .bin .add (.tmp 124) (.const (.int .i64 1)), none, .f⟩,
   ⟨(some 6), .mv (.tmp 125), none, .f⟩]))))))))))
  (.reg [⟨(some 29), .mv (.tmp 7), none, .f⟩,
   ⟨(some 30), .bin .add (.tmp 29) (.const (.int .i64 1)), none, .f⟩,
   ⟨(some 7), .mv (.tmp 30), none, .f⟩]))))))
  (.seq (.reg [⟨(some 126), .mv (.tmp 6), none, .f⟩,
   ⟨(some 4), .mv (.tmp 126), none, .f⟩])
  .ret))))⟩
theorem s252 : compFn Try.prog Try.f252 = some c252 := by kernel_rfl
def c253 : XFn :=
 ⟨[.tmp 2],
  (.seq (.reg [⟨(some 1), .box 36 (.tmp 0), none, .f⟩,
   ⟨(some 2), .mv (.const (.slice none 0 0)), none, .f⟩])
  (.seq (.reg [⟨(some 5), .bslice 2 1 0 [.int .i64 0] [], none, .f⟩,
   ⟨(some 3), .mv (.tmp 5), none, .f⟩])
  (.seq (.seq (.reg [⟨(some 4), .mv (.const (.int .i64 0)), none, .f⟩])
  (.blk 0 (.loop (.seq (.seq (.reg [⟨(some 6), .mv (.tmp 4), none, .f⟩,
   ⟨(some 7), .bin .lss (.tmp 6) (.const (.int .i64 3)), none, .f⟩])
  (.cond (.tmp 7) .skip (.exit 0)))
  (.seq (.blk 1 (.reg [⟨(some 10), .mv (.tmp 3), none, .f⟩,
   ⟨(some 11), .fadr 0 (.tmp 1), none, .f⟩,
   ⟨(some 12), .load1 (.tmp 11), none, .f⟩,
   ⟨(some 13), .loadn 5 (.tmp 1), none, .f⟩,
   ⟨(some 14), .mv (.tmp 4), none, .f⟩,
   ⟨(some 15), .call (.func 249) [(.tmp 13), (.tmp 14)], none, .t⟩,
   ⟨(some 16), .call (.func 315) [(.tmp 15)], none, .t⟩,
   ⟨(some 17), .call (.func 252) [(.tmp 12), (.tmp 16)], none, .f⟩,
   ⟨(some 18), .bslice 2 1 1 [.int .i64 0] [(0, 1, (.tmp 17))], none, .f⟩,
   ⟨(some 19), .app 2 1 8 (.tmp 10) (.tmp 18), none, .f⟩,
   ⟨(some 3), .mv (.tmp 19), none, .f⟩]))
  (.reg [⟨(some 8), .mv (.tmp 4), none, .f⟩,
   ⟨(some 9), .bin .add (.tmp 8) (.const (.int .i64 1)), none, .f⟩,
   ⟨(some 4), .mv (.tmp 9), none, .f⟩]))))))
  (.seq (.reg [⟨(some 20), .mv (.tmp 3), none, .f⟩,
   ⟨(some 2), .mv (.tmp 20), none, .f⟩])
  .ret))))⟩
theorem s253 : compFn Try.prog Try.f253 = some c253 := by kernel_rfl
def c264 : XFn :=
 ⟨[.tmp 2],
  (.seq (.reg [⟨(some 2), .mv (.const (.slice none 0 0)), none, .f⟩])
  (.seq (.reg [⟨(some 3), .bslice 2 1 0 [.int .i64 0] [], none, .f⟩,
   ⟨(some 4), .mv (.tmp 0), none, .f⟩,
   ⟨(some 5), .app 2 1 8 (.tmp 3) (.tmp 4), none, .f⟩,
   ⟨(some 2), .mv (.tmp 5), none, .f⟩])
  .ret))⟩
theorem s264 : compFn Try.prog Try.f264 = some c264 := by kernel_rfl
def c266 : XFn :=
 ⟨[.celln 2 5],
  (.seq (.reg [⟨(some 2), .alloc 26 [.int .i64 0, .int .i64 0, .int .i64 0, .int .i64 0, .slice none 0 0], none, .f⟩])
  (.seq (.reg [⟨(some 5), .mv (.tmp 0), none, .f⟩,
   ⟨(some 6), .call (.func 320) [(.tmp 5)], none, .f⟩,
   ⟨(some 3), .alloc 26 [.int .i64 0, .int .i64 0, .int .i64 0, .int .i64 0, .slice none 0 0], none, .f⟩,
   ⟨none, .store 5 (.tmp 3) (.tmp 6), none, .f⟩])
  (.seq (.seq (.reg [⟨(some 7), .mv (.tmp 0), none, .f⟩,
   ⟨(some 8), .call (.func 148) [(.tmp 7), (.const (.int .i64 4))], none, .f⟩])
  (.blk 0 (.seq (.reg [⟨(some 10), .bin .eql (.tmp 8) (.const (.int .i64 0)), none, .f⟩,
   ⟨(some 9), .mv (.tmp 10), none, .f⟩])
  (.cond (.tmp 9) (.seq (.reg [⟨(some 11), .fadr 0 (.tmp 3), none, .f⟩,
   ⟨(some 12), .load1 (.tmp 11), none, .f⟩,
   ⟨(some 13), .call (.func 321) [(.tmp 12)], none, .f⟩,
   ⟨none, .store 5 (.tmp 2) (.tmp 13), none, .f⟩])
  .ret) (.seq (.reg [⟨(some 15), .bin .eql (.tmp 8) (.const (.int .i64 1)), none, .f⟩,
   ⟨(some 14), .mv (.tmp 15), none, .f⟩])
  (.cond (.tmp 14) (.seq (.reg [⟨(some 16), .fadr 0 (.tmp 3), none, .f⟩,
   ⟨(some 17), .load1 (.tmp 16), none, .f⟩,
   ⟨(some 18), .fadr 1 (.tmp 3), none, .f⟩,
   ⟨(some 19), .load1 (.tmp 18), none, .f⟩,
   ⟨(some 20), .fadr 2 (.tmp 3), none, .f⟩,
   ⟨(some 21), .load1 (.tmp 20), none, .f⟩,
   ⟨(some 22), .fadr 3 (.tmp 3), none, .f⟩,
   ⟨(some 23), .load1 (.tmp 22), none, .f⟩,
   ⟨(some 24), .call (.func 303) [(.tmp 17), (.tmp 19), (.tmp 21), (.tmp 23)], none, .f⟩,
   ⟨none, .store 5 (.tmp 2) (.tmp 24), none, .f⟩])
  .ret) .skip))))))
  (.seq (.seq (.reg [⟨(some 25), .mv (.tmp 0), none, .f⟩,
   ⟨(some 26), .call (.func 148) [(.tmp 25), (.const (.int .i64 6))], none, .f⟩,
   ⟨(some 4), .mv (.tmp 26), none, .f⟩])
  (.blk 1 (.loop (.seq (.seq (.reg [⟨(some 27), .mv (.tmp 4), none, .f⟩,
   ⟨(some 28), .bin .gtr (.tmp 27) (.const (.int .i64 0)), none, .f⟩])
  (.cond (.tmp 28) .skip (.exit 1)))
  (.seq (.blk 2 (.reg [⟨(some 31), .fadr 4 (.tmp 3), none, .f⟩,
   ⟨(some 32), .load1 (.tmp 31), none, .f⟩,
   ⟨(some 33), .mv (.tmp 0), none, .f⟩,
   ⟨(some 34), .loadn 5 (.tmp 3), none, .f⟩,
   ⟨(some 35), .call (.func 305) [(.tmp 33), (.tmp 34)], none, (.s true [(.tmp 31)])⟩,
   ⟨(some 36), .bslice 138 27 1 [.int .u8 0, .int .u8 0, .int .u8 0, .int .u8 0, .int .u8 0, .int .u8 0, .int .u8 0, .int .u8 0, .int .u8 0, .int .u8 0, .int .u8 0, .int .u8 0, .int .u8 0, .int .u8 0, .int .u8 0, .int .u8 0, .int .u8 0, .int .u8 0, .int .u8 0, .int .u8 0, .int .u8 0, .int .u8 0, .int .u8 0, .int .u8 0, .int .u8 0, .int .u8 0, .int .u8 0] [(0, 27, (.tmp 35))], none, .f⟩,
   ⟨(some 37), .app 138 27 27 (.tmp 32) (.tmp 36), none, .f⟩,
   ⟨(some 38), .fadr 4 (.tmp 3), none, .f⟩,
   ⟨none, .store 1 (.tmp 38) (.tmp 37), none, .f⟩]))
  (.reg [⟨(some 29), .mv (.tmp 4), none, .f⟩,
   ⟨(some 30), .bin .sub (.tmp 29) (.const (.int .i64 1)), none, .f⟩,
   ⟨(some 4), .mv (.tmp 30), none, .f⟩]))))))
  (.seq (.reg [⟨(some 39), .loadn 5 (.tmp 3), none, .f⟩,
   ⟨none, .store 5 (.tmp 2) (.tmp 39), none, .f⟩])
  .ret)))))⟩
theorem s266 : compFn Try.prog Try.f266 = some c266 := by kernel_rfl
def c278 : XFn :=
 ⟨[.tmp 2],
  (.seq (.reg [⟨(some 1), .box 136 (.tmp 0), none, .f⟩,
   ⟨(some 2), .mv (.const (.bool false)), none, .f⟩])
  (.seq (.reg [⟨(some 3), .loadn 9 (.tmp 1), none, .f⟩,
   ⟨(some 4), .build [.int .u8 0, .int .u8 0, .int .u8 0, .int .u8 0, .int .u8 0, .int .u8 0, .int .u8 0, .int .u8 0, .int .u8 0] [], none, .f⟩,
   ⟨(some 5), .eqa false 9 (.tmp 3) (.tmp 4), none, .f⟩,
   ⟨(some 2), .mv (.tmp 5), none, .f⟩])
  .ret))⟩
theorem s278 : compFn Try.prog Try.f278 = some c278 := by kernel_rfl
def c285 : XFn :=
 ⟨[.tmp 2],
  (.seq (.reg [⟨(some 2), .mv (.const (.slice none 0 0)), none, .f⟩])
  (.seq (.seq (.reg [⟨(some 3), .mv (.tmp 0), none, .f⟩,
   ⟨(some 4), .isnil false (.tmp 3), none, .f⟩])
  (.cond (.tmp 4) (.seq (.reg [⟨(some 2), .mv (.const (.slice none 0 0)), none, .f⟩])
  .ret) .skip))
  (.seq (.reg [⟨(some 5), .bslice 2 1 0 [.int .i64 0] [], none, .f⟩,
   ⟨(some 6), .mv (.tmp 0), none, .f⟩,
   ⟨(some 7), .app 2 1 8 (.tmp 5) (.tmp 6), none, .f⟩,
   ⟨(some 2), .mv (.tmp 7), none, .f⟩])
  .ret)))⟩
theorem s285 : compFn Try.prog Try.f285 = some c285 := by kernel_rfl
def c290 : XFn :=
 ⟨[.celln 4 5],
  (.seq (.reg [⟨(some 3), .box 36 (.tmp 1), none, .f⟩,
   ⟨(some 4), .alloc 36 [.int .i64 0, .int .i64 0, .int .i64 0, .int .i64 0, .slice none 0 0], none, .f⟩])
  (.seq (.seq (.reg [⟨(some 6), .mv (.tmp 0), none, .f⟩,
   ⟨(some 7), .call (.func 148) [(.tmp 6), (.const (.int .i64 50))], none, .f⟩])
  (.blk 0 (.seq (.reg [⟨(some 9), .bin .eql (.tmp 7) (.const (.int .i64 0)), none, .f⟩,
   ⟨(some 8), .mv (.tmp 9), none, .f⟩])
  (.cond (.tmp 8) (.reg [⟨(some 10), .mv (.tmp 0), none, .f⟩,
   ⟨(some 11), .bslice 2 1 3 [.int .i64 0] [(0, 1, (.const (.int .i64 0))), (1, 1, (.const (.int .i64 4))), (2, 1, (.const (.int .i64 2)))], none, .f⟩,
   ⟨(some 12), .call (.func 147) [(.tmp 10), (.tmp 11)], none, .f⟩,
   ⟨(some 13), .fadr 0 (.tmp 3), none, .f⟩,
   ⟨none, .store 1 (.tmp 13) (.tmp 12), none, .f⟩]) (.seq (.reg [⟨(some 15), .bin .eql (.tmp 7) (.const (.int .i64 1)), none, .f⟩,
   ⟨(some 14), .mv (.tmp 15), none, .f⟩])
  (.cond (.tmp 14) (.reg [⟨(some 16), .mv (.tmp 0), none, .f⟩,
   ⟨(some 17), .fadr 2 (.tmp 3), none, .f⟩,
   ⟨(some 18), .load1 (.tmp 17), none, .f⟩,
   ⟨(some 19), .bin .sub (.tmp 18) (.const (.int .i64 1)), none, .f⟩,
   ⟨(some 20), .bslice 2 1 3 [.int .i64 0] [(0, 1, (.const (.int .i64 0))), (1, 1, (.const (.int .i64 10))), (2, 1, (.tmp 19))], none, .f⟩,
   ⟨(some 21), .call (.func 147) [(.tmp 16), (.tmp 20)], none, .f⟩,
   ⟨(some 22), .fadr 2 (.tmp 3), none, .f⟩,
   ⟨none, .store 1 (.tmp 22) (.tmp 21), none, .f⟩]) (.seq (.reg [⟨(some 24), .bin .eql (.tmp 7) (.const (.int .i64 2)), none, .f⟩,
   ⟨(some 23), .mv (.tmp 24), none, .f⟩])
  (.cond (.tmp 23) (.reg [⟨(some 25), .fadr 4 (.tmp 3), none, .f⟩,
   ⟨(some 26), .load1 (.tmp 25), none, .f⟩,
   ⟨(some 27), .call (.func 264) [(.tmp 26)], none, .f⟩,
   ⟨(some 28), .bslice 2 1 1 [.int .i64 0] [(0, 1, (.const (.int .i64 0)))], none, .f⟩,
   ⟨(some 29), .app 2 1 8 (.tmp 27) (.tmp 28), none, .f⟩,
   ⟨(some 30), .fadr 4 (.tmp 3), none, .f⟩,
   ⟨none, .store 1 (.tmp 30) (.tmp 29), none, .f⟩]) (.seq (.reg [⟨(some 32), .bin .eql (.tmp 7) (.const (.int .i64 3)), none, .f⟩,
   ⟨(some 31), .mv (.tmp 32), none, .f⟩])
  (.cond (.tmp 31) (.seq (.reg [⟨(some 33), .fadr 4 (.tmp 3), none, .f⟩,
   ⟨(some 34), .load1 (.tmp 33), none, .f⟩,
   ⟨(some 35), .call (.func 264) [(.tmp 34)], none, .f⟩,
   ⟨(some 5), .mv (.tmp 35), none, .f⟩])
  (.seq (.reg [⟨(some 36), .mv (.tmp 5), none, .f⟩,
   ⟨(some 37), .mv (.tmp 0), none, .f⟩,
   ⟨(some 38), .fadr 0 (.tmp 3), none, .f⟩,
   ⟨(some 39), .load1 (.tmp 38), none, .f⟩,
   ⟨(some 40), .bslice 2 1 2 [.int .i64 0] [(0, 1, (.const (.int .i64 (-1)))), (1, 1, (.tmp 39))], none, .f⟩,
   ⟨(some 41), .call (.func 147) [(.tmp 37), (.tmp 40)], none, .f⟩,
   ⟨(some 42), .ixs 1 (.tmp 36) (.const (.int .i64 0)), none, .f⟩,
   ⟨none, .store 1 (.tmp 42) (.tmp 41), none, .f⟩])
  (.reg [⟨(some 43), .mv (.tmp 5), none, .f⟩,
   ⟨(some 44), .fadr 4 (.tmp 3), none, .f⟩,
   ⟨none, .store 1 (.tmp 44) (.tmp 43), none, .f⟩]))) .skip))))))))))
  (.seq (.reg [⟨(some 45), .loadn 5 (.tmp 3), none, .f⟩,
   ⟨none, .store 5 (.tmp 4) (.tmp 45), none, .f⟩])
  .ret)))⟩
theorem s290 : compFn Try.prog Try.f290 = some c290 := by kernel_rfl
def c291 : XFn :=
 ⟨[.celln 2 5],
  (.seq (.reg [⟨(some 1), .box 26 (.tmp 0), none, .f⟩,
   ⟨(some 2), .alloc 36 [.int .i64 0, .int .i64 0, .int .i64 0, .int .i64 0, .slice none 0 0], none, .f⟩])
  (.seq (.reg [⟨(some 11), .loadn 5 (.tmp 1), none, .f⟩,
   ⟨(some 12), .call (.func 300) [(.tmp 11)], none, .f⟩,
   ⟨(some 10), .mv (.tmp 12), none, .f⟩,
   ⟨(some 13), .ext (.tmp 10) 0, none, .f⟩,
   ⟨(some 14), .ext (.tmp 10) 1, none, .f⟩,
   ⟨(some 15), .ext (.tmp 10) 2, none, .f⟩,
   ⟨(some 3), .mv (.tmp 13), none, .f⟩,
   ⟨(some 4), .mv (.tmp 14), none, .f⟩,
   ⟨(some 5), .mv (.tmp 15), none, .f⟩])
  (.seq (.reg [⟨(some 16), .fadr 0 (.tmp 1), none, .f⟩,
   ⟨(some 17), .load1 (.tmp 16), none, .f⟩,
   ⟨(some 18), .mv (.tmp 3), none, .f⟩,
   ⟨(some 19), .mv (.tmp 4), none, .f⟩,
   ⟨(some 20), .mv (.tmp 5), none, .f⟩,
   ⟨(some 21), .call (.func 182) [(.tmp 17), (.tmp 18), (.tmp 19), (.tmp 20)], none, .f⟩,
   ⟨(some 6), .alloc 36 [.int .i64 0, .int .i64 0, .int .i64 0, .int .i64 0, .slice none 0 0], none, .f⟩,
   ⟨none, .store 5 (.tmp 6) (.tmp 21), none, .f⟩])
  (.seq (.seq (.reg [⟨(some 7), .mv (.const (.int .i64 0)), none, .f⟩])
  (.blk 0 (.loop (.seq (.seq (.reg [⟨(some 22), .mv (.tmp 7), none, .f⟩,
   ⟨(some 23), .mv (.tmp 3), none, .f⟩,
   ⟨(some 24), .bin .lss (.tmp 22) (.tmp 23), none, .f⟩])
  (.cond (.tmp 24) .skip (.exit 0)))
  (.seq (.blk 1 (.seq (.reg [⟨(some 8), .mv (.const (.int .i64 0)), none, .f⟩])
  (.blk 2 (.loop (.seq (.seq (.reg [⟨(some 27), .mv (.tmp 8), none, .f⟩,
   ⟨(some 28), .mv (.tmp 4), none, .f⟩,
   ⟨(some 29), .bin .lss (.tmp 27) (.tmp 28), none, .f⟩])
  (.cond (.tmp 29) .skip (.exit 2)))
  (.seq (.blk 3 (.seq (.reg [⟨(some 9), .mv (.const (.int .i64 0)), none, .f⟩])
  (.blk 4 (.loop (.seq (.seq (.reg [⟨(some 32), .mv (.tmp 9), none, .f⟩,
   ⟨(some 33), .mv (.tmp 5), none, .f⟩,
   ⟨(some 34), .bin .lss (.tmp 32) (.tmp 33), none, .f⟩])
  (.cond (.tmp 34) .skip (.exit 4)))
  (.seq (.blk 5 (.reg [⟨(some 37), .fadr 4 (.tmp 6), none, .f⟩,
   ⟨(some 38), .load1 (.tmp 37), none, .f⟩,
   ⟨(some 39), .mv (.tmp 7), none, .f⟩,
   ⟨(some 40), .mv (.tmp 4), none, .f⟩,
   ⟨(some 41), .bin .mul (.tmp 39) (.tmp 40), none, .f⟩,
   ⟨(some 42), .mv (.tmp 8), none, .f⟩,
   ⟨(some 43), .bin .add (.tmp 41) (.tmp 42), none, .f⟩,
   ⟨(some 44), .mv (.tmp 5), none, .f⟩,
   ⟨(some 45), .bin .mul (.tmp 43) (.tmp 44), none, .f⟩,
   ⟨(some 46), .mv (.tmp 9), none, .f⟩,
   ⟨(some 47), .bin .add (.tmp 45) (.tmp 46), none, .f⟩,
   ⟨(some 48), .loadn 5 (.tmp 1), none, .f⟩,
   ⟨(some 49), .mv (.tmp 7), none, .f⟩,
   ⟨(some 50), .mv (.tmp 8), none, .f⟩,
   ⟨(some 51), .mv (.tmp 9), none, .f⟩,
   ⟨(some 52), .call (.func 222) [(.tmp 48), (.tmp 49), (.tmp 50), (.tmp 51)], none, .t⟩,
   ⟨(some 53), .ixs 1 (.tmp 38) (.tmp 47), none, .f⟩,
   ⟨none, .store 1 (.tmp 53) (.tmp 52), none, .f⟩]))
  (.reg [⟨(some 35), .mv (.tmp 9), none, .f⟩,
   ⟨(some 36), .bin .add (.tmp 35) (.const (.int .i64 1)), none, .f⟩,
   ⟨(some 9), .mv (.tmp 36), none, .f⟩])))))))
  (.reg [⟨(some 30), .mv (.tmp 8), none, .f⟩,
   ⟨(some 31), .bin .add (.tmp 30) (.const (.int .i64 1)), none, .f⟩,
   ⟨(some 8), .mv (.tmp 31), none, .f⟩])))))))
  (.reg [⟨(some 25), .mv (.tmp 7), none, .f⟩,
   ⟨(some 26), .bin .add (.tmp 25) (.const (.int .i64 1)), none, .f⟩,
   ⟨(some 7), .mv (.tmp 26), none, .f⟩]))))))
  (.seq (.reg [⟨(some 54), .loadn 5 (.tmp 6), none, .f⟩,
   ⟨none, .store 5 (.tmp 2) (.tmp 54), none, .f⟩])
  .ret)))))⟩
theorem s291 : compFn Try.prog Try.f291 = some c291 := by kernel_rfl
def c292 : XFn :=
 ⟨[.celln 4 5],
  (.seq (.reg [⟨(some 4), .alloc 36 [.int .i64 0, .int .i64 0, .int .i64 0, .int .i64 0, .slice none 0 0], none, .f⟩])
  (.seq (.reg [⟨(some 5), .mv (.tmp 0), none, .f⟩,
   ⟨(some 6), .bslice 2 1 4 [.int .i64 0] [(0, 1, (.const (.int .i64 2))), (1, 1, (.const (.int .i64 2))), (2, 1, (.const (.int .i64 3))), (3, 1, (.const (.int .i64 5)))], none, .f⟩,
   ⟨(some 7), .call (.func 147) [(.tmp 5), (.tmp 6)], none, .f⟩,
   ⟨(some 8), .mv (.tmp 0), none, .f⟩,
   ⟨(some 9), .mv (.tmp 1), none, .f⟩,
   ⟨(some 10), .call (.func 148) [(.tmp 8), (.tmp 9)], none, .f⟩,
   ⟨(some 11), .bin .add (.const (.int .i64 1)) (.tmp 10), none, .f⟩,
   ⟨(some 12), .mv (.tmp 0), none, .f⟩,
   ⟨(some 13), .mv (.tmp 1), none, .f⟩,
   ⟨(some 14), .call (.func 148) [(.tmp 12), (.tmp 13)], none, .f⟩,
   ⟨(some 15), .bin .add (.const (.int .i64 1)) (.tmp 14), none, .f⟩,
   ⟨(some 16), .mv (.tmp 0), none, .f⟩,
   ⟨(some 17), .mv (.tmp 1), none, .f⟩,
   ⟨(some 18), .call (.func 148) [(.tmp 16), (.tmp 17)], none, .f⟩,
   ⟨(some 19), .bin .add (.const (.int .i64 1)) (.tmp 18), none, .f⟩,
   ⟨(some 20), .call (.func 182) [(.tmp 7), (.tmp 11), (.tmp 15), (.tmp 19)], none, .f⟩,
   ⟨none, .store 5 (.tmp 4) (.tmp 20), none, .f⟩])
  .ret))⟩
theorem s292 : compFn Try.prog Try.f292 = some c292 := by kernel_rfl
def c293 : XFn :=
 ⟨[.tmp 7],
  (.seq (.reg [⟨(some 7), .mv (.const (.int .i64 0)), none, .f⟩])
  (.seq (.reg [⟨(some 8), .loadn 5 (.tmp 3), none, .f⟩,
   ⟨(some 9), .mv (.tmp 2), none, .f⟩,
   ⟨(some 10), .mv (.tmp 0), none, .f⟩,
   ⟨(some 11), .mv (.tmp 1), none, .f⟩,
   ⟨(some 12), .call (.func 180) [(.tmp 8), (.tmp 9), (.tmp 10), (.tmp 11)], none, .f⟩,
   ⟨(some 7), .mv (.tmp 12), none, .f⟩])
  .ret))⟩
theorem s293 : compFn Try.prog Try.f293 = some c293 := by kernel_rfl
def c300 : XFn :=
 ⟨[.tmp 2, .tmp 3, .tmp 4],
  (.seq (.reg [⟨(some 1), .box 26 (.tmp 0), none, .f⟩,
   ⟨(some 2), .mv (.const (.int .i64 0)), none, .f⟩,
   ⟨(some 3), .mv (.const (.int .i64 0)), none, .f⟩,
   ⟨(some 4), .mv (.const (.int .i64 0)), none, .f⟩])
  (.seq (.reg [⟨(some 5), .fadr 1 (.tmp 1), none, .f⟩,
   ⟨(some 6), .load1 (.tmp 5), none, .f⟩,
   ⟨(some 7), .fadr 2 (.tmp 1), none, .f⟩,
   ⟨(some 8), .load1 (.tmp 7), none, .f⟩,
   ⟨(some 9), .bin .mul (.tmp 6) (.tmp 8), none, .f⟩,
   ⟨(some 10), .fadr 2 (.tmp 1), none, .f⟩,
   ⟨(some 11), .load1 (.tmp 10), none, .f⟩,
   ⟨(some 12), .fadr 3 (.tmp 1), none, .f⟩,
   ⟨(some 13), .load1 (.tmp 12), none, .f⟩,
   ⟨(some 14), .bin .mul (.tmp 11) (.tmp 13), none, .f⟩,
   ⟨(some 15), .fadr 1 (.tmp 1), none, .f⟩,
   ⟨(some 16), .load1 (.tmp 15), none, .f⟩,
   ⟨(some 17), .fadr 3 (.tmp 1), none, .f⟩,
   ⟨(some 18), .load1 (.tmp 17), none, .f⟩,
   ⟨(some 19), .bin .mul (.tmp 16) (.tmp 18), none, .f⟩,
   ⟨(some 2), .mv (.tmp 9), none, .f⟩,
   ⟨(some 3), .mv (.tmp 14), none, .f⟩,
   ⟨(some 4), .mv (.tmp 19), none, .f⟩])
  .ret))⟩
theorem s300 : compFn Try.prog Try.f300 = some c300 := by kernel_rfl
def c303 : XFn :=
 ⟨[.celln 8 5],
  (.seq (.reg [⟨(some 8), .alloc 26 [.int .i64 0, .int .i64 0, .int .i64 0, .int .i64 0, .slice none 0 0], none, .f⟩])
  (.seq (.reg [⟨(some 14), .mv (.tmp 0), none, .f⟩,
   ⟨(some 15), .mv (.tmp 1), none, .f⟩,
   ⟨(some 16), .mv (.tmp 2), none, .f⟩,
   ⟨(some 17), .mv (.tmp 3), none, .f⟩,
   ⟨(some 18), .bslice 138 27 0 [.int .u8 0, .int .u8 0, .int .u8 0, .int .u8 0, .int .u8 0, .int .u8 0, .int .u8 0, .int .u8 0, .int .u8 0, .int .u8 0, .int .u8 0, .int .u8 0, .int .u8 0, .int .u8 0, .int .u8 0, .int .u8 0, .int .u8 0, .int .u8 0, .int .u8 0, .int .u8 0, .int .u8 0, .int .u8 0, .int .u8 0, .int .u8 0, .int .u8 0, .int .u8 0, .int .u8 0] [], none, .f⟩,
   ⟨(some 19), .build [.int .i64 0, .int .i64 0, .int .i64 0, .int .i64 0, .slice none 0 0] [(0, 1, (.tmp 14)), (1, 1, (.tmp 15)), (2, 1, (.tmp 16)), (3, 1, (.tmp 17)), (4, 1, (.tmp 18))], none, .f⟩,
   ⟨(some 9), .alloc 26 [.int .i64 0, .int .i64 0, .int .i64 0, .int .i64 0, .slice none 0 0], none, .f⟩,
   ⟨none, .store 5 (.tmp 9) (.tmp 19), none, .f⟩])
  (.seq (.seq (.reg [⟨(some 10), .mv (.const (.int .i64 0)), none, .f⟩])
  (.blk 0 (.loop (.seq (.seq (.reg [⟨(some 20), .mv (.tmp 10), none, .f⟩,
   ⟨(some 21), .mv (.tmp 1), none, .f⟩,
   ⟨(some 22), .bin .lss (.tmp 20) (.tmp 21), none, .f⟩])
  (.cond (.tmp 22) .skip (.exit 0)))
  (.seq (.blk 1 (.seq (.reg [⟨(some 11), .mv (.const (.int .i64 0)), none, .f⟩])
  (.blk 2 (.loop (.seq (.seq (.reg [⟨(some 25), .mv (.tmp 11), none, .f⟩,
   ⟨(some 26), .mv (.tmp 2), none, .f⟩,
   ⟨(some 27), .bin .lss (.tmp 25) (.tmp 26), none, .f⟩])
  (.cond (.tmp 27) .skip (.exit 2)))
  (.seq (.blk 3 (.seq (.reg [⟨(some 12), .mv (.const (.int .i64 0)), none, .f⟩])
  (.blk 4 (.loop (.seq (.seq (.reg [⟨(some 30), .mv (.tmp 12), none, .f⟩,
   ⟨(some 31), .mv (.tmp 3), none, .f⟩,
   ⟨(some 32), .bin .lss (.tmp 30) (.tmp 31), none, .f⟩])
  (.cond (.tmp 32) .skip (.exit 4)))
  (.seq (.blk 5 (.seq (.reg [⟨(some 35), .build [.int .u8 0, .int .u8 0, .int .u8 0, .int .u8 0, .int .u8 0, .int .u8 0, .int .u8 0, .int .u8 0, .int .u8 0, .int .u8 0, .int .u8 0, .int .u8 0, .int .u8 0, .int .u8 0, .int .u8 0, .int .u8 0, .int .u8 0, .int .u8 0, .int .u8 0, .int .u8 0, .int .u8 0, .int .u8 0, .int .u8 0, .int .u8 0, .int .u8 0, .int .u8 0, .int .u8 0] [], none, .f⟩,
   ⟨(some 13), .alloc 138 [.int .u8 0, .int .u8 0, .int .u8 0, .int .u8 0, .int .u8 0, .int .u8 0, .int .u8 0, .int .u8 0, .int .u8 0, .int .u8 0, .int .u8 0, .int .u8 0, .int .u8 0, .int .u8 0, .int .u8 0, .int .u8 0, .int .u8 0, .int .u8 0, .int .u8 0, .int .u8 0, .int .u8 0, .int .u8 0, .int .u8 0, .int .u8 0, .int .u8 0, .int .u8 0, .int .u8 0], none, .f⟩,
   ⟨none, .store 27 (.tmp 13) (.tmp 35), none, .f⟩])
  (.seq (.reg [⟨(some 36), .mv (.tmp 10), none, .f⟩,
   ⟨(some 37), .mv (.tmp 2), none, .f⟩,
   ⟨(some 38), .bin .mul (.tmp 36) (.tmp 37), none, .f⟩,
   ⟨(some 39), .mv (.tmp 11), none, .f⟩,
   ⟨(some 40), .bin .add (.tmp 38) (.tmp 39), none, .f⟩,
   ⟨(some 41), .fadr 0 (.tmp 13), none, .f⟩,
   ⟨(some 42), .ixa 9 1 (.tmp 41) (.tmp 40), none, .f⟩,
   ⟨none, .store 1 (.tmp 42) (.const (.int .u8 1)), none, .f⟩])
  (.seq (.reg [⟨(some 43), .mv (.tmp 11), none, .f⟩,
   ⟨(some 44), .mv (.tmp 3), none, .f⟩,
   ⟨(some 45), .bin .mul (.tmp 43) (.tmp 44), none, .f⟩,
   ⟨(some 46), .mv (.tmp 12), none, .f⟩,
   ⟨(some 47), .bin .add (.tmp 45) (.tmp 46), none, .f⟩,
   ⟨(some 48), .fadr 9 (.tmp 13), none, .f⟩,
   ⟨(some 49), .ixa 9 1 (.tmp 48) (.tmp 47), none, .f⟩,
   ⟨none, .store 1 (.tmp 49) (.const (.int .u8 1)), none, .f⟩])
  (.seq (.reg [⟨(some 50), .mv (.tmp 10), none, .f⟩,
   ⟨(some 51), .mv (.tmp 3), none, .f⟩,
   ⟨(some 52), .bin .mul (.tmp 50) (.tmp 51), none, .f⟩,
   ⟨(some 53), .mv (.tmp 12), none, .f⟩,
   ⟨(some 54), .bin .add (.tmp 52) (.tmp 53), none, .f⟩,
   ⟨(some 55), .fadr 18 (.tmp 13), none, .f⟩,
   ⟨(some 56), .ixa 9 1 (.tmp 55) (.tmp 54), none, .f⟩,
   ⟨none, .store 1 (.tmp 56) (.const (.int .u8 1)), none, .f⟩])
  (.reg [⟨(some 57), .fadr 4 (.tmp 9), none, .f⟩,
   ⟨(some 58), .load1 (.tmp 57), none, .f⟩,
   ⟨(some 59), .loadn 27 (.tmp 13), none, .f⟩,
   ⟨(some 60), .bslice 138 27 1 [.int .u8 0, .int .u8 0, .int .u8 0, .int .u8 0, .int .u8 0, .int .u8 0, .int .u8 0, .int .u8 0, .int .u8 0, .int .u8 0, .int .u8 0, .int .u8 0, .int .u8 0, .int .u8 0, .int .u8 0, .int .u8 0, .int .u8 0, .int .u8 0, .int .u8 0, .int .u8 0, .int .u8 0, .int .u8 0, .int .u8 0, .int .u8 0, .int .u8 0, .int .u8 0, .int .u8 0] [(0, 27, (.tmp 59))], none, .f⟩,
   ⟨(some 61), .app 138 27 27 (.tmp 58) (.tmp 60), none, .f⟩,
   ⟨(some 62), .fadr 4 (.tmp 9), none, .f⟩,
   ⟨none, .store 1 (.tmp 62) (.tmp 61), none, .f⟩]))))))
  (.reg [⟨(some 33), .mv (.tmp 12), none, .f⟩,
   ⟨(some 34), .bin .add (.tmp 33) (.const (.int .i64 1)), none, .f⟩,
   ⟨(some 12), .mv (.tmp 34), none, .f⟩])))))))
  (.reg [⟨(some 28), .mv (.tmp 11), none, .f⟩,
   ⟨(some 29), .bin .add (.tmp 28) (.const (.int .i64 1)), none, .f⟩,
   ⟨(some 11), .mv (.tmp 29), none, .f⟩])))))))
  (.reg [⟨(some 23), .mv (.tmp 10), none, .f⟩,
   ⟨(some 24), .bin .add (.tmp 23) (.const (.int .i64 1)), none, .f⟩,
   ⟨(some 10), .mv (.tmp 24), none, .f⟩]))))))
  (.seq (.reg [⟨(some 63), .loadn 5 (.tmp 9), none, .f⟩,
   ⟨none, .store 5 (.tmp 8) (.tmp 63), none, .f⟩])
  .ret))))⟩
theorem s303 : compFn Try.prog Try.f303 = some c303 := by kernel_rfl
def c305 : XFn :=
 ⟨[.celln 4 27],
  (.seq (.reg [⟨(some 3), .box 26 (.tmp 1), none, .f⟩,
   ⟨(some 4), .alloc 138 [.int .u8 0, .int .u8 0, .int .u8 0, .int .u8 0, .int .u8 0, .int .u8 0, .int .u8 0, .int .u8 0, .int .u8 0, .int .u8 0, .int .u8 0, .int .u8 0, .int .u8 0, .int .u8 0, .int .u8 0, .int .u8 0, .int .u8 0, .int .u8 0, .int .u8 0, .int .u8 0, .int .u8 0, .int .u8 0, .int .u8 0, .int .u8 0, .int .u8 0, .int .u8 0, .int .u8 0], none, .f⟩])
  (.seq (.reg [⟨(some 9), .loadn 5 (.tmp 3), none, .f⟩,
   ⟨(some 10), .call (.func 300) [(.tmp 9)], none, .f⟩,
   ⟨(some 8), .mv (.tmp 10), none, .f⟩,
   ⟨(some 11), .ext (.tmp 8) 0, none, .f⟩,
   ⟨(some 12), .ext (.tmp 8) 1, none, .f⟩,
   ⟨(some 13), .ext (.tmp 8) 2, none, .f⟩,
   ⟨(some 5), .mv (.tmp 11), none, .f⟩,
   ⟨(some 6), .mv (.tmp 12), none, .f⟩,
   ⟨(some 7), .mv (.tmp 13), none, .f⟩])
  (.seq (.reg [⟨(some 14), .mv (.tmp 0), none, .f⟩,
   ⟨(some 15), .fadr 0 (.tmp 3), none, .f⟩,
   ⟨(some 16), .load1 (.tmp 15), none, .f⟩,
   ⟨(some 17), .mv (.tmp 5), none, .f⟩,
   ⟨(some 18), .call (.func 334) [(.tmp 14), (.tmp 16), (.tmp 17)], none, (.s true [])⟩,
   ⟨(some 19), .mv (.tmp 0), none, .f⟩,
   ⟨(some 20), .fadr 0 (.tmp 3), none, .f⟩,
   ⟨(some 21), .load1 (.tmp 20), none, (.s false [(.tmp 14)])⟩,
   ⟨(some 22), .mv (.tmp 6), none, .f⟩,
   ⟨(some 23), .call (.func 334) [(.tmp 19), (.tmp 21), (.tmp 22)], none, (.s true [])⟩,
   ⟨(some 24), .mv (.tmp 0), none, .f⟩,
   ⟨(some 25), .fadr 0 (.tmp 3), none, .f⟩,
   ⟨(some 26), .load1 (.tmp 25), none, (.s false [(.tmp 14), (.tmp 19)])⟩,
   ⟨(some 27), .mv (.tmp 7), none, .f⟩,
   ⟨(some 28), .call (.func 334) [(.tmp 24), (.tmp 26), (.tmp 27)], none, .f⟩,
   ⟨(some 29), .build [.int .u8 0, .int .u8 0, .int .u8 0, .int .u8 0, .int .u8 0, .int .u8 0, .int .u8 0, .int .u8 0, .int .u8 0, .int .u8 0, .int .u8 0, .int .u8 0, .int .u8 0, .int .u8 0, .int .u8 0, .int .u8 0, .int .u8 0, .int .u8 0, .int .u8 0, .int .u8 0, .int .u8 0, .int .u8 0, .int .u8 0, .int .u8 0, .int .u8 0, .int .u8 0, .int .u8 0] [(0, 9, (.tmp 18)), (9, 9, (.tmp 23)), (18, 9, (.tmp 28))], none, .f⟩,
   ⟨none, .store 27 (.tmp 4) (.tmp 29), none, .f⟩])
  .ret)))⟩
theorem s305 : compFn Try.prog Try.f305 = some c305 := by kernel_rfl
def c311 : XFn :=
 ⟨[.tmp 4],
  (.seq (.reg [⟨(some 4), .mv (.const (.int .i64 0)), none, .f⟩])
  (.seq (.seq (.reg [⟨(some 5), .mv (.const (.int .i64 1)), none, .f⟩])
  (.blk 0 (.loop (.seq (.seq (.reg [⟨(some 6), .mv (.tmp 5), none, .f⟩,
   ⟨(some 7), .mv (.tmp 0), none, .f⟩,
   ⟨(some 8), .bin .lss (.tmp 6) (.tmp 7), none, .f⟩])
  (.cond (.tmp 8) .skip (.exit 0)))
  (.seq (.blk 1 (.seq (.reg [⟨(some 11), .mv (.tmp 5), none, .f⟩,
   ⟨(some 12), .mv (.tmp 0), none, .f⟩,
   ⟨(some 13), .mv (.tmp 1), none, .f⟩,
   ⟨(some 14), .call (.func 314) [(.tmp 12), (.tmp 13)], none, .f⟩,
   ⟨(some 15), .bin .mul (.tmp 11) (.tmp 14), none, .f⟩,
   ⟨(some 16), .mv (.tmp 0), none, .f⟩,
   ⟨(some 17), .bin .rem (.tmp 15) (.tmp 16), none, .f⟩,
   ⟨(some 18), .bin .eql (.tmp 17) (.const (.int .i64 1)), none, .f⟩])
  (.cond (.tmp 18) (.seq (.reg [⟨(some 19), .mv (.tmp 5), none, .f⟩,
   ⟨(some 4), .mv (.tmp 19), none, .f⟩])
  .ret) .skip)))
  (.reg [⟨(some 9), .mv (.tmp 5), none, .f⟩,
   ⟨(some 10), .bin .add (.tmp 9) (.const (.int .i64 1)), none, .f⟩,
   ⟨(some 5), .mv (.tmp 10), none, .f⟩]))))))
  (.seq (.reg [⟨(some 4), .mv (.const (.int .i64 0)), none, .f⟩])
  .ret)))⟩
theorem s311 : compFn Try.prog Try.f311 = some c311 := by kernel_rfl
def c312 : XFn :=
 ⟨[.tmp 4],
  (.seq (.reg [⟨(some 4), .mv (.const (.int .i64 0)), none, .f⟩])
  (.seq (.seq (.reg [⟨(some 6), .mv (.tmp 0), none, .f⟩,
   ⟨(some 7), .len (.tmp 6), none, .f⟩,
   ⟨(some 8), .mv (.const (.int .i64 0)), none, .f⟩])
  (.blk 0 (.loop (.seq (.reg [⟨(some 9), .bin .lss (.tmp 8) (.tmp 7), none, .f⟩])
  (.seq (.cond (.tmp 9) .skip (.exit 0))
  (.seq (.blk 1 (.seq (.reg [⟨(some 10), .mv (.tmp 8), none, .f⟩,
   ⟨(some 5), .mv (.tmp 10), none, .f⟩])
  (.seq (.reg [⟨(some 11), .mv (.tmp 1), none, .f⟩,
   ⟨(some 12), .mv (.tmp 0), none, .f⟩,
   ⟨(some 13), .mv (.tmp 5), none, .f⟩,
   ⟨(some 14), .ixs 1 (.tmp 12) (.tmp 13), none, .f⟩,
   ⟨(some 15), .load1 (.tmp 14), none, .f⟩,
   ⟨(some 16), .call (.tmp 11) [(.tmp 15)], none, .f⟩])
  (.cond (.tmp 16) (.seq (.reg [⟨(some 17), .mv (.tmp 5), none, .f⟩,
   ⟨(some 4), .mv (.tmp 17), none, .f⟩])
  .ret) .skip))))
  (.reg [⟨(some 18), .bin .add (.tmp 8) (.const (.int .i64 1)), none, .f⟩,
   ⟨(some 8), .mv (.tmp 18), none, .f⟩])))))))
  (.seq (.reg [⟨(some 4), .mv (.const (.int .i64 (-1))), none, .f⟩])
  .ret)))⟩
theorem s312 : compFn Try.prog Try.f312 = some c312 := by kernel_rfl
def c313 : XFn :=
 ⟨[.tmp 3],
  (.seq (.reg [⟨(some 3), .mv (.const (.bool false)), none, .f⟩])
  (.seq (.reg [⟨(some 4), .mv (.tmp 0), none, .f⟩,
   ⟨(some 5), .load1 (.tmp 1), none, .f⟩,
   ⟨(some 6), .ixs 1 (.tmp 4) (.tmp 5), none, .f⟩,
   ⟨(some 7), .load1 (.tmp 6), none, .f⟩,
   ⟨(some 8), .bin .neq (.tmp 7) (.const (.int .i64 0)), none, .f⟩,
   ⟨(some 3), .mv (.tmp 8), none, .f⟩])
  .ret))⟩
theorem s313 : compFn Try.prog Try.f313 = some c313 := by kernel_rfl
def c314 : XFn :=
 ⟨[.tmp 4],
  (.seq (.reg [⟨(some 4), .mv (.const (.int .i64 0)), none, .f⟩])
  (.seq (.reg [⟨(some 5), .mv (.tmp 1), none, .f⟩,
   ⟨(some 6), .mv (.tmp 0), none, .f⟩,
   ⟨(some 7), .bin .rem (.tmp 5) (.tmp 6), none, .f⟩,
   ⟨(some 8), .mv (.tmp 0), none, .f⟩,
   ⟨(some 9), .bin .add (.tmp 7) (.tmp 8), none, .f⟩,
   ⟨(some 10), .mv (.tmp 0), none, .f⟩,
   ⟨(some 11), .bin .rem (.tmp 9) (.tmp 10), none, .f⟩,
   ⟨(some 4), .mv (.tmp 11), none, .f⟩])
  .ret))⟩
theorem s314 : compFn Try.prog Try.f314 = some c314 := by kernel_rfl
def c315 : XFn :=
 ⟨[.tmp 2],
  (.seq (.reg [⟨(some 1), .box 36 (.tmp 0), none, .f⟩,
   ⟨(some 2), .mv (.const (.slice none 0 0)), none, .f⟩])
  (.seq (.reg [⟨(some 6), .bslice 27 1 0 [.slice none 0 0] [], none, .f⟩,
   ⟨(some 7), .fadr 2 (.tmp 1), none, .f⟩,
   ⟨(some 8), .load1 (.tmp 7), none, .f⟩,
   ⟨(some 9), .fadr 3 (.tmp 1), none, .f⟩,
   ⟨(some 10), .load1 (.tmp 9), none, .f⟩,
   ⟨(some 11), .bin .mul (.tmp 8) (.tmp 10), none, .f⟩,
   ⟨(some 3), .mv (.tmp 6), none, .f⟩,
   ⟨(some 4), .mv (.tmp 11), none, .f⟩])
  (.seq (.seq (.reg [⟨(some 5), .mv (.const (.int .i64 0)), none, .f⟩])
  (.blk 0 (.loop (.seq (.seq (.reg [⟨(some 12), .mv (.tmp 5), none, .f⟩,
   ⟨(some 13), .fadr 1 (.tmp 1), none, .f⟩,
   ⟨(some 14), .load1 (.tmp 13), none, .f⟩,
   ⟨(some 15), .bin .lss (.tmp 12) (.tmp 14), none, .f⟩])
  (.cond (.tmp 15) .skip (.exit 0)))
  (.seq (.blk 1 (.reg [⟨(some 18), .mv (.tmp 3), none, .f⟩,
   ⟨(some 19), .fadr 4 (.tmp 1), none, .f⟩,
   ⟨(some 20), .load1 (.tmp 19), none, .f⟩,
   ⟨(some 21), .mv (.tmp 5), none, .f⟩,
   ⟨(some 22), .mv (.tmp 4), none, .f⟩,
   ⟨(some 23), .bin .mul (.tmp 21) (.tmp 22), none, .f⟩,
   ⟨(some 24), .mv (.tmp 5), none, .f⟩,
   ⟨(some 25), .mv (.tmp 4), none, .f⟩,
   ⟨(some 26), .bin .mul (.tmp 24) (.tmp 25), none, .f⟩,
   ⟨(some 27), .mv (.tmp 4), none, .f⟩,
   ⟨(some 28), .bin .add (.tmp 26) (.tmp 27), none, .f⟩,
   ⟨(some 29), .slc 1 (.tmp 20) (some (.tmp 23)) (some (.tmp 28)), none, .f⟩,
   ⟨(some 30), .call (.func 264) [(.tmp 29)], none, .f⟩,
   ⟨(some 31), .bslice 27 1 1 [.slice none 0 0] [(0, 1, (.tmp 30))], none, .f⟩,
   ⟨(some 32), .app 27 1 24 (.tmp 18) (.tmp 31), none, .f⟩,
   ⟨(some 3), .mv (.tmp 32), none, .f⟩]))
  (.reg [⟨(some 16), .mv (.tmp 5), none, .f⟩,
   ⟨(some 17), .bin .add (.tmp 16) (.const (.int .i64 1)), none, .f⟩,
   ⟨(some 5), .mv (.tmp 17), none, .f⟩]))))))
  (.seq (.reg [⟨(some 33), .mv (.tmp 3), none, .f⟩,
   ⟨(some 2), .mv (.tmp 33), none, .f⟩])
  .ret))))⟩
theorem s315 : compFn Try.prog Try.f315 = some c315 := by kernel_rfl
def c320 : XFn :=
 ⟨[.celln 2 5],
  (.seq (.reg [⟨(some 2), .alloc 26 [.int .i64 0, .int .i64 0, .int .i64 0, .int .i64 0, .slice none 0 0], none, .f⟩])
  (.seq (.reg [⟨(some 4), .mv (.tmp 0), none, .f⟩,
   ⟨(some 5), .bslice 2 1 5 [.int .i64 0] [(0, 1, (.const (.int .i64 2))), (1, 1, (.const (.int .i64 2))), (2, 1, (.const (.int .i64 2))), (3, 1, (.const (.int .i64 3))), (4, 1, (.const (.int .i64 5)))], none, .f⟩,
   ⟨(some 6), .call (.func 147) [(.tmp 4), (.tmp 5)], none, .f⟩,
   ⟨(some 7), .bslice 138 27 0 [.int .u8 0, .int .u8 0, .int .u8 0, .int .u8 0, .int .u8 0, .int .u8 0, .int .u8 0, .int .u8 0, .int .u8 0, .int .u8 0, .int .u8 0, .int .u8 0, .int .u8 0, .int .u8 0, .int .u8 0, .int .u8 0, .int .u8 0, .int .u8 0, .int .u8 0, .int .u8 0, .int .u8 0, .int .u8 0, .int .u8 0, .int .u8 0, .int .u8 0, .int .u8 0, .int .u8 0] [], none, .f⟩,
   ⟨(some 8), .build [.int .i64 0, .int .i64 0, .int .i64 0, .int .i64 0, .slice none 0 0] [(0, 1, (.tmp 6)), (1, 1, (.const (.int .i64 2))), (2, 1, (.const (.int .i64 2))), (3, 1, (.const (.int .i64 2))), (4, 1, (.tmp 7))], none, .f⟩,
   ⟨(some 3), .alloc 26 [.int .i64 0, .int .i64 0, .int .i64 0, .int .i64 0, .slice none 0 0], none, .f⟩,
   ⟨none, .store 5 (.tmp 3) (.tmp 8), none, .f⟩])
  (.seq (.seq (.reg [⟨(some 9), .mv (.tmp 0), none, .f⟩,
   ⟨(some 10), .call (.func 148) [(.tmp 9), (.const (.int .i64 2))], none, .f⟩,
   ⟨(some 11), .bin .eql (.tmp 10) (.const (.int .i64 0)), none, .f⟩])
  (.cond (.tmp 11) (.seq (.reg [⟨(some 12), .mv (.tmp 0), none, .f⟩,
   ⟨(some 13), .bslice 2 1 3 [.int .i64 0] [(0, 1, (.const (.int .i64 1))), (1, 1, (.const (.int .i64 2))), (2, 1, (.const (.int .i64 3)))], none, .f⟩,
   ⟨(some 14), .call (.func 147) [(.tmp 12), (.tmp 13)], none, .f⟩,
   ⟨(some 15), .fadr 1 (.tmp 3), none, .f⟩,
   ⟨none, .store 1 (.tmp 15) (.tmp 14), none, .f⟩])
  (.seq (.reg [⟨(some 16), .mv (.tmp 0), none, .f⟩,
   ⟨(some 17), .bslice 2 1 3 [.int .i64 0] [(0, 1, (.const (.int .i64 1))), (1, 1, (.const (.int .i64 2))), (2, 1, (.const (.int .i64 3)))], none, .f⟩,
   ⟨(some 18), .call (.func 147) [(.tmp 16), (.tmp 17)], none, .f⟩,
   ⟨(some 19), .fadr 2 (.tmp 3), none, .f⟩,
   ⟨none, .store 1 (.tmp 19) (.tmp 18), none, .f⟩])
  (.reg [⟨(some 20), .mv (.tmp 0), none, .f⟩,
   ⟨(some 21), .bslice 2 1 3 [.int .i64 0] [(0, 1, (.const (.int .i64 1))), (1, 1, (.const (.int .i64 2))), (2, 1, (.const (.int .i64 3)))], none, .f⟩,
   ⟨(some 22), .call (.func 147) [(.tmp 20), (.tmp 21)], none, .f⟩,
   ⟨(some 23), .fadr 3 (.tmp 3), none, .f⟩,
   ⟨none, .store 1 (.tmp 23) (.tmp 22), none, .f⟩]))) .skip))
  (.seq (.reg [⟨(some 24), .loadn 5 (.tmp 3), none, .f⟩,
   ⟨none, .store 5 (.tmp 2) (.tmp 24), none, .f⟩])
  .ret))))⟩
theorem s320 : compFn Try.prog Try.f320 = some c320 := by kernel_rfl
def tab2 : List (Nat × XFn) := [(183, c183), (184, c184), (185, c185), (190, c190), (193, c193), (194, c194), (200, c200), (222, c222), (224, c224), (240, c240), (241, c241), (242, c242), (243, c243), (244, c244), (245, c245), (246, c246), (247, c247), (248, c248), (249, c249), (250, c250), (251, c251), (252, c252), (253, c253), (264, c264), (266, c266), (278, c278), (285, c285), (290, c290), (291, c291), (292, c292), (293, c293), (300, c300), (303, c303), (305, c305), (311, c311), (312, c312), (313, c313), (314, c314), (315, c315), (320, c320)]
theorem ts2 : TSound Try.prog (fun g => tab2.lookup g) := by
  refine tsound_of_all (P := Try.prog) (tab := tab2) ?_
  intro p hp
  simp only [tab2, List.mem_cons, List.not_mem_nil, or_false] at hp
  rcases hp with rfl | rfl | rfl | rfl | rfl | rfl | rfl | rfl | rfl | rfl | rfl | rfl | rfl | rfl | rfl | rfl | rfl | rfl | rfl | rfl | rfl | rfl | rfl | rfl | rfl | rfl | rfl | rfl | rfl | rfl | rfl | rfl | rfl | rfl | rfl | rfl | rfl | rfl | rfl | rfl
  · exact ⟨_, Try.func183, s183⟩
  · exact ⟨_, Try.func184, s184⟩
  · exact ⟨_, Try.func185, s185⟩
  · exact ⟨_, Try.func190, s190⟩
  · exact ⟨_, Try.func193, s193⟩
  · exact ⟨_, Try.func194, s194⟩
  · exact ⟨_, Try.func200, s200⟩
  · exact ⟨_, Try.func222, s222⟩
  · exact ⟨_, Try.func224, s224⟩
  · exact ⟨_, Try.func240, s240⟩
  · exact ⟨_, Try.func241, s241⟩
  · exact ⟨_, Try.func242, s242⟩
  · exact ⟨_, Try.func243, s243⟩
  · exact ⟨_, Try.func244, s244⟩
  · exact ⟨_, Try.func245, s245⟩
  · exact ⟨_, Try.func246, s246⟩
  · exact ⟨_, Try.func247, s247⟩
  · exact ⟨_, Try.func248, s248⟩
  · exact ⟨_, Try.func249, s249⟩
  · exact ⟨_, Try.func250, s250⟩
  · exact ⟨_, Try.func251, s251⟩
  · exact ⟨_, Try.func252, s252⟩
  · exact ⟨_, Try.func253, s253⟩
  · exact ⟨_, Try.func264, s264⟩
  · exact ⟨_, Try.func266, s266⟩
  · exact ⟨_, Try.func278, s278⟩
  · exact ⟨_, Try.func285, s285⟩
  · exact ⟨_, Try.func290, s290⟩
  · exact ⟨_, Try.func291, s291⟩
  · exact ⟨_, Try.func292, s292⟩
  · exact ⟨_, Try.func293, s293⟩
  · exact ⟨_, Try.func300, s300⟩
  · exact ⟨_, Try.func303, s303⟩
  · exact ⟨_, Try.func305, s305⟩
  · exact ⟨_, Try.func311, s311⟩
  · exact ⟨_, Try.func312, s312⟩
  · exact ⟨_, Try.func313, s313⟩
  · exact ⟨_, Try.func314, s314⟩
  · exact ⟨_, Try.func315, s315⟩
  · exact ⟨_, Try.func320, s320⟩
end Go.Proofs.Ytapafdpnmakekaa.X
