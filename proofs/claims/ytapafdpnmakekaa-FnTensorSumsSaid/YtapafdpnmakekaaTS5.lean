/- Texts of one claim, put together by merge.py: XCode2. -/
import Derived.Test.YtapafdpnmakekaaTS3
import Derived.Test.YtapafdpnmakekaaProg
/- Part of the abstract code of the seat's functions, printed by a program of this session, and that it is what the compiler of XComp makes. -/
set_option linter.unusedVariables false
set_option maxRecDepth 4000
namespace Go.Proofs.Ytapafdpnmakekaa.X
open Go Go.RowKit

/-- loop.example/g01262/impl.DirectSum$1 -/
def c188 : XFn :=
 ⟨[.tmp 8],
  (.seq (.reg [⟨(some 8), .mv (.const (.int .i64 0)), none, .f⟩])
  (.seq (.blk 0 (.seq (.reg [⟨(some 10), .mv (.tmp 0), none, .f⟩,
   ⟨(some 11), .fadr 1 (.tmp 3), none, .f⟩,
   ⟨(some 12), .load1 (.tmp 11), none, .f⟩,
   ⟨(some 13), .bin .lss (.tmp 10) (.tmp 12), none, .f⟩,
   ⟨(some 14), .mv (.tmp 13), none, .f⟩,
   ⟨(some 15), .mv (.tmp 1), (some (14, true)), .f⟩,
   ⟨(some 16), .fadr 2 (.tmp 3), (some (14, true)), .f⟩,
   ⟨(some 17), .load1 (.tmp 16), (some (14, true)), .f⟩,
   ⟨(some 18), .bin .lss (.tmp 15) (.tmp 17), (some (14, true)), .f⟩,
   ⟨(some 19), .pick (.tmp 14) (.tmp 18) (.const (.bool false)), none, .f⟩,
   ⟨(some 20), .mv (.tmp 19), none, .f⟩,
   ⟨(some 21), .mv (.tmp 2), (some (20, true)), .f⟩,
   ⟨(some 22), .fadr 3 (.tmp 3), (some (20, true)), .f⟩,
   ⟨(some 23), .load1 (.tmp 22), (some (20, true)), .f⟩,
   ⟨(some 24), .bin .lss (.tmp 21) (.tmp 23), (some (20, true)), .f⟩,
   ⟨(some 25), .pick (.tmp 20) (.tmp 24) (.const (.bool false)), none, .f⟩,
   ⟨(some 9), .mv (.tmp 25), none, .f⟩])
  (.cond (.tmp 9) (.seq (.reg [⟨(some 26), .loadn 5 (.tmp 3), none, .f⟩,
   ⟨(some 27), .mv (.tmp 0), none, .f⟩,
   ⟨(some 28), .mv (.tmp 1), none, .f⟩,
   ⟨(some 29), .mv (.tmp 2), none, .f⟩,
   ⟨(some 30), .call (.func 180) [(.tmp 26), (.tmp 27), (.tmp 28), (.tmp 29)], none, .f⟩,
   ⟨(some 8), .mv (.tmp 30), none, .f⟩])
  .ret) (.seq (.reg [⟨(some 32), .mv (.tmp 0), none, .f⟩,
   ⟨(some 33), .fadr 1 (.tmp 3), none, .f⟩,
   ⟨(some 34), .load1 (.tmp 33), none, .f⟩,
   ⟨(some 35), .bin .geq (.tmp 32) (.tmp 34), none, .f⟩,
   ⟨(some 36), .mv (.tmp 35), none, .f⟩,
   ⟨(some 37), .mv (.tmp 1), (some (36, true)), .f⟩,
   ⟨(some 38), .fadr 2 (.tmp 3), (some (36, true)), .f⟩,
   ⟨(some 39), .load1 (.tmp 38), (some (36, true)), .f⟩,
   ⟨(some 40), .bin .geq (.tmp 37) (.tmp 39), (some (36, true)), .f⟩,
   ⟨(some 41), .pick (.tmp 36) (.tmp 40) (.const (.bool false)), none, .f⟩,
   ⟨(some 42), .mv (.tmp 41), none, .f⟩,
   ⟨(some 43), .mv (.tmp 2), (some (42, true)), .f⟩,
   ⟨(some 44), .fadr 3 (.tmp 3), (some (42, true)), .f⟩,
   ⟨(some 45), .load1 (.tmp 44), (some (42, true)), .f⟩,
   ⟨(some 46), .bin .geq (.tmp 43) (.tmp 45), (some (42, true)), .f⟩,
   ⟨(some 47), .pick (.tmp 42) (.tmp 46) (.const (.bool false)), none, .f⟩,
   ⟨(some 31), .mv (.tmp 47), none, .f⟩])
  (.cond (.tmp 31) (.seq (.reg [⟨(some 48), .loadn 5 (.tmp 4), none, .f⟩,
   ⟨(some 49), .mv (.tmp 0), none, .f⟩,
   ⟨(some 50), .fadr 1 (.tmp 3), none, .f⟩,
   ⟨(some 51), .load1 (.tmp 50), none, .f⟩,
   ⟨(some 52), .bin .sub (.tmp 49) (.tmp 51), none, .f⟩,
   ⟨(some 53), .mv (.tmp 1), none, .f⟩,
   ⟨(some 54), .fadr 2 (.tmp 3), none, .f⟩,
   ⟨(some 55), .load1 (.tmp 54), none, .f⟩,
   ⟨(some 56), .bin .sub (.tmp 53) (.tmp 55), none, .f⟩,
   ⟨(some 57), .mv (.tmp 2), none, .f⟩,
   ⟨(some 58), .fadr 3 (.tmp 3), none, .f⟩,
   ⟨(some 59), .load1 (.tmp 58), none, .f⟩,
   ⟨(some 60), .bin .sub (.tmp 57) (.tmp 59), none, .f⟩,
   ⟨(some 61), .call (.func 180) [(.tmp 48), (.tmp 52), (.tmp 56), (.tmp 60)], none, .f⟩,
   ⟨(some 8), .mv (.tmp 61), none, .f⟩])
  .ret) .skip)))))
  (.seq (.reg [⟨(some 8), .mv (.const (.int .i64 0)), none, .f⟩])
  .ret)))⟩

theorem s188 : compFn Try.prog Try.f188 = some c188 := by kernel_rfl

/-- loop.example/g01262/spec.l05Two -/
def c189 : XFn :=
 ⟨[.tmp 4],
  (.seq (.reg [⟨(some 2), .box 36 (.tmp 0), none, .f⟩,
   ⟨(some 3), .box 36 (.tmp 1), none, .f⟩,
   ⟨(some 4), .mv (.const (.int .i64 0)), none, .f⟩])
  (.seq (.blk 0 (.seq (.reg [⟨(some 6), .loadn 5 (.tmp 2), none, .f⟩,
   ⟨(some 7), .call (.func 173) [(.tmp 6)], none, .f⟩,
   ⟨(some 8), .un .not (.tmp 7), none, .f⟩,
   ⟨(some 9), .mv (.tmp 8), none, .f⟩,
   ⟨(some 10), .loadn 5 (.tmp 3), (some (9, false)), .f⟩,
   ⟨(some 11), .call (.func 173) [(.tmp 10)], (some (9, false)), .f⟩,
   ⟨(some 12), .un .not (.tmp 11), (some (9, false)), .f⟩,
   ⟨(some 13), .pick (.tmp 9) (.const (.bool true)) (.tmp 12), none, .f⟩,
   ⟨(some 5), .mv (.tmp 13), none, .f⟩])
  (.cond (.tmp 5) (.seq (.reg [⟨(some 4), .mv (.const (.int .i64 1)), none, .f⟩])
  .ret) (.seq (.reg [⟨(some 15), .fadr 0 (.tmp 2), none, .f⟩,
   ⟨(some 16), .load1 (.tmp 15), none, .f⟩,
   ⟨(some 17), .fadr 0 (.tmp 3), none, .f⟩,
   ⟨(some 18), .load1 (.tmp 17), none, .f⟩,
   ⟨(some 19), .bin .neq (.tmp 16) (.tmp 18), none, .f⟩,
   ⟨(some 14), .mv (.tmp 19), none, .f⟩])
  (.cond (.tmp 14) (.seq (.reg [⟨(some 4), .mv (.const (.int .i64 2)), none, .f⟩])
  .ret) .skip)))))
  (.seq (.reg [⟨(some 4), .mv (.const (.int .i64 0)), none, .f⟩])
  .ret)))⟩

theorem s189 : compFn Try.prog Try.f189 = some c189 := by kernel_rfl

/-- loop.example/g01262/spec.l05At -/
def c190 : XFn :=
 ⟨[.tmp 8],
  (.seq (.reg [⟨(some 4), .box 36 (.tmp 0), none, .f⟩,
   ⟨(some 8), .mv (.const (.int .i64 0)), none, .f⟩])
  (.seq (.reg [⟨(some 9), .fadr 4 (.tmp 4), none, .f⟩,
   ⟨(some 10), .load1 (.tmp 9), none, .f⟩,
   ⟨(some 11), .mv (.tmp 1), none, .f⟩,
   ⟨(some 12), .fadr 2 (.tmp 4), none, .f⟩,
   ⟨(some 13), .load1 (.tmp 12), none, .f⟩,
   ⟨(some 14), .bin .mul (.tmp 11) (.tmp 13), none, .f⟩,
   ⟨(some 15), .mv (.tmp 2), none, .f⟩,
   ⟨(some 16), .bin .add (.tmp 14) (.tmp 15), none, .f⟩,
   ⟨(some 17), .fadr 3 (.tmp 4), none, .f⟩,
   ⟨(some 18), .load1 (.tmp 17), none, .f⟩,
   ⟨(some 19), .bin .mul (.tmp 16) (.tmp 18), none, .f⟩,
   ⟨(some 20), .mv (.tmp 3), none, .f⟩,
   ⟨(some 21), .bin .add (.tmp 19) (.tmp 20), none, .f⟩,
   ⟨(some 22), .ixs 1 (.tmp 10) (.tmp 21), none, .f⟩,
   ⟨(some 23), .load1 (.tmp 22), none, .f⟩,
   ⟨(some 8), .mv (.tmp 23), none, .f⟩])
  .ret))⟩

theorem s190 : compFn Try.prog Try.f190 = some c190 := by kernel_rfl

/-- loop.example/g01262/impl.KroneckerTensors$1 -/
def c191 : XFn :=
 ⟨[.tmp 8],
  (.seq (.reg [⟨(some 8), .mv (.const (.int .i64 0)), none, .f⟩])
  (.seq (.reg [⟨(some 9), .loadn 5 (.tmp 3), none, .f⟩,
   ⟨(some 10), .mv (.tmp 0), none, .f⟩,
   ⟨(some 11), .fadr 1 (.tmp 4), none, .f⟩,
   ⟨(some 12), .load1 (.tmp 11), none, .f⟩,
   ⟨(some 13), .bin .quo (.tmp 10) (.tmp 12), none, .f⟩,
   ⟨(some 14), .mv (.tmp 1), none, .f⟩,
   ⟨(some 15), .fadr 2 (.tmp 4), none, .f⟩,
   ⟨(some 16), .load1 (.tmp 15), none, .f⟩,
   ⟨(some 17), .bin .quo (.tmp 14) (.tmp 16), none, .f⟩,
   ⟨(some 18), .mv (.tmp 2), none, .f⟩,
   ⟨(some 19), .fadr 3 (.tmp 4), none, .f⟩,
   ⟨(some 20), .load1 (.tmp 19), none, .f⟩,
   ⟨(some 21), .bin .quo (.tmp 18) (.tmp 20), none, .f⟩,
   ⟨(some 22), .call (.func 180) [(.tmp 9), (.tmp 13), (.tmp 17), (.tmp 21)], none, .t⟩,
   ⟨(some 23), .loadn 5 (.tmp 4), none, .f⟩,
   ⟨(some 24), .mv (.tmp 0), none, .f⟩,
   ⟨(some 25), .fadr 1 (.tmp 4), none, .f⟩,
   ⟨(some 26), .load1 (.tmp 25), none, .f⟩,
   ⟨(some 27), .bin .rem (.tmp 24) (.tmp 26), none, .f⟩,
   ⟨(some 28), .mv (.tmp 1), none, .f⟩,
   ⟨(some 29), .fadr 2 (.tmp 4), none, .f⟩,
   ⟨(some 30), .load1 (.tmp 29), none, .f⟩,
   ⟨(some 31), .bin .rem (.tmp 28) (.tmp 30), none, .f⟩,
   ⟨(some 32), .mv (.tmp 2), none, .f⟩,
   ⟨(some 33), .fadr 3 (.tmp 4), none, .f⟩,
   ⟨(some 34), .load1 (.tmp 33), none, .f⟩,
   ⟨(some 35), .bin .rem (.tmp 32) (.tmp 34), none, .f⟩,
   ⟨(some 36), .call (.func 180) [(.tmp 23), (.tmp 27), (.tmp 31), (.tmp 35)], none, .f⟩,
   ⟨(some 37), .bin .mul (.tmp 22) (.tmp 36), none, .f⟩,
   ⟨(some 8), .mv (.tmp 37), none, .f⟩])
  .ret))⟩

theorem s191 : compFn Try.prog Try.f191 = some c191 := by kernel_rfl

/-- loop.example/g01262/spec.l05Kronecker -/
def c192 : XFn :=
 ⟨[.celln 4 5],
  (.seq (.reg [⟨(some 2), .box 36 (.tmp 0), none, .f⟩,
   ⟨(some 3), .box 36 (.tmp 1), none, .f⟩,
   ⟨(some 4), .alloc 36 [.int .i64 0, .int .i64 0, .int .i64 0, .int .i64 0, .slice none 0 0], none, .f⟩])
  (.seq (.reg [⟨(some 9), .fadr 0 (.tmp 2), none, .f⟩,
   ⟨(some 10), .load1 (.tmp 9), none, .f⟩,
   ⟨(some 11), .fadr 1 (.tmp 2), none, .f⟩,
   ⟨(some 12), .load1 (.tmp 11), none, .f⟩,
   ⟨(some 13), .fadr 1 (.tmp 3), none, .f⟩,
   ⟨(some 14), .load1 (.tmp 13), none, .f⟩,
   ⟨(some 15), .bin .mul (.tmp 12) (.tmp 14), none, .f⟩,
   ⟨(some 16), .fadr 2 (.tmp 2), none, .f⟩,
   ⟨(some 17), .load1 (.tmp 16), none, .f⟩,
   ⟨(some 18), .fadr 2 (.tmp 3), none, .f⟩,
   ⟨(some 19), .load1 (.tmp 18), none, .f⟩,
   ⟨(some 20), .bin .mul (.tmp 17) (.tmp 19), none, .f⟩,
   ⟨(some 21), .fadr 3 (.tmp 2), none, .f⟩,
   ⟨(some 22), .load1 (.tmp 21), none, .f⟩,
   ⟨(some 23), .fadr 3 (.tmp 3), none, .f⟩,
   ⟨(some 24), .load1 (.tmp 23), none, .f⟩,
   ⟨(some 25), .bin .mul (.tmp 22) (.tmp 24), none, .f⟩,
   ⟨(some 26), .call (.func 182) [(.tmp 10), (.tmp 15), (.tmp 20), (.tmp 25)], none, .f⟩,
   ⟨(some 5), .alloc 36 [.int .i64 0, .int .i64 0, .int .i64 0, .int .i64 0, .slice none 0 0], none, .f⟩,
   ⟨none, .store 5 (.tmp 5) (.tmp 26), none, .f⟩])
  (.seq (.seq (.reg [⟨(some 6), .mv (.const (.int .i64 0)), none, .f⟩])
  (.blk 0 (.loop (.seq (.seq (.reg [⟨(some 27), .mv (.tmp 6), none, .f⟩,
   ⟨(some 28), .fadr 1 (.tmp 5), none, .f⟩,
   ⟨(some 29), .load1 (.tmp 28), none, .f⟩,
   ⟨(some 30), .bin .lss (.tmp 27) (.tmp 29), none, .f⟩])
  (.cond (.tmp 30) .skip (.exit 0)))
  (.seq (.blk 1 (.seq (.reg [⟨(some 7), .mv (.const (.int .i64 0)), none, .f⟩])
  (.blk 2 (.loop (.seq (.seq (.reg [⟨(some 33), .mv (.tmp 7), none, .f⟩,
   ⟨(some 34), .fadr 2 (.tmp 5), none, .f⟩,
   ⟨(some 35), .load1 (.tmp 34), none, .f⟩,
   ⟨(some 36), .bin .lss (.tmp 33) (.tmp 35), none, .f⟩])
  (.cond (.tmp 36) .skip (.exit 2)))
  (.seq (.blk 3 (.seq (.reg [⟨(some 8), .mv (.const (.int .i64 0)), none, .f⟩])
  (.blk 4 (.loop (.seq (.seq (.reg [⟨(some 39), .mv (.tmp 8), none, .f⟩,
   ⟨(some 40), .fadr 3 (.tmp 5), none, .f⟩,
   ⟨(some 41), .load1 (.tmp 40), none, .f⟩,
   ⟨(some 42), .bin .lss (.tmp 39) (.tmp 41), none, .f⟩])
  (.cond (.tmp 42) .skip (.exit 4)))
  (.seq (.blk 5 (.reg [⟨(some 45), .fadr 4 (.tmp 5), none, .f⟩,
   ⟨(some 46), .load1 (.tmp 45), none, .f⟩,
   ⟨(some 47), .mv (.tmp 6), none, .f⟩,
   ⟨(some 48), .fadr 2 (.tmp 5), none, .f⟩,
   ⟨(some 49), .load1 (.tmp 48), none, .f⟩,
   ⟨(some 50), .bin .mul (.tmp 47) (.tmp 49), none, .f⟩,
   ⟨(some 51), .mv (.tmp 7), none, .f⟩,
   ⟨(some 52), .bin .add (.tmp 50) (.tmp 51), none, .f⟩,
   ⟨(some 53), .fadr 3 (.tmp 5), none, .f⟩,
   ⟨(some 54), .load1 (.tmp 53), none, .f⟩,
   ⟨(some 55), .bin .mul (.tmp 52) (.tmp 54), none, .f⟩,
   ⟨(some 56), .mv (.tmp 8), none, .f⟩,
   ⟨(some 57), .bin .add (.tmp 55) (.tmp 56), none, .f⟩,
   ⟨(some 58), .loadn 5 (.tmp 2), none, .f⟩,
   ⟨(some 59), .mv (.tmp 6), none, .f⟩,
   ⟨(some 60), .fadr 1 (.tmp 3), none, .f⟩,
   ⟨(some 61), .load1 (.tmp 60), none, .f⟩,
   ⟨(some 62), .bin .quo (.tmp 59) (.tmp 61), none, .f⟩,
   ⟨(some 63), .mv (.tmp 7), none, .f⟩,
   ⟨(some 64), .fadr 2 (.tmp 3), none, .f⟩,
   ⟨(some 65), .load1 (.tmp 64), none, .f⟩,
   ⟨(some 66), .bin .quo (.tmp 63) (.tmp 65), none, .f⟩,
   ⟨(some 67), .mv (.tmp 8), none, .f⟩,
   ⟨(some 68), .fadr 3 (.tmp 3), none, .f⟩,
   ⟨(some 69), .load1 (.tmp 68), none, .f⟩,
   ⟨(some 70), .bin .quo (.tmp 67) (.tmp 69), none, .f⟩,
   ⟨(some 71), .call (.func 190) [(.tmp 58), (.tmp 62), (.tmp 66), (.tmp 70)], none, .t⟩,
   ⟨(some 72), .loadn 5 (.tmp 3), none, .f⟩,
   ⟨(some 73), .mv (.tmp 6), none, .f⟩,
   ⟨(some 74), .fadr 1 (.tmp 3), none, .f⟩,
   ⟨(some 75), .load1 (.tmp 74), none, .f⟩,
   ⟨(some 76), .bin .rem (.tmp 73) (.tmp 75), none, .f⟩,
   ⟨(some 77), .mv (.tmp 7), none, .f⟩,
   ⟨(some 78), .fadr 2 (.tmp 3), none, .f⟩,
   ⟨(some 79), .load1 (.tmp 78), none, .f⟩,
   ⟨(some 80), .bin .rem (.tmp 77) (.tmp 79), none, .f⟩,
   ⟨(some 81), .mv (.tmp 8), none, .f⟩,
   ⟨(some 82), .fadr 3 (.tmp 3), none, .f⟩,
   ⟨(some 83), .load1 (.tmp 82), none, .f⟩,
   ⟨(some 84), .bin .rem (.tmp 81) (.tmp 83), none, .f⟩,
   ⟨(some 85), .call (.func 190) [(.tmp 72), (.tmp 76), (.tmp 80), (.tmp 84)], none, .t⟩,
   ⟨(some 86), .bin .mul (.tmp 71) (.tmp 85), none, .f⟩,
   ⟨(some 87), .fadr 0 (.tmp 2), none, .f⟩,
   ⟨(some 88), .load1 (.tmp 87), none, .f⟩,
   ⟨(some 89), .bin .rem (.tmp 86) (.tmp 88), none, .f⟩,
   ⟨(some 90), .ixs 1 (.tmp 46) (.tmp 57), none, .f⟩,
   ⟨none, .store 1 (.tmp 90) (.tmp 89), none, .f⟩]))
  (.reg [⟨(some 43), .mv (.tmp 8), none, .f⟩,
   ⟨(some 44), .bin .add (.tmp 43) (.const (.int .i64 1)), none, .f⟩,
   ⟨(some 8), .mv (.tmp 44), none, .f⟩])))))))
  (.reg [⟨(some 37), .mv (.tmp 7), none, .f⟩,
   ⟨(some 38), .bin .add (.tmp 37) (.const (.int .i64 1)), none, .f⟩,
   ⟨(some 7), .mv (.tmp 38), none, .f⟩])))))))
  (.reg [⟨(some 31), .mv (.tmp 6), none, .f⟩,
   ⟨(some 32), .bin .add (.tmp 31) (.const (.int .i64 1)), none, .f⟩,
   ⟨(some 6), .mv (.tmp 32), none, .f⟩]))))))
  (.seq (.reg [⟨(some 91), .loadn 5 (.tmp 5), none, .f⟩,
   ⟨none, .store 5 (.tmp 4) (.tmp 91), none, .f⟩])
  .ret))))⟩

theorem s192 : compFn Try.prog Try.f192 = some c192 := by kernel_rfl

/-- loop.example/g01262/impl.turn -/
def c193 : XFn :=
 ⟨[.celln 2 5],
  (.seq (.reg [⟨(some 1), .box 36 (.tmp 0), none, .f⟩,
   ⟨(some 2), .alloc 36 [.int .i64 0, .int .i64 0, .int .i64 0, .int .i64 0, .slice none 0 0], none, .f⟩])
  (.seq (.reg [⟨(some 3), .fadr 0 (.tmp 1), none, .f⟩,
   ⟨(some 4), .load1 (.tmp 3), none, .f⟩,
   ⟨(some 5), .fadr 2 (.tmp 1), none, .f⟩,
   ⟨(some 6), .load1 (.tmp 5), none, .f⟩,
   ⟨(some 7), .fadr 3 (.tmp 1), none, .f⟩,
   ⟨(some 8), .load1 (.tmp 7), none, .f⟩,
   ⟨(some 9), .fadr 1 (.tmp 1), none, .f⟩,
   ⟨(some 10), .load1 (.tmp 9), none, .f⟩,
   ⟨(some 11), .mkf 293 [(.tmp 1)], none, .f⟩,
   ⟨(some 12), .call (.func 178) [(.tmp 4), (.tmp 6), (.tmp 8), (.tmp 10), (.tmp 11)], none, .f⟩,
   ⟨none, .store 5 (.tmp 2) (.tmp 12), none, .f⟩])
  .ret))⟩

theorem s193 : compFn Try.prog Try.f193 = some c193 := by kernel_rfl

/-- loop.example/g01262/spec.l05Turn -/
def c194 : XFn :=
 ⟨[.celln 2 5],
  (.seq (.reg [⟨(some 1), .box 36 (.tmp 0), none, .f⟩,
   ⟨(some 2), .alloc 36 [.int .i64 0, .int .i64 0, .int .i64 0, .int .i64 0, .slice none 0 0], none, .f⟩])
  (.seq (.reg [⟨(some 7), .fadr 0 (.tmp 1), none, .f⟩,
   ⟨(some 8), .load1 (.tmp 7), none, .f⟩,
   ⟨(some 9), .fadr 2 (.tmp 1), none, .f⟩,
   ⟨(some 10), .load1 (.tmp 9), none, .f⟩,
   ⟨(some 11), .fadr 3 (.tmp 1), none, .f⟩,
   ⟨(some 12), .load1 (.tmp 11), none, .f⟩,
   ⟨(some 13), .fadr 1 (.tmp 1), none, .f⟩,
   ⟨(some 14), .load1 (.tmp 13), none, .f⟩,
   ⟨(some 15), .call (.func 182) [(.tmp 8), (.tmp 10), (.tmp 12), (.tmp 14)], none, .f⟩,
   ⟨(some 3), .alloc 36 [.int .i64 0, .int .i64 0, .int .i64 0, .int .i64 0, .slice none 0 0], none, .f⟩,
   ⟨none, .store 5 (.tmp 3) (.tmp 15), none, .f⟩])
  (.seq (.seq (.reg [⟨(some 4), .mv (.const (.int .i64 0)), none, .f⟩])
  (.blk 0 (.loop (.seq (.seq (.reg [⟨(some 16), .mv (.tmp 4), none, .f⟩,
   ⟨(some 17), .fadr 1 (.tmp 1), none, .f⟩,
   ⟨(some 18), .load1 (.tmp 17), none, .f⟩,
   ⟨(some 19), .bin .lss (.tmp 16) (.tmp 18), none, .f⟩])
  (.cond (.tmp 19) .skip (.exit 0)))
  (.seq (.blk 1 (.seq (.reg [⟨(some 5), .mv (.const (.int .i64 0)), none, .f⟩])
  (.blk 2 (.loop (.seq (.seq (.reg [⟨(some 22), .mv (.tmp 5), none, .f⟩,
   ⟨(some 23), .fadr 2 (.tmp 1), none, .f⟩,
   ⟨(some 24), .load1 (.tmp 23), none, .f⟩,
   ⟨(some 25), .bin .lss (.tmp 22) (.tmp 24), none, .f⟩])
  (.cond (.tmp 25) .skip (.exit 2)))
  (.seq (.blk 3 (.seq (.reg [⟨(some 6), .mv (.const (.int .i64 0)), none, .f⟩])
  (.blk 4 (.loop (.seq (.seq (.reg [⟨(some 28), .mv (.tmp 6), none, .f⟩,
   ⟨(some 29), .fadr 3 (.tmp 1), none, .f⟩,
   ⟨(some 30), .load1 (.tmp 29), none, .f⟩,
   ⟨(some 31), .bin .lss (.tmp 28) (.tmp 30), none, .f⟩])
  (.cond (.tmp 31) .skip (.exit 4)))
  (.seq (.blk 5 (.reg [⟨(some 34), .fadr 4 (.tmp 3), none, .f⟩,
   ⟨(some 35), .load1 (.tmp 34), none, .f⟩,
   ⟨(some 36), .mv (.tmp 5), none, .f⟩,
   ⟨(some 37), .fadr 3 (.tmp 1), none, .f⟩,
   ⟨(some 38), .load1 (.tmp 37), none, .f⟩,
   ⟨(some 39), .bin .mul (.tmp 36) (.tmp 38), none, .f⟩,
   ⟨(some 40), .mv (.tmp 6), none, .f⟩,
   ⟨(some 41), .bin .add (.tmp 39) (.tmp 40), none, .f⟩,
   ⟨(some 42), .fadr 1 (.tmp 1), none, .f⟩,
   ⟨(some 43), .load1 (.tmp 42), none, .f⟩,
   ⟨(some 44), .bin .mul (.tmp 41) (.tmp 43), none, .f⟩,
   ⟨(some 45), .mv (.tmp 4), none, .f⟩,
   ⟨(some 46), .bin .add (.tmp 44) (.tmp 45), none, .f⟩,
   ⟨(some 47), .loadn 5 (.tmp 1), none, .f⟩,
   ⟨(some 48), .mv (.tmp 4), none, .f⟩,
   ⟨(some 49), .mv (.tmp 5), none, .f⟩,
   ⟨(some 50), .mv (.tmp 6), none, .f⟩,
   ⟨(some 51), .call (.func 190) [(.tmp 47), (.tmp 48), (.tmp 49), (.tmp 50)], none, .t⟩,
   ⟨(some 52), .ixs 1 (.tmp 35) (.tmp 46), none, .f⟩,
   ⟨none, .store 1 (.tmp 52) (.tmp 51), none, .f⟩]))
  (.reg [⟨(some 32), .mv (.tmp 6), none, .f⟩,
   ⟨(some 33), .bin .add (.tmp 32) (.const (.int .i64 1)), none, .f⟩,
   ⟨(some 6), .mv (.tmp 33), none, .f⟩])))))))
  (.reg [⟨(some 26), .mv (.tmp 5), none, .f⟩,
   ⟨(some 27), .bin .add (.tmp 26) (.const (.int .i64 1)), none, .f⟩,
   ⟨(some 5), .mv (.tmp 27), none, .f⟩])))))))
  (.reg [⟨(some 20), .mv (.tmp 4), none, .f⟩,
   ⟨(some 21), .bin .add (.tmp 20) (.const (.int .i64 1)), none, .f⟩,
   ⟨(some 4), .mv (.tmp 21), none, .f⟩]))))))
  (.seq (.reg [⟨(some 53), .loadn 5 (.tmp 3), none, .f⟩,
   ⟨none, .store 5 (.tmp 2) (.tmp 53), none, .f⟩])
  .ret))))⟩

theorem s194 : compFn Try.prog Try.f194 = some c194 := by kernel_rfl

/-- loop.example/g01262/spec.l01Sum -/
def c222 : XFn :=
 ⟨[.tmp 8],
  (.seq (.reg [⟨(some 4), .box 26 (.tmp 0), none, .f⟩,
   ⟨(some 8), .mv (.const (.int .i64 0)), none, .f⟩])
  (.seq (.reg [⟨(some 9), .mv (.const (.int .i64 0)), none, .f⟩])
  (.seq (.seq (.reg [⟨(some 10), .mv (.const (.int .i64 0)), none, .f⟩])
  (.blk 0 (.loop (.seq (.seq (.reg [⟨(some 12), .mv (.tmp 10), none, .f⟩,
   ⟨(some 13), .fadr 4 (.tmp 4), none, .f⟩,
   ⟨(some 14), .load1 (.tmp 13), none, .f⟩,
   ⟨(some 15), .len (.tmp 14), none, .f⟩,
   ⟨(some 16), .bin .lss (.tmp 12) (.tmp 15), none, .f⟩])
  (.cond (.tmp 16) .skip (.exit 0)))
  (.seq (.blk 1 (.seq (.reg [⟨(some 19), .fadr 4 (.tmp 4), none, .f⟩,
   ⟨(some 20), .load1 (.tmp 19), none, .f⟩,
   ⟨(some 21), .mv (.tmp 10), none, .f⟩,
   ⟨(some 22), .ixs 27 (.tmp 20) (.tmp 21), none, .f⟩,
   ⟨(some 23), .loadn 27 (.tmp 22), none, .f⟩,
   ⟨(some 11), .alloc 138 [.int .u8 0, .int .u8 0, .int .u8 0, .int .u8 0, .int .u8 0, .int .u8 0, .int .u8 0, .int .u8 0, .int .u8 0, .int .u8 0, .int .u8 0, .int .u8 0, .int .u8 0, .int .u8 0, .int .u8 0, .int .u8 0, .int .u8 0, .int .u8 0, .int .u8 0, .int .u8 0, .int .u8 0, .int .u8 0, .int .u8 0, .int .u8 0, .int .u8 0, .int .u8 0, .int .u8 0], none, .f⟩,
   ⟨none, .store 27 (.tmp 11) (.tmp 23), none, .f⟩])
  (.reg [⟨(some 24), .mv (.tmp 9), none, .f⟩,
   ⟨(some 25), .mv (.tmp 1), none, .f⟩,
   ⟨(some 26), .fadr 0 (.tmp 11), none, .f⟩,
   ⟨(some 27), .ixa 9 1 (.tmp 26) (.tmp 25), none, .f⟩,
   ⟨(some 28), .load1 (.tmp 27), none, .f⟩,
   ⟨(some 29), .conv .i64 (.tmp 28), none, .f⟩,
   ⟨(some 30), .mv (.tmp 2), none, .f⟩,
   ⟨(some 31), .fadr 9 (.tmp 11), none, .f⟩,
   ⟨(some 32), .ixa 9 1 (.tmp 31) (.tmp 30), none, .f⟩,
   ⟨(some 33), .load1 (.tmp 32), none, .f⟩,
   ⟨(some 34), .conv .i64 (.tmp 33), none, .f⟩,
   ⟨(some 35), .bin .mul (.tmp 29) (.tmp 34), none, .f⟩,
   ⟨(some 36), .mv (.tmp 3), none, .f⟩,
   ⟨(some 37), .fadr 18 (.tmp 11), none, .f⟩,
   ⟨(some 38), .ixa 9 1 (.tmp 37) (.tmp 36), none, .f⟩,
   ⟨(some 39), .load1 (.tmp 38), none, .f⟩,
   ⟨(some 40), .conv .i64 (.tmp 39), none, .f⟩,
   ⟨(some 41), .bin .mul (.tmp 35) (.tmp 40), none, .f⟩,
   ⟨(some 42), .bin .add (.tmp 24) (.tmp 41), none, .f⟩,
   ⟨(some 9), .mv (.tmp 42), none, .f⟩])))
  (.reg [⟨(some 17), .mv (.tmp 10), none, .f⟩,
   ⟨(some 18), .bin .add (.tmp 17) (.const (.int .i64 1)), none, .f⟩,
   ⟨(some 10), .mv (.tmp 18), none, .f⟩]))))))
  (.seq (.reg [⟨(some 43), .mv (.tmp 9), none, .f⟩,
   ⟨(some 44), .fadr 0 (.tmp 4), none, .f⟩,
   ⟨(some 45), .load1 (.tmp 44), none, .f⟩,
   ⟨(some 46), .bin .rem (.tmp 43) (.tmp 45), none, .f⟩,
   ⟨(some 8), .mv (.tmp 46), none, .f⟩])
  .ret))))⟩

theorem s222 : compFn Try.prog Try.f222 = some c222 := by kernel_rfl

/-- loop.example/g01262/spec.l01Prime -/
def c224 : XFn :=
 ⟨[.tmp 2],
  (.seq (.reg [⟨(some 2), .mv (.const (.bool false)), none, .f⟩])
  (.seq (.reg [⟨(some 3), .mv (.tmp 0), none, .f⟩,
   ⟨(some 4), .bin .eql (.tmp 3) (.const (.int .i64 2)), none, .f⟩,
   ⟨(some 5), .mv (.tmp 4), none, .f⟩,
   ⟨(some 6), .mv (.tmp 0), (some (5, false)), .f⟩,
   ⟨(some 7), .bin .eql (.tmp 6) (.const (.int .i64 3)), (some (5, false)), .f⟩,
   ⟨(some 8), .pick (.tmp 5) (.const (.bool true)) (.tmp 7), none, .f⟩,
   ⟨(some 9), .mv (.tmp 8), none, .f⟩,
   ⟨(some 10), .mv (.tmp 0), (some (9, false)), .f⟩,
   ⟨(some 11), .bin .eql (.tmp 10) (.const (.int .i64 5)), (some (9, false)), .f⟩,
   ⟨(some 12), .pick (.tmp 9) (.const (.bool true)) (.tmp 11), none, .f⟩,
   ⟨(some 2), .mv (.tmp 12), none, .f⟩])
  .ret))⟩

theorem s224 : compFn Try.prog Try.f224 = some c224 := by kernel_rfl

/-- loop.example/g01262/impl.inverse -/
def c243 : XFn :=
 ⟨[.tmp 4],
  (.seq (.reg [⟨(some 4), .mv (.const (.int .i64 0)), none, .f⟩])
  (.seq (.reg [⟨(some 5), .mv (.const (.int .i64 1)), none, .f⟩])
  (.blk 0 (.loop (.seq (.blk 1 (.seq (.reg [⟨(some 8), .mv (.tmp 5), none, .f⟩,
   ⟨(some 9), .mv (.tmp 1), none, .f⟩,
   ⟨(some 10), .bin .mul (.tmp 8) (.tmp 9), none, .f⟩,
   ⟨(some 11), .mv (.tmp 0), none, .f⟩,
   ⟨(some 12), .bin .rem (.tmp 10) (.tmp 11), none, .f⟩,
   ⟨(some 13), .bin .eql (.tmp 12) (.const (.int .i64 1)), none, .f⟩])
  (.cond (.tmp 13) (.seq (.reg [⟨(some 14), .mv (.tmp 5), none, .f⟩,
   ⟨(some 4), .mv (.tmp 14), none, .f⟩])
  .ret) .skip)))
  (.reg [⟨(some 6), .mv (.tmp 5), none, .f⟩,
   ⟨(some 7), .bin .add (.tmp 6) (.const (.int .i64 1)), none, .f⟩,
   ⟨(some 5), .mv (.tmp 7), none, .f⟩]))))))⟩

theorem s243 : compFn Try.prog Try.f243 = some c243 := by kernel_rfl

/-- loop.example/g01262/impl.turned -/
def c245 : XFn :=
 ⟨[.celln 4 5],
  (.seq (.reg [⟨(some 2), .box 36 (.tmp 0), none, .f⟩,
   ⟨(some 4), .alloc 36 [.int .i64 0, .int .i64 0, .int .i64 0, .int .i64 0, .slice none 0 0], none, .f⟩])
  (.seq (.seq (.reg [⟨(some 5), .mv (.tmp 1), none, .f⟩,
   ⟨(some 6), .mv (.const (.int .i64 0)), none, .f⟩])
  (.blk 0 (.loop (.seq (.reg [⟨(some 7), .bin .lss (.tmp 6) (.tmp 5), none, .f⟩])
  (.seq (.cond (.tmp 7) .skip (.exit 0))
  (.seq (.blk 1 (.reg [⟨(some 8), .loadn 5 (.tmp 2), none, .f⟩,
   ⟨(some 9), .call (.func 193) [(.tmp 8)], none, .f⟩,
   ⟨none, .store 5 (.tmp 2) (.tmp 9), none, .f⟩]))
  (.reg [⟨(some 10), .bin .add (.tmp 6) (.const (.int .i64 1)), none, .f⟩,
   ⟨(some 6), .mv (.tmp 10), none, .f⟩])))))))
  (.seq (.reg [⟨(some 11), .loadn 5 (.tmp 2), none, .f⟩,
   ⟨none, .store 5 (.tmp 4) (.tmp 11), none, .f⟩])
  .ret)))⟩

theorem s245 : compFn Try.prog Try.f245 = some c245 := by kernel_rfl

/-- loop.example/g01262/impl.rank -/
def c246 : XFn :=
 ⟨[.tmp 4],
  (.seq (.reg [⟨(some 4), .mv (.const (.int .i64 0)), none, .f⟩])
  (.seq (.reg [⟨(some 15), .bslice 27 1 0 [.slice none 0 0] [], none, .f⟩,
   ⟨(some 5), .mv (.tmp 15), none, .f⟩])
  (.seq (.seq (.reg [⟨(some 16), .mv (.tmp 1), none, .f⟩,
   ⟨(some 17), .len (.tmp 16), none, .f⟩,
   ⟨(some 18), .mv (.const (.int .i64 0)), none, .f⟩])
  (.blk 0 (.loop (.seq (.reg [⟨(some 19), .bin .lss (.tmp 18) (.tmp 17), none, .f⟩])
  (.seq (.cond (.tmp 19) .skip (.exit 0))
  (.seq (.blk 1 (.seq (.reg [⟨(some 20), .ixs 1 (.tmp 16) (.tmp 18), none, .f⟩,
   ⟨(some 21), .load1 (.tmp 20), none, .f⟩,
   ⟨(some 7), .mv (.tmp 21), none, .f⟩])
  (.reg [⟨(some 22), .mv (.tmp 5), none, .f⟩,
   ⟨(some 23), .mv (.tmp 7), none, .f⟩,
   ⟨(some 24), .call (.func 285) [(.tmp 23)], none, .f⟩,
   ⟨(some 25), .bslice 27 1 1 [.slice none 0 0] [(0, 1, (.tmp 24))], none, .f⟩,
   ⟨(some 26), .app 27 1 24 (.tmp 22) (.tmp 25), none, .f⟩,
   ⟨(some 5), .mv (.tmp 26), none, .f⟩])))
  (.reg [⟨(some 27), .bin .add (.tmp 18) (.const (.int .i64 1)), none, .f⟩,
   ⟨(some 18), .mv (.tmp 27), none, .f⟩])))))))
  (.seq (.reg [⟨(some 8), .mv (.const (.int .i64 0)), none, .f⟩])
  (.seq (.seq (.reg [⟨(some 9), .alloc 3 [.int .i64 0], none, .f⟩,
   ⟨none, .store 1 (.tmp 9) (.const (.int .i64 0)), none, .f⟩])
  (.blk 2 (.loop (.seq (.seq (.reg [⟨(some 28), .mv (.tmp 8), none, .f⟩,
   ⟨(some 29), .mv (.tmp 5), none, .f⟩,
   ⟨(some 30), .len (.tmp 29), none, .f⟩,
   ⟨(some 31), .bin .lss (.tmp 28) (.tmp 30), none, .f⟩,
   ⟨(some 32), .mv (.tmp 31), none, .f⟩,
   ⟨(some 33), .load1 (.tmp 9), (some (32, true)), .f⟩,
   ⟨(some 34), .mv (.tmp 5), (some (32, true)), .f⟩,
   ⟨(some 35), .ixs 1 (.tmp 34) (.const (.int .i64 0)), (some (32, true)), .f⟩,
   ⟨(some 36), .load1 (.tmp 35), (some (32, true)), .f⟩,
   ⟨(some 37), .len (.tmp 36), (some (32, true)), .f⟩,
   ⟨(some 38), .bin .lss (.tmp 33) (.tmp 37), (some (32, true)), .f⟩,
   ⟨(some 39), .pick (.tmp 32) (.tmp 38) (.const (.bool false)), none, .f⟩])
  (.cond (.tmp 39) .skip (.exit 2)))
  (.seq (.blk 3 (.seq (.reg [⟨(some 42), .mv (.tmp 5), none, .f⟩,
   ⟨(some 43), .mv (.tmp 8), none, .f⟩,
   ⟨(some 44), .slc 1 (.tmp 42) (some (.tmp 43)) none, none, .f⟩,
   ⟨(some 45), .mkf 313 [(.tmp 9)], none, .f⟩,
   ⟨(some 46), .call (.func 312) [(.tmp 44), (.tmp 45)], none, .f⟩,
   ⟨(some 10), .mv (.tmp 46), none, .f⟩])
  (.seq (.seq (.reg [⟨(some 47), .mv (.tmp 10), none, .f⟩,
   ⟨(some 48), .bin .lss (.tmp 47) (.const (.int .i64 0)), none, .f⟩])
  (.cond (.tmp 48) (.exit 3) .skip))
  (.seq (.reg [⟨(some 49), .mv (.tmp 5), none, .f⟩,
   ⟨(some 50), .mv (.tmp 8), none, .f⟩,
   ⟨(some 51), .mv (.tmp 5), none, .f⟩,
   ⟨(some 52), .mv (.tmp 8), none, .f⟩,
   ⟨(some 53), .mv (.tmp 10), none, .f⟩,
   ⟨(some 54), .bin .add (.tmp 52) (.tmp 53), none, .f⟩,
   ⟨(some 55), .mv (.tmp 5), none, .f⟩,
   ⟨(some 56), .mv (.tmp 8), none, .f⟩,
   ⟨(some 57), .mv (.tmp 10), none, .f⟩,
   ⟨(some 58), .bin .add (.tmp 56) (.tmp 57), none, .f⟩,
   ⟨(some 59), .ixs 1 (.tmp 55) (.tmp 58), none, .f⟩,
   ⟨(some 60), .load1 (.tmp 59), none, .f⟩,
   ⟨(some 61), .mv (.tmp 5), none, .f⟩,
   ⟨(some 62), .mv (.tmp 8), none, .f⟩,
   ⟨(some 63), .ixs 1 (.tmp 61) (.tmp 62), none, .f⟩,
   ⟨(some 64), .load1 (.tmp 63), none, .f⟩,
   ⟨(some 65), .ixs 1 (.tmp 49) (.tmp 50), none, .f⟩,
   ⟨none, .store 1 (.tmp 65) (.tmp 60), none, .f⟩,
   ⟨(some 66), .ixs 1 (.tmp 51) (.tmp 54), none, .f⟩,
   ⟨none, .store 1 (.tmp 66) (.tmp 64), none, .f⟩])
  (.seq (.reg [⟨(some 67), .mv (.tmp 0), none, .f⟩,
   ⟨(some 68), .mv (.tmp 5), none, .f⟩,
   ⟨(some 69), .mv (.tmp 8), none, .f⟩,
   ⟨(some 70), .ixs 1 (.tmp 68) (.tmp 69), none, .f⟩,
   ⟨(some 71), .load1 (.tmp 70), none, .f⟩,
   ⟨(some 72), .load1 (.tmp 9), none, .f⟩,
   ⟨(some 73), .ixs 1 (.tmp 71) (.tmp 72), none, .f⟩,
   ⟨(some 74), .load1 (.tmp 73), none, .f⟩,
   ⟨(some 75), .call (.func 243) [(.tmp 67), (.tmp 74)], none, .f⟩,
   ⟨(some 11), .mv (.tmp 75), none, .f⟩])
  (.seq (.seq (.reg [⟨(some 76), .mv (.tmp 8), none, .f⟩,
   ⟨(some 77), .bin .add (.tmp 76) (.const (.int .i64 1)), none, .f⟩,
   ⟨(some 12), .mv (.tmp 77), none, .f⟩])
  (.blk 4 (.loop (.seq (.seq (.reg [⟨(some 78), .mv (.tmp 12), none, .f⟩,
   ⟨(some 79), .mv (.tmp 5), none, .f⟩,
   ⟨(some 80), .len (.tmp 79), none, .f⟩,
   ⟨(some 81), .bin .lss (.tmp 78) (.tmp 80), none, .f⟩])
  (.cond (.tmp 81) .skip (.exit 4)))
  (.seq (.blk 5 (.seq (.reg [⟨(some 84), .mv (.tmp 5), none, .f⟩,
   ⟨(some 85), .mv (.tmp 12), none, .f⟩,
   ⟨(some 86), .ixs 1 (.tmp 84) (.tmp 85), none, .f⟩,
   ⟨(some 87), .load1 (.tmp 86), none, .f⟩,
   ⟨(some 88), .load1 (.tmp 9), none, .f⟩,
   ⟨(some 89), .ixs 1 (.tmp 87) (.tmp 88), none, .f⟩,
   ⟨(some 90), .load1 (.tmp 89), none, .f⟩,
   ⟨(some 91), .mv (.tmp 11), none, .f⟩,
   ⟨(some 92), .bin .mul (.tmp 90) (.tmp 91), none, .f⟩,
   ⟨(some 93), .mv (.tmp 0), none, .f⟩,
   ⟨(some 94), .bin .rem (.tmp 92) (.tmp 93), none, .f⟩,
   ⟨(some 13), .mv (.tmp 94), none, .f⟩])
  (.seq (.reg [⟨(some 95), .mv (.tmp 5), none, .f⟩,
   ⟨(some 96), .mv (.tmp 12), none, .f⟩,
   ⟨(some 97), .ixs 1 (.tmp 95) (.tmp 96), none, .f⟩,
   ⟨(some 98), .load1 (.tmp 97), none, .f⟩,
   ⟨(some 99), .len (.tmp 98), none, .f⟩,
   ⟨(some 100), .mv (.const (.int .i64 0)), none, .f⟩])
  (.blk 6 (.loop (.seq (.reg [⟨(some 101), .bin .lss (.tmp 100) (.tmp 99), none, .f⟩])
  (.seq (.cond (.tmp 101) .skip (.exit 6))
  (.seq (.blk 7 (.seq (.reg [⟨(some 102), .mv (.tmp 100), none, .f⟩,
   ⟨(some 14), .mv (.tmp 102), none, .f⟩])
  (.reg [⟨(some 103), .mv (.tmp 5), none, .f⟩,
   ⟨(some 104), .mv (.tmp 12), none, .f⟩,
   ⟨(some 105), .ixs 1 (.tmp 103) (.tmp 104), none, .f⟩,
   ⟨(some 106), .load1 (.tmp 105), none, .f⟩,
   ⟨(some 107), .mv (.tmp 14), none, .f⟩,
   ⟨(some 108), .mv (.tmp 5), none, .f⟩,
   ⟨(some 109), .mv (.tmp 12), none, .f⟩,
   ⟨(some 110), .ixs 1 (.tmp 108) (.tmp 109), none, .f⟩,
   ⟨(some 111), .load1 (.tmp 110), none, .f⟩,
   ⟨(some 112), .mv (.tmp 14), none, .f⟩,
   ⟨(some 113), .ixs 1 (.tmp 111) (.tmp 112), none, .f⟩,
   ⟨(some 114), .load1 (.tmp 113), none, .f⟩,
   ⟨(some 115), .mv (.tmp 13), none, .f⟩,
   ⟨(some 116), .mv (.tmp 5), none, .f⟩,
   ⟨(some 117), .mv (.tmp 8), none, .f⟩,
   ⟨(some 118), .ixs 1 (.tmp 116) (.tmp 117), none, .f⟩,
   ⟨(some 119), .load1 (.tmp 118), none, .f⟩,
   ⟨(some 120), .mv (.tmp 14), none, .f⟩,
   ⟨(some 121), .ixs 1 (.tmp 119) (.tmp 120), none, .f⟩,
   ⟨(some 122), .load1 (.tmp 121), none, .f⟩,
   ⟨(some 123), .bin .mul (.tmp 115) (.tmp 122), none, .f⟩,
   ⟨(some 124), .bin .sub (.tmp 114) (.tmp 123), none, .f⟩,
   ⟨(some 125), .mv (.tmp 0), none, .f⟩,
   ⟨(some 126), .bin .rem (.tmp 124) (.tmp 125), none, .f⟩,
   ⟨(some 127), .mv (.tmp 0), none, .f⟩,
   ⟨(some 128), .bin .add (.tmp 126) (.tmp 127), none, .f⟩,
   ⟨(some 129), .mv (.tmp 0), none, .f⟩,
   ⟨(some 130), .bin .rem (.tmp 128) (.tmp 129), none, .f⟩,
   ⟨(some 131), .ixs 1 (.tmp 106) (.tmp 107), none, .f⟩,
   ⟨none, .store 1 (.tmp 131) (.tmp 130), none, .f⟩])))
  (.reg [⟨(some 132), .bin .add (.tmp 100) (.const (.int .i64 1)), none, .f⟩,
   ⟨(some 100), .mv (.tmp 132), none, .f⟩])))))))))
  (.reg [⟨(some 82), .mv (.tmp 12), none, .f⟩,
   ⟨(some 83), .bin .add (.tmp 82) (.const (.int .i64 1)), none, .f⟩,
   ⟨(some 12), .mv (.tmp 83), none, .f⟩]))))))
  (.reg [⟨(some 133), .mv (.tmp 8), none, .f⟩,
   ⟨(some 134), .bin .add (.tmp 133) (.const (.int .i64 1)), none, .f⟩,
   ⟨(some 8), .mv (.tmp 134), none, .f⟩])))))))
  (.seq (.seq (.reg [⟨(some 135), .load1 (.tmp 9), none, .f⟩])
  (.reg [⟨(some 9), .alloc 3 [.int .i64 0], none, .f⟩,
   ⟨none, .store 1 (.tmp 9) (.tmp 135), none, .f⟩]))
  (.reg [⟨(some 40), .load1 (.tmp 9), none, .f⟩,
   ⟨(some 41), .bin .add (.tmp 40) (.const (.int .i64 1)), none, .f⟩,
   ⟨none, .store 1 (.tmp 9) (.tmp 41), none, .f⟩])))))))
  (.seq (.reg [⟨(some 136), .mv (.tmp 8), none, .f⟩,
   ⟨(some 4), .mv (.tmp 136), none, .f⟩])
  .ret))))))⟩

theorem s246 : compFn Try.prog Try.f246 = some c246 := by kernel_rfl

/-- loop.example/g01262/spec.l05List -/
def c250 : XFn :=
 ⟨[.tmp 6],
  (.seq (.reg [⟨(some 6), .mv (.const (.slice none 0 0)), none, .f⟩])
  (.seq (.reg [⟨(some 8), .bslice 2 1 0 [.int .i64 0] [], none, .f⟩,
   ⟨(some 7), .mv (.tmp 8), none, .f⟩])
  (.seq (.blk 0 (.loop (.seq (.seq (.reg [⟨(some 9), .mv (.tmp 2), none, .f⟩,
   ⟨(some 10), .bin .gtr (.tmp 9) (.const (.int .i64 0)), none, .f⟩])
  (.cond (.tmp 10) .skip (.exit 0)))
  (.seq (.blk 1 (.reg [⟨(some 13), .mv (.tmp 7), none, .f⟩,
   ⟨(some 14), .mv (.tmp 0), none, .f⟩,
   ⟨(some 15), .mv (.tmp 1), none, .f⟩,
   ⟨(some 16), .call (.func 148) [(.tmp 14), (.tmp 15)], none, .f⟩,
   ⟨(some 17), .bslice 2 1 1 [.int .i64 0] [(0, 1, (.tmp 16))], none, .f⟩,
   ⟨(some 18), .app 2 1 8 (.tmp 13) (.tmp 17), none, .f⟩,
   ⟨(some 7), .mv (.tmp 18), none, .f⟩]))
  (.reg [⟨(some 11), .mv (.tmp 2), none, .f⟩,
   ⟨(some 12), .bin .sub (.tmp 11) (.const (.int .i64 1)), none, .f⟩,
   ⟨(some 2), .mv (.tmp 12), none, .f⟩])))))
  (.seq (.reg [⟨(some 19), .mv (.tmp 7), none, .f⟩,
   ⟨(some 6), .mv (.tmp 19), none, .f⟩])
  .ret))))⟩

theorem s250 : compFn Try.prog Try.f250 = some c250 := by kernel_rfl

/-- loop.example/g01262/spec.l01Own -/
def c264 : XFn :=
 ⟨[.tmp 2],
  (.seq (.reg [⟨(some 2), .mv (.const (.slice none 0 0)), none, .f⟩])
  (.seq (.reg [⟨(some 3), .bslice 2 1 0 [.int .i64 0] [], none, .f⟩,
   ⟨(some 4), .mv (.tmp 0), none, .f⟩,
   ⟨(some 5), .app 2 1 8 (.tmp 3) (.tmp 4), none, .f⟩,
   ⟨(some 2), .mv (.tmp 5), none, .f⟩])
  .ret))⟩

theorem s264 : compFn Try.prog Try.f264 = some c264 := by kernel_rfl

/-- loop.example/g01262/spec.l01Draw -/
def c266 : XFn :=
 ⟨[.celln 2 5],
  (.seq (.reg [⟨(some 2), .alloc 26 [.int .i64 0, .int .i64 0, .int .i64 0, .int .i64 0, .slice none 0 0], none, .f⟩])
  (.seq (.reg [⟨(some 5), .mv (.tmp 0), none, .f⟩,
   ⟨(some 6), .call (.func 320) [(.tmp 5)], none, .f⟩,
   ⟨(some 3), .alloc 26 [.int .i64 0, .int .i64 0, .int .i64 0, .int .i64 0, .slice none 0 0], none, .f⟩,
   ⟨none, .store 5 (.tmp 3) (.tmp 6), none, .f⟩])
  (.seq (.seq (.reg [⟨(some 7), .mv (.tmp 0), none, .f⟩,
   ⟨(some 8), .call (.func 148) [(.tmp 7), (.const (.int .i64 4))], none, .f⟩])
  (.blk 0 (.seq (.reg [⟨(some 10), .bin .eql (.tmp 8) (.const (.int .i64 0)), none, .f⟩,
   ⟨(some 9), .mv (.tmp 10), none, .f⟩])
  (.cond (.tmp 9) (.seq (.reg [⟨(some 11), .fadr 0 (.tmp 3), none, .f⟩,
   ⟨(some 12), .load1 (.tmp 11), none, .f⟩,
   ⟨(some 13), .call (.func 321) [(.tmp 12)], none, .f⟩,
   ⟨none, .store 5 (.tmp 2) (.tmp 13), none, .f⟩])
  .ret) (.seq (.reg [⟨(some 15), .bin .eql (.tmp 8) (.const (.int .i64 1)), none, .f⟩,
   ⟨(some 14), .mv (.tmp 15), none, .f⟩])
  (.cond (.tmp 14) (.seq (.reg [⟨(some 16), .fadr 0 (.tmp 3), none, .f⟩,
   ⟨(some 17), .load1 (.tmp 16), none, .f⟩,
   ⟨(some 18), .fadr 1 (.tmp 3), none, .f⟩,
   ⟨(some 19), .load1 (.tmp 18), none, .f⟩,
   ⟨(some 20), .fadr 2 (.tmp 3), none, .f⟩,
   ⟨(some 21), .load1 (.tmp 20), none, .f⟩,
   ⟨(some 22), .fadr 3 (.tmp 3), none, .f⟩,
   ⟨(some 23), .load1 (.tmp 22), none, .f⟩,
   ⟨(some 24), .call (.func 303) [(.tmp 17), (.tmp 19), (.tmp 21), (.tmp 23)], none, .f⟩,
   ⟨none, .store 5 (.tmp 2) (.tmp 24), none, .f⟩])
  .ret) .skip))))))
  (.seq (.seq (.reg [⟨(some 25), .mv (.tmp 0), none, .f⟩,
   ⟨(some 26), .call (.func 148) [(.tmp 25), (.const (.int .i64 6))], none, .f⟩,
   ⟨(some 4), .mv (.tmp 26), none, .f⟩])
  (.blk 1 (.loop (.seq (.seq (.reg [⟨(some 27), .mv (.tmp 4), none, .f⟩,
   ⟨(some 28), .bin .gtr (.tmp 27) (.const (.int .i64 0)), none, .f⟩])
  (.cond (.tmp 28) .skip (.exit 1)))
  (.seq (.blk 2 (.reg [⟨(some 31), .fadr 4 (.tmp 3), none, .f⟩,
   ⟨(some 32), .load1 (.tmp 31), none, .f⟩,
   ⟨(some 33), .mv (.tmp 0), none, .f⟩,
   ⟨(some 34), .loadn 5 (.tmp 3), none, .f⟩,
   ⟨(some 35), .call (.func 305) [(.tmp 33), (.tmp 34)], none, (.s true [(.tmp 31)])⟩,
   ⟨(some 36), .bslice 138 27 1 [.int .u8 0, .int .u8 0, .int .u8 0, .int .u8 0, .int .u8 0, .int .u8 0, .int .u8 0, .int .u8 0, .int .u8 0, .int .u8 0, .int .u8 0, .int .u8 0, .int .u8 0, .int .u8 0, .int .u8 0, .int .u8 0, .int .u8 0, .int .u8 0, .int .u8 0, .int .u8 0, .int .u8 0, .int .u8 0, .int .u8 0, .int .u8 0, .int .u8 0, .int .u8 0, .int .u8 0] [(0, 27, (.tmp 35))], none, .f⟩,
   ⟨(some 37), .app 138 27 27 (.tmp 32) (.tmp 36), none, .f⟩,
   ⟨(some 38), .fadr 4 (.tmp 3), none, .f⟩,
   ⟨none, .store 1 (.tmp 38) (.tmp 37), none, .f⟩]))
  (.reg [⟨(some 29), .mv (.tmp 4), none, .f⟩,
   ⟨(some 30), .bin .sub (.tmp 29) (.const (.int .i64 1)), none, .f⟩,
   ⟨(some 4), .mv (.tmp 30), none, .f⟩]))))))
  (.seq (.reg [⟨(some 39), .loadn 5 (.tmp 3), none, .f⟩,
   ⟨none, .store 5 (.tmp 2) (.tmp 39), none, .f⟩])
  .ret)))))⟩

theorem s266 : compFn Try.prog Try.f266 = some c266 := by kernel_rfl

/-- loop.example/g01262/spec.l01Zero -/
def c278 : XFn :=
 ⟨[.tmp 2],
  (.seq (.reg [⟨(some 1), .box 136 (.tmp 0), none, .f⟩,
   ⟨(some 2), .mv (.const (.bool false)), none, .f⟩])
  (.seq (.reg [⟨(some 3), .loadn 9 (.tmp 1), none, .f⟩,
   ⟨(some 4), .build [.int .u8 0, .int .u8 0, .int .u8 0, .int .u8 0, .int .u8 0, .int .u8 0, .int .u8 0, .int .u8 0, .int .u8 0] [], none, .f⟩,
   ⟨(some 5), .eqa false 9 (.tmp 3) (.tmp 4), none, .f⟩,
   ⟨(some 2), .mv (.tmp 5), none, .f⟩])
  .ret))⟩

theorem s278 : compFn Try.prog Try.f278 = some c278 := by kernel_rfl

/-- slices.Clone[[]int64,int64] -/
def c285 : XFn :=
 ⟨[.tmp 2],
  (.seq (.reg [⟨(some 2), .mv (.const (.slice none 0 0)), none, .f⟩])
  (.seq (.seq (.reg [⟨(some 3), .mv (.tmp 0), none, .f⟩,
   ⟨(some 4), .isnil false (.tmp 3), none, .f⟩])
  (.cond (.tmp 4) (.seq (.reg [⟨(some 2), .mv (.const (.slice none 0 0)), none, .f⟩])
  .ret) .skip))
  (.seq (.reg [⟨(some 5), .bslice 2 1 0 [.int .i64 0] [], none, .f⟩,
   ⟨(some 6), .mv (.tmp 0), none, .f⟩,
   ⟨(some 7), .app 2 1 8 (.tmp 5) (.tmp 6), none, .f⟩,
   ⟨(some 2), .mv (.tmp 7), none, .f⟩])
  .ret)))⟩

theorem s285 : compFn Try.prog Try.f285 = some c285 := by kernel_rfl

/-- loop.example/g01262/spec.l05Bad -/
def c290 : XFn :=
 ⟨[.celln 4 5],
  (.seq (.reg [⟨(some 3), .box 36 (.tmp 1), none, .f⟩,
   ⟨(some 4), .alloc 36 [.int .i64 0, .int .i64 0, .int .i64 0, .int .i64 0, .slice none 0 0], none, .f⟩])
  (.seq (.seq (.reg [⟨(some 6), .mv (.tmp 0), none, .f⟩,
   ⟨(some 7), .call (.func 148) [(.tmp 6), (.const (.int .i64 50))], none, .f⟩])
  (.blk 0 (.seq (.reg [⟨(some 9), .bin .eql (.tmp 7) (.const (.int .i64 0)), none, .f⟩,
   ⟨(some 8), .mv (.tmp 9), none, .f⟩])
  (.cond (.tmp 8) (.reg [⟨(some 10), .mv (.tmp 0), none, .f⟩,
   ⟨(some 11), .bslice 2 1 3 [.int .i64 0] [(0, 1, (.const (.int .i64 0))), (1, 1, (.const (.int .i64 4))), (2, 1, (.const (.int .i64 2)))], none, .f⟩,
   ⟨(some 12), .call (.func 147) [(.tmp 10), (.tmp 11)], none, .f⟩,
   ⟨(some 13), .fadr 0 (.tmp 3), none, .f⟩,
   ⟨none, .store 1 (.tmp 13) (.tmp 12), none, .f⟩]) (.seq (.reg [⟨(some 15), .bin .eql (.tmp 7) (.const (.int .i64 1)), none, .f⟩,
   ⟨(some 14), .mv (.tmp 15), none, .f⟩])
  (.cond (.tmp 14) (.reg [⟨(some 16), .mv (.tmp 0), none, .f⟩,
   ⟨(some 17), .fadr 2 (.tmp 3), none, .f⟩,
   ⟨(some 18), .load1 (.tmp 17), none, .f⟩,
   ⟨(some 19), .bin .sub (.tmp 18) (.const (.int .i64 1)), none, .f⟩,
   ⟨(some 20), .bslice 2 1 3 [.int .i64 0] [(0, 1, (.const (.int .i64 0))), (1, 1, (.const (.int .i64 10))), (2, 1, (.tmp 19))], none, .f⟩,
   ⟨(some 21), .call (.func 147) [(.tmp 16), (.tmp 20)], none, .f⟩,
   ⟨(some 22), .fadr 2 (.tmp 3), none, .f⟩,
   ⟨none, .store 1 (.tmp 22) (.tmp 21), none, .f⟩]) (.seq (.reg [⟨(some 24), .bin .eql (.tmp 7) (.const (.int .i64 2)), none, .f⟩,
   ⟨(some 23), .mv (.tmp 24), none, .f⟩])
  (.cond (.tmp 23) (.reg [⟨(some 25), .fadr 4 (.tmp 3), none, .f⟩,
   ⟨(some 26), .load1 (.tmp 25), none, .f⟩,
   ⟨(some 27), .call (.func 264) [(.tmp 26)], none, .f⟩,
   ⟨(some 28), .bslice 2 1 1 [.int .i64 0] [(0, 1, (.const (.int .i64 0)))], none, .f⟩,
   ⟨(some 29), .app 2 1 8 (.tmp 27) (.tmp 28), none, .f⟩,
   ⟨(some 30), .fadr 4 (.tmp 3), none, .f⟩,
   ⟨none, .store 1 (.tmp 30) (.tmp 29), none, .f⟩]) (.seq (.reg [⟨(some 32), .bin .eql (.tmp 7) (.const (.int .i64 3)), none, .f⟩,
   ⟨(some 31), .mv (.tmp 32), none, .f⟩])
  (.cond (.tmp 31) (.seq (.reg [⟨(some 33), .fadr 4 (.tmp 3), none, .f⟩,
   ⟨(some 34), .load1 (.tmp 33), none, .f⟩,
   ⟨(some 35), .call (.func 264) [(.tmp 34)], none, .f⟩,
   ⟨(some 5), .mv (.tmp 35), none, .f⟩])
  (.seq (.reg [⟨(some 36), .mv (.tmp 5), none, .f⟩,
   ⟨(some 37), .mv (.tmp 0), none, .f⟩,
   ⟨(some 38), .fadr 0 (.tmp 3), none, .f⟩,
   ⟨(some 39), .load1 (.tmp 38), none, .f⟩,
   ⟨(some 40), .bslice 2 1 2 [.int .i64 0] [(0, 1, (.const (.int .i64 (-1)))), (1, 1, (.tmp 39))], none, .f⟩,
   ⟨(some 41), .call (.func 147) [(.tmp 37), (.tmp 40)], none, .f⟩,
   ⟨(some 42), .ixs 1 (.tmp 36) (.const (.int .i64 0)), none, .f⟩,
   ⟨none, .store 1 (.tmp 42) (.tmp 41), none, .f⟩])
  (.reg [⟨(some 43), .mv (.tmp 5), none, .f⟩,
   ⟨(some 44), .fadr 4 (.tmp 3), none, .f⟩,
   ⟨none, .store 1 (.tmp 44) (.tmp 43), none, .f⟩]))) .skip))))))))))
  (.seq (.reg [⟨(some 45), .loadn 5 (.tmp 3), none, .f⟩,
   ⟨none, .store 5 (.tmp 4) (.tmp 45), none, .f⟩])
  .ret)))⟩

theorem s290 : compFn Try.prog Try.f290 = some c290 := by kernel_rfl

/-- loop.example/g01262/spec.l05Of -/
def c291 : XFn :=
 ⟨[.celln 2 5],
  (.seq (.reg [⟨(some 1), .box 26 (.tmp 0), none, .f⟩,
   ⟨(some 2), .alloc 36 [.int .i64 0, .int .i64 0, .int .i64 0, .int .i64 0, .slice none 0 0], none, .f⟩])
  (.seq (.reg [⟨(some 11), .loadn 5 (.tmp 1), none, .f⟩,
   ⟨(some 12), .call (.func 300) [(.tmp 11)], none, .f⟩,
   ⟨(some 10), .mv (.tmp 12), none, .f⟩,
   ⟨(some 13), .ext (.tmp 10) 0, none, .f⟩,
   ⟨(some 14), .ext (.tmp 10) 1, none, .f⟩,
   ⟨(some 15), .ext (.tmp 10) 2, none, .f⟩,
   ⟨(some 3), .mv (.tmp 13), none, .f⟩,
   ⟨(some 4), .mv (.tmp 14), none, .f⟩,
   ⟨(some 5), .mv (.tmp 15), none, .f⟩])
  (.seq (.reg [⟨(some 16), .fadr 0 (.tmp 1), none, .f⟩,
   ⟨(some 17), .load1 (.tmp 16), none, .f⟩,
   ⟨(some 18), .mv (.tmp 3), none, .f⟩,
   ⟨(some 19), .mv (.tmp 4), none, .f⟩,
   ⟨(some 20), .mv (.tmp 5), none, .f⟩,
   ⟨(some 21), .call (.func 182) [(.tmp 17), (.tmp 18), (.tmp 19), (.tmp 20)], none, .f⟩,
   ⟨(some 6), .alloc 36 [.int .i64 0, .int .i64 0, .int .i64 0, .int .i64 0, .slice none 0 0], none, .f⟩,
   ⟨none, .store 5 (.tmp 6) (.tmp 21), none, .f⟩])
  (.seq (.seq (.reg [⟨(some 7), .mv (.const (.int .i64 0)), none, .f⟩])
  (.blk 0 (.loop (.seq (.seq (.reg [⟨(some 22), .mv (.tmp 7), none, .f⟩,
   ⟨(some 23), .mv (.tmp 3), none, .f⟩,
   ⟨(some 24), .bin .lss (.tmp 22) (.tmp 23), none, .f⟩])
  (.cond (.tmp 24) .skip (.exit 0)))
  (.seq (.blk 1 (.seq (.reg [⟨(some 8), .mv (.const (.int .i64 0)), none, .f⟩])
  (.blk 2 (.loop (.seq (.seq (.reg [⟨(some 27), .mv (.tmp 8), none, .f⟩,
   ⟨(some 28), .mv (.tmp 4), none, .f⟩,
   ⟨(some 29), .bin .lss (.tmp 27) (.tmp 28), none, .f⟩])
  (.cond (.tmp 29) .skip (.exit 2)))
  (.seq (.blk 3 (.seq (.reg [⟨(some 9), .mv (.const (.int .i64 0)), none, .f⟩])
  (.blk 4 (.loop (.seq (.seq (.reg [⟨(some 32), .mv (.tmp 9), none, .f⟩,
   ⟨(some 33), .mv (.tmp 5), none, .f⟩,
   ⟨(some 34), .bin .lss (.tmp 32) (.tmp 33), none, .f⟩])
  (.cond (.tmp 34) .skip (.exit 4)))
  (.seq (.blk 5 (.reg [⟨(some 37), .fadr 4 (.tmp 6), none, .f⟩,
   ⟨(some 38), .load1 (.tmp 37), none, .f⟩,
   ⟨(some 39), .mv (.tmp 7), none, .f⟩,
   ⟨(some 40), .mv (.tmp 4), none, .f⟩,
   ⟨(some 41), .bin .mul (.tmp 39) (.tmp 40), none, .f⟩,
   ⟨(some 42), .mv (.tmp 8), none, .f⟩,
   ⟨(some 43), .bin .add (.tmp 41) (.tmp 42), none, .f⟩,
   ⟨(some 44), .mv (.tmp 5), none, .f⟩,
   ⟨(some 45), .bin .mul (.tmp 43) (.tmp 44), none, .f⟩,
   ⟨(some 46), .mv (.tmp 9), none, .f⟩,
   ⟨(some 47), .bin .add (.tmp 45) (.tmp 46), none, .f⟩,
   ⟨(some 48), .loadn 5 (.tmp 1), none, .f⟩,
   ⟨(some 49), .mv (.tmp 7), none, .f⟩,
   ⟨(some 50), .mv (.tmp 8), none, .f⟩,
   ⟨(some 51), .mv (.tmp 9), none, .f⟩,
   ⟨(some 52), .call (.func 222) [(.tmp 48), (.tmp 49), (.tmp 50), (.tmp 51)], none, .t⟩,
   ⟨(some 53), .ixs 1 (.tmp 38) (.tmp 47), none, .f⟩,
   ⟨none, .store 1 (.tmp 53) (.tmp 52), none, .f⟩]))
  (.reg [⟨(some 35), .mv (.tmp 9), none, .f⟩,
   ⟨(some 36), .bin .add (.tmp 35) (.const (.int .i64 1)), none, .f⟩,
   ⟨(some 9), .mv (.tmp 36), none, .f⟩])))))))
  (.reg [⟨(some 30), .mv (.tmp 8), none, .f⟩,
   ⟨(some 31), .bin .add (.tmp 30) (.const (.int .i64 1)), none, .f⟩,
   ⟨(some 8), .mv (.tmp 31), none, .f⟩])))))))
  (.reg [⟨(some 25), .mv (.tmp 7), none, .f⟩,
   ⟨(some 26), .bin .add (.tmp 25) (.const (.int .i64 1)), none, .f⟩,
   ⟨(some 7), .mv (.tmp 26), none, .f⟩]))))))
  (.seq (.reg [⟨(some 54), .loadn 5 (.tmp 6), none, .f⟩,
   ⟨none, .store 5 (.tmp 2) (.tmp 54), none, .f⟩])
  .ret)))))⟩

theorem s291 : compFn Try.prog Try.f291 = some c291 := by kernel_rfl

/-- loop.example/g01262/spec.l05Sides -/
def c292 : XFn :=
 ⟨[.celln 4 5],
  (.seq (.reg [⟨(some 4), .alloc 36 [.int .i64 0, .int .i64 0, .int .i64 0, .int .i64 0, .slice none 0 0], none, .f⟩])
  (.seq (.reg [⟨(some 5), .mv (.tmp 0), none, .f⟩,
   ⟨(some 6), .bslice 2 1 4 [.int .i64 0] [(0, 1, (.const (.int .i64 2))), (1, 1, (.const (.int .i64 2))), (2, 1, (.const (.int .i64 3))), (3, 1, (.const (.int .i64 5)))], none, .f⟩,
   ⟨(some 7), .call (.func 147) [(.tmp 5), (.tmp 6)], none, .f⟩,
   ⟨(some 8), .mv (.tmp 0), none, .f⟩,
   ⟨(some 9), .mv (.tmp 1), none, .f⟩,
   ⟨(some 10), .call (.func 148) [(.tmp 8), (.tmp 9)], none, .f⟩,
   ⟨(some 11), .bin .add (.const (.int .i64 1)) (.tmp 10), none, .f⟩,
   ⟨(some 12), .mv (.tmp 0), none, .f⟩,
   ⟨(some 13), .mv (.tmp 1), none, .f⟩,
   ⟨(some 14), .call (.func 148) [(.tmp 12), (.tmp 13)], none, .f⟩,
   ⟨(some 15), .bin .add (.const (.int .i64 1)) (.tmp 14), none, .f⟩,
   ⟨(some 16), .mv (.tmp 0), none, .f⟩,
   ⟨(some 17), .mv (.tmp 1), none, .f⟩,
   ⟨(some 18), .call (.func 148) [(.tmp 16), (.tmp 17)], none, .f⟩,
   ⟨(some 19), .bin .add (.const (.int .i64 1)) (.tmp 18), none, .f⟩,
   ⟨(some 20), .call (.func 182) [(.tmp 7), (.tmp 11), (.tmp 15), (.tmp 19)], none, .f⟩,
   ⟨none, .store 5 (.tmp 4) (.tmp 20), none, .f⟩])
  .ret))⟩

theorem s292 : compFn Try.prog Try.f292 = some c292 := by kernel_rfl

/-- loop.example/g01262/impl.turn$1 -/
def c293 : XFn :=
 ⟨[.tmp 7],
  (.seq (.reg [⟨(some 7), .mv (.const (.int .i64 0)), none, .f⟩])
  (.seq (.reg [⟨(some 8), .loadn 5 (.tmp 3), none, .f⟩,
   ⟨(some 9), .mv (.tmp 2), none, .f⟩,
   ⟨(some 10), .mv (.tmp 0), none, .f⟩,
   ⟨(some 11), .mv (.tmp 1), none, .f⟩,
   ⟨(some 12), .call (.func 180) [(.tmp 8), (.tmp 9), (.tmp 10), (.tmp 11)], none, .f⟩,
   ⟨(some 7), .mv (.tmp 12), none, .f⟩])
  .ret))⟩

theorem s293 : compFn Try.prog Try.f293 = some c293 := by kernel_rfl

/-- loop.example/g01262/spec.l01Lengths -/
def c300 : XFn :=
 ⟨[.tmp 2, .tmp 3, .tmp 4],
  (.seq (.reg [⟨(some 1), .box 26 (.tmp 0), none, .f⟩,
   ⟨(some 2), .mv (.const (.int .i64 0)), none, .f⟩,
   ⟨(some 3), .mv (.const (.int .i64 0)), none, .f⟩,
   ⟨(some 4), .mv (.const (.int .i64 0)), none, .f⟩])
  (.seq (.reg [⟨(some 5), .fadr 1 (.tmp 1), none, .f⟩,
   ⟨(some 6), .load1 (.tmp 5), none, .f⟩,
   ⟨(some 7), .fadr 2 (.tmp 1), none, .f⟩,
   ⟨(some 8), .load1 (.tmp 7), none, .f⟩,
   ⟨(some 9), .bin .mul (.tmp 6) (.tmp 8), none, .f⟩,
   ⟨(some 10), .fadr 2 (.tmp 1), none, .f⟩,
   ⟨(some 11), .load1 (.tmp 10), none, .f⟩,
   ⟨(some 12), .fadr 3 (.tmp 1), none, .f⟩,
   ⟨(some 13), .load1 (.tmp 12), none, .f⟩,
   ⟨(some 14), .bin .mul (.tmp 11) (.tmp 13), none, .f⟩,
   ⟨(some 15), .fadr 1 (.tmp 1), none, .f⟩,
   ⟨(some 16), .load1 (.tmp 15), none, .f⟩,
   ⟨(some 17), .fadr 3 (.tmp 1), none, .f⟩,
   ⟨(some 18), .load1 (.tmp 17), none, .f⟩,
   ⟨(some 19), .bin .mul (.tmp 16) (.tmp 18), none, .f⟩,
   ⟨(some 2), .mv (.tmp 9), none, .f⟩,
   ⟨(some 3), .mv (.tmp 14), none, .f⟩,
   ⟨(some 4), .mv (.tmp 19), none, .f⟩])
  .ret))⟩

theorem s300 : compFn Try.prog Try.f300 = some c300 := by kernel_rfl

/-- loop.example/g01262/spec.l01Standard -/
def c303 : XFn :=
 ⟨[.celln 8 5],
  (.seq (.reg [⟨(some 8), .alloc 26 [.int .i64 0, .int .i64 0, .int .i64 0, .int .i64 0, .slice none 0 0], none, .f⟩])
  (.seq (.reg [⟨(some 14), .mv (.tmp 0), none, .f⟩,
   ⟨(some 15), .mv (.tmp 1), none, .f⟩,
   ⟨(some 16), .mv (.tmp 2), none, .f⟩,
   ⟨(some 17), .mv (.tmp 3), none, .f⟩,
   ⟨(some 18), .bslice 138 27 0 [.int .u8 0, .int .u8 0, .int .u8 0, .int .u8 0, .int .u8 0, .int .u8 0, .int .u8 0, .int .u8 0, .int .u8 0, .int .u8 0, .int .u8 0, .int .u8 0, .int .u8 0, .int .u8 0, .int .u8 0, .int .u8 0, .int .u8 0, .int .u8 0, .int .u8 0, .int .u8 0, .int .u8 0, .int .u8 0, .int .u8 0, .int .u8 0, .int .u8 0, .int .u8 0, .int .u8 0] [], none, .f⟩,
   ⟨(some 19), .build [.int .i64 0, .int .i64 0, .int .i64 0, .int .i64 0, .slice none 0 0] [(0, 1, (.tmp 14)), (1, 1, (.tmp 15)), (2, 1, (.tmp 16)), (3, 1, (.tmp 17)), (4, 1, (.tmp 18))], none, .f⟩,
   ⟨(some 9), .alloc 26 [.int .i64 0, .int .i64 0, .int .i64 0, .int .i64 0, .slice none 0 0], none, .f⟩,
   ⟨none, .store 5 (.tmp 9) (.tmp 19), none, .f⟩])
  (.seq (.seq (.reg [⟨(some 10), .mv (.const (.int .i64 0)), none, .f⟩])
  (.blk 0 (.loop (.seq (.seq (.reg [⟨(some 20), .mv (.tmp 10), none, .f⟩,
   ⟨(some 21), .mv (.tmp 1), none, .f⟩,
   ⟨(some 22), .bin .lss (.tmp 20) (.tmp 21), none, .f⟩])
  (.cond (.tmp 22) .skip (.exit 0)))
  (.seq (.blk 1 (.seq (.reg [⟨(some 11), .mv (.const (.int .i64 0)), none, .f⟩])
  (.blk 2 (.loop (.seq (.seq (.reg [⟨(some 25), .mv (.tmp 11), none, .f⟩,
   ⟨(some 26), .mv (.tmp 2), none, .f⟩,
   ⟨(some 27), .bin .lss (.tmp 25) (.tmp 26), none, .f⟩])
  (.cond (.tmp 27) .skip (.exit 2)))
  (.seq (.blk 3 (.seq (.reg [⟨(some 12), .mv (.const (.int .i64 0)), none, .f⟩])
  (.blk 4 (.loop (.seq (.seq (.reg [⟨(some 30), .mv (.tmp 12), none, .f⟩,
   ⟨(some 31), .mv (.tmp 3), none, .f⟩,
   ⟨(some 32), .bin .lss (.tmp 30) (.tmp 31), none, .f⟩])
  (.cond (.tmp 32) .skip (.exit 4)))
  (.seq (.blk 5 (.seq (.reg [⟨(some 35), .build [.int .u8 0, .int .u8 0, .int .u8 0, .int .u8 0, .int .u8 0, .int .u8 0, .int .u8 0, .int .u8 0, .int .u8 0, .int .u8 0, .int .u8 0, .int .u8 0, .int .u8 0, .int .u8 0, .int .u8 0, .int .u8 0, .int .u8 0, .int .u8 0, .int .u8 0, .int .u8 0, .int .u8 0, .int .u8 0, .int .u8 0, .int .u8 0, .int .u8 0, .int .u8 0, .int .u8 0] [], none, .f⟩,
   ⟨(some 13), .alloc 138 [.int .u8 0, .int .u8 0, .int .u8 0, .int .u8 0, .int .u8 0, .int .u8 0, .int .u8 0, .int .u8 0, .int .u8 0, .int .u8 0, .int .u8 0, .int .u8 0, .int .u8 0, .int .u8 0, .int .u8 0, .int .u8 0, .int .u8 0, .int .u8 0, .int .u8 0, .int .u8 0, .int .u8 0, .int .u8 0, .int .u8 0, .int .u8 0, .int .u8 0, .int .u8 0, .int .u8 0], none, .f⟩,
   ⟨none, .store 27 (.tmp 13) (.tmp 35), none, .f⟩])
  (.seq (.reg [⟨(some 36), .mv (.tmp 10), none, .f⟩,
   ⟨(some 37), .mv (.tmp 2), none, .f⟩,
   ⟨(some 38), .bin .mul (.tmp 36) (.tmp 37), none, .f⟩,
   ⟨(some 39), .mv (.tmp 11), none, .f⟩,
   ⟨(some 40), .bin .add (.tmp 38) (.tmp 39), none, .f⟩,
   ⟨(some 41), .fadr 0 (.tmp 13), none, .f⟩,
   ⟨(some 42), .ixa 9 1 (.tmp 41) (.tmp 40), none, .f⟩,
   ⟨none, .store 1 (.tmp 42) (.const (.int .u8 1)), none, .f⟩])
  (.seq (.reg [⟨(some 43), .mv (.tmp 11), none, .f⟩,
   ⟨(some 44), .mv (.tmp 3), none, .f⟩,
   ⟨(some 45), .bin .mul (.tmp 43) (.tmp 44), none, .f⟩,
   ⟨(some 46), .mv (.tmp 12), none, .f⟩,
   ⟨(some 47), .bin .add (.tmp 45) (.tmp 46), none, .f⟩,
   ⟨(some 48), .fadr 9 (.tmp 13), none, .f⟩,
   ⟨(some 49), .ixa 9 1 (.tmp 48) (.tmp 47), none, .f⟩,
   ⟨none, .store 1 (.tmp 49) (.const (.int .u8 1)), none, .f⟩])
  (.seq (.reg [⟨(some 50), .mv (.tmp 10), none, .f⟩,
   ⟨(some 51), .mv (.tmp 3), none, .f⟩,
   ⟨(some 52), .bin .mul (.tmp 50) (.tmp 51), none, .f⟩,
   ⟨(some 53), .mv (.tmp 12), none, .f⟩,
   ⟨(some 54), .bin .add (.tmp 52) (.tmp 53), none, .f⟩,
   ⟨(some 55), .fadr 18 (.tmp 13), none, .f⟩,
   ⟨(some 56), .ixa 9 1 (.tmp 55) (.tmp 54), none, .f⟩,
   ⟨none, .store 1 (.tmp 56) (.const (.int .u8 1)), none, .f⟩])
  (.reg [⟨(some 57), .fadr 4 (.tmp 9), none, .f⟩,
   ⟨(some 58), .load1 (.tmp 57), none, .f⟩,
   ⟨(some 59), .loadn 27 (.tmp 13), none, .f⟩,
   ⟨(some 60), .bslice 138 27 1 [.int .u8 0, .int .u8 0, .int .u8 0, .int .u8 0, .int .u8 0, .int .u8 0, .int .u8 0, .int .u8 0, .int .u8 0, .int .u8 0, .int .u8 0, .int .u8 0, .int .u8 0, .int .u8 0, .int .u8 0, .int .u8 0, .int .u8 0, .int .u8 0, .int .u8 0, .int .u8 0, .int .u8 0, .int .u8 0, .int .u8 0, .int .u8 0, .int .u8 0, .int .u8 0, .int .u8 0] [(0, 27, (.tmp 59))], none, .f⟩,
   ⟨(some 61), .app 138 27 27 (.tmp 58) (.tmp 60), none, .f⟩,
   ⟨(some 62), .fadr 4 (.tmp 9), none, .f⟩,
   ⟨none, .store 1 (.tmp 62) (.tmp 61), none, .f⟩]))))))
  (.reg [⟨(some 33), .mv (.tmp 12), none, .f⟩,
   ⟨(some 34), .bin .add (.tmp 33) (.const (.int .i64 1)), none, .f⟩,
   ⟨(some 12), .mv (.tmp 34), none, .f⟩])))))))
  (.reg [⟨(some 28), .mv (.tmp 11), none, .f⟩,
   ⟨(some 29), .bin .add (.tmp 28) (.const (.int .i64 1)), none, .f⟩,
   ⟨(some 11), .mv (.tmp 29), none, .f⟩])))))))
  (.reg [⟨(some 23), .mv (.tmp 10), none, .f⟩,
   ⟨(some 24), .bin .add (.tmp 23) (.const (.int .i64 1)), none, .f⟩,
   ⟨(some 10), .mv (.tmp 24), none, .f⟩]))))))
  (.seq (.reg [⟨(some 63), .loadn 5 (.tmp 9), none, .f⟩,
   ⟨none, .store 5 (.tmp 8) (.tmp 63), none, .f⟩])
  .ret))))⟩

theorem s303 : compFn Try.prog Try.f303 = some c303 := by kernel_rfl

/-- loop.example/g01262/spec.l01DrawOf -/
def c305 : XFn :=
 ⟨[.celln 4 27],
  (.seq (.reg [⟨(some 3), .box 26 (.tmp 1), none, .f⟩,
   ⟨(some 4), .alloc 138 [.int .u8 0, .int .u8 0, .int .u8 0, .int .u8 0, .int .u8 0, .int .u8 0, .int .u8 0, .int .u8 0, .int .u8 0, .int .u8 0, .int .u8 0, .int .u8 0, .int .u8 0, .int .u8 0, .int .u8 0, .int .u8 0, .int .u8 0, .int .u8 0, .int .u8 0, .int .u8 0, .int .u8 0, .int .u8 0, .int .u8 0, .int .u8 0, .int .u8 0, .int .u8 0, .int .u8 0], none, .f⟩])
  (.seq (.reg [⟨(some 9), .loadn 5 (.tmp 3), none, .f⟩,
   ⟨(some 10), .call (.func 300) [(.tmp 9)], none, .f⟩,
   ⟨(some 8), .mv (.tmp 10), none, .f⟩,
   ⟨(some 11), .ext (.tmp 8) 0, none, .f⟩,
   ⟨(some 12), .ext (.tmp 8) 1, none, .f⟩,
   ⟨(some 13), .ext (.tmp 8) 2, none, .f⟩,
   ⟨(some 5), .mv (.tmp 11), none, .f⟩,
   ⟨(some 6), .mv (.tmp 12), none, .f⟩,
   ⟨(some 7), .mv (.tmp 13), none, .f⟩])
  (.seq (.reg [⟨(some 14), .mv (.tmp 0), none, .f⟩,
   ⟨(some 15), .fadr 0 (.tmp 3), none, .f⟩,
   ⟨(some 16), .load1 (.tmp 15), none, .f⟩,
   ⟨(some 17), .mv (.tmp 5), none, .f⟩,
   ⟨(some 18), .call (.func 334) [(.tmp 14), (.tmp 16), (.tmp 17)], none, (.s true [])⟩,
   ⟨(some 19), .mv (.tmp 0), none, .f⟩,
   ⟨(some 20), .fadr 0 (.tmp 3), none, .f⟩,
   ⟨(some 21), .load1 (.tmp 20), none, (.s false [(.tmp 14)])⟩,
   ⟨(some 22), .mv (.tmp 6), none, .f⟩,
   ⟨(some 23), .call (.func 334) [(.tmp 19), (.tmp 21), (.tmp 22)], none, (.s true [])⟩,
   ⟨(some 24), .mv (.tmp 0), none, .f⟩,
   ⟨(some 25), .fadr 0 (.tmp 3), none, .f⟩,
   ⟨(some 26), .load1 (.tmp 25), none, (.s false [(.tmp 14), (.tmp 19)])⟩,
   ⟨(some 27), .mv (.tmp 7), none, .f⟩,
   ⟨(some 28), .call (.func 334) [(.tmp 24), (.tmp 26), (.tmp 27)], none, .f⟩,
   ⟨(some 29), .build [.int .u8 0, .int .u8 0, .int .u8 0, .int .u8 0, .int .u8 0, .int .u8 0, .int .u8 0, .int .u8 0, .int .u8 0, .int .u8 0, .int .u8 0, .int .u8 0, .int .u8 0, .int .u8 0, .int .u8 0, .int .u8 0, .int .u8 0, .int .u8 0, .int .u8 0, .int .u8 0, .int .u8 0, .int .u8 0, .int .u8 0, .int .u8 0, .int .u8 0, .int .u8 0, .int .u8 0] [(0, 9, (.tmp 18)), (9, 9, (.tmp 23)), (18, 9, (.tmp 28))], none, .f⟩,
   ⟨none, .store 27 (.tmp 4) (.tmp 29), none, .f⟩])
  .ret)))⟩

theorem s305 : compFn Try.prog Try.f305 = some c305 := by kernel_rfl

/-- slices.IndexFunc[[][]int64,[]int64] -/
def c312 : XFn :=
 ⟨[.tmp 4],
  (.seq (.reg [⟨(some 4), .mv (.const (.int .i64 0)), none, .f⟩])
  (.seq (.seq (.reg [⟨(some 6), .mv (.tmp 0), none, .f⟩,
   ⟨(some 7), .len (.tmp 6), none, .f⟩,
   ⟨(some 8), .mv (.const (.int .i64 0)), none, .f⟩])
  (.blk 0 (.loop (.seq (.reg [⟨(some 9), .bin .lss (.tmp 8) (.tmp 7), none, .f⟩])
  (.seq (.cond (.tmp 9) .skip (.exit 0))
  (.seq (.blk 1 (.seq (.reg [⟨(some 10), .mv (.tmp 8), none, .f⟩,
   ⟨(some 5), .mv (.tmp 10), none, .f⟩])
  (.seq (.reg [⟨(some 11), .mv (.tmp 1), none, .f⟩,
   ⟨(some 12), .mv (.tmp 0), none, .f⟩,
   ⟨(some 13), .mv (.tmp 5), none, .f⟩,
   ⟨(some 14), .ixs 1 (.tmp 12) (.tmp 13), none, .f⟩,
   ⟨(some 15), .load1 (.tmp 14), none, .f⟩,
   ⟨(some 16), .call (.tmp 11) [(.tmp 15)], none, .f⟩])
  (.cond (.tmp 16) (.seq (.reg [⟨(some 17), .mv (.tmp 5), none, .f⟩,
   ⟨(some 4), .mv (.tmp 17), none, .f⟩])
  .ret) .skip))))
  (.reg [⟨(some 18), .bin .add (.tmp 8) (.const (.int .i64 1)), none, .f⟩,
   ⟨(some 8), .mv (.tmp 18), none, .f⟩])))))))
  (.seq (.reg [⟨(some 4), .mv (.const (.int .i64 (-1))), none, .f⟩])
  .ret)))⟩

theorem s312 : compFn Try.prog Try.f312 = some c312 := by kernel_rfl

/-- loop.example/g01262/impl.rank$1 -/
def c313 : XFn :=
 ⟨[.tmp 3],
  (.seq (.reg [⟨(some 3), .mv (.const (.bool false)), none, .f⟩])
  (.seq (.reg [⟨(some 4), .mv (.tmp 0), none, .f⟩,
   ⟨(some 5), .load1 (.tmp 1), none, .f⟩,
   ⟨(some 6), .ixs 1 (.tmp 4) (.tmp 5), none, .f⟩,
   ⟨(some 7), .load1 (.tmp 6), none, .f⟩,
   ⟨(some 8), .bin .neq (.tmp 7) (.const (.int .i64 0)), none, .f⟩,
   ⟨(some 3), .mv (.tmp 8), none, .f⟩])
  .ret))⟩

theorem s313 : compFn Try.prog Try.f313 = some c313 := by kernel_rfl

/-- loop.example/g01262/spec.l01DrawSizes -/
def c320 : XFn :=
 ⟨[.celln 2 5],
  (.seq (.reg [⟨(some 2), .alloc 26 [.int .i64 0, .int .i64 0, .int .i64 0, .int .i64 0, .slice none 0 0], none, .f⟩])
  (.seq (.reg [⟨(some 4), .mv (.tmp 0), none, .f⟩,
   ⟨(some 5), .bslice 2 1 5 [.int .i64 0] [(0, 1, (.const (.int .i64 2))), (1, 1, (.const (.int .i64 2))), (2, 1, (.const (.int .i64 2))), (3, 1, (.const (.int .i64 3))), (4, 1, (.const (.int .i64 5)))], none, .f⟩,
   ⟨(some 6), .call (.func 147) [(.tmp 4), (.tmp 5)], none, .f⟩,
   ⟨(some 7), .bslice 138 27 0 [.int .u8 0, .int .u8 0, .int .u8 0, .int .u8 0, .int .u8 0, .int .u8 0, .int .u8 0, .int .u8 0, .int .u8 0, .int .u8 0, .int .u8 0, .int .u8 0, .int .u8 0, .int .u8 0, .int .u8 0, .int .u8 0, .int .u8 0, .int .u8 0, .int .u8 0, .int .u8 0, .int .u8 0, .int .u8 0, .int .u8 0, .int .u8 0, .int .u8 0, .int .u8 0, .int .u8 0] [], none, .f⟩,
   ⟨(some 8), .build [.int .i64 0, .int .i64 0, .int .i64 0, .int .i64 0, .slice none 0 0] [(0, 1, (.tmp 6)), (1, 1, (.const (.int .i64 2))), (2, 1, (.const (.int .i64 2))), (3, 1, (.const (.int .i64 2))), (4, 1, (.tmp 7))], none, .f⟩,
   ⟨(some 3), .alloc 26 [.int .i64 0, .int .i64 0, .int .i64 0, .int .i64 0, .slice none 0 0], none, .f⟩,
   ⟨none, .store 5 (.tmp 3) (.tmp 8), none, .f⟩])
  (.seq (.seq (.reg [⟨(some 9), .mv (.tmp 0), none, .f⟩,
   ⟨(some 10), .call (.func 148) [(.tmp 9), (.const (.int .i64 2))], none, .f⟩,
   ⟨(some 11), .bin .eql (.tmp 10) (.const (.int .i64 0)), none, .f⟩])
  (.cond (.tmp 11) (.seq (.reg [⟨(some 12), .mv (.tmp 0), none, .f⟩,
   ⟨(some 13), .bslice 2 1 3 [.int .i64 0] [(0, 1, (.const (.int .i64 1))), (1, 1, (.const (.int .i64 2))), (2, 1, (.const (.int .i64 3)))], none, .f⟩,
   ⟨(some 14), .call (.func 147) [(.tmp 12), (.tmp 13)], none, .f⟩,
   ⟨(some 15), .fadr 1 (.tmp 3), none, .f⟩,
   ⟨none, .store 1 (.tmp 15) (.tmp 14), none, .f⟩])
  (.seq (.reg [⟨(some 16), .mv (.tmp 0), none, .f⟩,
   ⟨(some 17), .bslice 2 1 3 [.int .i64 0] [(0, 1, (.const (.int .i64 1))), (1, 1, (.const (.int .i64 2))), (2, 1, (.const (.int .i64 3)))], none, .f⟩,
   ⟨(some 18), .call (.func 147) [(.tmp 16), (.tmp 17)], none, .f⟩,
   ⟨(some 19), .fadr 2 (.tmp 3), none, .f⟩,
   ⟨none, .store 1 (.tmp 19) (.tmp 18), none, .f⟩])
  (.reg [⟨(some 20), .mv (.tmp 0), none, .f⟩,
   ⟨(some 21), .bslice 2 1 3 [.int .i64 0] [(0, 1, (.const (.int .i64 1))), (1, 1, (.const (.int .i64 2))), (2, 1, (.const (.int .i64 3)))], none, .f⟩,
   ⟨(some 22), .call (.func 147) [(.tmp 20), (.tmp 21)], none, .f⟩,
   ⟨(some 23), .fadr 3 (.tmp 3), none, .f⟩,
   ⟨none, .store 1 (.tmp 23) (.tmp 22), none, .f⟩]))) .skip))
  (.seq (.reg [⟨(some 24), .loadn 5 (.tmp 3), none, .f⟩,
   ⟨none, .store 5 (.tmp 2) (.tmp 24), none, .f⟩])
  .ret))))⟩

theorem s320 : compFn Try.prog Try.f320 = some c320 := by kernel_rfl

/-- loop.example/g01262/spec.l01Strassen -/
def c321 : XFn :=
 ⟨[.celln 2 5],
  (.seq (.reg [⟨(some 2), .alloc 26 [.int .i64 0, .int .i64 0, .int .i64 0, .int .i64 0, .slice none 0 0], none, .f⟩])
  (.seq (.reg [⟨(some 5), .mv (.tmp 0), none, .f⟩,
   ⟨(some 6), .bslice 138 27 0 [.int .u8 0, .int .u8 0, .int .u8 0, .int .u8 0, .int .u8 0, .int .u8 0, .int .u8 0, .int .u8 0, .int .u8 0, .int .u8 0, .int .u8 0, .int .u8 0, .int .u8 0, .int .u8 0, .int .u8 0, .int .u8 0, .int .u8 0, .int .u8 0, .int .u8 0, .int .u8 0, .int .u8 0, .int .u8 0, .int .u8 0, .int .u8 0, .int .u8 0, .int .u8 0, .int .u8 0] [], none, .f⟩,
   ⟨(some 7), .build [.int .i64 0, .int .i64 0, .int .i64 0, .int .i64 0, .slice none 0 0] [(0, 1, (.tmp 5)), (1, 1, (.const (.int .i64 2))), (2, 1, (.const (.int .i64 2))), (3, 1, (.const (.int .i64 2))), (4, 1, (.tmp 6))], none, .f⟩,
   ⟨(some 3), .alloc 26 [.int .i64 0, .int .i64 0, .int .i64 0, .int .i64 0, .slice none 0 0], none, .f⟩,
   ⟨none, .store 5 (.tmp 3) (.tmp 7), none, .f⟩])
  (.seq (.reg [⟨(some 8), .mv (.tmp 0), none, .f⟩,
   ⟨(some 9), .bin .sub (.tmp 8) (.const (.int .i64 1)), none, .f⟩,
   ⟨(some 10), .conv .u8 (.tmp 9), none, .f⟩,
   ⟨(some 4), .mv (.tmp 10), none, .f⟩])
  (.seq (.reg [⟨(some 11), .fadr 4 (.tmp 3), none, .f⟩,
   ⟨(some 12), .load1 (.tmp 11), none, .f⟩,
   ⟨(some 13), .build [.int .u8 0, .int .u8 0, .int .u8 0, .int .u8 0, .int .u8 0, .int .u8 0, .int .u8 0, .int .u8 0, .int .u8 0] [(0, 1, (.const (.int .u8 1))), (1, 1, (.const (.int .u8 0))), (2, 1, (.const (.int .u8 0))), (3, 1, (.const (.int .u8 1)))], none, .f⟩,
   ⟨(some 14), .build [.int .u8 0, .int .u8 0, .int .u8 0, .int .u8 0, .int .u8 0, .int .u8 0, .int .u8 0, .int .u8 0, .int .u8 0] [(0, 1, (.const (.int .u8 1))), (1, 1, (.const (.int .u8 0))), (2, 1, (.const (.int .u8 0))), (3, 1, (.const (.int .u8 1)))], none, .f⟩,
   ⟨(some 15), .build [.int .u8 0, .int .u8 0, .int .u8 0, .int .u8 0, .int .u8 0, .int .u8 0, .int .u8 0, .int .u8 0, .int .u8 0] [(0, 1, (.const (.int .u8 1))), (1, 1, (.const (.int .u8 0))), (2, 1, (.const (.int .u8 0))), (3, 1, (.const (.int .u8 1)))], none, .f⟩,
   ⟨(some 16), .build [.int .u8 0, .int .u8 0, .int .u8 0, .int .u8 0, .int .u8 0, .int .u8 0, .int .u8 0, .int .u8 0, .int .u8 0, .int .u8 0, .int .u8 0, .int .u8 0, .int .u8 0, .int .u8 0, .int .u8 0, .int .u8 0, .int .u8 0, .int .u8 0, .int .u8 0, .int .u8 0, .int .u8 0, .int .u8 0, .int .u8 0, .int .u8 0, .int .u8 0, .int .u8 0, .int .u8 0] [(0, 9, (.tmp 13)), (9, 9, (.tmp 14)), (18, 9, (.tmp 15))], none, .f⟩,
   ⟨(some 17), .build [.int .u8 0, .int .u8 0, .int .u8 0, .int .u8 0, .int .u8 0, .int .u8 0, .int .u8 0, .int .u8 0, .int .u8 0] [(0, 1, (.const (.int .u8 0))), (1, 1, (.const (.int .u8 0))), (2, 1, (.const (.int .u8 1))), (3, 1, (.const (.int .u8 1)))], none, .f⟩,
   ⟨(some 18), .build [.int .u8 0, .int .u8 0, .int .u8 0, .int .u8 0, .int .u8 0, .int .u8 0, .int .u8 0, .int .u8 0, .int .u8 0] [(0, 1, (.const (.int .u8 1)))], none, .f⟩,
   ⟨(some 19), .mv (.tmp 4), none, .f⟩,
   ⟨(some 20), .build [.int .u8 0, .int .u8 0, .int .u8 0, .int .u8 0, .int .u8 0, .int .u8 0, .int .u8 0, .int .u8 0, .int .u8 0] [(0, 1, (.const (.int .u8 0))), (1, 1, (.const (.int .u8 0))), (2, 1, (.const (.int .u8 1))), (3, 1, (.tmp 19))], none, .f⟩,
   ⟨(some 21), .build [.int .u8 0, .int .u8 0, .int .u8 0, .int .u8 0, .int .u8 0, .int .u8 0, .int .u8 0, .int .u8 0, .int .u8 0, .int .u8 0, .int .u8 0, .int .u8 0, .int .u8 0, .int .u8 0, .int .u8 0, .int .u8 0, .int .u8 0, .int .u8 0, .int .u8 0, .int .u8 0, .int .u8 0, .int .u8 0, .int .u8 0, .int .u8 0, .int .u8 0, .int .u8 0, .int .u8 0] [(0, 9, (.tmp 17)), (9, 9, (.tmp 18)), (18, 9, (.tmp 20))], none, .f⟩,
   ⟨(some 22), .build [.int .u8 0, .int .u8 0, .int .u8 0, .int .u8 0, .int .u8 0, .int .u8 0, .int .u8 0, .int .u8 0, .int .u8 0] [(0, 1, (.const (.int .u8 1)))], none, .f⟩,
   ⟨(some 23), .mv (.tmp 4), none, .f⟩,
   ⟨(some 24), .build [.int .u8 0, .int .u8 0, .int .u8 0, .int .u8 0, .int .u8 0, .int .u8 0, .int .u8 0, .int .u8 0, .int .u8 0] [(0, 1, (.const (.int .u8 0))), (1, 1, (.const (.int .u8 1))), (2, 1, (.const (.int .u8 0))), (3, 1, (.tmp 23))], none, .f⟩,
   ⟨(some 25), .build [.int .u8 0, .int .u8 0, .int .u8 0, .int .u8 0, .int .u8 0, .int .u8 0, .int .u8 0, .int .u8 0, .int .u8 0] [(0, 1, (.const (.int .u8 0))), (1, 1, (.const (.int .u8 1))), (2, 1, (.const (.int .u8 0))), (3, 1, (.const (.int .u8 1)))], none, .f⟩,
   ⟨(some 26), .build [.int .u8 0, .int .u8 0, .int .u8 0, .int .u8 0, .int .u8 0, .int .u8 0, .int .u8 0, .int .u8 0, .int .u8 0, .int .u8 0, .int .u8 0, .int .u8 0, .int .u8 0, .int .u8 0, .int .u8 0, .int .u8 0, .int .u8 0, .int .u8 0, .int .u8 0, .int .u8 0, .int .u8 0, .int .u8 0, .int .u8 0, .int .u8 0, .int .u8 0, .int .u8 0, .int .u8 0] [(0, 9, (.tmp 22)), (9, 9, (.tmp 24)), (18, 9, (.tmp 25))], none, .f⟩,
   ⟨(some 27), .build [.int .u8 0, .int .u8 0, .int .u8 0, .int .u8 0, .int .u8 0, .int .u8 0, .int .u8 0, .int .u8 0, .int .u8 0] [(0, 1, (.const (.int .u8 0))), (1, 1, (.const (.int .u8 0))), (2, 1, (.const (.int .u8 0))), (3, 1, (.const (.int .u8 1)))], none, .f⟩,
   ⟨(some 28), .mv (.tmp 4), none, .f⟩,
   ⟨(some 29), .build [.int .u8 0, .int .u8 0, .int .u8 0, .int .u8 0, .int .u8 0, .int .u8 0, .int .u8 0, .int .u8 0, .int .u8 0] [(0, 1, (.tmp 28)), (1, 1, (.const (.int .u8 0))), (2, 1, (.const (.int .u8 1)))], none, .f⟩,
   ⟨(some 30), .build [.int .u8 0, .int .u8 0, .int .u8 0, .int .u8 0, .int .u8 0, .int .u8 0, .int .u8 0, .int .u8 0, .int .u8 0] [(0, 1, (.const (.int .u8 1))), (1, 1, (.const (.int .u8 0))), (2, 1, (.const (.int .u8 1)))], none, .f⟩,
   ⟨(some 31), .build [.int .u8 0, .int .u8 0, .int .u8 0, .int .u8 0, .int .u8 0, .int .u8 0, .int .u8 0, .int .u8 0, .int .u8 0, .int .u8 0, .int .u8 0, .int .u8 0, .int .u8 0, .int .u8 0, .int .u8 0, .int .u8 0, .int .u8 0, .int .u8 0, .int .u8 0, .int .u8 0, .int .u8 0, .int .u8 0, .int .u8 0, .int .u8 0, .int .u8 0, .int .u8 0, .int .u8 0] [(0, 9, (.tmp 27)), (9, 9, (.tmp 29)), (18, 9, (.tmp 30))], none, .f⟩,
   ⟨(some 32), .build [.int .u8 0, .int .u8 0, .int .u8 0, .int .u8 0, .int .u8 0, .int .u8 0, .int .u8 0, .int .u8 0, .int .u8 0] [(0, 1, (.const (.int .u8 1))), (1, 1, (.const (.int .u8 1)))], none, .f⟩,
   ⟨(some 33), .build [.int .u8 0, .int .u8 0, .int .u8 0, .int .u8 0, .int .u8 0, .int .u8 0, .int .u8 0, .int .u8 0, .int .u8 0] [(0, 1, (.const (.int .u8 0))), (1, 1, (.const (.int .u8 0))), (2, 1, (.const (.int .u8 0))), (3, 1, (.const (.int .u8 1)))], none, .f⟩,
   ⟨(some 34), .mv (.tmp 4), none, .f⟩,
   ⟨(some 35), .build [.int .u8 0, .int .u8 0, .int .u8 0, .int .u8 0, .int .u8 0, .int .u8 0, .int .u8 0, .int .u8 0, .int .u8 0] [(0, 1, (.tmp 34)), (1, 1, (.const (.int .u8 1)))], none, .f⟩,
   ⟨(some 36), .build [.int .u8 0, .int .u8 0, .int .u8 0, .int .u8 0, .int .u8 0, .int .u8 0, .int .u8 0, .int .u8 0, .int .u8 0, .int .u8 0, .int .u8 0, .int .u8 0, .int .u8 0, .int .u8 0, .int .u8 0, .int .u8 0, .int .u8 0, .int .u8 0, .int .u8 0, .int .u8 0, .int .u8 0, .int .u8 0, .int .u8 0, .int .u8 0, .int .u8 0, .int .u8 0, .int .u8 0] [(0, 9, (.tmp 32)), (9, 9, (.tmp 33)), (18, 9, (.tmp 35))], none, .f⟩,
   ⟨(some 37), .mv (.tmp 4), none, .f⟩,
   ⟨(some 38), .build [.int .u8 0, .int .u8 0, .int .u8 0, .int .u8 0, .int .u8 0, .int .u8 0, .int .u8 0, .int .u8 0, .int .u8 0] [(0, 1, (.tmp 37)), (1, 1, (.const (.int .u8 0))), (2, 1, (.const (.int .u8 1)))], none, .f⟩,
   ⟨(some 39), .build [.int .u8 0, .int .u8 0, .int .u8 0, .int .u8 0, .int .u8 0, .int .u8 0, .int .u8 0, .int .u8 0, .int .u8 0] [(0, 1, (.const (.int .u8 1))), (1, 1, (.const (.int .u8 1)))], none, .f⟩,
   ⟨(some 40), .build [.int .u8 0, .int .u8 0, .int .u8 0, .int .u8 0, .int .u8 0, .int .u8 0, .int .u8 0, .int .u8 0, .int .u8 0] [(0, 1, (.const (.int .u8 0))), (1, 1, (.const (.int .u8 0))), (2, 1, (.const (.int .u8 0))), (3, 1, (.const (.int .u8 1)))], none, .f⟩,
   ⟨(some 41), .build [.int .u8 0, .int .u8 0, .int .u8 0, .int .u8 0, .int .u8 0, .int .u8 0, .int .u8 0, .int .u8 0, .int .u8 0, .int .u8 0, .int .u8 0, .int .u8 0, .int .u8 0, .int .u8 0, .int .u8 0, .int .u8 0, .int .u8 0, .int .u8 0, .int .u8 0, .int .u8 0, .int .u8 0, .int .u8 0, .int .u8 0, .int .u8 0, .int .u8 0, .int .u8 0, .int .u8 0] [(0, 9, (.tmp 38)), (9, 9, (.tmp 39)), (18, 9, (.tmp 40))], none, .f⟩,
   ⟨(some 42), .mv (.tmp 4), none, .f⟩,
   ⟨(some 43), .build [.int .u8 0, .int .u8 0, .int .u8 0, .int .u8 0, .int .u8 0, .int .u8 0, .int .u8 0, .int .u8 0, .int .u8 0] [(0, 1, (.const (.int .u8 0))), (1, 1, (.const (.int .u8 1))), (2, 1, (.const (.int .u8 0))), (3, 1, (.tmp 42))], none, .f⟩,
   ⟨(some 44), .build [.int .u8 0, .int .u8 0, .int .u8 0, .int .u8 0, .int .u8 0, .int .u8 0, .int .u8 0, .int .u8 0, .int .u8 0] [(0, 1, (.const (.int .u8 0))), (1, 1, (.const (.int .u8 0))), (2, 1, (.const (.int .u8 1))), (3, 1, (.const (.int .u8 1)))], none, .f⟩,
   ⟨(some 45), .build [.int .u8 0, .int .u8 0, .int .u8 0, .int .u8 0, .int .u8 0, .int .u8 0, .int .u8 0, .int .u8 0, .int .u8 0] [(0, 1, (.const (.int .u8 1)))], none, .f⟩,
   ⟨(some 46), .build [.int .u8 0, .int .u8 0, .int .u8 0, .int .u8 0, .int .u8 0, .int .u8 0, .int .u8 0, .int .u8 0, .int .u8 0, .int .u8 0, .int .u8 0, .int .u8 0, .int .u8 0, .int .u8 0, .int .u8 0, .int .u8 0, .int .u8 0, .int .u8 0, .int .u8 0, .int .u8 0, .int .u8 0, .int .u8 0, .int .u8 0, .int .u8 0, .int .u8 0, .int .u8 0, .int .u8 0] [(0, 9, (.tmp 43)), (9, 9, (.tmp 44)), (18, 9, (.tmp 45))], none, .f⟩,
   ⟨(some 47), .bslice 138 27 7 [.int .u8 0, .int .u8 0, .int .u8 0, .int .u8 0, .int .u8 0, .int .u8 0, .int .u8 0, .int .u8 0, .int .u8 0, .int .u8 0, .int .u8 0, .int .u8 0, .int .u8 0, .int .u8 0, .int .u8 0, .int .u8 0, .int .u8 0, .int .u8 0, .int .u8 0, .int .u8 0, .int .u8 0, .int .u8 0, .int .u8 0, .int .u8 0, .int .u8 0, .int .u8 0, .int .u8 0] [(0, 27, (.tmp 16)), (27, 27, (.tmp 21)), (54, 27, (.tmp 26)), (81, 27, (.tmp 31)), (108, 27, (.tmp 36)), (135, 27, (.tmp 41)), (162, 27, (.tmp 46))], none, .f⟩,
   ⟨(some 48), .app 138 27 27 (.tmp 12) (.tmp 47), none, .f⟩,
   ⟨(some 49), .fadr 4 (.tmp 3), none, .f⟩,
   ⟨none, .store 1 (.tmp 49) (.tmp 48), none, .f⟩])
  (.seq (.reg [⟨(some 50), .loadn 5 (.tmp 3), none, .f⟩,
   ⟨none, .store 5 (.tmp 2) (.tmp 50), none, .f⟩])
  .ret)))))⟩

theorem s321 : compFn Try.prog Try.f321 = some c321 := by kernel_rfl

/-- loop.example/g01262/spec.l01DrawForm -/
def c334 : XFn :=
 ⟨[.celln 6 9],
  (.seq (.reg [⟨(some 6), .alloc 136 [.int .u8 0, .int .u8 0, .int .u8 0, .int .u8 0, .int .u8 0, .int .u8 0, .int .u8 0, .int .u8 0, .int .u8 0], none, .f⟩])
  (.seq (.reg [⟨(some 9), .build [.int .u8 0, .int .u8 0, .int .u8 0, .int .u8 0, .int .u8 0, .int .u8 0, .int .u8 0, .int .u8 0, .int .u8 0] [], none, .f⟩,
   ⟨(some 7), .alloc 136 [.int .u8 0, .int .u8 0, .int .u8 0, .int .u8 0, .int .u8 0, .int .u8 0, .int .u8 0, .int .u8 0, .int .u8 0], none, .f⟩,
   ⟨none, .store 9 (.tmp 7) (.tmp 9), none, .f⟩])
  (.seq (.seq (.reg [⟨(some 8), .mv (.const (.int .i64 0)), none, .f⟩])
  (.blk 0 (.loop (.seq (.seq (.reg [⟨(some 10), .mv (.tmp 8), none, .f⟩,
   ⟨(some 11), .mv (.tmp 2), none, .f⟩,
   ⟨(some 12), .bin .lss (.tmp 10) (.tmp 11), none, .f⟩])
  (.cond (.tmp 12) .skip (.exit 0)))
  (.seq (.blk 1 (.seq (.reg [⟨(some 15), .mv (.tmp 0), none, .f⟩,
   ⟨(some 16), .call (.func 148) [(.tmp 15), (.const (.int .i64 2))], none, .f⟩,
   ⟨(some 17), .bin .eql (.tmp 16) (.const (.int .i64 0)), none, .f⟩])
  (.cond (.tmp 17) (.reg [⟨(some 18), .mv (.tmp 8), none, .f⟩,
   ⟨(some 19), .mv (.tmp 0), none, .f⟩,
   ⟨(some 20), .mv (.tmp 1), none, .f⟩,
   ⟨(some 21), .call (.func 148) [(.tmp 19), (.tmp 20)], none, .f⟩,
   ⟨(some 22), .conv .u8 (.tmp 21), none, .f⟩,
   ⟨(some 23), .ixa 9 1 (.tmp 7) (.tmp 18), none, .f⟩,
   ⟨none, .store 1 (.tmp 23) (.tmp 22), none, .f⟩]) .skip)))
  (.reg [⟨(some 13), .mv (.tmp 8), none, .f⟩,
   ⟨(some 14), .bin .add (.tmp 13) (.const (.int .i64 1)), none, .f⟩,
   ⟨(some 8), .mv (.tmp 14), none, .f⟩]))))))
  (.seq (.seq (.reg [⟨(some 24), .loadn 9 (.tmp 7), none, .f⟩,
   ⟨(some 25), .call (.func 278) [(.tmp 24)], none, .f⟩])
  (.cond (.tmp 25) (.reg [⟨(some 26), .mv (.tmp 0), none, .f⟩,
   ⟨(some 27), .mv (.tmp 2), none, .f⟩,
   ⟨(some 28), .call (.func 148) [(.tmp 26), (.tmp 27)], none, .f⟩,
   ⟨(some 29), .mv (.tmp 0), none, .f⟩,
   ⟨(some 30), .mv (.tmp 1), none, .f⟩,
   ⟨(some 31), .bin .sub (.tmp 30) (.const (.int .i64 1)), none, .f⟩,
   ⟨(some 32), .call (.func 148) [(.tmp 29), (.tmp 31)], none, .f⟩,
   ⟨(some 33), .bin .add (.const (.int .i64 1)) (.tmp 32), none, .f⟩,
   ⟨(some 34), .conv .u8 (.tmp 33), none, .f⟩,
   ⟨(some 35), .ixa 9 1 (.tmp 7) (.tmp 28), none, .f⟩,
   ⟨none, .store 1 (.tmp 35) (.tmp 34), none, .f⟩]) .skip))
  (.seq (.reg [⟨(some 36), .loadn 9 (.tmp 7), none, .f⟩,
   ⟨none, .store 9 (.tmp 6) (.tmp 36), none, .f⟩])
  .ret)))))⟩

theorem s334 : compFn Try.prog Try.f334 = some c334 := by kernel_rfl

def tab2 : List (Nat × XFn) := [(188, c188), (189, c189), (190, c190), (191, c191), (192, c192), (193, c193), (194, c194), (222, c222), (224, c224), (243, c243), (245, c245), (246, c246), (250, c250), (264, c264), (266, c266), (278, c278), (285, c285), (290, c290), (291, c291), (292, c292), (293, c293), (300, c300), (303, c303), (305, c305), (312, c312), (313, c313), (320, c320), (321, c321), (334, c334)]
theorem ts2 : TSound Try.prog (fun g => tab2.lookup g) := by
  refine tsound_of_all (P := Try.prog) (tab := tab2) ?_
  intro p hp
  simp only [tab2, List.mem_cons, List.not_mem_nil, or_false] at hp
  rcases hp with rfl | rfl | rfl | rfl | rfl | rfl | rfl | rfl | rfl | rfl | rfl | rfl | rfl | rfl | rfl | rfl | rfl | rfl | rfl | rfl | rfl | rfl | rfl | rfl | rfl | rfl | rfl | rfl | rfl
  · exact ⟨_, Try.func188, s188⟩
  · exact ⟨_, Try.func189, s189⟩
  · exact ⟨_, Try.func190, s190⟩
  · exact ⟨_, Try.func191, s191⟩
  · exact ⟨_, Try.func192, s192⟩
  · exact ⟨_, Try.func193, s193⟩
  · exact ⟨_, Try.func194, s194⟩
  · exact ⟨_, Try.func222, s222⟩
  · exact ⟨_, Try.func224, s224⟩
  · exact ⟨_, Try.func243, s243⟩
  · exact ⟨_, Try.func245, s245⟩
  · exact ⟨_, Try.func246, s246⟩
  · exact ⟨_, Try.func250, s250⟩
  · exact ⟨_, Try.func264, s264⟩
  · exact ⟨_, Try.func266, s266⟩
  · exact ⟨_, Try.func278, s278⟩
  · exact ⟨_, Try.func285, s285⟩
  · exact ⟨_, Try.func290, s290⟩
  · exact ⟨_, Try.func291, s291⟩
  · exact ⟨_, Try.func292, s292⟩
  · exact ⟨_, Try.func293, s293⟩
  · exact ⟨_, Try.func300, s300⟩
  · exact ⟨_, Try.func303, s303⟩
  · exact ⟨_, Try.func305, s305⟩
  · exact ⟨_, Try.func312, s312⟩
  · exact ⟨_, Try.func313, s313⟩
  · exact ⟨_, Try.func320, s320⟩
  · exact ⟨_, Try.func321, s321⟩
  · exact ⟨_, Try.func334, s334⟩
end Go.Proofs.Ytapafdpnmakekaa.X
