/- Texts of one claim, put together by merge.py: XCode3. -/
import Derived.Test.YtapafdpnmakekaaSI3
import Derived.Test.YtapafdpnmakekaaProg
set_option linter.unusedVariables false
set_option maxRecDepth 4000
namespace Go.Proofs.Ytapafdpnmakekaa.X
open Go Go.RowKit
def c321 : XFn :=
 ⟨[.celln 2 5],
  (.seq (.reg [⟨(some 2), .alloc 26 [.int .i64 0, .int .i64 0, .int .i64 0, .int .i64 0, .slice none 0 0], none, .f⟩])
  (.seq (.reg [⟨(some 5), .mv (.tmp 0), none, .f⟩,
   ⟨(some 6), .bslice 138 27 0 [.int .u8 0, .int .u8 0, .int .u8 0, .int .u8 0, .int .u8 0, .int .u8 0, .int .u8 0, .int .u8 0, .int .u8 0, .int .u8 0, .int .u8 0, .int .u8 0, .int .u8 0, .int .u8 0, .int .u8 0, .int .u8 0, .int .u8 0, .int .u8 0, .int .u8 0, .int .u8 0, .int .u8 0, .int .u8 0, .int .u8 0, .int .u8 0, .int .u8 0, .int .u8 0, .int .u8 0] [], none, .f⟩,
   ⟨(some 7), .build [.int .i64 0, .int .i64 0, .int .i64 0, .int .i64 0, .slice none 0 0] [(0, 1, (.tmp 5)), (1, 1, (.const (.int .i64 2))), (2, 1, (.const (.int .i64 2))), (3, 1, (.const (.int .i64 2))), (4, 1, (.tmp 6))], none, .f⟩,
   ⟨(some 3), .alloc 26 [.int .i64 0, .int .i64 0, .int .i64 0, .int .i64 0, .slice none 0 0], none, .f⟩,
   ⟨none, .store 5 (.tmp 3) (.tmp 7), none, .f⟩])
  (.seq (.reg [⟨(some 8), .mv (.tmp 0), none, .f⟩,
   ⟨(some 9), .bin .sub (.tmp 8) (.const (.int .i64 1)), none, .f⟩,
   ⟨(some 10), .conv .u8 (.tmp 9), none, .f⟩,
   ⟨(some 4), .mv (.tmp 10), none, .f⟩])
  (.seq (.reg [⟨(some 11), .fadr 4 (.tmp 3), none, .f⟩,
   ⟨(some 12), .load1 (.tmp 11), none, .f⟩,
   ⟨(some 13), .build [.int .u8 0, .int .u8 0, .int .u8 0, .int .u8 0, .int .u8 0, .int .u8 0, .int .u8 0, .int .u8 0, .int .u8 0] [(0, 1, (.const (.int .u8 1))), (1, 1, (.const (.int .u8 0))), (2, 1, (.const (.int .u8 0))), (3, 1, (.const (.int .u8 1)))], none, .f⟩,
   ⟨(some 14), .build [.int .u8 0, .int .u8 0, .int .u8 0, .int .u8 0, .int .u8 0, .int .u8 0, .int .u8 0, .int .u8 0, .int .u8 0] [(0, 1, (.const (.int .u8 1))), (1, 1, (.const (.int .u8 0))), (2, 1, (.const (.int .u8 0))), (3, 1, (.const (.int .u8 1)))], none, .f⟩,
   ⟨(some 15), .build [.int .u8 0, .int .u8 0, .int .u8 0, .int .u8 0, .int .u8 0, .int .u8 0, .int .u8 0, .int .u8 0, .int .u8 0] [(0, 1, (.const (.int .u8 1))), (1, 1, (.const (.int .u8 0))), (2, 1, (.const (.int .u8 0))), (3, 1, (.const (.int .u8 1)))], none, .f⟩,
   ⟨(some 16), .build [.int .u8 0, .int .u8 0, .int .u8 0, .int .u8 0, .int .u8 0, .int .u8 0, .int .u8 0, .int .u8 0, .int .u8 0, .int .u8 0, .int .u8 0, .int .u8 0, .int .u8 0, .int .u8 0, .int .u8 0, .int .u8 0, .int .u8 0, .int .u8 0, .int .u8 0, .int .u8 0, .int .u8 0, .int .u8 0, .int .u8 0, .int .u8 0, .int .u8 0, .int .u8 0, .int .u8 0] [(0, 9, (.tmp 13)), (9, 9, (.tmp 14)), (18, 9, (.tmp 15))], none, .f⟩,
   ⟨(some 17), .build [.int .u8 0, .int .u8 0, .int .u8 0, .int .u8 0, .int .u8 0, .int .u8 0, .int .u8 0, .int .u8 0, .int .u8 0] [(0, 1, (.const (.int .u8 0))), (1, 1, (.const (.int .u8 0))), (2, 1, (.const (.int .u8 1))), (3, 1, (.const (.int .u8 1)))], none, .f⟩,
   ⟨(some 18), .build [.int .u8 0, .int .u8 0, .int .u8 0, .int .u8 0, .int .u8 0, .int .u8 0, .int .u8 0, .int .u8 0, .int .u8 0] [(0, 1, (.const (.int .u8 1)))], none, .f⟩,
   ⟨(some 19), .mv (.tmp 4), none, .f⟩,
   ⟨(some 20), .build [.int .u8 0, .int .u8 0, .int .u8 0, .int .u8 0, .int .u8 0, .int .u8 0, .int .u8 0, .int .u8 0, .int .u8 0] [(0, 1, (.const (.int .u8 0))), (1, 1, (.const (.int .u8 0))), (2, 1, (.const (.int .u8 1))), (3, 1, (.tmp 19))], none, .f⟩,
   ⟨(some 21), .build [.int .u8 0, .int .u8 0, .int .u8 0, .int .u8 0, .int .u8 0, .int .u8 0, .int .u8 0, .int .u8 0, .int .u8 0, .int .u8 0, .int .u8 0, .int .u8 0, .int .u8 0, .int .u8 0, .int .u8 0, .int .u8 0, .int .u8 0, .int .u8 0, .int .u8 0, .int .u8 0, .int .u8 0, .int .u8 0, .int .u8 0, .int .u8 0, .int .u8 0, .int .u8 0, .int .u8 0] [(0, 9, (.tmp 17)), (9, 9, (.tmp 18)), (18, 9, (.tmp 20))], none, .f⟩,
   ⟨(some 22), .build [.int .u8 0, .int .u8 0, .int .u8 0, .int .u8 0, .int .u8 0, .int .u8 0, .int .u8 0, .int .u8 0, .int .u8 0] [(0, 1, (.const (.int .u8 1)))], none, .f⟩,
   ⟨(some 23), .mv (.tmp 4), none, .f⟩,
   ⟨(some 24), .build [.int .u8 0, .int .u8 0, .int .u8 0, .int .u8 0, .int .u8 0, .int .u8 0, .int .u8 0, .int .u8 0, .int .u8 0] [(0, 1, (.const (.int .u8 0))), (1, 1, (.const (.int .u8 1))), (2, 1, (.const (.int .u8 0))), (3, 1, (.tmp 23))], none, .f⟩,
   ⟨(some 25), .build [.int .u8 0, .int .u8 0, .int .u8 0, .int .u8 0, .int .u8 0, .int .u8 0, .int .u8 0, .int .u8 0, .int .u8 0] [(0, 1, (.const (.int .u8 0))), (1, 1, (.const (.int .u8 1))), (2, 1, (.const (.int .u8 0))), (3, 1, (.const (.int .u8 1)))], none, .f⟩,
   ⟨(some 26), .build [.int .u8 0, .int .u8 0, .int .u8 0, .int .u8 0, .int .u8 0, .int .u8 0, .int .u8 0, .int .u8 0, .int .u8 0, .int .u8 0, .int .u8 0, .int .u8 0, .int .u8 0, .int .u8 0, .int .u8 0, .int .u8 0, .int .u8 0, .int .u8 0, .int .u8 0, .int .u8 0, .int .u8 0, .int .u8 0, .int .u8 0, .int .u8 0, .int .u8 0, .int .u8 0, .int .u8 0] [(0, 9, (.tmp 22)), (9, 9, (.tmp 24)), (18, 9, (.tmp 25))], none, .f⟩,
   ⟨(some 27), .build [.int .u8 0, .int .u8 0, .int .u8 0, .int .u8 0, .int .u8 0, .int .u8 0, .int .u8 0, .int .u8 0, .int .u8 0] [(0, 1, (.const (.int .u8 0))), (1, 1, (.const (.int .u8 0))), (2, 1, (.const (.int .u8 0))), (3, 1, (.const (.int .u8 1)))], none, .f⟩,
   ⟨(some 28), .mv (.tmp 4), none, .f⟩,
   ⟨(some 29), .build [.int .u8 0, .int .u8 0, .int .u8 0, .int .u8 0, .int .u8 0, .int .u8 0, .int .u8 0, .int .u8 0, .int .u8 0] [(0, 1, (.tmp 28)), (1, 1, (.const (.int .u8 0))), (2, 1, (.const (.int .u8 1)))], none, .f⟩,
   ⟨(some 30), .build [.int .u8 0, .int .u8 0, .int .u8 0, .int .u8 0, .int .u8 0, .int .u8 0, .int .u8 0, .int .u8 0, .int .u8 0] [(0, 1, (.const (.int .u8 1))), (1, 1, (.const (.int .u8 0))), (2, 1, (.const (.int .u8 1)))], none, .f⟩,
   ⟨(some 31), .build [.int .u8 0, .int .u8 0, .int .u8 0, .int .u8 0, .int .u8 0, .int .u8 0, .int .u8 0, .int .u8 0, .int .u8 0, .int .u8 0, .int .u8 0, .int .u8 0, .int .u8 0, .int .u8 0, .int .u8 0, .int .u8 0, .int .u8 0, .int .u8 0, .int .u8 0, .int .u8 0, .int .u8 0, .int .u8 0, .int .u8 0, .int .u8 0, .int .u8 0, .int .u8 0, .int .u8 0] [(0, 9, (.tmp 27)), (9, 9, (.tmp 29)), (18, 9, (.tmp 30))], none, .f⟩,
   ⟨(some 32), .build [.int .u8 0, .int .u8 0, .int .u8 0, .int .u8 0, .int .u8 0, .int .u8 0, .int .u8 0, .int .u8 0, .int .u8 0] [(0, 1, (.const (.int .u8 1))), (1, 1, (.const (.int .u8 1)))], none, .f⟩,
   ⟨(some 33), .build [.int .u8 0, .int .u8 0, .int .u8 0, .int .u8 0, .int .u8 0, .int .u8 0, .int .u8 0, .int .u8 0, .int .u8 0] [(0, 1, (.const (.int .u8 0))), (1, 1, (.const (.int .u8 0))), (2, 1, (.const (.int .u8 0))), (3, 1, (.const (.int .u8 1)))], none, .f⟩,
   ⟨(some 34), .mv (.tmp 4), none, .f⟩,
   ⟨(some 35), .build [.int .u8 0, .int .u8 0, .int .u8 0, .int .u8 0, .int .u8 0, .int .u8 0, .int .u8 0, .int .u8 0, .int .u8 0] [(0, 1, (.tmp 34)), (1, 1, (.const (.int .u8 1)))], none, .f⟩,
   ⟨(some 36), .build [.int .u8 0, .int .u8 0, .int .u8 0, .int .u8 0, .int .u8 0, .int .u8 0, .int .u8 0, .int .u8 0, .int .u8 0, .int .u8 0, .int .u8 0, .int .u8 0, .int .u8 0, .int .u8 0, .int .u8 0, .int .u8 0, .int .u8 0, .int .u8 0, .int .u8 0, .int .u8 0, .int .u8 0, .int .u8 0, .int .u8 0, .int .u8 0, .int .u8 0, .int .u8 0, .int .u8 0] [(0, 9, (.tmp 32)), (9, 9, (.tmp 33)), (18, 9, (.tmp 35))], none, .f⟩,
   ⟨(some 37), .mv (.tmp 4), none, .f⟩,
   ⟨(some 38), .build [.int .u8 0, .int .u8 0, .int .u8 0, .int .u8 0, .int .u8 0, .int .u8 0, .int .u8 0, .int .u8 0, .int .u8 0] [(0, 1, (.tmp 37)), (1, 1, (.const (.int .u8 0))), (2, 1, (.const (.int .u8 1)))], none, .f⟩,
   ⟨(some 39), .build [.int .u8 0, .int .u8 0, .int .u8 0, .int .u8 0, .int .u8 0, .int .u8 0, .int .u8 0, .int .u8 0, .int .u8 0] [(0, 1, (.const (.int .u8 1))), (1, 1, (.const (.int .u8 1)))], none, .f⟩,
   ⟨(some 40), .build [.int .u8 0, .int .u8 0, .int .u8 0, .int .u8 0, .int .u8 0, .int .u8 0, .int .u8 0, .int .u8 0, .int .u8 0] [(0, 1, (.const (.int .u8 0))), (1, 1, (.const (.int .u8 0))), (2, 1, (.const (.int .u8 0))), (3, 1, (.const (.int .u8 1)))], none, .f⟩,
   ⟨(some 41), .build [.int .u8 0, .int .u8 0, .int .u8 0, .int .u8 0, .int .u8 0, .int .u8 0, .int .u8 0, .int .u8 0, .int .u8 0, .int .u8 0, .int .u8 0, .int .u8 0, .int .u8 0, .int .u8 0, .int .u8 0, .int .u8 0, .int .u8 0, .int .u8 0, .int .u8 0, .int .u8 0, .int .u8 0, .int .u8 0, .int .u8 0, .int .u8 0, .int .u8 0, .int .u8 0, .int .u8 0] [(0, 9, (.tmp 38)), (9, 9, (.tmp 39)), (18, 9, (.tmp 40))], none, .f⟩,
   ⟨(some 42), .mv (.tmp 4), none, .f⟩,
   ⟨(some 43), .build [.int .u8 0, .int .u8 0, .int .u8 0, .int .u8 0, .int .u8 0, .int .u8 0, .int .u8 0, .int .u8 0, .int .u8 0] [(0, 1, (.const (.int .u8 0))), (1, 1, (.const (.int .u8 1))), (2, 1, (.const (.int .u8 0))), (3, 1, (.tmp 42))], none, .f⟩,
   ⟨(some 44), .build [.int .u8 0, .int .u8 0, .int .u8 0, .int .u8 0, .int .u8 0, .int .u8 0, .int .u8 0, .int .u8 0, .int .u8 0] [(0, 1, (.const (.int .u8 0))), (1, 1, (.const (.int .u8 0))), (2, 1, (.const (.int .u8 1))), (3, 1, (.const (.int .u8 1)))], none, .f⟩,
   ⟨(some 45), .build [.int .u8 0, .int .u8 0, .int .u8 0, .int .u8 0, .int .u8 0, .int .u8 0, .int .u8 0, .int .u8 0, .int .u8 0] [(0, 1, (.const (.int .u8 1)))], none, .f⟩,
   ⟨(some 46), .build [.int .u8 0, .int .u8 0, .int .u8 0, .int .u8 0, .int .u8 0, .int .u8 0, .int .u8 0, .int .u8 0, .int .u8 0, .int .u8 0, .int .u8 0, .int .u8 0, .int .u8 0, .int .u8 0, .int .u8 0, .int .u8 0, .int .u8 0, .int .u8 0, .int .u8 0, .int .u8 0, .int .u8 0, .int .u8 0, .int .u8 0, .int .u8 0, .int .u8 0, .int .u8 0, .int .u8 0] [(0, 9, (.tmp 43)), (9, 9, (.tmp 44)), (18, 9, (.tmp 45))], none, .f⟩,
   ⟨(some 47), .bslice 138 27 7 [.int .u8 0, .int .u8 0, .int .u8 0, .int .u8 0, .int .u8 0, .int .u8 0, .int .u8 0, .int .u8 0, .int .u8 0, .int .u8 0, .int .u8 0, .int .u8 0, .int .u8 0, .int .u8 0, .int .u8 0, .int .u8 0, .int .u8 0, .int .u8 0, .int .u8 0, .int .u8 0, .int .u8 0, .int .u8 0, .int .u8 0, .int .u8 0, .int .u8 0, .int .u8 0, .int .u8 0] [(0, 27, (.tmp 16)), (27, 27, (.tmp 21)), (54, 27, (.tmp 26)), (81, 27, (.tmp 31)), (108, 27, (.tmp 36)), (135, 27, (.tmp 41)), (162, 27, (.tmp 46))], none, .f⟩,
   ⟨(some 48), .app 138 27 27 (.tmp 12) (.tmp 47), none, .f⟩,
   ⟨(some 49), .fadr 4 (.tmp 3), none, .f⟩,
   ⟨none, .store 1 (.tmp 49) (.tmp 48), none, .f⟩])
  (.seq (.reg [⟨(some 50), .loadn 5 (.tmp 3), none, .f⟩,
   ⟨none, .store 5 (.tmp 2) (.tmp 50), none, .f⟩])
  .ret)))))⟩
theorem s321 : compFn Try.prog Try.f321 = some c321 := by kernel_rfl
def c334 : XFn :=
 ⟨[.celln 6 9],
  (.seq (.reg [⟨(some 6), .alloc 136 [.int .u8 0, .int .u8 0, .int .u8 0, .int .u8 0, .int .u8 0, .int .u8 0, .int .u8 0, .int .u8 0, .int .u8 0], none, .f⟩])
  (.seq (.reg [⟨(some 9), .build [.int .u8 0, .int .u8 0, .int .u8 0, .int .u8 0, .int .u8 0, .int .u8 0, .int .u8 0, .int .u8 0, .int .u8 0] [], none, .f⟩,
   ⟨(some 7), .alloc 136 [.int .u8 0, .int .u8 0, .int .u8 0, .int .u8 0, .int .u8 0, .int .u8 0, .int .u8 0, .int .u8 0, .int .u8 0], none, .f⟩,
   ⟨none, .store 9 (.tmp 7) (.tmp 9), none, .f⟩])
  (.seq (.seq (.reg [⟨(some 8), .mv (.const (.int .i64 0)), none, .f⟩])
  (.blk 0 (.loop (.seq (.seq (.reg [⟨(some 10), .mv (.tmp 8), none, .f⟩,
   ⟨(some 11), .mv (.tmp 2), none, .f⟩,
   ⟨(some 12), .bin .lss (.tmp 10) (.tmp 11), none, .f⟩])
  (.cond (.tmp 12) .skip (.exit 0)))
  (.seq (.blk 1 (.seq (.reg [⟨(some 15), .mv (.tmp 0), none, .f⟩,
   ⟨(some 16), .call (.func 148) [(.tmp 15), (.const (.int .i64 2))], none, .f⟩,
   ⟨(some 17), .bin .eql (.tmp 16) (.const (.int .i64 0)), none, .f⟩])
  (.cond (.tmp 17) (.reg [⟨(some 18), .mv (.tmp 8), none, .f⟩,
   ⟨(some 19), .mv (.tmp 0), none, .f⟩,
   ⟨(some 20), .mv (.tmp 1), none, .f⟩,
   ⟨(some 21), .call (.func 148) [(.tmp 19), (.tmp 20)], none, .f⟩,
   ⟨(some 22), .conv .u8 (.tmp 21), none, .f⟩,
   ⟨(some 23), .ixa 9 1 (.tmp 7) (.tmp 18), none, .f⟩,
   ⟨none, .store 1 (.tmp 23) (.tmp 22), none, .f⟩]) .skip)))
  (.reg [⟨(some 13), .mv (.tmp 8), none, .f⟩,
   ⟨(some 14), .bin .add (.tmp 13) (.const (.int .i64 1)), none, .f⟩,
   ⟨(some 8), .mv (.tmp 14), none, .f⟩]))))))
  (.seq (.seq (.reg [⟨(some 24), .loadn 9 (.tmp 7), none, .f⟩,
   ⟨(some 25), .call (.func 278) [(.tmp 24)], none, .f⟩])
  (.cond (.tmp 25) (.reg [⟨(some 26), .mv (.tmp 0), none, .f⟩,
   ⟨(some 27), .mv (.tmp 2), none, .f⟩,
   ⟨(some 28), .call (.func 148) [(.tmp 26), (.tmp 27)], none, .f⟩,
   ⟨(some 29), .mv (.tmp 0), none, .f⟩,
   ⟨(some 30), .mv (.tmp 1), none, .f⟩,
   ⟨(some 31), .bin .sub (.tmp 30) (.const (.int .i64 1)), none, .f⟩,
   ⟨(some 32), .call (.func 148) [(.tmp 29), (.tmp 31)], none, .f⟩,
   ⟨(some 33), .bin .add (.const (.int .i64 1)) (.tmp 32), none, .f⟩,
   ⟨(some 34), .conv .u8 (.tmp 33), none, .f⟩,
   ⟨(some 35), .ixa 9 1 (.tmp 7) (.tmp 28), none, .f⟩,
   ⟨none, .store 1 (.tmp 35) (.tmp 34), none, .f⟩]) .skip))
  (.seq (.reg [⟨(some 36), .loadn 9 (.tmp 7), none, .f⟩,
   ⟨none, .store 9 (.tmp 6) (.tmp 36), none, .f⟩])
  .ret)))))⟩
theorem s334 : compFn Try.prog Try.f334 = some c334 := by kernel_rfl
def tab3 : List (Nat × XFn) := [(321, c321), (334, c334)]
theorem ts3 : TSound Try.prog (fun g => tab3.lookup g) := by
  refine tsound_of_all (P := Try.prog) (tab := tab3) ?_
  intro p hp
  simp only [tab3, List.mem_cons, List.not_mem_nil, or_false] at hp
  rcases hp with rfl | rfl
  · exact ⟨_, Try.func321, s321⟩
  · exact ⟨_, Try.func334, s334⟩
end Go.Proofs.Ytapafdpnmakekaa.X
