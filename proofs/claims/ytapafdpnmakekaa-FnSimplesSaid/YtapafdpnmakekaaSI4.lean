/- Texts of one claim, put together by merge.py: XCode1. -/
import Derived.Test.YtapafdpnmakekaaSI3
import Derived.Test.YtapafdpnmakekaaProg
set_option linter.unusedVariables false
set_option maxRecDepth 4000
namespace Go.Proofs.Ytapafdpnmakekaa.X
open Go Go.RowKit
def c9 : XFn :=
 ⟨[.tmp 2],
  (.seq (.reg [⟨(some 2), .mv (.const (.bool false)), none, .f⟩])
  (.seq (.seq (.reg [⟨(some 59), .mv (.tmp 0), none, .f⟩,
   ⟨(some 60), .call (.func 13) [(.tmp 59)], none, .f⟩])
  (.cond (.tmp 60) (.seq (.reg [⟨(some 2), .mv (.const (.bool true)), none, .f⟩])
  .ret) .skip))
  (.seq (.reg [⟨(some 61), .mv (.tmp 0), none, .f⟩,
   ⟨(some 62), .call (.func 99) [(.tmp 61)], none, .f⟩,
   ⟨(some 3), .alloc 36 [.int .i64 0, .int .i64 0, .int .i64 0, .int .i64 0, .slice none 0 0], none, .f⟩,
   ⟨none, .store 5 (.tmp 3) (.tmp 62), none, .f⟩])
  (.seq (.reg [⟨(some 64), .loadn 5 (.tmp 3), none, .f⟩,
   ⟨(some 65), .call (.func 100) [(.tmp 64)], none, .f⟩,
   ⟨(some 63), .mv (.tmp 65), none, .f⟩,
   ⟨(some 66), .ext (.tmp 63) 0, none, .f⟩,
   ⟨(some 67), .ext (.tmp 63) 1, none, .f⟩,
   ⟨(some 4), .mv (.tmp 66), none, .f⟩,
   ⟨(some 5), .mv (.tmp 67), none, .f⟩])
  (.seq (.reg [⟨(some 69), .loadn 5 (.tmp 3), none, .f⟩,
   ⟨(some 70), .call (.func 101) [(.tmp 69)], none, .f⟩,
   ⟨(some 68), .mv (.tmp 70), none, .f⟩,
   ⟨(some 71), .ext (.tmp 68) 0, none, .f⟩,
   ⟨(some 72), .ext (.tmp 68) 1, none, .f⟩,
   ⟨(some 6), .mv (.tmp 71), none, .f⟩,
   ⟨(some 7), .mv (.tmp 72), none, .f⟩])
  (.seq (.reg [⟨(some 74), .loadn 5 (.tmp 3), none, .f⟩,
   ⟨(some 75), .call (.func 102) [(.tmp 74)], none, .f⟩,
   ⟨(some 73), .mv (.tmp 75), none, .f⟩,
   ⟨(some 76), .ext (.tmp 73) 0, none, .f⟩,
   ⟨(some 77), .ext (.tmp 73) 1, none, .f⟩,
   ⟨(some 8), .mv (.tmp 76), none, .f⟩,
   ⟨(some 9), .mv (.tmp 77), none, .f⟩])
  (.seq (.reg [⟨(some 79), .loadn 5 (.tmp 3), none, .f⟩,
   ⟨(some 80), .call (.func 103) [(.tmp 79)], none, .f⟩,
   ⟨(some 78), .mv (.tmp 80), none, .f⟩,
   ⟨(some 81), .ext (.tmp 78) 0, none, .f⟩,
   ⟨(some 82), .ext (.tmp 78) 1, none, .f⟩,
   ⟨(some 10), .mv (.tmp 81), none, .f⟩,
   ⟨(some 11), .mv (.tmp 82), none, .f⟩])
  (.seq (.seq (.reg [⟨(some 83), .mv (.tmp 5), none, .f⟩,
   ⟨(some 84), .mv (.tmp 7), none, .f⟩,
   ⟨(some 85), .bin .neq (.tmp 83) (.tmp 84), none, .f⟩,
   ⟨(some 86), .mv (.tmp 85), none, .f⟩,
   ⟨(some 87), .mv (.tmp 4), (some (86, false)), .f⟩,
   ⟨(some 88), .mv (.tmp 6), (some (86, false)), .f⟩,
   ⟨(some 89), .call (.func 48) [(.tmp 87), (.tmp 88)], (some (86, false)), .f⟩,
   ⟨(some 90), .un .not (.tmp 89), (some (86, false)), .f⟩,
   ⟨(some 91), .pick (.tmp 86) (.const (.bool true)) (.tmp 90), none, .f⟩,
   ⟨(some 92), .mv (.tmp 91), none, .f⟩,
   ⟨(some 93), .mv (.tmp 9), (some (92, false)), .f⟩,
   ⟨(some 94), .mv (.tmp 11), (some (92, false)), .f⟩,
   ⟨(some 95), .bin .neq (.tmp 93) (.tmp 94), (some (92, false)), .f⟩,
   ⟨(some 96), .pick (.tmp 92) (.const (.bool true)) (.tmp 95), none, .f⟩,
   ⟨(some 97), .mv (.tmp 96), none, .f⟩,
   ⟨(some 98), .mv (.tmp 8), (some (97, false)), .f⟩,
   ⟨(some 99), .mv (.tmp 10), (some (97, false)), .f⟩,
   ⟨(some 100), .eqb true (.tmp 98) (.tmp 99), (some (97, false)), .f⟩,
   ⟨(some 101), .pick (.tmp 97) (.const (.bool true)) (.tmp 100), none, .f⟩,
   ⟨(some 102), .mv (.tmp 101), none, .f⟩,
   ⟨(some 103), .mv (.tmp 9), (some (102, false)), .f⟩,
   ⟨(some 104), .bin .eql (.tmp 103) (.const (.int .i64 0)), (some (102, false)), .f⟩,
   ⟨(some 105), .mv (.tmp 104), (some (102, false)), .f⟩,
   ⟨(some 106), .mv (.tmp 8), (some (105, true)), .f⟩,
   ⟨(some 107), .mv (.tmp 5), (some (105, true)), .f⟩,
   ⟨(some 108), .bin .eql (.tmp 107) (.const (.int .i64 0)), (some (105, true)), .f⟩,
   ⟨(some 109), .eqb true (.tmp 106) (.tmp 108), (some (105, true)), .f⟩,
   ⟨(some 110), .pick (.tmp 105) (.tmp 109) (.const (.bool false)), (some (102, false)), .f⟩,
   ⟨(some 111), .pick (.tmp 102) (.const (.bool true)) (.tmp 110), none, .f⟩])
  (.cond (.tmp 111) (.seq (.reg [⟨(some 2), .mv (.const (.bool false)), none, .f⟩])
  .ret) .skip))
  (.seq (.seq (.reg [⟨(some 112), .mv (.tmp 5), none, .f⟩,
   ⟨(some 113), .bin .eql (.tmp 112) (.const (.int .i64 0)), none, .f⟩])
  (.cond (.tmp 113) (.seq (.reg [⟨(some 12), .mv (.const (.int .i64 0)), none, .f⟩])
  (.seq (.seq (.reg [⟨(some 13), .mv (.const (.int .i64 0)), none, .f⟩])
  (.blk 0 (.loop (.seq (.seq (.reg [⟨(some 114), .mv (.tmp 13), none, .f⟩,
   ⟨(some 115), .mv (.tmp 4), none, .f⟩,
   ⟨(some 116), .ixs 1 (.tmp 115) (.const (.int .i64 0)), none, .f⟩,
   ⟨(some 117), .load1 (.tmp 116), none, .f⟩,
   ⟨(some 118), .len (.tmp 117), none, .f⟩,
   ⟨(some 119), .bin .lss (.tmp 114) (.tmp 118), none, .f⟩])
  (.cond (.tmp 119) .skip (.exit 0)))
  (.seq (.blk 1 (.seq (.reg [⟨(some 14), .mv (.const (.int .i64 0)), none, .f⟩])
  (.blk 2 (.loop (.seq (.seq (.reg [⟨(some 122), .mv (.tmp 14), none, .f⟩,
   ⟨(some 123), .mv (.tmp 4), none, .f⟩,
   ⟨(some 124), .ixs 1 (.tmp 123) (.const (.int .i64 1)), none, .f⟩,
   ⟨(some 125), .load1 (.tmp 124), none, .f⟩,
   ⟨(some 126), .len (.tmp 125), none, .f⟩,
   ⟨(some 127), .bin .lss (.tmp 122) (.tmp 126), none, .f⟩])
  (.cond (.tmp 127) .skip (.exit 2)))
  (.seq (.blk 3 (.seq (.reg [⟨(some 15), .mv (.const (.int .i64 0)), none, .f⟩])
  (.blk 4 (.loop (.seq (.seq (.reg [⟨(some 130), .mv (.tmp 15), none, .f⟩,
   ⟨(some 131), .mv (.tmp 4), none, .f⟩,
   ⟨(some 132), .ixs 1 (.tmp 131) (.const (.int .i64 2)), none, .f⟩,
   ⟨(some 133), .load1 (.tmp 132), none, .f⟩,
   ⟨(some 134), .len (.tmp 133), none, .f⟩,
   ⟨(some 135), .bin .lss (.tmp 130) (.tmp 134), none, .f⟩])
  (.cond (.tmp 135) .skip (.exit 4)))
  (.seq (.blk 5 (.seq (.seq (.reg [⟨(some 138), .mv (.tmp 4), none, .f⟩,
   ⟨(some 139), .ixs 1 (.tmp 138) (.const (.int .i64 0)), none, .f⟩,
   ⟨(some 140), .load1 (.tmp 139), none, .f⟩,
   ⟨(some 141), .mv (.tmp 13), none, .f⟩,
   ⟨(some 142), .ixs 1 (.tmp 140) (.tmp 141), none, .f⟩,
   ⟨(some 143), .load1 (.tmp 142), none, .f⟩,
   ⟨(some 144), .mv (.tmp 4), none, .f⟩,
   ⟨(some 145), .ixs 1 (.tmp 144) (.const (.int .i64 1)), none, .f⟩,
   ⟨(some 146), .load1 (.tmp 145), none, .f⟩,
   ⟨(some 147), .mv (.tmp 14), none, .f⟩,
   ⟨(some 148), .ixs 1 (.tmp 146) (.tmp 147), none, .f⟩,
   ⟨(some 149), .load1 (.tmp 148), none, .f⟩,
   ⟨(some 150), .bin .mul (.tmp 143) (.tmp 149), none, .f⟩,
   ⟨(some 151), .mv (.tmp 4), none, .f⟩,
   ⟨(some 152), .ixs 1 (.tmp 151) (.const (.int .i64 2)), none, .f⟩,
   ⟨(some 153), .load1 (.tmp 152), none, .f⟩,
   ⟨(some 154), .mv (.tmp 15), none, .f⟩,
   ⟨(some 155), .ixs 1 (.tmp 153) (.tmp 154), none, .f⟩,
   ⟨(some 156), .load1 (.tmp 155), none, .f⟩,
   ⟨(some 157), .bin .mul (.tmp 150) (.tmp 156), none, .f⟩,
   ⟨(some 158), .fadr 0 (.tmp 3), none, .f⟩,
   ⟨(some 159), .load1 (.tmp 158), none, .f⟩,
   ⟨(some 160), .bin .rem (.tmp 157) (.tmp 159), none, .f⟩,
   ⟨(some 161), .fadr 4 (.tmp 3), none, .f⟩,
   ⟨(some 162), .load1 (.tmp 161), none, .f⟩,
   ⟨(some 163), .mv (.tmp 12), none, .f⟩,
   ⟨(some 164), .ixs 1 (.tmp 162) (.tmp 163), none, .f⟩,
   ⟨(some 165), .load1 (.tmp 164), none, .f⟩,
   ⟨(some 166), .bin .neq (.tmp 160) (.tmp 165), none, .f⟩])
  (.cond (.tmp 166) (.seq (.reg [⟨(some 2), .mv (.const (.bool false)), none, .f⟩])
  .ret) .skip))
  (.reg [⟨(some 167), .mv (.tmp 12), none, .f⟩,
   ⟨(some 168), .bin .add (.tmp 167) (.const (.int .i64 1)), none, .f⟩,
   ⟨(some 12), .mv (.tmp 168), none, .f⟩])))
  (.reg [⟨(some 136), .mv (.tmp 15), none, .f⟩,
   ⟨(some 137), .bin .add (.tmp 136) (.const (.int .i64 1)), none, .f⟩,
   ⟨(some 15), .mv (.tmp 137), none, .f⟩])))))))
  (.reg [⟨(some 128), .mv (.tmp 14), none, .f⟩,
   ⟨(some 129), .bin .add (.tmp 128) (.const (.int .i64 1)), none, .f⟩,
   ⟨(some 14), .mv (.tmp 129), none, .f⟩])))))))
  (.reg [⟨(some 120), .mv (.tmp 13), none, .f⟩,
   ⟨(some 121), .bin .add (.tmp 120) (.const (.int .i64 1)), none, .f⟩,
   ⟨(some 13), .mv (.tmp 121), none, .f⟩]))))))
  (.seq (.reg [⟨(some 169), .fadr 1 (.tmp 3), none, .f⟩,
   ⟨(some 170), .load1 (.tmp 169), none, .f⟩,
   ⟨(some 171), .mks 2 1 8 [.int .i64 0] (.tmp 170), none, .f⟩,
   ⟨(some 16), .mv (.tmp 171), none, .f⟩])
  (.seq (.seq (.reg [⟨(some 17), .mv (.const (.int .i64 0)), none, .f⟩])
  (.blk 6 (.loop (.seq (.seq (.reg [⟨(some 172), .mv (.tmp 17), none, .f⟩,
   ⟨(some 173), .mv (.tmp 16), none, .f⟩,
   ⟨(some 174), .len (.tmp 173), none, .f⟩,
   ⟨(some 175), .bin .lss (.tmp 172) (.tmp 174), none, .f⟩])
  (.cond (.tmp 175) .skip (.exit 6)))
  (.seq (.blk 7 (.reg [⟨(some 178), .mv (.tmp 16), none, .f⟩,
   ⟨(some 179), .mv (.tmp 17), none, .f⟩,
   ⟨(some 180), .ixs 1 (.tmp 178) (.tmp 179), none, .f⟩,
   ⟨none, .store 1 (.tmp 180) (.const (.int .i64 1)), none, .f⟩]))
  (.reg [⟨(some 176), .mv (.tmp 17), none, .f⟩,
   ⟨(some 177), .bin .add (.tmp 176) (.const (.int .i64 1)), none, .f⟩,
   ⟨(some 17), .mv (.tmp 177), none, .f⟩]))))))
  (.seq (.reg [⟨(some 182), .loadn 5 (.tmp 3), none, .f⟩,
   ⟨(some 183), .mv (.tmp 16), none, .f⟩,
   ⟨(some 184), .call (.func 104) [(.tmp 182), (.const (.int .i64 0)), (.tmp 183)], none, .f⟩,
   ⟨(some 181), .mv (.tmp 184), none, .f⟩,
   ⟨(some 185), .ext (.tmp 181) 0, none, .f⟩,
   ⟨(some 186), .ext (.tmp 181) 1, none, .f⟩,
   ⟨(some 18), .mv (.tmp 185), none, .f⟩,
   ⟨(some 19), .mv (.tmp 186), none, .f⟩])
  (.seq (.reg [⟨(some 188), .fadr 0 (.tmp 3), none, .f⟩,
   ⟨(some 189), .load1 (.tmp 188), none, .f⟩,
   ⟨(some 190), .mv (.tmp 18), none, .f⟩,
   ⟨(some 191), .call (.func 105) [(.tmp 189), (.tmp 190)], none, .f⟩,
   ⟨(some 187), .mv (.tmp 191), none, .f⟩,
   ⟨(some 192), .ext (.tmp 187) 0, none, .f⟩,
   ⟨(some 193), .ext (.tmp 187) 1, none, .f⟩,
   ⟨(some 20), .mv (.tmp 192), none, .f⟩,
   ⟨(some 21), .mv (.tmp 193), none, .f⟩])
  (.seq (.reg [⟨(some 194), .mv (.tmp 19), none, .f⟩,
   ⟨(some 195), .bin .neq (.tmp 194) (.const (.int .i64 0)), none, .f⟩,
   ⟨(some 196), .mv (.tmp 195), none, .f⟩,
   ⟨(some 197), .mv (.tmp 21), (some (196, false)), .f⟩,
   ⟨(some 198), .bin .neq (.tmp 197) (.const (.int .i64 0)), (some (196, false)), .f⟩,
   ⟨(some 199), .pick (.tmp 196) (.const (.bool true)) (.tmp 198), none, .f⟩,
   ⟨(some 200), .mv (.tmp 199), none, .f⟩,
   ⟨(some 201), .mv (.tmp 20), (some (200, false)), .f⟩,
   ⟨(some 202), .bin .gtr (.tmp 201) (.const (.int .i64 1)), (some (200, false)), .f⟩,
   ⟨(some 203), .pick (.tmp 200) (.const (.bool true)) (.tmp 202), none, .f⟩])
  (.cond (.tmp 203) (.seq (.reg [⟨(some 2), .mv (.const (.bool false)), none, .f⟩])
  .ret) .skip)))))))) .skip))
  (.seq (.reg [⟨(some 205), .mv (.tmp 0), none, .f⟩,
   ⟨(some 206), .call (.func 106) [(.tmp 205)], none, .f⟩,
   ⟨(some 204), .mv (.tmp 206), none, .f⟩,
   ⟨(some 207), .ext (.tmp 204) 0, none, .f⟩,
   ⟨(some 208), .ext (.tmp 204) 1, none, .f⟩,
   ⟨(some 209), .ext (.tmp 204) 2, none, .f⟩,
   ⟨(some 22), .alloc 36 [.int .i64 0, .int .i64 0, .int .i64 0, .int .i64 0, .slice none 0 0], none, .f⟩,
   ⟨none, .store 5 (.tmp 22) (.tmp 207), none, .f⟩,
   ⟨(some 23), .mv (.tmp 208), none, .f⟩,
   ⟨(some 24), .mv (.tmp 209), none, .f⟩])
  (.seq (.reg [⟨(some 211), .loadn 5 (.tmp 22), none, .f⟩,
   ⟨(some 212), .mv (.tmp 23), none, .f⟩,
   ⟨(some 213), .mv (.tmp 24), none, .f⟩,
   ⟨(some 214), .call (.func 107) [(.tmp 211), (.tmp 212), (.tmp 213)], none, .f⟩,
   ⟨(some 210), .mv (.tmp 214), none, .f⟩,
   ⟨(some 215), .ext (.tmp 210) 0, none, .f⟩,
   ⟨(some 216), .ext (.tmp 210) 1, none, .f⟩,
   ⟨(some 25), .mv (.tmp 215), none, .f⟩,
   ⟨(some 26), .mv (.tmp 216), none, .f⟩])
  (.seq (.reg [⟨(some 218), .loadn 5 (.tmp 22), none, .f⟩,
   ⟨(some 219), .mv (.tmp 23), none, .f⟩,
   ⟨(some 220), .mv (.tmp 24), none, .f⟩,
   ⟨(some 221), .call (.func 108) [(.tmp 218), (.tmp 219), (.tmp 220)], none, .f⟩,
   ⟨(some 217), .mv (.tmp 221), none, .f⟩,
   ⟨(some 222), .ext (.tmp 217) 0, none, .f⟩,
   ⟨(some 223), .ext (.tmp 217) 1, none, .f⟩,
   ⟨(some 27), .mv (.tmp 222), none, .f⟩,
   ⟨(some 28), .mv (.tmp 223), none, .f⟩])
  (.seq (.seq (.reg [⟨(some 224), .mv (.tmp 26), none, .f⟩,
   ⟨(some 225), .mv (.tmp 28), none, .f⟩,
   ⟨(some 226), .bin .neq (.tmp 224) (.tmp 225), none, .f⟩,
   ⟨(some 227), .mv (.tmp 226), none, .f⟩,
   ⟨(some 228), .mv (.tmp 25), (some (227, false)), .f⟩,
   ⟨(some 229), .mv (.tmp 27), (some (227, false)), .f⟩,
   ⟨(some 230), .call (.func 48) [(.tmp 228), (.tmp 229)], (some (227, false)), .f⟩,
   ⟨(some 231), .un .not (.tmp 230), (some (227, false)), .f⟩,
   ⟨(some 232), .pick (.tmp 227) (.const (.bool true)) (.tmp 231), none, .f⟩])
  (.cond (.tmp 232) (.seq (.reg [⟨(some 2), .mv (.const (.bool false)), none, .f⟩])
  .ret) .skip))
  (.seq (.seq (.reg [⟨(some 233), .mv (.tmp 26), none, .f⟩,
   ⟨(some 234), .bin .eql (.tmp 233) (.const (.int .i64 0)), none, .f⟩,
   ⟨(some 235), .mv (.tmp 234), none, .f⟩,
   ⟨(some 236), .mv (.tmp 23), (some (235, true)), .f⟩,
   ⟨(some 237), .bin .eql (.tmp 236) (.const (.int .i64 0)), (some (235, true)), .f⟩,
   ⟨(some 238), .pick (.tmp 235) (.tmp 237) (.const (.bool false)), none, .f⟩])
  (.cond (.tmp 238) (.seq (.reg [⟨(some 29), .mv (.const (.int .i64 0)), none, .f⟩])
  (.blk 8 (.loop (.seq (.seq (.reg [⟨(some 239), .mv (.tmp 29), none, .f⟩,
   ⟨(some 240), .mv (.tmp 25), none, .f⟩,
   ⟨(some 241), .len (.tmp 240), none, .f⟩,
   ⟨(some 242), .bin .lss (.tmp 239) (.tmp 241), none, .f⟩])
  (.cond (.tmp 242) .skip (.exit 8)))
  (.seq (.blk 9 (.seq (.reg [⟨(some 30), .mv (.const (.int .i64 0)), none, .f⟩])
  (.blk 10 (.loop (.seq (.seq (.reg [⟨(some 245), .mv (.tmp 30), none, .f⟩,
   ⟨(some 246), .mv (.tmp 25), none, .f⟩,
   ⟨(some 247), .mv (.tmp 29), none, .f⟩,
   ⟨(some 248), .ixs 1 (.tmp 246) (.tmp 247), none, .f⟩,
   ⟨(some 249), .load1 (.tmp 248), none, .f⟩,
   ⟨(some 250), .len (.tmp 249), none, .f⟩,
   ⟨(some 251), .bin .lss (.tmp 245) (.tmp 250), none, .f⟩])
  (.cond (.tmp 251) .skip (.exit 10)))
  (.seq (.blk 11 (.seq (.reg [⟨(some 255), .loadn 5 (.tmp 22), none, .f⟩,
   ⟨(some 256), .mv (.tmp 24), none, .f⟩,
   ⟨(some 257), .mv (.tmp 29), none, .f⟩,
   ⟨(some 258), .mv (.tmp 30), none, .f⟩,
   ⟨(some 259), .call (.func 109) [(.tmp 255), (.tmp 256), (.tmp 257), (.tmp 258)], none, .f⟩,
   ⟨(some 254), .mv (.tmp 259), none, .f⟩,
   ⟨(some 260), .ext (.tmp 254) 0, none, .f⟩,
   ⟨(some 261), .ext (.tmp 254) 1, none, .f⟩,
   ⟨(some 31), .mv (.tmp 260), none, .f⟩,
   ⟨(some 32), .mv (.tmp 261), none, .f⟩])
  (.seq (.reg [⟨(some 262), .mv (.tmp 32), none, .f⟩,
   ⟨(some 263), .bin .neq (.tmp 262) (.const (.int .i64 0)), none, .f⟩,
   ⟨(some 264), .mv (.tmp 263), none, .f⟩,
   ⟨(some 265), .mv (.tmp 31), (some (264, false)), .f⟩,
   ⟨(some 266), .mv (.tmp 25), (some (264, false)), .f⟩,
   ⟨(some 267), .mv (.tmp 29), (some (264, false)), .f⟩,
   ⟨(some 268), .ixs 1 (.tmp 266) (.tmp 267), (some (264, false)), .f⟩,
   ⟨(some 269), .load1 (.tmp 268), (some (264, false)), .f⟩,
   ⟨(some 270), .mv (.tmp 30), (some (264, false)), .f⟩,
   ⟨(some 271), .ixs 1 (.tmp 269) (.tmp 270), (some (264, false)), .f⟩,
   ⟨(some 272), .load1 (.tmp 271), (some (264, false)), .f⟩,
   ⟨(some 273), .bin .neq (.tmp 265) (.tmp 272), (some (264, false)), .f⟩,
   ⟨(some 274), .pick (.tmp 264) (.const (.bool true)) (.tmp 273), none, .f⟩])
  (.cond (.tmp 274) (.seq (.reg [⟨(some 2), .mv (.const (.bool false)), none, .f⟩])
  .ret) .skip))))
  (.reg [⟨(some 252), .mv (.tmp 30), none, .f⟩,
   ⟨(some 253), .bin .add (.tmp 252) (.const (.int .i64 1)), none, .f⟩,
   ⟨(some 30), .mv (.tmp 253), none, .f⟩])))))))
  (.reg [⟨(some 243), .mv (.tmp 29), none, .f⟩,
   ⟨(some 244), .bin .add (.tmp 243) (.const (.int .i64 1)), none, .f⟩,
   ⟨(some 29), .mv (.tmp 244), none, .f⟩])))))) .skip))
  (.seq (.reg [⟨(some 276), .mv (.tmp 0), none, .f⟩,
   ⟨(some 277), .call (.func 110) [(.tmp 276)], none, .f⟩,
   ⟨(some 275), .mv (.tmp 277), none, .f⟩,
   ⟨(some 278), .ext (.tmp 275) 0, none, .f⟩,
   ⟨(some 279), .ext (.tmp 275) 1, none, .f⟩,
   ⟨(some 280), .ext (.tmp 275) 2, none, .f⟩,
   ⟨(some 33), .alloc 36 [.int .i64 0, .int .i64 0, .int .i64 0, .int .i64 0, .slice none 0 0], none, .f⟩,
   ⟨none, .store 5 (.tmp 33) (.tmp 278), none, .f⟩,
   ⟨(some 34), .mv (.tmp 279), none, .f⟩,
   ⟨(some 35), .mv (.tmp 280), none, .f⟩])
  (.seq (.reg [⟨(some 282), .loadn 5 (.tmp 33), none, .f⟩,
   ⟨(some 283), .mv (.tmp 34), none, .f⟩,
   ⟨(some 284), .mv (.tmp 35), none, .f⟩,
   ⟨(some 285), .call (.func 104) [(.tmp 282), (.tmp 283), (.tmp 284)], none, .f⟩,
   ⟨(some 281), .mv (.tmp 285), none, .f⟩,
   ⟨(some 286), .ext (.tmp 281) 0, none, .f⟩,
   ⟨(some 287), .ext (.tmp 281) 1, none, .f⟩,
   ⟨(some 36), .mv (.tmp 286), none, .f⟩,
   ⟨(some 37), .mv (.tmp 287), none, .f⟩])
  (.seq (.reg [⟨(some 289), .loadn 5 (.tmp 33), none, .f⟩,
   ⟨(some 290), .mv (.tmp 34), none, .f⟩,
   ⟨(some 291), .mv (.tmp 35), none, .f⟩,
   ⟨(some 292), .call (.func 111) [(.tmp 289), (.tmp 290), (.tmp 291)], none, .f⟩,
   ⟨(some 288), .mv (.tmp 292), none, .f⟩,
   ⟨(some 293), .ext (.tmp 288) 0, none, .f⟩,
   ⟨(some 294), .ext (.tmp 288) 1, none, .f⟩,
   ⟨(some 38), .mv (.tmp 293), none, .f⟩,
   ⟨(some 39), .mv (.tmp 294), none, .f⟩])
  (.seq (.reg [⟨(some 296), .mv (.tmp 0), none, .f⟩,
   ⟨(some 297), .call (.func 112) [(.tmp 296)], none, .f⟩,
   ⟨(some 295), .mv (.tmp 297), none, .f⟩,
   ⟨(some 298), .ext (.tmp 295) 0, none, .f⟩,
   ⟨(some 299), .ext (.tmp 295) 1, none, .f⟩,
   ⟨(some 40), .mv (.tmp 298), none, .f⟩,
   ⟨(some 41), .mv (.tmp 299), none, .f⟩])
  (.seq (.reg [⟨(some 301), .mv (.tmp 40), none, .f⟩,
   ⟨(some 302), .mv (.tmp 41), none, .f⟩,
   ⟨(some 303), .call (.func 105) [(.tmp 301), (.tmp 302)], none, .f⟩,
   ⟨(some 300), .mv (.tmp 303), none, .f⟩,
   ⟨(some 304), .ext (.tmp 300) 0, none, .f⟩,
   ⟨(some 305), .ext (.tmp 300) 1, none, .f⟩,
   ⟨(some 42), .mv (.tmp 304), none, .f⟩,
   ⟨(some 43), .mv (.tmp 305), none, .f⟩])
  (.seq (.reg [⟨(some 307), .mv (.tmp 40), none, .f⟩,
   ⟨(some 308), .mv (.tmp 41), none, .f⟩,
   ⟨(some 309), .call (.func 113) [(.tmp 307), (.tmp 308)], none, .f⟩,
   ⟨(some 306), .mv (.tmp 309), none, .f⟩,
   ⟨(some 310), .ext (.tmp 306) 0, none, .f⟩,
   ⟨(some 311), .ext (.tmp 306) 1, none, .f⟩,
   ⟨(some 44), .mv (.tmp 310), none, .f⟩,
   ⟨(some 45), .mv (.tmp 311), none, .f⟩])
  (.seq (.reg [⟨(some 312), .mv (.tmp 0), none, .f⟩,
   ⟨(some 313), .call (.func 114) [(.tmp 312)], none, .f⟩,
   ⟨(some 46), .alloc 36 [.int .i64 0, .int .i64 0, .int .i64 0, .int .i64 0, .slice none 0 0], none, .f⟩,
   ⟨none, .store 5 (.tmp 46) (.tmp 313), none, .f⟩])
  (.seq (.reg [⟨(some 315), .loadn 5 (.tmp 46), none, .f⟩,
   ⟨(some 316), .call (.func 30) [(.tmp 315)], none, .f⟩,
   ⟨(some 314), .mv (.tmp 316), none, .f⟩,
   ⟨(some 317), .ext (.tmp 314) 0, none, .f⟩,
   ⟨(some 318), .ext (.tmp 314) 1, none, .f⟩,
   ⟨(some 47), .mv (.tmp 317), none, .f⟩,
   ⟨(some 48), .mv (.tmp 318), none, .f⟩])
  (.seq (.reg [⟨(some 320), .loadn 5 (.tmp 46), none, .f⟩,
   ⟨(some 321), .call (.func 115) [(.tmp 320)], none, .f⟩,
   ⟨(some 319), .mv (.tmp 321), none, .f⟩,
   ⟨(some 322), .ext (.tmp 319) 0, none, .f⟩,
   ⟨(some 323), .ext (.tmp 319) 1, none, .f⟩,
   ⟨(some 49), .mv (.tmp 322), none, .f⟩,
   ⟨(some 50), .mv (.tmp 323), none, .f⟩])
  (.seq (.reg [⟨(some 325), .mv (.tmp 0), none, .f⟩,
   ⟨(some 326), .call (.func 116) [(.tmp 325)], none, .f⟩,
   ⟨(some 324), .mv (.tmp 326), none, .f⟩,
   ⟨(some 327), .ext (.tmp 324) 0, none, .f⟩,
   ⟨(some 328), .ext (.tmp 324) 1, none, .f⟩,
   ⟨(some 329), .ext (.tmp 324) 2, none, .f⟩,
   ⟨(some 330), .ext (.tmp 324) 3, none, .f⟩,
   ⟨(some 51), .alloc 36 [.int .i64 0, .int .i64 0, .int .i64 0, .int .i64 0, .slice none 0 0], none, .f⟩,
   ⟨none, .store 5 (.tmp 51) (.tmp 327), none, .f⟩,
   ⟨(some 52), .mv (.tmp 328), none, .f⟩,
   ⟨(some 53), .mv (.tmp 329), none, .f⟩,
   ⟨(some 54), .mv (.tmp 330), none, .f⟩])
  (.seq (.reg [⟨(some 332), .loadn 5 (.tmp 51), none, .f⟩,
   ⟨(some 333), .mv (.tmp 52), none, .f⟩,
   ⟨(some 334), .mv (.tmp 53), none, .f⟩,
   ⟨(some 335), .mv (.tmp 54), none, .f⟩,
   ⟨(some 336), .call (.func 109) [(.tmp 332), (.tmp 333), (.tmp 334), (.tmp 335)], none, .f⟩,
   ⟨(some 331), .mv (.tmp 336), none, .f⟩,
   ⟨(some 337), .ext (.tmp 331) 0, none, .f⟩,
   ⟨(some 338), .ext (.tmp 331) 1, none, .f⟩,
   ⟨(some 55), .mv (.tmp 337), none, .f⟩,
   ⟨(some 56), .mv (.tmp 338), none, .f⟩])
  (.seq (.reg [⟨(some 340), .loadn 5 (.tmp 51), none, .f⟩,
   ⟨(some 341), .mv (.tmp 52), none, .f⟩,
   ⟨(some 342), .mv (.tmp 53), none, .f⟩,
   ⟨(some 343), .mv (.tmp 54), none, .f⟩,
   ⟨(some 344), .call (.func 117) [(.tmp 340), (.tmp 341), (.tmp 342), (.tmp 343)], none, .f⟩,
   ⟨(some 339), .mv (.tmp 344), none, .f⟩,
   ⟨(some 345), .ext (.tmp 339) 0, none, .f⟩,
   ⟨(some 346), .ext (.tmp 339) 1, none, .f⟩,
   ⟨(some 57), .mv (.tmp 345), none, .f⟩,
   ⟨(some 58), .mv (.tmp 346), none, .f⟩])
  (.seq (.reg [⟨(some 347), .mv (.tmp 37), none, .f⟩,
   ⟨(some 348), .mv (.tmp 39), none, .f⟩,
   ⟨(some 349), .bin .eql (.tmp 347) (.tmp 348), none, .f⟩,
   ⟨(some 350), .mv (.tmp 349), none, .f⟩,
   ⟨(some 351), .mv (.tmp 36), (some (350, true)), .f⟩,
   ⟨(some 352), .mv (.tmp 38), (some (350, true)), .f⟩,
   ⟨(some 353), .call (.func 48) [(.tmp 351), (.tmp 352)], (some (350, true)), .f⟩,
   ⟨(some 354), .pick (.tmp 350) (.tmp 353) (.const (.bool false)), none, .f⟩,
   ⟨(some 355), .mv (.tmp 354), none, .f⟩,
   ⟨(some 356), .mv (.tmp 43), (some (355, true)), .f⟩,
   ⟨(some 357), .mv (.tmp 45), (some (355, true)), .f⟩,
   ⟨(some 358), .bin .eql (.tmp 356) (.tmp 357), (some (355, true)), .f⟩,
   ⟨(some 359), .pick (.tmp 355) (.tmp 358) (.const (.bool false)), none, .f⟩,
   ⟨(some 360), .mv (.tmp 359), none, .f⟩,
   ⟨(some 361), .mv (.tmp 42), (some (360, true)), .f⟩,
   ⟨(some 362), .mv (.tmp 44), (some (360, true)), .f⟩,
   ⟨(some 363), .bin .eql (.tmp 361) (.tmp 362), (some (360, true)), .f⟩,
   ⟨(some 364), .pick (.tmp 360) (.tmp 363) (.const (.bool false)), none, .f⟩,
   ⟨(some 365), .mv (.tmp 364), none, .f⟩,
   ⟨(some 366), .mv (.tmp 48), (some (365, true)), .f⟩,
   ⟨(some 367), .mv (.tmp 50), (some (365, true)), .f⟩,
   ⟨(some 368), .bin .eql (.tmp 366) (.tmp 367), (some (365, true)), .f⟩,
   ⟨(some 369), .pick (.tmp 365) (.tmp 368) (.const (.bool false)), none, .f⟩,
   ⟨(some 370), .mv (.tmp 369), none, .f⟩,
   ⟨(some 371), .mv (.tmp 47), (some (370, true)), .f⟩,
   ⟨(some 372), .mv (.tmp 49), (some (370, true)), .f⟩,
   ⟨(some 373), .call (.func 20) [(.tmp 371), (.tmp 372)], (some (370, true)), .f⟩,
   ⟨(some 374), .pick (.tmp 370) (.tmp 373) (.const (.bool false)), none, .f⟩,
   ⟨(some 375), .mv (.tmp 374), none, .f⟩,
   ⟨(some 376), .mv (.tmp 56), (some (375, true)), .f⟩,
   ⟨(some 377), .mv (.tmp 58), (some (375, true)), .f⟩,
   ⟨(some 378), .bin .eql (.tmp 376) (.tmp 377), (some (375, true)), .f⟩,
   ⟨(some 379), .pick (.tmp 375) (.tmp 378) (.const (.bool false)), none, .f⟩,
   ⟨(some 380), .mv (.tmp 379), none, .f⟩,
   ⟨(some 381), .mv (.tmp 55), (some (380, true)), .f⟩,
   ⟨(some 382), .mv (.tmp 57), (some (380, true)), .f⟩,
   ⟨(some 383), .bin .eql (.tmp 381) (.tmp 382), (some (380, true)), .f⟩,
   ⟨(some 384), .pick (.tmp 380) (.tmp 383) (.const (.bool false)), none, .f⟩,
   ⟨(some 2), .mv (.tmp 384), none, .f⟩])
  .ret)))))))))))))))))))))))))))⟩
theorem s9 : compFn Try.prog Try.f9 = some c9 := by kernel_rfl
def c13 : XFn :=
 ⟨[.tmp 2],
  (.seq (.reg [⟨(some 2), .mv (.const (.bool false)), none, .f⟩])
  (.seq (.reg [⟨(some 3), .mv (.tmp 0), none, .f⟩,
   ⟨(some 4), .len (.tmp 3), none, .f⟩,
   ⟨(some 5), .bin .gtr (.tmp 4) (.const (.int .i64 4096)), none, .f⟩,
   ⟨(some 2), .mv (.tmp 5), none, .f⟩])
  .ret))⟩
theorem s13 : compFn Try.prog Try.f13 = some c13 := by kernel_rfl
def c20 : XFn :=
 ⟨[.tmp 4],
  (.seq (.reg [⟨(some 4), .mv (.const (.bool false)), none, .f⟩])
  (.seq (.seq (.reg [⟨(some 6), .mv (.tmp 0), none, .f⟩,
   ⟨(some 7), .len (.tmp 6), none, .f⟩,
   ⟨(some 8), .mv (.tmp 1), none, .f⟩,
   ⟨(some 9), .len (.tmp 8), none, .f⟩,
   ⟨(some 10), .bin .neq (.tmp 7) (.tmp 9), none, .f⟩])
  (.cond (.tmp 10) (.seq (.reg [⟨(some 4), .mv (.const (.bool false)), none, .f⟩])
  .ret) .skip))
  (.seq (.seq (.reg [⟨(some 5), .mv (.const (.int .i64 0)), none, .f⟩])
  (.blk 0 (.loop (.seq (.seq (.reg [⟨(some 11), .mv (.tmp 5), none, .f⟩,
   ⟨(some 12), .mv (.tmp 0), none, .f⟩,
   ⟨(some 13), .len (.tmp 12), none, .f⟩,
   ⟨(some 14), .bin .lss (.tmp 11) (.tmp 13), none, .f⟩])
  (.cond (.tmp 14) .skip (.exit 0)))
  (.seq (.blk 1 (.seq (.reg [⟨(some 17), .mv (.tmp 0), none, .f⟩,
   ⟨(some 18), .mv (.tmp 5), none, .f⟩,
   ⟨(some 19), .ixs 1 (.tmp 17) (.tmp 18), none, .f⟩,
   ⟨(some 20), .load1 (.tmp 19), none, .f⟩,
   ⟨(some 21), .mv (.tmp 1), none, .f⟩,
   ⟨(some 22), .mv (.tmp 5), none, .f⟩,
   ⟨(some 23), .ixs 1 (.tmp 21) (.tmp 22), none, .f⟩,
   ⟨(some 24), .load1 (.tmp 23), none, .f⟩,
   ⟨(some 25), .bin .neq (.tmp 20) (.tmp 24), none, .f⟩])
  (.cond (.tmp 25) (.seq (.reg [⟨(some 4), .mv (.const (.bool false)), none, .f⟩])
  .ret) .skip)))
  (.reg [⟨(some 15), .mv (.tmp 5), none, .f⟩,
   ⟨(some 16), .bin .add (.tmp 15) (.const (.int .i64 1)), none, .f⟩,
   ⟨(some 5), .mv (.tmp 16), none, .f⟩]))))))
  (.seq (.reg [⟨(some 4), .mv (.const (.bool true)), none, .f⟩])
  .ret))))⟩
theorem s20 : compFn Try.prog Try.f20 = some c20 := by kernel_rfl
def c28 : XFn :=
 ⟨[.tmp 2],
  (.seq (.reg [⟨(some 1), .box 36 (.tmp 0), none, .f⟩,
   ⟨(some 2), .mv (.const (.bool false)), none, .f⟩])
  (.seq (.reg [⟨(some 3), .fadr 0 (.tmp 1), none, .f⟩,
   ⟨(some 4), .load1 (.tmp 3), none, .f⟩,
   ⟨(some 5), .call (.func 166) [(.tmp 4)], none, .f⟩,
   ⟨(some 6), .mv (.tmp 5), none, .f⟩,
   ⟨(some 7), .fadr 1 (.tmp 1), (some (6, true)), .f⟩,
   ⟨(some 8), .load1 (.tmp 7), (some (6, true)), .f⟩,
   ⟨(some 9), .fadr 2 (.tmp 1), (some (6, true)), .f⟩,
   ⟨(some 10), .load1 (.tmp 9), (some (6, true)), .f⟩,
   ⟨(some 11), .fadr 3 (.tmp 1), (some (6, true)), .f⟩,
   ⟨(some 12), .load1 (.tmp 11), (some (6, true)), .f⟩,
   ⟨(some 13), .bslice 2 1 3 [.int .i64 0] [(0, 1, (.tmp 8)), (1, 1, (.tmp 10)), (2, 1, (.tmp 12))], (some (6, true)), .f⟩,
   ⟨(some 14), .call (.func 183) [(.tmp 13)], (some (6, true)), .f⟩,
   ⟨(some 15), .pick (.tmp 6) (.tmp 14) (.const (.bool false)), none, .f⟩,
   ⟨(some 16), .mv (.tmp 15), none, .f⟩,
   ⟨(some 17), .fadr 4 (.tmp 1), (some (16, true)), .f⟩,
   ⟨(some 18), .load1 (.tmp 17), (some (16, true)), .f⟩,
   ⟨(some 19), .len (.tmp 18), (some (16, true)), .f⟩,
   ⟨(some 20), .fadr 1 (.tmp 1), (some (16, true)), .f⟩,
   ⟨(some 21), .load1 (.tmp 20), (some (16, true)), .f⟩,
   ⟨(some 22), .fadr 2 (.tmp 1), (some (16, true)), .f⟩,
   ⟨(some 23), .load1 (.tmp 22), (some (16, true)), .f⟩,
   ⟨(some 24), .bin .mul (.tmp 21) (.tmp 23), (some (16, true)), .f⟩,
   ⟨(some 25), .fadr 3 (.tmp 1), (some (16, true)), .f⟩,
   ⟨(some 26), .load1 (.tmp 25), (some (16, true)), .f⟩,
   ⟨(some 27), .bin .mul (.tmp 24) (.tmp 26), (some (16, true)), .f⟩,
   ⟨(some 28), .bin .eql (.tmp 19) (.tmp 27), (some (16, true)), .f⟩,
   ⟨(some 29), .pick (.tmp 16) (.tmp 28) (.const (.bool false)), none, .f⟩,
   ⟨(some 30), .mv (.tmp 29), none, .f⟩,
   ⟨(some 31), .fadr 0 (.tmp 1), (some (30, true)), .f⟩,
   ⟨(some 32), .load1 (.tmp 31), (some (30, true)), .f⟩,
   ⟨(some 33), .fadr 4 (.tmp 1), (some (30, true)), .f⟩,
   ⟨(some 34), .load1 (.tmp 33), (some (30, true)), .f⟩,
   ⟨(some 35), .call (.func 184) [(.tmp 32), (.tmp 34)], (some (30, true)), .f⟩,
   ⟨(some 36), .pick (.tmp 30) (.tmp 35) (.const (.bool false)), none, .f⟩,
   ⟨(some 2), .mv (.tmp 36), none, .f⟩])
  .ret))⟩
theorem s28 : compFn Try.prog Try.f28 = some c28 := by kernel_rfl
def c30 : XFn :=
 ⟨[.tmp 2, .tmp 3],
  (.seq (.reg [⟨(some 1), .box 36 (.tmp 0), none, .f⟩,
   ⟨(some 2), .mv (.const (.slice none 0 0)), none, .f⟩,
   ⟨(some 3), .mv (.const (.int .i64 0)), none, .f⟩])
  (.seq (.seq (.reg [⟨(some 4), .loadn 5 (.tmp 1), none, .f⟩,
   ⟨(some 5), .call (.func 28) [(.tmp 4)], none, .f⟩,
   ⟨(some 6), .un .not (.tmp 5), none, .f⟩])
  (.cond (.tmp 6) (.seq (.reg [⟨(some 2), .mv (.const (.slice none 0 0)), none, .f⟩,
   ⟨(some 3), .mv (.const (.int .i64 1)), none, .f⟩])
  .ret) .skip))
  (.seq (.reg [⟨(some 7), .loadn 5 (.tmp 1), none, .f⟩,
   ⟨(some 8), .call (.func 185) [(.tmp 7)], none, .f⟩,
   ⟨(some 2), .mv (.tmp 8), none, .f⟩,
   ⟨(some 3), .mv (.const (.int .i64 0)), none, .f⟩])
  .ret)))⟩
theorem s30 : compFn Try.prog Try.f30 = some c30 := by kernel_rfl
def c48 : XFn :=
 ⟨[.tmp 4],
  (.seq (.reg [⟨(some 4), .mv (.const (.bool false)), none, .f⟩])
  (.seq (.seq (.reg [⟨(some 6), .mv (.tmp 0), none, .f⟩,
   ⟨(some 7), .len (.tmp 6), none, .f⟩,
   ⟨(some 8), .mv (.tmp 1), none, .f⟩,
   ⟨(some 9), .len (.tmp 8), none, .f⟩,
   ⟨(some 10), .bin .neq (.tmp 7) (.tmp 9), none, .f⟩])
  (.cond (.tmp 10) (.seq (.reg [⟨(some 4), .mv (.const (.bool false)), none, .f⟩])
  .ret) .skip))
  (.seq (.seq (.reg [⟨(some 5), .mv (.const (.int .i64 0)), none, .f⟩])
  (.blk 0 (.loop (.seq (.seq (.reg [⟨(some 11), .mv (.tmp 5), none, .f⟩,
   ⟨(some 12), .mv (.tmp 0), none, .f⟩,
   ⟨(some 13), .len (.tmp 12), none, .f⟩,
   ⟨(some 14), .bin .lss (.tmp 11) (.tmp 13), none, .f⟩])
  (.cond (.tmp 14) .skip (.exit 0)))
  (.seq (.blk 1 (.seq (.reg [⟨(some 17), .mv (.tmp 0), none, .f⟩,
   ⟨(some 18), .mv (.tmp 5), none, .f⟩,
   ⟨(some 19), .ixs 1 (.tmp 17) (.tmp 18), none, .f⟩,
   ⟨(some 20), .load1 (.tmp 19), none, .f⟩,
   ⟨(some 21), .mv (.tmp 1), none, .f⟩,
   ⟨(some 22), .mv (.tmp 5), none, .f⟩,
   ⟨(some 23), .ixs 1 (.tmp 21) (.tmp 22), none, .f⟩,
   ⟨(some 24), .load1 (.tmp 23), none, .f⟩,
   ⟨(some 25), .call (.func 20) [(.tmp 20), (.tmp 24)], none, .f⟩,
   ⟨(some 26), .un .not (.tmp 25), none, .f⟩])
  (.cond (.tmp 26) (.seq (.reg [⟨(some 4), .mv (.const (.bool false)), none, .f⟩])
  .ret) .skip)))
  (.reg [⟨(some 15), .mv (.tmp 5), none, .f⟩,
   ⟨(some 16), .bin .add (.tmp 15) (.const (.int .i64 1)), none, .f⟩,
   ⟨(some 5), .mv (.tmp 16), none, .f⟩]))))))
  (.seq (.reg [⟨(some 4), .mv (.const (.bool true)), none, .f⟩])
  .ret))))⟩
theorem s48 : compFn Try.prog Try.f48 = some c48 := by kernel_rfl
def c99 : XFn :=
 ⟨[.celln 2 5],
  (.seq (.reg [⟨(some 2), .alloc 36 [.int .i64 0, .int .i64 0, .int .i64 0, .int .i64 0, .slice none 0 0], none, .f⟩])
  (.seq (.reg [⟨(some 3), .mv (.tmp 0), none, .f⟩,
   ⟨(some 4), .call (.func 145) [(.tmp 3)], none, .f⟩,
   ⟨(some 5), .call (.func 172) [(.tmp 4)], none, .f⟩,
   ⟨none, .store 5 (.tmp 2) (.tmp 5), none, .f⟩])
  .ret))⟩
theorem s99 : compFn Try.prog Try.f99 = some c99 := by kernel_rfl
def c100 : XFn :=
 ⟨[.tmp 2, .tmp 3],
  (.seq (.reg [⟨(some 1), .box 36 (.tmp 0), none, .f⟩,
   ⟨(some 2), .mv (.const (.slice none 0 0)), none, .f⟩,
   ⟨(some 3), .mv (.const (.int .i64 0)), none, .f⟩])
  (.seq (.blk 0 (.seq (.reg [⟨(some 16), .loadn 5 (.tmp 1), none, .f⟩,
   ⟨(some 17), .call (.func 28) [(.tmp 16)], none, .f⟩,
   ⟨(some 18), .un .not (.tmp 17), none, .f⟩,
   ⟨(some 15), .mv (.tmp 18), none, .f⟩])
  (.cond (.tmp 15) (.seq (.reg [⟨(some 2), .mv (.const (.slice none 0 0)), none, .f⟩,
   ⟨(some 3), .mv (.const (.int .i64 1)), none, .f⟩])
  .ret) (.seq (.reg [⟨(some 20), .loadn 5 (.tmp 1), none, .f⟩,
   ⟨(some 21), .call (.func 240) [(.tmp 20)], none, .f⟩,
   ⟨(some 22), .un .not (.tmp 21), none, .f⟩,
   ⟨(some 19), .mv (.tmp 22), none, .f⟩])
  (.cond (.tmp 19) (.seq (.reg [⟨(some 2), .mv (.const (.slice none 0 0)), none, .f⟩,
   ⟨(some 3), .mv (.const (.int .i64 5)), none, .f⟩])
  .ret) .skip)))))
  (.seq (.reg [⟨(some 23), .fadr 4 (.tmp 1), none, .f⟩,
   ⟨(some 24), .load1 (.tmp 23), none, .f⟩,
   ⟨(some 25), .call (.func 241) [(.tmp 24), (.func 242)], none, .f⟩,
   ⟨(some 4), .mv (.tmp 25), none, .f⟩])
  (.seq (.reg [⟨(some 26), .mv (.tmp 4), none, .f⟩,
   ⟨(some 27), .fadr 3 (.tmp 1), none, .f⟩,
   ⟨(some 28), .load1 (.tmp 27), none, .f⟩,
   ⟨(some 29), .bin .quo (.tmp 26) (.tmp 28), none, .f⟩,
   ⟨(some 30), .fadr 2 (.tmp 1), none, .f⟩,
   ⟨(some 31), .load1 (.tmp 30), none, .f⟩,
   ⟨(some 32), .bin .quo (.tmp 29) (.tmp 31), none, .f⟩,
   ⟨(some 33), .mv (.tmp 4), none, .f⟩,
   ⟨(some 34), .fadr 3 (.tmp 1), none, .f⟩,
   ⟨(some 35), .load1 (.tmp 34), none, .f⟩,
   ⟨(some 36), .bin .quo (.tmp 33) (.tmp 35), none, .f⟩,
   ⟨(some 37), .fadr 2 (.tmp 1), none, .f⟩,
   ⟨(some 38), .load1 (.tmp 37), none, .f⟩,
   ⟨(some 39), .bin .rem (.tmp 36) (.tmp 38), none, .f⟩,
   ⟨(some 40), .mv (.tmp 4), none, .f⟩,
   ⟨(some 41), .fadr 3 (.tmp 1), none, .f⟩,
   ⟨(some 42), .load1 (.tmp 41), none, .f⟩,
   ⟨(some 43), .bin .rem (.tmp 40) (.tmp 42), none, .f⟩,
   ⟨(some 5), .mv (.tmp 32), none, .f⟩,
   ⟨(some 6), .mv (.tmp 39), none, .f⟩,
   ⟨(some 7), .mv (.tmp 43), none, .f⟩])
  (.seq (.reg [⟨(some 44), .fadr 0 (.tmp 1), none, .f⟩,
   ⟨(some 45), .load1 (.tmp 44), none, .f⟩,
   ⟨(some 46), .fadr 4 (.tmp 1), none, .f⟩,
   ⟨(some 47), .load1 (.tmp 46), none, .f⟩,
   ⟨(some 48), .mv (.tmp 4), none, .f⟩,
   ⟨(some 49), .ixs 1 (.tmp 47) (.tmp 48), none, .f⟩,
   ⟨(some 50), .load1 (.tmp 49), none, .f⟩,
   ⟨(some 51), .call (.func 243) [(.tmp 45), (.tmp 50)], none, .f⟩,
   ⟨(some 8), .mv (.tmp 51), none, .f⟩])
  (.seq (.reg [⟨(some 52), .bslice 2 1 0 [.int .i64 0] [], none, .f⟩,
   ⟨(some 53), .bslice 2 1 0 [.int .i64 0] [], none, .f⟩,
   ⟨(some 54), .bslice 2 1 0 [.int .i64 0] [], none, .f⟩,
   ⟨(some 9), .mv (.tmp 52), none, .f⟩,
   ⟨(some 10), .mv (.tmp 53), none, .f⟩,
   ⟨(some 11), .mv (.tmp 54), none, .f⟩])
  (.seq (.seq (.reg [⟨(some 55), .fadr 1 (.tmp 1), none, .f⟩,
   ⟨(some 56), .load1 (.tmp 55), none, .f⟩,
   ⟨(some 57), .mv (.const (.int .i64 0)), none, .f⟩])
  (.blk 1 (.loop (.seq (.reg [⟨(some 58), .bin .lss (.tmp 57) (.tmp 56), none, .f⟩])
  (.seq (.cond (.tmp 58) .skip (.exit 1))
  (.seq (.blk 2 (.seq (.reg [⟨(some 59), .mv (.tmp 57), none, .f⟩,
   ⟨(some 12), .mv (.tmp 59), none, .f⟩])
  (.reg [⟨(some 60), .mv (.tmp 9), none, .f⟩,
   ⟨(some 61), .loadn 5 (.tmp 1), none, .f⟩,
   ⟨(some 62), .mv (.tmp 12), none, .f⟩,
   ⟨(some 63), .mv (.tmp 6), none, .f⟩,
   ⟨(some 64), .mv (.tmp 7), none, .f⟩,
   ⟨(some 65), .call (.func 180) [(.tmp 61), (.tmp 62), (.tmp 63), (.tmp 64)], none, .t⟩,
   ⟨(some 66), .mv (.tmp 8), none, .f⟩,
   ⟨(some 67), .bin .mul (.tmp 65) (.tmp 66), none, .f⟩,
   ⟨(some 68), .fadr 0 (.tmp 1), none, .f⟩,
   ⟨(some 69), .load1 (.tmp 68), none, .f⟩,
   ⟨(some 70), .bin .rem (.tmp 67) (.tmp 69), none, .f⟩,
   ⟨(some 71), .bslice 2 1 1 [.int .i64 0] [(0, 1, (.tmp 70))], none, .f⟩,
   ⟨(some 72), .app 2 1 8 (.tmp 60) (.tmp 71), none, .f⟩,
   ⟨(some 9), .mv (.tmp 72), none, .f⟩])))
  (.reg [⟨(some 73), .bin .add (.tmp 57) (.const (.int .i64 1)), none, .f⟩,
   ⟨(some 57), .mv (.tmp 73), none, .f⟩])))))))
  (.seq (.seq (.reg [⟨(some 74), .fadr 2 (.tmp 1), none, .f⟩,
   ⟨(some 75), .load1 (.tmp 74), none, .f⟩,
   ⟨(some 76), .mv (.const (.int .i64 0)), none, .f⟩])
  (.blk 3 (.loop (.seq (.reg [⟨(some 77), .bin .lss (.tmp 76) (.tmp 75), none, .f⟩])
  (.seq (.cond (.tmp 77) .skip (.exit 3))
  (.seq (.blk 4 (.seq (.reg [⟨(some 78), .mv (.tmp 76), none, .f⟩,
   ⟨(some 13), .mv (.tmp 78), none, .f⟩])
  (.reg [⟨(some 79), .mv (.tmp 10), none, .f⟩,
   ⟨(some 80), .loadn 5 (.tmp 1), none, .f⟩,
   ⟨(some 81), .mv (.tmp 5), none, .f⟩,
   ⟨(some 82), .mv (.tmp 13), none, .f⟩,
   ⟨(some 83), .mv (.tmp 7), none, .f⟩,
   ⟨(some 84), .call (.func 180) [(.tmp 80), (.tmp 81), (.tmp 82), (.tmp 83)], none, .t⟩,
   ⟨(some 85), .mv (.tmp 8), none, .f⟩,
   ⟨(some 86), .bin .mul (.tmp 84) (.tmp 85), none, .f⟩,
   ⟨(some 87), .fadr 0 (.tmp 1), none, .f⟩,
   ⟨(some 88), .load1 (.tmp 87), none, .f⟩,
   ⟨(some 89), .bin .rem (.tmp 86) (.tmp 88), none, .f⟩,
   ⟨(some 90), .bslice 2 1 1 [.int .i64 0] [(0, 1, (.tmp 89))], none, .f⟩,
   ⟨(some 91), .app 2 1 8 (.tmp 79) (.tmp 90), none, .f⟩,
   ⟨(some 10), .mv (.tmp 91), none, .f⟩])))
  (.reg [⟨(some 92), .bin .add (.tmp 76) (.const (.int .i64 1)), none, .f⟩,
   ⟨(some 76), .mv (.tmp 92), none, .f⟩])))))))
  (.seq (.seq (.reg [⟨(some 93), .fadr 3 (.tmp 1), none, .f⟩,
   ⟨(some 94), .load1 (.tmp 93), none, .f⟩,
   ⟨(some 95), .mv (.const (.int .i64 0)), none, .f⟩])
  (.blk 5 (.loop (.seq (.reg [⟨(some 96), .bin .lss (.tmp 95) (.tmp 94), none, .f⟩])
  (.seq (.cond (.tmp 96) .skip (.exit 5))
  (.seq (.blk 6 (.seq (.reg [⟨(some 97), .mv (.tmp 95), none, .f⟩,
   ⟨(some 14), .mv (.tmp 97), none, .f⟩])
  (.reg [⟨(some 98), .mv (.tmp 11), none, .f⟩,
   ⟨(some 99), .loadn 5 (.tmp 1), none, .f⟩,
   ⟨(some 100), .mv (.tmp 5), none, .f⟩,
   ⟨(some 101), .mv (.tmp 6), none, .f⟩,
   ⟨(some 102), .mv (.tmp 14), none, .f⟩,
   ⟨(some 103), .call (.func 180) [(.tmp 99), (.tmp 100), (.tmp 101), (.tmp 102)], none, .f⟩,
   ⟨(some 104), .bslice 2 1 1 [.int .i64 0] [(0, 1, (.tmp 103))], none, .f⟩,
   ⟨(some 105), .app 2 1 8 (.tmp 98) (.tmp 104), none, .f⟩,
   ⟨(some 11), .mv (.tmp 105), none, .f⟩])))
  (.reg [⟨(some 106), .bin .add (.tmp 95) (.const (.int .i64 1)), none, .f⟩,
   ⟨(some 95), .mv (.tmp 106), none, .f⟩])))))))
  (.seq (.reg [⟨(some 107), .mv (.tmp 9), none, .f⟩,
   ⟨(some 108), .mv (.tmp 10), none, .f⟩,
   ⟨(some 109), .mv (.tmp 11), none, .f⟩,
   ⟨(some 110), .bslice 27 1 3 [.slice none 0 0] [(0, 1, (.tmp 107)), (1, 1, (.tmp 108)), (2, 1, (.tmp 109))], none, .f⟩,
   ⟨(some 2), .mv (.tmp 110), none, .f⟩,
   ⟨(some 3), .mv (.const (.int .i64 0)), none, .f⟩])
  .ret))))))))))⟩
theorem s100 : compFn Try.prog Try.f100 = some c100 := by kernel_rfl
def c101 : XFn :=
 ⟨[.tmp 2, .tmp 3],
  (.seq (.reg [⟨(some 1), .box 36 (.tmp 0), none, .f⟩,
   ⟨(some 2), .mv (.const (.slice none 0 0)), none, .f⟩,
   ⟨(some 3), .mv (.const (.int .i64 0)), none, .f⟩])
  (.seq (.seq (.reg [⟨(some 6), .loadn 5 (.tmp 1), none, .f⟩,
   ⟨(some 7), .call (.func 173) [(.tmp 6)], none, .f⟩,
   ⟨(some 8), .un .not (.tmp 7), none, .f⟩])
  (.cond (.tmp 8) (.seq (.reg [⟨(some 2), .mv (.const (.slice none 0 0)), none, .f⟩,
   ⟨(some 3), .mv (.const (.int .i64 1)), none, .f⟩])
  .ret) .skip))
  (.seq (.reg [⟨(some 10), .loadn 5 (.tmp 1), none, .f⟩,
   ⟨(some 11), .call (.func 244) [(.tmp 10)], none, .f⟩,
   ⟨(some 9), .mv (.tmp 11), none, .f⟩,
   ⟨(some 12), .ext (.tmp 9) 0, none, .f⟩,
   ⟨(some 13), .ext (.tmp 9) 1, none, .f⟩,
   ⟨(some 4), .mv (.tmp 12), none, .f⟩,
   ⟨(some 5), .mv (.tmp 13), none, .f⟩])
  (.seq (.seq (.reg [⟨(some 14), .mv (.tmp 5), none, .f⟩,
   ⟨(some 15), .un .not (.tmp 14), none, .f⟩])
  (.cond (.tmp 15) (.seq (.reg [⟨(some 2), .mv (.const (.slice none 0 0)), none, .f⟩,
   ⟨(some 3), .mv (.const (.int .i64 5)), none, .f⟩])
  .ret) .skip))
  (.seq (.reg [⟨(some 16), .mv (.tmp 4), none, .f⟩,
   ⟨(some 2), .mv (.tmp 16), none, .f⟩,
   ⟨(some 3), .mv (.const (.int .i64 0)), none, .f⟩])
  .ret)))))⟩
theorem s101 : compFn Try.prog Try.f101 = some c101 := by kernel_rfl
def c102 : XFn :=
 ⟨[.tmp 2, .tmp 3],
  (.seq (.reg [⟨(some 1), .box 36 (.tmp 0), none, .f⟩,
   ⟨(some 2), .mv (.const (.bool false)), none, .f⟩,
   ⟨(some 3), .mv (.const (.int .i64 0)), none, .f⟩])
  (.seq (.seq (.reg [⟨(some 4), .loadn 5 (.tmp 1), none, .f⟩,
   ⟨(some 5), .call (.func 28) [(.tmp 4)], none, .f⟩,
   ⟨(some 6), .un .not (.tmp 5), none, .f⟩])
  (.cond (.tmp 6) (.seq (.reg [⟨(some 2), .mv (.const (.bool false)), none, .f⟩,
   ⟨(some 3), .mv (.const (.int .i64 1)), none, .f⟩])
  .ret) .skip))
  (.seq (.reg [⟨(some 7), .loadn 5 (.tmp 1), none, .f⟩,
   ⟨(some 8), .call (.func 240) [(.tmp 7)], none, .f⟩,
   ⟨(some 2), .mv (.tmp 8), none, .f⟩,
   ⟨(some 3), .mv (.const (.int .i64 0)), none, .f⟩])
  .ret)))⟩
theorem s102 : compFn Try.prog Try.f102 = some c102 := by kernel_rfl
def c103 : XFn :=
 ⟨[.tmp 2, .tmp 3],
  (.seq (.reg [⟨(some 1), .box 36 (.tmp 0), none, .f⟩,
   ⟨(some 2), .mv (.const (.bool false)), none, .f⟩,
   ⟨(some 3), .mv (.const (.int .i64 0)), none, .f⟩])
  (.seq (.seq (.reg [⟨(some 6), .loadn 5 (.tmp 1), none, .f⟩,
   ⟨(some 7), .call (.func 173) [(.tmp 6)], none, .f⟩,
   ⟨(some 8), .un .not (.tmp 7), none, .f⟩])
  (.cond (.tmp 8) (.seq (.reg [⟨(some 2), .mv (.const (.bool false)), none, .f⟩,
   ⟨(some 3), .mv (.const (.int .i64 1)), none, .f⟩])
  .ret) .skip))
  (.seq (.reg [⟨(some 10), .loadn 5 (.tmp 1), none, .f⟩,
   ⟨(some 11), .call (.func 244) [(.tmp 10)], none, .f⟩,
   ⟨(some 9), .mv (.tmp 11), none, .f⟩,
   ⟨(some 12), .ext (.tmp 9) 0, none, .f⟩,
   ⟨(some 13), .ext (.tmp 9) 1, none, .f⟩,
   ⟨(some 4), .mv (.tmp 12), none, .f⟩,
   ⟨(some 5), .mv (.tmp 13), none, .f⟩])
  (.seq (.reg [⟨(some 14), .mv (.tmp 5), none, .f⟩,
   ⟨(some 2), .mv (.tmp 14), none, .f⟩,
   ⟨(some 3), .mv (.const (.int .i64 0)), none, .f⟩])
  .ret))))⟩
theorem s103 : compFn Try.prog Try.f103 = some c103 := by kernel_rfl
def c104 : XFn :=
 ⟨[.tmp 6, .tmp 7],
  (.seq (.reg [⟨(some 3), .box 36 (.tmp 0), none, .f⟩,
   ⟨(some 6), .mv (.const (.slice none 0 0)), none, .f⟩,
   ⟨(some 7), .mv (.const (.int .i64 0)), none, .f⟩])
  (.seq (.blk 0 (.seq (.reg [⟨(some 14), .loadn 5 (.tmp 3), none, .f⟩,
   ⟨(some 15), .call (.func 28) [(.tmp 14)], none, .f⟩,
   ⟨(some 16), .un .not (.tmp 15), none, .f⟩,
   ⟨(some 13), .mv (.tmp 16), none, .f⟩])
  (.cond (.tmp 13) (.seq (.reg [⟨(some 6), .mv (.const (.slice none 0 0)), none, .f⟩,
   ⟨(some 7), .mv (.const (.int .i64 1)), none, .f⟩])
  .ret) (.seq (.reg [⟨(some 18), .mv (.tmp 1), none, .f⟩,
   ⟨(some 19), .bin .lss (.tmp 18) (.const (.int .i64 0)), none, .f⟩,
   ⟨(some 20), .mv (.tmp 19), none, .f⟩,
   ⟨(some 21), .mv (.tmp 1), (some (20, false)), .f⟩,
   ⟨(some 22), .bin .gtr (.tmp 21) (.const (.int .i64 2)), (some (20, false)), .f⟩,
   ⟨(some 23), .pick (.tmp 20) (.const (.bool true)) (.tmp 22), none, .f⟩,
   ⟨(some 24), .mv (.tmp 23), none, .f⟩,
   ⟨(some 25), .mv (.tmp 2), (some (24, false)), .f⟩,
   ⟨(some 26), .len (.tmp 25), (some (24, false)), .f⟩,
   ⟨(some 27), .loadn 5 (.tmp 3), (some (24, false)), .f⟩,
   ⟨(some 28), .call (.func 177) [(.tmp 27)], (some (24, false)), .f⟩,
   ⟨(some 29), .mv (.tmp 1), (some (24, false)), .f⟩,
   ⟨(some 30), .idx1 3 (.tmp 28) (.tmp 29), (some (24, false)), .f⟩,
   ⟨(some 31), .bin .neq (.tmp 26) (.tmp 30), (some (24, false)), .f⟩,
   ⟨(some 32), .pick (.tmp 24) (.const (.bool true)) (.tmp 31), none, .f⟩,
   ⟨(some 33), .mv (.tmp 32), none, .f⟩,
   ⟨(some 34), .fadr 0 (.tmp 3), (some (33, false)), .f⟩,
   ⟨(some 35), .load1 (.tmp 34), (some (33, false)), .f⟩,
   ⟨(some 36), .mv (.tmp 2), (some (33, false)), .f⟩,
   ⟨(some 37), .call (.func 184) [(.tmp 35), (.tmp 36)], (some (33, false)), .f⟩,
   ⟨(some 38), .un .not (.tmp 37), (some (33, false)), .f⟩,
   ⟨(some 39), .pick (.tmp 33) (.const (.bool true)) (.tmp 38), none, .f⟩,
   ⟨(some 17), .mv (.tmp 39), none, .f⟩])
  (.cond (.tmp 17) (.seq (.reg [⟨(some 6), .mv (.const (.slice none 0 0)), none, .f⟩,
   ⟨(some 7), .mv (.const (.int .i64 2)), none, .f⟩])
  .ret) .skip)))))
  (.seq (.reg [⟨(some 40), .loadn 5 (.tmp 3), none, .f⟩,
   ⟨(some 41), .mv (.tmp 1), none, .f⟩,
   ⟨(some 42), .call (.func 245) [(.tmp 40), (.tmp 41)], none, .f⟩,
   ⟨(some 8), .alloc 36 [.int .i64 0, .int .i64 0, .int .i64 0, .int .i64 0, .slice none 0 0], none, .f⟩,
   ⟨none, .store 5 (.tmp 8) (.tmp 42), none, .f⟩])
  (.seq (.reg [⟨(some 43), .fadr 2 (.tmp 8), none, .f⟩,
   ⟨(some 44), .load1 (.tmp 43), none, .f⟩,
   ⟨(some 45), .fadr 3 (.tmp 8), none, .f⟩,
   ⟨(some 46), .load1 (.tmp 45), none, .f⟩,
   ⟨(some 47), .bin .mul (.tmp 44) (.tmp 46), none, .f⟩,
   ⟨(some 48), .mks 2 1 8 [.int .i64 0] (.tmp 47), none, .f⟩,
   ⟨(some 9), .mv (.tmp 48), none, .f⟩])
  (.seq (.seq (.reg [⟨(some 49), .mv (.tmp 2), none, .f⟩,
   ⟨(some 50), .len (.tmp 49), none, .f⟩,
   ⟨(some 51), .mv (.const (.int .i64 0)), none, .f⟩])
  (.blk 1 (.loop (.seq (.reg [⟨(some 52), .bin .lss (.tmp 51) (.tmp 50), none, .f⟩])
  (.seq (.cond (.tmp 52) .skip (.exit 1))
  (.seq (.blk 2 (.seq (.reg [⟨(some 53), .mv (.tmp 51), none, .f⟩,
   ⟨(some 54), .ixs 1 (.tmp 49) (.tmp 51), none, .f⟩,
   ⟨(some 55), .load1 (.tmp 54), none, .f⟩,
   ⟨(some 10), .mv (.tmp 53), none, .f⟩,
   ⟨(some 11), .mv (.tmp 55), none, .f⟩])
  (.seq (.reg [⟨(some 56), .mv (.tmp 9), none, .f⟩,
   ⟨(some 57), .len (.tmp 56), none, .f⟩,
   ⟨(some 58), .mv (.const (.int .i64 0)), none, .f⟩])
  (.blk 3 (.loop (.seq (.reg [⟨(some 59), .bin .lss (.tmp 58) (.tmp 57), none, .f⟩])
  (.seq (.cond (.tmp 59) .skip (.exit 3))
  (.seq (.blk 4 (.seq (.reg [⟨(some 60), .mv (.tmp 58), none, .f⟩,
   ⟨(some 12), .mv (.tmp 60), none, .f⟩])
  (.reg [⟨(some 61), .mv (.tmp 9), none, .f⟩,
   ⟨(some 62), .mv (.tmp 12), none, .f⟩,
   ⟨(some 63), .mv (.tmp 9), none, .f⟩,
   ⟨(some 64), .mv (.tmp 12), none, .f⟩,
   ⟨(some 65), .ixs 1 (.tmp 63) (.tmp 64), none, .f⟩,
   ⟨(some 66), .load1 (.tmp 65), none, .f⟩,
   ⟨(some 67), .mv (.tmp 11), none, .f⟩,
   ⟨(some 68), .fadr 4 (.tmp 8), none, .f⟩,
   ⟨(some 69), .load1 (.tmp 68), none, .f⟩,
   ⟨(some 70), .mv (.tmp 10), none, .f⟩,
   ⟨(some 71), .fadr 2 (.tmp 8), none, .f⟩,
   ⟨(some 72), .load1 (.tmp 71), none, .f⟩,
   ⟨(some 73), .bin .mul (.tmp 70) (.tmp 72), none, .f⟩,
   ⟨(some 74), .fadr 3 (.tmp 8), none, .f⟩,
   ⟨(some 75), .load1 (.tmp 74), none, .f⟩,
   ⟨(some 76), .bin .mul (.tmp 73) (.tmp 75), none, .f⟩,
   ⟨(some 77), .mv (.tmp 12), none, .f⟩,
   ⟨(some 78), .bin .add (.tmp 76) (.tmp 77), none, .f⟩,
   ⟨(some 79), .ixs 1 (.tmp 69) (.tmp 78), none, .f⟩,
   ⟨(some 80), .load1 (.tmp 79), none, .f⟩,
   ⟨(some 81), .bin .mul (.tmp 67) (.tmp 80), none, .f⟩,
   ⟨(some 82), .bin .add (.tmp 66) (.tmp 81), none, .f⟩,
   ⟨(some 83), .fadr 0 (.tmp 3), none, .f⟩,
   ⟨(some 84), .load1 (.tmp 83), none, .f⟩,
   ⟨(some 85), .bin .rem (.tmp 82) (.tmp 84), none, .f⟩,
   ⟨(some 86), .ixs 1 (.tmp 61) (.tmp 62), none, .f⟩,
   ⟨none, .store 1 (.tmp 86) (.tmp 85), none, .f⟩])))
  (.reg [⟨(some 87), .bin .add (.tmp 58) (.const (.int .i64 1)), none, .f⟩,
   ⟨(some 58), .mv (.tmp 87), none, .f⟩])))))))))
  (.reg [⟨(some 88), .bin .add (.tmp 51) (.const (.int .i64 1)), none, .f⟩,
   ⟨(some 51), .mv (.tmp 88), none, .f⟩])))))))
  (.seq (.reg [⟨(some 89), .mv (.tmp 9), none, .f⟩,
   ⟨(some 90), .fadr 3 (.tmp 8), none, .f⟩,
   ⟨(some 91), .load1 (.tmp 90), none, .f⟩,
   ⟨(some 92), .call (.func 163) [(.tmp 89), (.tmp 91)], none, .f⟩,
   ⟨(some 6), .mv (.tmp 92), none, .f⟩,
   ⟨(some 7), .mv (.const (.int .i64 0)), none, .f⟩])
  .ret))))))⟩
theorem s104 : compFn Try.prog Try.f104 = some c104 := by kernel_rfl
def c105 : XFn :=
 ⟨[.tmp 4, .tmp 5],
  (.seq (.reg [⟨(some 4), .mv (.const (.int .i64 0)), none, .f⟩,
   ⟨(some 5), .mv (.const (.int .i64 0)), none, .f⟩])
  (.seq (.seq (.reg [⟨(some 7), .mv (.tmp 0), none, .f⟩,
   ⟨(some 8), .call (.func 166) [(.tmp 7)], none, .f⟩,
   ⟨(some 9), .un .not (.tmp 8), none, .f⟩,
   ⟨(some 10), .mv (.tmp 9), none, .f⟩,
   ⟨(some 11), .mv (.tmp 1), (some (10, false)), .f⟩,
   ⟨(some 12), .len (.tmp 11), (some (10, false)), .f⟩,
   ⟨(some 13), .bslice 2 1 1 [.int .i64 0] [(0, 1, (.tmp 12))], (some (10, false)), .f⟩,
   ⟨(some 14), .call (.func 183) [(.tmp 13)], (some (10, false)), .f⟩,
   ⟨(some 15), .un .not (.tmp 14), (some (10, false)), .f⟩,
   ⟨(some 16), .pick (.tmp 10) (.const (.bool true)) (.tmp 15), none, .f⟩])
  (.cond (.tmp 16) (.seq (.reg [⟨(some 4), .mv (.const (.int .i64 0)), none, .f⟩,
   ⟨(some 5), .mv (.const (.int .i64 2)), none, .f⟩])
  .ret) .skip))
  (.seq (.reg [⟨(some 17), .mv (.tmp 1), none, .f⟩,
   ⟨(some 18), .ixs 1 (.tmp 17) (.const (.int .i64 0)), none, .f⟩,
   ⟨(some 19), .load1 (.tmp 18), none, .f⟩,
   ⟨(some 20), .len (.tmp 19), none, .f⟩,
   ⟨(some 6), .mv (.tmp 20), none, .f⟩])
  (.seq (.seq (.reg [⟨(some 21), .mv (.tmp 6), none, .f⟩,
   ⟨(some 22), .bin .lss (.tmp 21) (.const (.int .i64 1)), none, .f⟩,
   ⟨(some 23), .mv (.tmp 22), none, .f⟩,
   ⟨(some 24), .mv (.tmp 6), (some (23, false)), .f⟩,
   ⟨(some 25), .bin .gtr (.tmp 24) (.const (.int .i64 81)), (some (23, false)), .f⟩,
   ⟨(some 26), .pick (.tmp 23) (.const (.bool true)) (.tmp 25), none, .f⟩,
   ⟨(some 27), .mv (.tmp 26), none, .f⟩,
   ⟨(some 28), .mv (.tmp 0), (some (27, false)), .f⟩,
   ⟨(some 29), .mv (.tmp 1), (some (27, false)), .f⟩,
   ⟨(some 30), .len (.tmp 29), (some (27, false)), .f⟩,
   ⟨(some 31), .mv (.tmp 6), (some (27, false)), .f⟩,
   ⟨(some 32), .mv (.tmp 1), (some (27, false)), .f⟩,
   ⟨(some 33), .call (.func 168) [(.tmp 28), (.tmp 30), (.tmp 31), (.tmp 32)], (some (27, false)), .f⟩,
   ⟨(some 34), .un .not (.tmp 33), (some (27, false)), .f⟩,
   ⟨(some 35), .pick (.tmp 27) (.const (.bool true)) (.tmp 34), none, .f⟩])
  (.cond (.tmp 35) (.seq (.reg [⟨(some 4), .mv (.const (.int .i64 0)), none, .f⟩,
   ⟨(some 5), .mv (.const (.int .i64 2)), none, .f⟩])
  .ret) .skip))
  (.seq (.reg [⟨(some 36), .mv (.tmp 0), none, .f⟩,
   ⟨(some 37), .mv (.tmp 1), none, .f⟩,
   ⟨(some 38), .call (.func 246) [(.tmp 36), (.tmp 37)], none, .f⟩,
   ⟨(some 4), .mv (.tmp 38), none, .f⟩,
   ⟨(some 5), .mv (.const (.int .i64 0)), none, .f⟩])
  .ret)))))⟩
theorem s105 : compFn Try.prog Try.f105 = some c105 := by kernel_rfl
def c106 : XFn :=
 ⟨[.celln 2 5, .tmp 3, .tmp 4],
  (.seq (.reg [⟨(some 2), .alloc 36 [.int .i64 0, .int .i64 0, .int .i64 0, .int .i64 0, .slice none 0 0], none, .f⟩,
   ⟨(some 3), .mv (.const (.int .i64 0)), none, .f⟩,
   ⟨(some 4), .mv (.const (.int .i64 0)), none, .f⟩])
  (.seq (.reg [⟨(some 8), .mv (.tmp 0), none, .f⟩,
   ⟨(some 9), .call (.func 145) [(.tmp 8)], none, .f⟩,
   ⟨(some 5), .mv (.tmp 9), none, .f⟩])
  (.seq (.reg [⟨(some 10), .mv (.tmp 5), none, .f⟩,
   ⟨(some 11), .call (.func 172) [(.tmp 10)], none, .f⟩,
   ⟨(some 6), .alloc 36 [.int .i64 0, .int .i64 0, .int .i64 0, .int .i64 0, .slice none 0 0], none, .f⟩,
   ⟨none, .store 5 (.tmp 6) (.tmp 11), none, .f⟩])
  (.seq (.reg [⟨(some 12), .mv (.tmp 5), none, .f⟩,
   ⟨(some 13), .call (.func 175) [(.tmp 12), (.const (.int .i64 2))], none, .f⟩,
   ⟨(some 7), .mv (.tmp 13), none, .f⟩])
  (.seq (.reg [⟨(some 14), .loadn 5 (.tmp 6), none, .f⟩,
   ⟨(some 15), .mv (.tmp 7), none, .f⟩,
   ⟨(some 16), .mv (.tmp 5), none, .f⟩,
   ⟨(some 17), .loadn 5 (.tmp 6), none, .f⟩,
   ⟨(some 18), .mv (.tmp 7), none, .f⟩,
   ⟨(some 19), .call (.func 247) [(.tmp 17), (.tmp 18)], none, .t⟩,
   ⟨(some 20), .bin .sub (.tmp 19) (.const (.int .i64 1)), none, .f⟩,
   ⟨(some 21), .mm true (.tmp 20) [(.const (.int .i64 0))], none, .f⟩,
   ⟨(some 22), .call (.func 175) [(.tmp 16), (.tmp 21)], none, (.s true [(.tmp 6)])⟩,
   ⟨none, .store 5 (.tmp 2) (.tmp 14), none, .f⟩,
   ⟨(some 3), .mv (.tmp 15), none, .f⟩,
   ⟨(some 4), .mv (.tmp 22), none, .f⟩])
  .ret)))))⟩
theorem s106 : compFn Try.prog Try.f106 = some c106 := by kernel_rfl
def c107 : XFn :=
 ⟨[.tmp 6, .tmp 7],
  (.seq (.reg [⟨(some 3), .box 36 (.tmp 0), none, .f⟩,
   ⟨(some 6), .mv (.const (.slice none 0 0)), none, .f⟩,
   ⟨(some 7), .mv (.const (.int .i64 0)), none, .f⟩])
  (.seq (.blk 0 (.seq (.reg [⟨(some 11), .loadn 5 (.tmp 3), none, .f⟩,
   ⟨(some 12), .call (.func 28) [(.tmp 11)], none, .f⟩,
   ⟨(some 13), .un .not (.tmp 12), none, .f⟩,
   ⟨(some 10), .mv (.tmp 13), none, .f⟩])
  (.cond (.tmp 10) (.seq (.reg [⟨(some 6), .mv (.const (.slice none 0 0)), none, .f⟩,
   ⟨(some 7), .mv (.const (.int .i64 1)), none, .f⟩])
  .ret) (.seq (.reg [⟨(some 15), .mv (.tmp 1), none, .f⟩,
   ⟨(some 16), .bin .lss (.tmp 15) (.const (.int .i64 0)), none, .f⟩,
   ⟨(some 17), .mv (.tmp 16), none, .f⟩,
   ⟨(some 18), .mv (.tmp 1), (some (17, false)), .f⟩,
   ⟨(some 19), .bin .gtr (.tmp 18) (.const (.int .i64 2)), (some (17, false)), .f⟩,
   ⟨(some 20), .pick (.tmp 17) (.const (.bool true)) (.tmp 19), none, .f⟩,
   ⟨(some 21), .mv (.tmp 20), none, .f⟩,
   ⟨(some 22), .mv (.tmp 2), (some (21, false)), .f⟩,
   ⟨(some 23), .bin .lss (.tmp 22) (.const (.int .i64 0)), (some (21, false)), .f⟩,
   ⟨(some 24), .pick (.tmp 21) (.const (.bool true)) (.tmp 23), none, .f⟩,
   ⟨(some 25), .mv (.tmp 24), none, .f⟩,
   ⟨(some 26), .mv (.tmp 2), (some (25, false)), .f⟩,
   ⟨(some 27), .loadn 5 (.tmp 3), (some (25, false)), .f⟩,
   ⟨(some 28), .call (.func 177) [(.tmp 27)], (some (25, false)), .f⟩,
   ⟨(some 29), .mv (.tmp 1), (some (25, false)), .f⟩,
   ⟨(some 30), .idx1 3 (.tmp 28) (.tmp 29), (some (25, false)), .f⟩,
   ⟨(some 31), .bin .geq (.tmp 26) (.tmp 30), (some (25, false)), .f⟩,
   ⟨(some 32), .pick (.tmp 25) (.const (.bool true)) (.tmp 31), none, .f⟩,
   ⟨(some 14), .mv (.tmp 32), none, .f⟩])
  (.cond (.tmp 14) (.seq (.reg [⟨(some 6), .mv (.const (.slice none 0 0)), none, .f⟩,
   ⟨(some 7), .mv (.const (.int .i64 2)), none, .f⟩])
  .ret) .skip)))))
  (.seq (.reg [⟨(some 33), .loadn 5 (.tmp 3), none, .f⟩,
   ⟨(some 34), .mv (.tmp 1), none, .f⟩,
   ⟨(some 35), .call (.func 245) [(.tmp 33), (.tmp 34)], none, .f⟩,
   ⟨(some 8), .alloc 36 [.int .i64 0, .int .i64 0, .int .i64 0, .int .i64 0, .slice none 0 0], none, .f⟩,
   ⟨none, .store 5 (.tmp 8) (.tmp 35), none, .f⟩])
  (.seq (.reg [⟨(some 36), .fadr 2 (.tmp 8), none, .f⟩,
   ⟨(some 37), .load1 (.tmp 36), none, .f⟩,
   ⟨(some 38), .fadr 3 (.tmp 8), none, .f⟩,
   ⟨(some 39), .load1 (.tmp 38), none, .f⟩,
   ⟨(some 40), .bin .mul (.tmp 37) (.tmp 39), none, .f⟩,
   ⟨(some 9), .mv (.tmp 40), none, .f⟩])
  (.seq (.reg [⟨(some 41), .fadr 4 (.tmp 8), none, .f⟩,
   ⟨(some 42), .load1 (.tmp 41), none, .f⟩,
   ⟨(some 43), .mv (.tmp 2), none, .f⟩,
   ⟨(some 44), .mv (.tmp 9), none, .f⟩,
   ⟨(some 45), .bin .mul (.tmp 43) (.tmp 44), none, .f⟩,
   ⟨(some 46), .mv (.tmp 2), none, .f⟩,
   ⟨(some 47), .bin .add (.tmp 46) (.const (.int .i64 1)), none, .f⟩,
   ⟨(some 48), .mv (.tmp 9), none, .f⟩,
   ⟨(some 49), .bin .mul (.tmp 47) (.tmp 48), none, .f⟩,
   ⟨(some 50), .slc 1 (.tmp 42) (some (.tmp 45)) (some (.tmp 49)), none, .f⟩,
   ⟨(some 51), .fadr 3 (.tmp 8), none, .f⟩,
   ⟨(some 52), .load1 (.tmp 51), none, .f⟩,
   ⟨(some 53), .call (.func 163) [(.tmp 50), (.tmp 52)], none, .f⟩,
   ⟨(some 6), .mv (.tmp 53), none, .f⟩,
   ⟨(some 7), .mv (.const (.int .i64 0)), none, .f⟩])
  .ret)))))⟩
theorem s107 : compFn Try.prog Try.f107 = some c107 := by kernel_rfl
def c108 : XFn :=
 ⟨[.tmp 6, .tmp 7],
  (.seq (.reg [⟨(some 3), .box 36 (.tmp 0), none, .f⟩,
   ⟨(some 6), .mv (.const (.slice none 0 0)), none, .f⟩,
   ⟨(some 7), .mv (.const (.int .i64 0)), none, .f⟩])
  (.seq (.blk 0 (.seq (.reg [⟨(some 9), .loadn 5 (.tmp 3), none, .f⟩,
   ⟨(some 10), .call (.func 173) [(.tmp 9)], none, .f⟩,
   ⟨(some 11), .un .not (.tmp 10), none, .f⟩,
   ⟨(some 8), .mv (.tmp 11), none, .f⟩])
  (.cond (.tmp 8) (.seq (.reg [⟨(some 6), .mv (.const (.slice none 0 0)), none, .f⟩,
   ⟨(some 7), .mv (.const (.int .i64 1)), none, .f⟩])
  .ret) (.seq (.reg [⟨(some 13), .mv (.tmp 1), none, .f⟩,
   ⟨(some 14), .call (.func 181) [(.tmp 13), (.const (.int .i64 0)), (.const (.int .i64 2))], none, .f⟩,
   ⟨(some 15), .un .not (.tmp 14), none, .f⟩,
   ⟨(some 16), .mv (.tmp 15), none, .f⟩,
   ⟨(some 17), .mv (.tmp 2), (some (16, false)), .f⟩,
   ⟨(some 18), .loadn 5 (.tmp 3), (some (16, false)), .f⟩,
   ⟨(some 19), .mv (.tmp 1), (some (16, false)), .f⟩,
   ⟨(some 20), .call (.func 247) [(.tmp 18), (.tmp 19)], (some (16, false)), .f⟩,
   ⟨(some 21), .bin .sub (.tmp 20) (.const (.int .i64 1)), (some (16, false)), .f⟩,
   ⟨(some 22), .call (.func 181) [(.tmp 17), (.const (.int .i64 0)), (.tmp 21)], (some (16, false)), .f⟩,
   ⟨(some 23), .un .not (.tmp 22), (some (16, false)), .f⟩,
   ⟨(some 24), .pick (.tmp 16) (.const (.bool true)) (.tmp 23), none, .f⟩,
   ⟨(some 12), .mv (.tmp 24), none, .f⟩])
  (.cond (.tmp 12) (.seq (.reg [⟨(some 6), .mv (.const (.slice none 0 0)), none, .f⟩,
   ⟨(some 7), .mv (.const (.int .i64 2)), none, .f⟩])
  .ret) .skip)))))
  (.seq (.reg [⟨(some 25), .loadn 5 (.tmp 3), none, .f⟩,
   ⟨(some 26), .mv (.tmp 1), none, .f⟩,
   ⟨(some 27), .call (.func 249) [(.tmp 25), (.tmp 26)], none, .f⟩,
   ⟨(some 28), .mv (.tmp 2), none, .f⟩,
   ⟨(some 29), .call (.func 248) [(.tmp 27), (.tmp 28)], none, .f⟩,
   ⟨(some 6), .mv (.tmp 29), none, .f⟩,
   ⟨(some 7), .mv (.const (.int .i64 0)), none, .f⟩])
  .ret)))⟩
theorem s108 : compFn Try.prog Try.f108 = some c108 := by kernel_rfl
def c109 : XFn :=
 ⟨[.tmp 8, .tmp 9],
  (.seq (.reg [⟨(some 4), .box 36 (.tmp 0), none, .f⟩,
   ⟨(some 8), .mv (.const (.int .i64 0)), none, .f⟩,
   ⟨(some 9), .mv (.const (.int .i64 0)), none, .f⟩])
  (.seq (.blk 0 (.seq (.reg [⟨(some 11), .loadn 5 (.tmp 4), none, .f⟩,
   ⟨(some 12), .call (.func 28) [(.tmp 11)], none, .f⟩,
   ⟨(some 13), .un .not (.tmp 12), none, .f⟩,
   ⟨(some 10), .mv (.tmp 13), none, .f⟩])
  (.cond (.tmp 10) (.seq (.reg [⟨(some 8), .mv (.const (.int .i64 0)), none, .f⟩,
   ⟨(some 9), .mv (.const (.int .i64 1)), none, .f⟩])
  .ret) (.seq (.reg [⟨(some 15), .mv (.tmp 1), none, .f⟩,
   ⟨(some 16), .bin .lss (.tmp 15) (.const (.int .i64 0)), none, .f⟩,
   ⟨(some 17), .mv (.tmp 16), none, .f⟩,
   ⟨(some 18), .mv (.tmp 1), (some (17, false)), .f⟩,
   ⟨(some 19), .fadr 1 (.tmp 4), (some (17, false)), .f⟩,
   ⟨(some 20), .load1 (.tmp 19), (some (17, false)), .f⟩,
   ⟨(some 21), .bin .geq (.tmp 18) (.tmp 20), (some (17, false)), .f⟩,
   ⟨(some 22), .pick (.tmp 17) (.const (.bool true)) (.tmp 21), none, .f⟩,
   ⟨(some 23), .mv (.tmp 22), none, .f⟩,
   ⟨(some 24), .mv (.tmp 2), (some (23, false)), .f⟩,
   ⟨(some 25), .bin .lss (.tmp 24) (.const (.int .i64 0)), (some (23, false)), .f⟩,
   ⟨(some 26), .pick (.tmp 23) (.const (.bool true)) (.tmp 25), none, .f⟩,
   ⟨(some 27), .mv (.tmp 26), none, .f⟩,
   ⟨(some 28), .mv (.tmp 2), (some (27, false)), .f⟩,
   ⟨(some 29), .fadr 2 (.tmp 4), (some (27, false)), .f⟩,
   ⟨(some 30), .load1 (.tmp 29), (some (27, false)), .f⟩,
   ⟨(some 31), .bin .geq (.tmp 28) (.tmp 30), (some (27, false)), .f⟩,
   ⟨(some 32), .pick (.tmp 27) (.const (.bool true)) (.tmp 31), none, .f⟩,
   ⟨(some 33), .mv (.tmp 32), none, .f⟩,
   ⟨(some 34), .mv (.tmp 3), (some (33, false)), .f⟩,
   ⟨(some 35), .bin .lss (.tmp 34) (.const (.int .i64 0)), (some (33, false)), .f⟩,
   ⟨(some 36), .pick (.tmp 33) (.const (.bool true)) (.tmp 35), none, .f⟩,
   ⟨(some 37), .mv (.tmp 36), none, .f⟩,
   ⟨(some 38), .mv (.tmp 3), (some (37, false)), .f⟩,
   ⟨(some 39), .fadr 3 (.tmp 4), (some (37, false)), .f⟩,
   ⟨(some 40), .load1 (.tmp 39), (some (37, false)), .f⟩,
   ⟨(some 41), .bin .geq (.tmp 38) (.tmp 40), (some (37, false)), .f⟩,
   ⟨(some 42), .pick (.tmp 37) (.const (.bool true)) (.tmp 41), none, .f⟩,
   ⟨(some 14), .mv (.tmp 42), none, .f⟩])
  (.cond (.tmp 14) (.seq (.reg [⟨(some 8), .mv (.const (.int .i64 0)), none, .f⟩,
   ⟨(some 9), .mv (.const (.int .i64 2)), none, .f⟩])
  .ret) .skip)))))
  (.seq (.reg [⟨(some 43), .loadn 5 (.tmp 4), none, .f⟩,
   ⟨(some 44), .mv (.tmp 1), none, .f⟩,
   ⟨(some 45), .mv (.tmp 2), none, .f⟩,
   ⟨(some 46), .mv (.tmp 3), none, .f⟩,
   ⟨(some 47), .call (.func 180) [(.tmp 43), (.tmp 44), (.tmp 45), (.tmp 46)], none, .f⟩,
   ⟨(some 8), .mv (.tmp 47), none, .f⟩,
   ⟨(some 9), .mv (.const (.int .i64 0)), none, .f⟩])
  .ret)))⟩
theorem s109 : compFn Try.prog Try.f109 = some c109 := by kernel_rfl
def c110 : XFn :=
 ⟨[.celln 2 5, .tmp 3, .tmp 4],
  (.seq (.reg [⟨(some 2), .alloc 36 [.int .i64 0, .int .i64 0, .int .i64 0, .int .i64 0, .slice none 0 0], none, .f⟩,
   ⟨(some 3), .mv (.const (.int .i64 0)), none, .f⟩,
   ⟨(some 4), .mv (.const (.slice none 0 0)), none, .f⟩])
  (.seq (.reg [⟨(some 9), .mv (.tmp 0), none, .f⟩,
   ⟨(some 10), .call (.func 145) [(.tmp 9)], none, .f⟩,
   ⟨(some 5), .mv (.tmp 10), none, .f⟩])
  (.seq (.reg [⟨(some 11), .mv (.tmp 5), none, .f⟩,
   ⟨(some 12), .call (.func 172) [(.tmp 11)], none, .f⟩,
   ⟨(some 6), .alloc 36 [.int .i64 0, .int .i64 0, .int .i64 0, .int .i64 0, .slice none 0 0], none, .f⟩,
   ⟨none, .store 5 (.tmp 6) (.tmp 12), none, .f⟩])
  (.seq (.reg [⟨(some 13), .mv (.tmp 5), none, .f⟩,
   ⟨(some 14), .call (.func 175) [(.tmp 13), (.const (.int .i64 2))], none, .f⟩,
   ⟨(some 7), .mv (.tmp 14), none, .f⟩])
  (.seq (.reg [⟨(some 15), .mv (.tmp 5), none, .f⟩,
   ⟨(some 16), .fadr 0 (.tmp 6), none, .f⟩,
   ⟨(some 17), .load1 (.tmp 16), none, .f⟩,
   ⟨(some 18), .mm true (.tmp 17) [(.const (.int .i64 1))], none, .f⟩,
   ⟨(some 19), .mm false (.tmp 18) [(.const (.int .i64 5))], none, .f⟩,
   ⟨(some 20), .loadn 5 (.tmp 6), none, .f⟩,
   ⟨(some 21), .mv (.tmp 7), none, .f⟩,
   ⟨(some 22), .call (.func 247) [(.tmp 20), (.tmp 21)], none, .t⟩,
   ⟨(some 23), .mm true (.tmp 22) [(.const (.int .i64 0))], none, .f⟩,
   ⟨(some 24), .mm false (.tmp 23) [(.const (.int .i64 10))], none, .f⟩,
   ⟨(some 25), .call (.func 250) [(.tmp 15), (.tmp 19), (.tmp 24)], none, .f⟩,
   ⟨(some 8), .mv (.tmp 25), none, .f⟩])
  (.seq (.seq (.reg [⟨(some 26), .mv (.tmp 5), none, .f⟩,
   ⟨(some 27), .call (.func 148) [(.tmp 26), (.const (.int .i64 20))], none, .f⟩,
   ⟨(some 28), .bin .eql (.tmp 27) (.const (.int .i64 0)), none, .f⟩])
  (.cond (.tmp 28) (.reg [⟨(some 29), .mv (.tmp 8), none, .f⟩,
   ⟨(some 30), .bslice 2 1 1 [.int .i64 0] [(0, 1, (.const (.int .i64 0)))], none, .f⟩,
   ⟨(some 31), .app 2 1 8 (.tmp 29) (.tmp 30), none, .f⟩,
   ⟨(some 8), .mv (.tmp 31), none, .f⟩]) .skip))
  (.seq (.reg [⟨(some 32), .loadn 5 (.tmp 6), none, .f⟩,
   ⟨(some 33), .mv (.tmp 7), none, .f⟩,
   ⟨(some 34), .mv (.tmp 8), none, .f⟩,
   ⟨none, .store 5 (.tmp 2) (.tmp 32), none, .f⟩,
   ⟨(some 3), .mv (.tmp 33), none, .f⟩,
   ⟨(some 4), .mv (.tmp 34), none, .f⟩])
  .ret)))))))⟩
theorem s110 : compFn Try.prog Try.f110 = some c110 := by kernel_rfl
def c111 : XFn :=
 ⟨[.tmp 6, .tmp 7],
  (.seq (.reg [⟨(some 3), .box 36 (.tmp 0), none, .f⟩,
   ⟨(some 6), .mv (.const (.slice none 0 0)), none, .f⟩,
   ⟨(some 7), .mv (.const (.int .i64 0)), none, .f⟩])
  (.seq (.blk 0 (.seq (.reg [⟨(some 15), .loadn 5 (.tmp 3), none, .f⟩,
   ⟨(some 16), .call (.func 173) [(.tmp 15)], none, .f⟩,
   ⟨(some 17), .un .not (.tmp 16), none, .f⟩,
   ⟨(some 14), .mv (.tmp 17), none, .f⟩])
  (.cond (.tmp 14) (.seq (.reg [⟨(some 6), .mv (.const (.slice none 0 0)), none, .f⟩,
   ⟨(some 7), .mv (.const (.int .i64 1)), none, .f⟩])
  .ret) (.seq (.reg [⟨(some 19), .mv (.tmp 1), none, .f⟩,
   ⟨(some 20), .call (.func 181) [(.tmp 19), (.const (.int .i64 0)), (.const (.int .i64 2))], none, .f⟩,
   ⟨(some 21), .un .not (.tmp 20), none, .f⟩,
   ⟨(some 22), .mv (.tmp 21), none, .f⟩,
   ⟨(some 23), .fadr 0 (.tmp 3), (some (22, false)), .f⟩,
   ⟨(some 24), .load1 (.tmp 23), (some (22, false)), .f⟩,
   ⟨(some 25), .mv (.tmp 2), (some (22, false)), .f⟩,
   ⟨(some 26), .loadn 5 (.tmp 3), (some (22, false)), .f⟩,
   ⟨(some 27), .mv (.tmp 1), (some (22, false)), .f⟩,
   ⟨(some 28), .call (.func 247) [(.tmp 26), (.tmp 27)], (some (22, false)), .t⟩,
   ⟨(some 29), .call (.func 251) [(.tmp 24), (.tmp 25), (.tmp 28)], (some (22, false)), .f⟩,
   ⟨(some 30), .un .not (.tmp 29), (some (22, false)), .f⟩,
   ⟨(some 31), .pick (.tmp 22) (.const (.bool true)) (.tmp 30), none, .f⟩,
   ⟨(some 18), .mv (.tmp 31), none, .f⟩])
  (.cond (.tmp 18) (.seq (.reg [⟨(some 6), .mv (.const (.slice none 0 0)), none, .f⟩,
   ⟨(some 7), .mv (.const (.int .i64 2)), none, .f⟩])
  .ret) .skip)))))
  (.seq (.reg [⟨(some 32), .loadn 5 (.tmp 3), none, .f⟩,
   ⟨(some 33), .mv (.tmp 1), none, .f⟩,
   ⟨(some 34), .call (.func 249) [(.tmp 32), (.tmp 33)], none, .f⟩,
   ⟨(some 35), .bslice 27 1 0 [.slice none 0 0] [], none, .f⟩,
   ⟨(some 8), .alloc 36 [.int .i64 0, .int .i64 0, .int .i64 0, .int .i64 0, .slice none 0 0], none, .f⟩,
   ⟨none, .store 5 (.tmp 8) (.tmp 34), none, .f⟩,
   ⟨(some 9), .mv (.tmp 35), none, .f⟩])
  (.seq (.seq (.reg [⟨(some 10), .mv (.const (.int .i64 0)), none, .f⟩])
  (.blk 1 (.loop (.seq (.seq (.reg [⟨(some 36), .mv (.tmp 10), none, .f⟩,
   ⟨(some 37), .fadr 2 (.tmp 8), none, .f⟩,
   ⟨(some 38), .load1 (.tmp 37), none, .f⟩,
   ⟨(some 39), .bin .lss (.tmp 36) (.tmp 38), none, .f⟩])
  (.cond (.tmp 39) .skip (.exit 1)))
  (.seq (.blk 2 (.seq (.reg [⟨(some 42), .fadr 3 (.tmp 8), none, .f⟩,
   ⟨(some 43), .load1 (.tmp 42), none, .f⟩,
   ⟨(some 44), .mks 2 1 8 [.int .i64 0] (.tmp 43), none, .f⟩,
   ⟨(some 11), .mv (.tmp 44), none, .f⟩])
  (.seq (.seq (.reg [⟨(some 12), .mv (.const (.int .i64 0)), none, .f⟩])
  (.blk 3 (.loop (.seq (.seq (.reg [⟨(some 45), .mv (.tmp 12), none, .f⟩,
   ⟨(some 46), .fadr 3 (.tmp 8), none, .f⟩,
   ⟨(some 47), .load1 (.tmp 46), none, .f⟩,
   ⟨(some 48), .bin .lss (.tmp 45) (.tmp 47), none, .f⟩])
  (.cond (.tmp 48) .skip (.exit 3)))
  (.seq (.blk 4 (.seq (.reg [⟨(some 13), .mv (.const (.int .i64 0)), none, .f⟩])
  (.blk 5 (.loop (.seq (.seq (.reg [⟨(some 51), .mv (.tmp 13), none, .f⟩,
   ⟨(some 52), .fadr 1 (.tmp 8), none, .f⟩,
   ⟨(some 53), .load1 (.tmp 52), none, .f⟩,
   ⟨(some 54), .bin .lss (.tmp 51) (.tmp 53), none, .f⟩])
  (.cond (.tmp 54) .skip (.exit 5)))
  (.seq (.blk 6 (.reg [⟨(some 57), .mv (.tmp 11), none, .f⟩,
   ⟨(some 58), .mv (.tmp 12), none, .f⟩,
   ⟨(some 59), .mv (.tmp 11), none, .f⟩,
   ⟨(some 60), .mv (.tmp 12), none, .f⟩,
   ⟨(some 61), .ixs 1 (.tmp 59) (.tmp 60), none, .f⟩,
   ⟨(some 62), .load1 (.tmp 61), none, .f⟩,
   ⟨(some 63), .mv (.tmp 2), none, .f⟩,
   ⟨(some 64), .mv (.tmp 13), none, .f⟩,
   ⟨(some 65), .ixs 1 (.tmp 63) (.tmp 64), none, .f⟩,
   ⟨(some 66), .load1 (.tmp 65), none, .f⟩,
   ⟨(some 67), .loadn 5 (.tmp 8), none, .f⟩,
   ⟨(some 68), .mv (.tmp 13), none, .f⟩,
   ⟨(some 69), .mv (.tmp 10), none, .f⟩,
   ⟨(some 70), .mv (.tmp 12), none, .f⟩,
   ⟨(some 71), .call (.func 190) [(.tmp 67), (.tmp 68), (.tmp 69), (.tmp 70)], none, .t⟩,
   ⟨(some 72), .bin .mul (.tmp 66) (.tmp 71), none, .f⟩,
   ⟨(some 73), .bin .add (.tmp 62) (.tmp 72), none, .f⟩,
   ⟨(some 74), .fadr 0 (.tmp 3), none, .f⟩,
   ⟨(some 75), .load1 (.tmp 74), none, .f⟩,
   ⟨(some 76), .bin .rem (.tmp 73) (.tmp 75), none, .f⟩,
   ⟨(some 77), .ixs 1 (.tmp 57) (.tmp 58), none, .f⟩,
   ⟨none, .store 1 (.tmp 77) (.tmp 76), none, .f⟩]))
  (.reg [⟨(some 55), .mv (.tmp 13), none, .f⟩,
   ⟨(some 56), .bin .add (.tmp 55) (.const (.int .i64 1)), none, .f⟩,
   ⟨(some 13), .mv (.tmp 56), none, .f⟩])))))))
  (.reg [⟨(some 49), .mv (.tmp 12), none, .f⟩,
   ⟨(some 50), .bin .add (.tmp 49) (.const (.int .i64 1)), none, .f⟩,
   ⟨(some 12), .mv (.tmp 50), none, .f⟩]))))))
  (.reg [⟨(some 78), .mv (.tmp 9), none, .f⟩,
   ⟨(some 79), .mv (.tmp 11), none, .f⟩,
   ⟨(some 80), .bslice 27 1 1 [.slice none 0 0] [(0, 1, (.tmp 79))], none, .f⟩,
   ⟨(some 81), .app 27 1 24 (.tmp 78) (.tmp 80), none, .f⟩,
   ⟨(some 9), .mv (.tmp 81), none, .f⟩]))))
  (.reg [⟨(some 40), .mv (.tmp 10), none, .f⟩,
   ⟨(some 41), .bin .add (.tmp 40) (.const (.int .i64 1)), none, .f⟩,
   ⟨(some 10), .mv (.tmp 41), none, .f⟩]))))))
  (.seq (.reg [⟨(some 82), .mv (.tmp 9), none, .f⟩,
   ⟨(some 6), .mv (.tmp 82), none, .f⟩,
   ⟨(some 7), .mv (.const (.int .i64 0)), none, .f⟩])
  .ret)))))⟩
theorem s111 : compFn Try.prog Try.f111 = some c111 := by kernel_rfl
def c112 : XFn :=
 ⟨[.tmp 2, .tmp 3],
  (.seq (.reg [⟨(some 2), .mv (.const (.int .i64 0)), none, .f⟩,
   ⟨(some 3), .mv (.const (.slice none 0 0)), none, .f⟩])
  (.seq (.reg [⟨(some 9), .mv (.tmp 0), none, .f⟩,
   ⟨(some 10), .call (.func 145) [(.tmp 9)], none, .f⟩,
   ⟨(some 4), .mv (.tmp 10), none, .f⟩])
  (.seq (.reg [⟨(some 11), .mv (.tmp 4), none, .f⟩,
   ⟨(some 12), .bslice 2 1 5 [.int .i64 0] [(0, 1, (.const (.int .i64 2))), (1, 1, (.const (.int .i64 3))), (2, 1, (.const (.int .i64 5))), (3, 1, (.const (.int .i64 2))), (4, 1, (.const (.int .i64 4)))], none, .f⟩,
   ⟨(some 13), .call (.func 147) [(.tmp 11), (.tmp 12)], none, .f⟩,
   ⟨(some 14), .mv (.tmp 4), none, .f⟩,
   ⟨(some 15), .bslice 2 1 6 [.int .i64 0] [(0, 1, (.const (.int .i64 1))), (1, 1, (.const (.int .i64 2))), (2, 1, (.const (.int .i64 3))), (3, 1, (.const (.int .i64 5))), (4, 1, (.const (.int .i64 9))), (5, 1, (.const (.int .i64 10)))], none, .f⟩,
   ⟨(some 16), .call (.func 147) [(.tmp 14), (.tmp 15)], none, .f⟩,
   ⟨(some 17), .mv (.tmp 4), none, .f⟩,
   ⟨(some 18), .bslice 2 1 5 [.int .i64 0] [(0, 1, (.const (.int .i64 1))), (1, 1, (.const (.int .i64 2))), (2, 1, (.const (.int .i64 4))), (3, 1, (.const (.int .i64 9))), (4, 1, (.const (.int .i64 81)))], none, .f⟩,
   ⟨(some 19), .call (.func 147) [(.tmp 17), (.tmp 18)], none, .f⟩,
   ⟨(some 5), .mv (.tmp 13), none, .f⟩,
   ⟨(some 6), .mv (.tmp 16), none, .f⟩,
   ⟨(some 7), .mv (.tmp 19), none, .f⟩])
  (.seq (.reg [⟨(some 20), .bslice 27 1 0 [.slice none 0 0] [], none, .f⟩,
   ⟨(some 8), .mv (.tmp 20), none, .f⟩])
  (.seq (.blk 0 (.loop (.seq (.seq (.reg [⟨(some 21), .mv (.tmp 6), none, .f⟩,
   ⟨(some 22), .bin .gtr (.tmp 21) (.const (.int .i64 0)), none, .f⟩])
  (.cond (.tmp 22) .skip (.exit 0)))
  (.seq (.blk 1 (.reg [⟨(some 25), .mv (.tmp 8), none, .f⟩,
   ⟨(some 26), .mv (.tmp 4), none, .f⟩,
   ⟨(some 27), .mv (.tmp 5), none, .f⟩,
   ⟨(some 28), .mv (.tmp 7), none, .f⟩,
   ⟨(some 29), .call (.func 250) [(.tmp 26), (.tmp 27), (.tmp 28)], none, .f⟩,
   ⟨(some 30), .bslice 27 1 1 [.slice none 0 0] [(0, 1, (.tmp 29))], none, .f⟩,
   ⟨(some 31), .app 27 1 24 (.tmp 25) (.tmp 30), none, .f⟩,
   ⟨(some 8), .mv (.tmp 31), none, .f⟩]))
  (.reg [⟨(some 23), .mv (.tmp 6), none, .f⟩,
   ⟨(some 24), .bin .sub (.tmp 23) (.const (.int .i64 1)), none, .f⟩,
   ⟨(some 6), .mv (.tmp 24), none, .f⟩])))))
  (.seq (.seq (.reg [⟨(some 32), .mv (.tmp 4), none, .f⟩,
   ⟨(some 33), .call (.func 148) [(.tmp 32), (.const (.int .i64 30))], none, .f⟩,
   ⟨(some 34), .bin .eql (.tmp 33) (.const (.int .i64 0)), none, .f⟩])
  (.cond (.tmp 34) (.reg [⟨(some 35), .mv (.tmp 8), none, .f⟩,
   ⟨(some 36), .mv (.tmp 8), none, .f⟩,
   ⟨(some 37), .ixs 1 (.tmp 36) (.const (.int .i64 0)), none, .f⟩,
   ⟨(some 38), .load1 (.tmp 37), none, .f⟩,
   ⟨(some 39), .bslice 2 1 1 [.int .i64 0] [(0, 1, (.const (.int .i64 0)))], none, .f⟩,
   ⟨(some 40), .app 2 1 8 (.tmp 38) (.tmp 39), none, .f⟩,
   ⟨(some 41), .ixs 1 (.tmp 35) (.const (.int .i64 0)), none, .f⟩,
   ⟨none, .store 1 (.tmp 41) (.tmp 40), none, .f⟩]) .skip))
  (.seq (.reg [⟨(some 42), .mv (.tmp 5), none, .f⟩,
   ⟨(some 43), .mv (.tmp 8), none, .f⟩,
   ⟨(some 2), .mv (.tmp 42), none, .f⟩,
   ⟨(some 3), .mv (.tmp 43), none, .f⟩])
  .ret)))))))⟩
theorem s112 : compFn Try.prog Try.f112 = some c112 := by kernel_rfl
def c113 : XFn :=
 ⟨[.tmp 4, .tmp 5],
  (.seq (.reg [⟨(some 4), .mv (.const (.int .i64 0)), none, .f⟩,
   ⟨(some 5), .mv (.const (.int .i64 0)), none, .f⟩])
  (.seq (.seq (.reg [⟨(some 7), .mv (.tmp 0), none, .f⟩,
   ⟨(some 8), .call (.func 224) [(.tmp 7)], none, .f⟩,
   ⟨(some 9), .un .not (.tmp 8), none, .f⟩,
   ⟨(some 10), .mv (.tmp 9), none, .f⟩,
   ⟨(some 11), .mv (.tmp 1), (some (10, false)), .f⟩,
   ⟨(some 12), .len (.tmp 11), (some (10, false)), .f⟩,
   ⟨(some 13), .bin .lss (.tmp 12) (.const (.int .i64 1)), (some (10, false)), .f⟩,
   ⟨(some 14), .pick (.tmp 10) (.const (.bool true)) (.tmp 13), none, .f⟩,
   ⟨(some 15), .mv (.tmp 14), none, .f⟩,
   ⟨(some 16), .mv (.tmp 1), (some (15, false)), .f⟩,
   ⟨(some 17), .len (.tmp 16), (some (15, false)), .f⟩,
   ⟨(some 18), .bin .gtr (.tmp 17) (.const (.int .i64 9)), (some (15, false)), .f⟩,
   ⟨(some 19), .pick (.tmp 15) (.const (.bool true)) (.tmp 18), none, .f⟩,
   ⟨(some 20), .mv (.tmp 19), none, .f⟩,
   ⟨(some 21), .mv (.tmp 1), (some (20, false)), .f⟩,
   ⟨(some 22), .ixs 1 (.tmp 21) (.const (.int .i64 0)), (some (20, false)), .f⟩,
   ⟨(some 23), .load1 (.tmp 22), (some (20, false)), .f⟩,
   ⟨(some 24), .len (.tmp 23), (some (20, false)), .f⟩,
   ⟨(some 25), .bin .lss (.tmp 24) (.const (.int .i64 1)), (some (20, false)), .f⟩,
   ⟨(some 26), .pick (.tmp 20) (.const (.bool true)) (.tmp 25), none, .f⟩,
   ⟨(some 27), .mv (.tmp 26), none, .f⟩,
   ⟨(some 28), .mv (.tmp 1), (some (27, false)), .f⟩,
   ⟨(some 29), .ixs 1 (.tmp 28) (.const (.int .i64 0)), (some (27, false)), .f⟩,
   ⟨(some 30), .load1 (.tmp 29), (some (27, false)), .f⟩,
   ⟨(some 31), .len (.tmp 30), (some (27, false)), .f⟩,
   ⟨(some 32), .bin .gtr (.tmp 31) (.const (.int .i64 81)), (some (27, false)), .f⟩,
   ⟨(some 33), .pick (.tmp 27) (.const (.bool true)) (.tmp 32), none, .f⟩])
  (.cond (.tmp 33) (.seq (.reg [⟨(some 4), .mv (.const (.int .i64 0)), none, .f⟩,
   ⟨(some 5), .mv (.const (.int .i64 2)), none, .f⟩])
  .ret) .skip))
  (.seq (.seq (.reg [⟨(some 6), .mv (.const (.int .i64 0)), none, .f⟩])
  (.blk 0 (.loop (.seq (.seq (.reg [⟨(some 34), .mv (.tmp 6), none, .f⟩,
   ⟨(some 35), .mv (.tmp 1), none, .f⟩,
   ⟨(some 36), .len (.tmp 35), none, .f⟩,
   ⟨(some 37), .bin .lss (.tmp 34) (.tmp 36), none, .f⟩])
  (.cond (.tmp 37) .skip (.exit 0)))
  (.seq (.blk 1 (.seq (.reg [⟨(some 40), .mv (.tmp 0), none, .f⟩,
   ⟨(some 41), .mv (.tmp 1), none, .f⟩,
   ⟨(some 42), .mv (.tmp 6), none, .f⟩,
   ⟨(some 43), .ixs 1 (.tmp 41) (.tmp 42), none, .f⟩,
   ⟨(some 44), .load1 (.tmp 43), none, .f⟩,
   ⟨(some 45), .mv (.tmp 1), none, .f⟩,
   ⟨(some 46), .ixs 1 (.tmp 45) (.const (.int .i64 0)), none, .f⟩,
   ⟨(some 47), .load1 (.tmp 46), none, .f⟩,
   ⟨(some 48), .len (.tmp 47), none, .f⟩,
   ⟨(some 49), .call (.func 251) [(.tmp 40), (.tmp 44), (.tmp 48)], none, .f⟩,
   ⟨(some 50), .un .not (.tmp 49), none, .f⟩])
  (.cond (.tmp 50) (.seq (.reg [⟨(some 4), .mv (.const (.int .i64 0)), none, .f⟩,
   ⟨(some 5), .mv (.const (.int .i64 2)), none, .f⟩])
  .ret) .skip)))
  (.reg [⟨(some 38), .mv (.tmp 6), none, .f⟩,
   ⟨(some 39), .bin .add (.tmp 38) (.const (.int .i64 1)), none, .f⟩,
   ⟨(some 6), .mv (.tmp 39), none, .f⟩]))))))
  (.seq (.reg [⟨(some 51), .mv (.tmp 0), none, .f⟩,
   ⟨(some 52), .mv (.tmp 1), none, .f⟩,
   ⟨(some 53), .call (.func 252) [(.tmp 51), (.tmp 52)], none, .f⟩,
   ⟨(some 4), .mv (.tmp 53), none, .f⟩,
   ⟨(some 5), .mv (.const (.int .i64 0)), none, .f⟩])
  .ret))))⟩
theorem s113 : compFn Try.prog Try.f113 = some c113 := by kernel_rfl
def c114 : XFn :=
 ⟨[.celln 2 5],
  (.seq (.reg [⟨(some 2), .alloc 36 [.int .i64 0, .int .i64 0, .int .i64 0, .int .i64 0, .slice none 0 0], none, .f⟩])
  (.seq (.reg [⟨(some 3), .mv (.tmp 0), none, .f⟩,
   ⟨(some 4), .call (.func 145) [(.tmp 3)], none, .f⟩,
   ⟨(some 5), .call (.func 172) [(.tmp 4)], none, .f⟩,
   ⟨none, .store 5 (.tmp 2) (.tmp 5), none, .f⟩])
  .ret))⟩
theorem s114 : compFn Try.prog Try.f114 = some c114 := by kernel_rfl
def c115 : XFn :=
 ⟨[.tmp 2, .tmp 3],
  (.seq (.reg [⟨(some 1), .box 36 (.tmp 0), none, .f⟩,
   ⟨(some 2), .mv (.const (.slice none 0 0)), none, .f⟩,
   ⟨(some 3), .mv (.const (.int .i64 0)), none, .f⟩])
  (.seq (.seq (.reg [⟨(some 4), .loadn 5 (.tmp 1), none, .f⟩,
   ⟨(some 5), .call (.func 173) [(.tmp 4)], none, .f⟩,
   ⟨(some 6), .un .not (.tmp 5), none, .f⟩])
  (.cond (.tmp 6) (.seq (.reg [⟨(some 2), .mv (.const (.slice none 0 0)), none, .f⟩,
   ⟨(some 3), .mv (.const (.int .i64 1)), none, .f⟩])
  .ret) .skip))
  (.seq (.reg [⟨(some 7), .loadn 5 (.tmp 1), none, .f⟩,
   ⟨(some 8), .call (.func 253) [(.tmp 7)], none, .f⟩,
   ⟨(some 2), .mv (.tmp 8), none, .f⟩,
   ⟨(some 3), .mv (.const (.int .i64 0)), none, .f⟩])
  .ret)))⟩
theorem s115 : compFn Try.prog Try.f115 = some c115 := by kernel_rfl
def c116 : XFn :=
 ⟨[.celln 2 5, .tmp 3, .tmp 4, .tmp 5],
  (.seq (.reg [⟨(some 2), .alloc 36 [.int .i64 0, .int .i64 0, .int .i64 0, .int .i64 0, .slice none 0 0], none, .f⟩,
   ⟨(some 3), .mv (.const (.int .i64 0)), none, .f⟩,
   ⟨(some 4), .mv (.const (.int .i64 0)), none, .f⟩,
   ⟨(some 5), .mv (.const (.int .i64 0)), none, .f⟩])
  (.seq (.reg [⟨(some 8), .mv (.tmp 0), none, .f⟩,
   ⟨(some 9), .call (.func 145) [(.tmp 8)], none, .f⟩,
   ⟨(some 6), .mv (.tmp 9), none, .f⟩])
  (.seq (.reg [⟨(some 10), .mv (.tmp 6), none, .f⟩,
   ⟨(some 11), .call (.func 172) [(.tmp 10)], none, .f⟩,
   ⟨(some 7), .alloc 36 [.int .i64 0, .int .i64 0, .int .i64 0, .int .i64 0, .slice none 0 0], none, .f⟩,
   ⟨none, .store 5 (.tmp 7) (.tmp 11), none, .f⟩])
  (.seq (.reg [⟨(some 12), .loadn 5 (.tmp 7), none, .f⟩,
   ⟨(some 13), .mv (.tmp 6), none, .f⟩,
   ⟨(some 14), .fadr 1 (.tmp 7), none, .f⟩,
   ⟨(some 15), .load1 (.tmp 14), none, .f⟩,
   ⟨(some 16), .bin .sub (.tmp 15) (.const (.int .i64 1)), none, .f⟩,
   ⟨(some 17), .mm true (.tmp 16) [(.const (.int .i64 0))], none, .f⟩,
   ⟨(some 18), .call (.func 175) [(.tmp 13), (.tmp 17)], none, (.s true [(.tmp 7)])⟩,
   ⟨(some 19), .mv (.tmp 6), none, .f⟩,
   ⟨(some 20), .fadr 2 (.tmp 7), none, .f⟩,
   ⟨(some 21), .load1 (.tmp 20), none, (.s false [(.tmp 13)])⟩,
   ⟨(some 22), .bin .sub (.tmp 21) (.const (.int .i64 1)), none, .f⟩,
   ⟨(some 23), .mm true (.tmp 22) [(.const (.int .i64 0))], none, .f⟩,
   ⟨(some 24), .call (.func 175) [(.tmp 19), (.tmp 23)], none, (.s true [(.tmp 7)])⟩,
   ⟨(some 25), .mv (.tmp 6), none, .f⟩,
   ⟨(some 26), .fadr 3 (.tmp 7), none, .f⟩,
   ⟨(some 27), .load1 (.tmp 26), none, (.s false [(.tmp 13), (.tmp 19)])⟩,
   ⟨(some 28), .bin .sub (.tmp 27) (.const (.int .i64 1)), none, .f⟩,
   ⟨(some 29), .mm true (.tmp 28) [(.const (.int .i64 0))], none, .f⟩,
   ⟨(some 30), .call (.func 175) [(.tmp 25), (.tmp 29)], none, (.s true [(.tmp 7)])⟩,
   ⟨none, .store 5 (.tmp 2) (.tmp 12), none, .f⟩,
   ⟨(some 3), .mv (.tmp 18), none, .f⟩,
   ⟨(some 4), .mv (.tmp 24), none, .f⟩,
   ⟨(some 5), .mv (.tmp 30), none, .f⟩])
  .ret))))⟩
theorem s116 : compFn Try.prog Try.f116 = some c116 := by kernel_rfl
def c117 : XFn :=
 ⟨[.tmp 8, .tmp 9],
  (.seq (.reg [⟨(some 4), .box 36 (.tmp 0), none, .f⟩,
   ⟨(some 8), .mv (.const (.int .i64 0)), none, .f⟩,
   ⟨(some 9), .mv (.const (.int .i64 0)), none, .f⟩])
  (.seq (.blk 0 (.seq (.reg [⟨(some 11), .loadn 5 (.tmp 4), none, .f⟩,
   ⟨(some 12), .call (.func 173) [(.tmp 11)], none, .f⟩,
   ⟨(some 13), .un .not (.tmp 12), none, .f⟩,
   ⟨(some 10), .mv (.tmp 13), none, .f⟩])
  (.cond (.tmp 10) (.seq (.reg [⟨(some 8), .mv (.const (.int .i64 0)), none, .f⟩,
   ⟨(some 9), .mv (.const (.int .i64 1)), none, .f⟩])
  .ret) (.seq (.reg [⟨(some 15), .mv (.tmp 1), none, .f⟩,
   ⟨(some 16), .fadr 1 (.tmp 4), none, .f⟩,
   ⟨(some 17), .load1 (.tmp 16), none, .f⟩,
   ⟨(some 18), .bin .sub (.tmp 17) (.const (.int .i64 1)), none, .f⟩,
   ⟨(some 19), .call (.func 181) [(.tmp 15), (.const (.int .i64 0)), (.tmp 18)], none, .f⟩,
   ⟨(some 20), .un .not (.tmp 19), none, .f⟩,
   ⟨(some 21), .mv (.tmp 20), none, .f⟩,
   ⟨(some 22), .mv (.tmp 2), (some (21, false)), .f⟩,
   ⟨(some 23), .fadr 2 (.tmp 4), (some (21, false)), .f⟩,
   ⟨(some 24), .load1 (.tmp 23), (some (21, false)), .f⟩,
   ⟨(some 25), .bin .sub (.tmp 24) (.const (.int .i64 1)), (some (21, false)), .f⟩,
   ⟨(some 26), .call (.func 181) [(.tmp 22), (.const (.int .i64 0)), (.tmp 25)], (some (21, false)), .f⟩,
   ⟨(some 27), .un .not (.tmp 26), (some (21, false)), .f⟩,
   ⟨(some 28), .pick (.tmp 21) (.const (.bool true)) (.tmp 27), none, .f⟩,
   ⟨(some 29), .mv (.tmp 28), none, .f⟩,
   ⟨(some 30), .mv (.tmp 3), (some (29, false)), .f⟩,
   ⟨(some 31), .fadr 3 (.tmp 4), (some (29, false)), .f⟩,
   ⟨(some 32), .load1 (.tmp 31), (some (29, false)), .f⟩,
   ⟨(some 33), .bin .sub (.tmp 32) (.const (.int .i64 1)), (some (29, false)), .f⟩,
   ⟨(some 34), .call (.func 181) [(.tmp 30), (.const (.int .i64 0)), (.tmp 33)], (some (29, false)), .f⟩,
   ⟨(some 35), .un .not (.tmp 34), (some (29, false)), .f⟩,
   ⟨(some 36), .pick (.tmp 29) (.const (.bool true)) (.tmp 35), none, .f⟩,
   ⟨(some 14), .mv (.tmp 36), none, .f⟩])
  (.cond (.tmp 14) (.seq (.reg [⟨(some 8), .mv (.const (.int .i64 0)), none, .f⟩,
   ⟨(some 9), .mv (.const (.int .i64 2)), none, .f⟩])
  .ret) .skip)))))
  (.seq (.reg [⟨(some 37), .loadn 5 (.tmp 4), none, .f⟩,
   ⟨(some 38), .mv (.tmp 1), none, .f⟩,
   ⟨(some 39), .mv (.tmp 2), none, .f⟩,
   ⟨(some 40), .mv (.tmp 3), none, .f⟩,
   ⟨(some 41), .call (.func 190) [(.tmp 37), (.tmp 38), (.tmp 39), (.tmp 40)], none, .f⟩,
   ⟨(some 8), .mv (.tmp 41), none, .f⟩,
   ⟨(some 9), .mv (.const (.int .i64 0)), none, .f⟩])
  .ret)))⟩
theorem s117 : compFn Try.prog Try.f117 = some c117 := by kernel_rfl
def c145 : XFn :=
 ⟨[.tmp 2],
  (.seq (.reg [⟨(some 2), .mv (.const (.pointer none)), none, .f⟩])
  (.seq (.reg [⟨(some 5), .mv (.tmp 0), none, .f⟩,
   ⟨(some 6), .mv (.tmp 0), none, .f⟩,
   ⟨(some 7), .len (.tmp 6), none, .f⟩,
   ⟨(some 8), .conv .u64 (.tmp 7), none, .f⟩,
   ⟨(some 9), .bin .add (.const (.int .u64 12619)) (.tmp 8), none, .f⟩,
   ⟨(some 10), .build [.slice none 0 0, .int .i64 0, .int .u64 0] [(0, 1, (.tmp 5)), (2, 1, (.tmp 9))], none, .f⟩,
   ⟨(some 11), .box 220 (.tmp 10), none, .f⟩,
   ⟨(some 3), .mv (.tmp 11), none, .f⟩])
  (.seq (.seq (.reg [⟨(some 4), .mv (.const (.int .i64 0)), none, .f⟩])
  (.blk 0 (.loop (.seq (.seq (.reg [⟨(some 12), .mv (.tmp 4), none, .f⟩,
   ⟨(some 13), .mv (.tmp 0), none, .f⟩,
   ⟨(some 14), .len (.tmp 13), none, .f⟩,
   ⟨(some 15), .bin .lss (.tmp 12) (.tmp 14), none, .f⟩,
   ⟨(some 16), .mv (.tmp 15), none, .f⟩,
   ⟨(some 17), .mv (.tmp 4), (some (16, true)), .f⟩,
   ⟨(some 18), .bin .lss (.tmp 17) (.const (.int .i64 4096)), (some (16, true)), .f⟩,
   ⟨(some 19), .pick (.tmp 16) (.tmp 18) (.const (.bool false)), none, .f⟩])
  (.cond (.tmp 19) .skip (.exit 0)))
  (.seq (.blk 1 (.reg [⟨(some 22), .mv (.tmp 3), none, .f⟩,
   ⟨(some 23), .mv (.tmp 3), none, .f⟩,
   ⟨(some 24), .nchk (.tmp 23), none, .f⟩,
   ⟨(some 25), .fadr 2 (.tmp 24), none, .f⟩,
   ⟨(some 26), .load1 (.tmp 25), none, .f⟩,
   ⟨(some 27), .bin .mul (.tmp 26) (.const (.int .u64 1099511628211)), none, .f⟩,
   ⟨(some 28), .mv (.tmp 0), none, .f⟩,
   ⟨(some 29), .mv (.tmp 4), none, .f⟩,
   ⟨(some 30), .ixs 1 (.tmp 28) (.tmp 29), none, .f⟩,
   ⟨(some 31), .load1 (.tmp 30), none, .f⟩,
   ⟨(some 32), .conv .u64 (.tmp 31), none, .f⟩,
   ⟨(some 33), .bin .add (.tmp 27) (.tmp 32), none, .f⟩,
   ⟨(some 34), .bin .add (.tmp 33) (.const (.int .u64 79)), none, .f⟩,
   ⟨(some 35), .nchk (.tmp 22), none, .f⟩,
   ⟨(some 36), .fadr 2 (.tmp 35), none, .f⟩,
   ⟨none, .store 1 (.tmp 36) (.tmp 34), none, .f⟩]))
  (.reg [⟨(some 20), .mv (.tmp 4), none, .f⟩,
   ⟨(some 21), .bin .add (.tmp 20) (.const (.int .i64 1)), none, .f⟩,
   ⟨(some 4), .mv (.tmp 21), none, .f⟩]))))))
  (.seq (.reg [⟨(some 37), .mv (.tmp 3), none, .f⟩,
   ⟨(some 2), .mv (.tmp 37), none, .f⟩])
  .ret))))⟩
theorem s145 : compFn Try.prog Try.f145 = some c145 := by kernel_rfl
def c147 : XFn :=
 ⟨[.tmp 4],
  (.seq (.reg [⟨(some 4), .mv (.const (.int .i64 0)), none, .f⟩])
  (.seq (.reg [⟨(some 5), .mv (.tmp 1), none, .f⟩,
   ⟨(some 6), .mv (.tmp 0), none, .f⟩,
   ⟨(some 7), .mv (.tmp 1), none, .f⟩,
   ⟨(some 8), .len (.tmp 7), none, .f⟩,
   ⟨(some 9), .call (.func 148) [(.tmp 6), (.tmp 8)], none, .f⟩,
   ⟨(some 10), .ixs 1 (.tmp 5) (.tmp 9), none, .f⟩,
   ⟨(some 11), .load1 (.tmp 10), none, .f⟩,
   ⟨(some 4), .mv (.tmp 11), none, .f⟩])
  .ret))⟩
theorem s147 : compFn Try.prog Try.f147 = some c147 := by kernel_rfl
def c148 : XFn :=
 ⟨[.tmp 4],
  (.seq (.reg [⟨(some 4), .mv (.const (.int .i64 0)), none, .f⟩])
  (.seq (.seq (.reg [⟨(some 6), .mv (.tmp 1), none, .f⟩,
   ⟨(some 7), .bin .lss (.tmp 6) (.const (.int .i64 1)), none, .f⟩])
  (.cond (.tmp 7) (.seq (.reg [⟨(some 4), .mv (.const (.int .i64 0)), none, .f⟩])
  .ret) .skip))
  (.seq (.reg [⟨(some 8), .mv (.tmp 0), none, .f⟩,
   ⟨(some 9), .mv (.tmp 0), none, .f⟩,
   ⟨(some 10), .nchk (.tmp 9), none, .f⟩,
   ⟨(some 11), .fadr 2 (.tmp 10), none, .f⟩,
   ⟨(some 12), .load1 (.tmp 11), none, .f⟩,
   ⟨(some 13), .bin .mul (.tmp 12) (.const (.int .u64 6364136223846793005)), none, .f⟩,
   ⟨(some 14), .bin .add (.tmp 13) (.const (.int .u64 1442695040888963407)), none, .f⟩,
   ⟨(some 15), .nchk (.tmp 8), none, .f⟩,
   ⟨(some 16), .fadr 2 (.tmp 15), none, .f⟩,
   ⟨none, .store 1 (.tmp 16) (.tmp 14), none, .f⟩])
  (.seq (.reg [⟨(some 17), .mv (.tmp 0), none, .f⟩,
   ⟨(some 18), .nchk (.tmp 17), none, .f⟩,
   ⟨(some 19), .fadr 2 (.tmp 18), none, .f⟩,
   ⟨(some 20), .load1 (.tmp 19), none, .f⟩,
   ⟨(some 21), .bin .shr (.tmp 20) (.const (.int .u64 33)), none, .f⟩,
   ⟨(some 22), .bin .and (.tmp 21) (.const (.int .u64 16777215)), none, .f⟩,
   ⟨(some 23), .conv .i64 (.tmp 22), none, .f⟩,
   ⟨(some 5), .mv (.tmp 23), none, .f⟩])
  (.seq (.seq (.reg [⟨(some 24), .mv (.tmp 0), none, .f⟩,
   ⟨(some 25), .nchk (.tmp 24), none, .f⟩,
   ⟨(some 26), .fadr 1 (.tmp 25), none, .f⟩,
   ⟨(some 27), .load1 (.tmp 26), none, .f⟩,
   ⟨(some 28), .mv (.tmp 0), none, .f⟩,
   ⟨(some 29), .nchk (.tmp 28), none, .f⟩,
   ⟨(some 30), .fadr 0 (.tmp 29), none, .f⟩,
   ⟨(some 31), .load1 (.tmp 30), none, .f⟩,
   ⟨(some 32), .len (.tmp 31), none, .f⟩,
   ⟨(some 33), .bin .lss (.tmp 27) (.tmp 32), none, .f⟩])
  (.cond (.tmp 33) (.seq (.reg [⟨(some 34), .mv (.tmp 5), none, .f⟩,
   ⟨(some 35), .mv (.tmp 0), none, .f⟩,
   ⟨(some 36), .nchk (.tmp 35), none, .f⟩,
   ⟨(some 37), .fadr 0 (.tmp 36), none, .f⟩,
   ⟨(some 38), .load1 (.tmp 37), none, .f⟩,
   ⟨(some 39), .mv (.tmp 0), none, .f⟩,
   ⟨(some 40), .nchk (.tmp 39), none, .f⟩,
   ⟨(some 41), .fadr 1 (.tmp 40), none, .f⟩,
   ⟨(some 42), .load1 (.tmp 41), none, .f⟩,
   ⟨(some 43), .ixs 1 (.tmp 38) (.tmp 42), none, .f⟩,
   ⟨(some 44), .load1 (.tmp 43), none, .f⟩,
   ⟨(some 45), .conv .i64 (.tmp 44), none, .f⟩,
   ⟨(some 46), .bin .add (.tmp 34) (.tmp 45), none, .f⟩,
   ⟨(some 5), .mv (.tmp 46), none, .f⟩])
  (.reg [⟨(some 47), .mv (.tmp 0), none, .f⟩,
   ⟨(some 48), .mv (.tmp 0), none, .f⟩,
   ⟨(some 49), .nchk (.tmp 48), none, .f⟩,
   ⟨(some 50), .fadr 1 (.tmp 49), none, .f⟩,
   ⟨(some 51), .load1 (.tmp 50), none, .f⟩,
   ⟨(some 52), .bin .add (.tmp 51) (.const (.int .i64 1)), none, .f⟩,
   ⟨(some 53), .nchk (.tmp 47), none, .f⟩,
   ⟨(some 54), .fadr 1 (.tmp 53), none, .f⟩,
   ⟨none, .store 1 (.tmp 54) (.tmp 52), none, .f⟩])) .skip))
  (.seq (.reg [⟨(some 55), .mv (.tmp 5), none, .f⟩,
   ⟨(some 56), .mv (.tmp 1), none, .f⟩,
   ⟨(some 57), .bin .rem (.tmp 55) (.tmp 56), none, .f⟩,
   ⟨(some 4), .mv (.tmp 57), none, .f⟩])
  .ret))))))⟩
theorem s148 : compFn Try.prog Try.f148 = some c148 := by kernel_rfl
def c163 : XFn :=
 ⟨[.tmp 4],
  (.seq (.reg [⟨(some 4), .mv (.const (.slice none 0 0)), none, .f⟩])
  (.seq (.reg [⟨(some 7), .bslice 27 1 0 [.slice none 0 0] [], none, .f⟩,
   ⟨(some 5), .mv (.tmp 7), none, .f⟩])
  (.seq (.seq (.reg [⟨(some 6), .mv (.const (.int .i64 0)), none, .f⟩])
  (.blk 0 (.loop (.seq (.seq (.reg [⟨(some 8), .mv (.tmp 6), none, .f⟩,
   ⟨(some 9), .mv (.tmp 0), none, .f⟩,
   ⟨(some 10), .len (.tmp 9), none, .f⟩,
   ⟨(some 11), .bin .lss (.tmp 8) (.tmp 10), none, .f⟩])
  (.cond (.tmp 11) .skip (.exit 0)))
  (.seq (.blk 1 (.reg [⟨(some 15), .mv (.tmp 5), none, .f⟩,
   ⟨(some 16), .mv (.tmp 0), none, .f⟩,
   ⟨(some 17), .mv (.tmp 6), none, .f⟩,
   ⟨(some 18), .mv (.tmp 6), none, .f⟩,
   ⟨(some 19), .mv (.tmp 1), none, .f⟩,
   ⟨(some 20), .bin .add (.tmp 18) (.tmp 19), none, .f⟩,
   ⟨(some 21), .slc 1 (.tmp 16) (some (.tmp 17)) (some (.tmp 20)), none, .f⟩,
   ⟨(some 22), .call (.func 285) [(.tmp 21)], none, .f⟩,
   ⟨(some 23), .bslice 27 1 1 [.slice none 0 0] [(0, 1, (.tmp 22))], none, .f⟩,
   ⟨(some 24), .app 27 1 24 (.tmp 15) (.tmp 23), none, .f⟩,
   ⟨(some 5), .mv (.tmp 24), none, .f⟩]))
  (.reg [⟨(some 12), .mv (.tmp 6), none, .f⟩,
   ⟨(some 13), .mv (.tmp 1), none, .f⟩,
   ⟨(some 14), .bin .add (.tmp 12) (.tmp 13), none, .f⟩,
   ⟨(some 6), .mv (.tmp 14), none, .f⟩]))))))
  (.seq (.reg [⟨(some 25), .mv (.tmp 5), none, .f⟩,
   ⟨(some 4), .mv (.tmp 25), none, .f⟩])
  .ret))))⟩
theorem s163 : compFn Try.prog Try.f163 = some c163 := by kernel_rfl
def c166 : XFn :=
 ⟨[.tmp 2],
  (.seq (.reg [⟨(some 2), .mv (.const (.bool false)), none, .f⟩])
  (.seq (.reg [⟨(some 3), .mv (.tmp 0), none, .f⟩,
   ⟨(some 4), .bin .eql (.tmp 3) (.const (.int .i64 2)), none, .f⟩,
   ⟨(some 5), .mv (.tmp 4), none, .f⟩,
   ⟨(some 6), .mv (.tmp 0), (some (5, false)), .f⟩,
   ⟨(some 7), .bin .eql (.tmp 6) (.const (.int .i64 3)), (some (5, false)), .f⟩,
   ⟨(some 8), .pick (.tmp 5) (.const (.bool true)) (.tmp 7), none, .f⟩,
   ⟨(some 9), .mv (.tmp 8), none, .f⟩,
   ⟨(some 10), .mv (.tmp 0), (some (9, false)), .f⟩,
   ⟨(some 11), .bin .eql (.tmp 10) (.const (.int .i64 5)), (some (9, false)), .f⟩,
   ⟨(some 12), .pick (.tmp 9) (.const (.bool true)) (.tmp 11), none, .f⟩,
   ⟨(some 2), .mv (.tmp 12), none, .f⟩])
  .ret))⟩
theorem s166 : compFn Try.prog Try.f166 = some c166 := by kernel_rfl
def c168 : XFn :=
 ⟨[.tmp 8],
  (.seq (.reg [⟨(some 8), .mv (.const (.bool false)), none, .f⟩])
  (.seq (.seq (.reg [⟨(some 11), .mv (.tmp 3), none, .f⟩,
   ⟨(some 12), .len (.tmp 11), none, .f⟩,
   ⟨(some 13), .mv (.const (.int .i64 0)), none, .f⟩])
  (.blk 0 (.loop (.seq (.reg [⟨(some 14), .bin .lss (.tmp 13) (.tmp 12), none, .f⟩])
  (.seq (.cond (.tmp 14) .skip (.exit 0))
  (.seq (.blk 1 (.seq (.reg [⟨(some 15), .ixs 1 (.tmp 11) (.tmp 13), none, .f⟩,
   ⟨(some 16), .load1 (.tmp 15), none, .f⟩,
   ⟨(some 10), .mv (.tmp 16), none, .f⟩])
  (.seq (.reg [⟨(some 17), .mv (.tmp 10), none, .f⟩,
   ⟨(some 18), .len (.tmp 17), none, .f⟩,
   ⟨(some 19), .mv (.tmp 2), none, .f⟩,
   ⟨(some 20), .bin .neq (.tmp 18) (.tmp 19), none, .f⟩,
   ⟨(some 21), .mv (.tmp 20), none, .f⟩,
   ⟨(some 22), .mv (.tmp 0), (some (21, false)), .f⟩,
   ⟨(some 23), .mv (.tmp 10), (some (21, false)), .f⟩,
   ⟨(some 24), .call (.func 184) [(.tmp 22), (.tmp 23)], (some (21, false)), .f⟩,
   ⟨(some 25), .un .not (.tmp 24), (some (21, false)), .f⟩,
   ⟨(some 26), .pick (.tmp 21) (.const (.bool true)) (.tmp 25), none, .f⟩])
  (.cond (.tmp 26) (.seq (.reg [⟨(some 8), .mv (.const (.bool false)), none, .f⟩])
  .ret) .skip))))
  (.reg [⟨(some 27), .bin .add (.tmp 13) (.const (.int .i64 1)), none, .f⟩,
   ⟨(some 13), .mv (.tmp 27), none, .f⟩])))))))
  (.seq (.reg [⟨(some 28), .mv (.tmp 3), none, .f⟩,
   ⟨(some 29), .len (.tmp 28), none, .f⟩,
   ⟨(some 30), .mv (.tmp 1), none, .f⟩,
   ⟨(some 31), .bin .eql (.tmp 29) (.tmp 30), none, .f⟩,
   ⟨(some 8), .mv (.tmp 31), none, .f⟩])
  .ret)))⟩
theorem s168 : compFn Try.prog Try.f168 = some c168 := by kernel_rfl
def c172 : XFn :=
 ⟨[.celln 2 5],
  (.seq (.reg [⟨(some 2), .alloc 36 [.int .i64 0, .int .i64 0, .int .i64 0, .int .i64 0, .slice none 0 0], none, .f⟩])
  (.seq (.seq (.reg [⟨(some 3), .mv (.tmp 0), none, .f⟩,
   ⟨(some 4), .call (.func 148) [(.tmp 3), (.const (.int .i64 6))], none, .f⟩,
   ⟨(some 5), .bin .eql (.tmp 4) (.const (.int .i64 0)), none, .f⟩])
  (.cond (.tmp 5) (.seq (.reg [⟨(some 6), .mv (.tmp 0), none, .f⟩,
   ⟨(some 7), .mv (.tmp 0), none, .f⟩,
   ⟨(some 8), .call (.func 266) [(.tmp 7)], none, .f⟩,
   ⟨(some 9), .call (.func 291) [(.tmp 8)], none, .f⟩,
   ⟨(some 10), .call (.func 290) [(.tmp 6), (.tmp 9)], none, .f⟩,
   ⟨none, .store 5 (.tmp 2) (.tmp 10), none, .f⟩])
  .ret) .skip))
  (.seq (.reg [⟨(some 11), .mv (.tmp 0), none, .f⟩,
   ⟨(some 12), .mv (.tmp 0), none, .f⟩,
   ⟨(some 13), .mv (.tmp 0), none, .f⟩,
   ⟨(some 14), .mv (.tmp 0), none, .f⟩,
   ⟨(some 15), .bslice 2 1 3 [.int .i64 0] [(0, 1, (.const (.int .i64 2))), (1, 1, (.const (.int .i64 3))), (2, 1, (.const (.int .i64 4)))], none, .f⟩,
   ⟨(some 16), .call (.func 147) [(.tmp 14), (.tmp 15)], none, .f⟩,
   ⟨(some 17), .call (.func 292) [(.tmp 13), (.tmp 16)], none, .f⟩,
   ⟨(some 18), .call (.func 174) [(.tmp 12), (.tmp 17)], none, .f⟩,
   ⟨(some 19), .call (.func 290) [(.tmp 11), (.tmp 18)], none, .f⟩,
   ⟨none, .store 5 (.tmp 2) (.tmp 19), none, .f⟩])
  .ret)))⟩
theorem s172 : compFn Try.prog Try.f172 = some c172 := by kernel_rfl
def c173 : XFn :=
 ⟨[.tmp 2],
  (.seq (.reg [⟨(some 1), .box 36 (.tmp 0), none, .f⟩,
   ⟨(some 2), .mv (.const (.bool false)), none, .f⟩])
  (.seq (.seq (.reg [⟨(some 4), .fadr 0 (.tmp 1), none, .f⟩,
   ⟨(some 5), .load1 (.tmp 4), none, .f⟩,
   ⟨(some 6), .call (.func 224) [(.tmp 5)], none, .f⟩,
   ⟨(some 7), .un .not (.tmp 6), none, .f⟩,
   ⟨(some 8), .mv (.tmp 7), none, .f⟩,
   ⟨(some 9), .fadr 1 (.tmp 1), (some (8, false)), .f⟩,
   ⟨(some 10), .load1 (.tmp 9), (some (8, false)), .f⟩,
   ⟨(some 11), .call (.func 181) [(.tmp 10), (.const (.int .i64 1)), (.const (.int .i64 9))], (some (8, false)), .f⟩,
   ⟨(some 12), .un .not (.tmp 11), (some (8, false)), .f⟩,
   ⟨(some 13), .pick (.tmp 8) (.const (.bool true)) (.tmp 12), none, .f⟩,
   ⟨(some 14), .mv (.tmp 13), none, .f⟩,
   ⟨(some 15), .fadr 2 (.tmp 1), (some (14, false)), .f⟩,
   ⟨(some 16), .load1 (.tmp 15), (some (14, false)), .f⟩,
   ⟨(some 17), .call (.func 181) [(.tmp 16), (.const (.int .i64 1)), (.const (.int .i64 9))], (some (14, false)), .f⟩,
   ⟨(some 18), .un .not (.tmp 17), (some (14, false)), .f⟩,
   ⟨(some 19), .pick (.tmp 14) (.const (.bool true)) (.tmp 18), none, .f⟩,
   ⟨(some 20), .mv (.tmp 19), none, .f⟩,
   ⟨(some 21), .fadr 3 (.tmp 1), (some (20, false)), .f⟩,
   ⟨(some 22), .load1 (.tmp 21), (some (20, false)), .f⟩,
   ⟨(some 23), .call (.func 181) [(.tmp 22), (.const (.int .i64 1)), (.const (.int .i64 9))], (some (20, false)), .f⟩,
   ⟨(some 24), .un .not (.tmp 23), (some (20, false)), .f⟩,
   ⟨(some 25), .pick (.tmp 20) (.const (.bool true)) (.tmp 24), none, .f⟩,
   ⟨(some 26), .mv (.tmp 25), none, .f⟩,
   ⟨(some 27), .fadr 4 (.tmp 1), (some (26, false)), .f⟩,
   ⟨(some 28), .load1 (.tmp 27), (some (26, false)), .f⟩,
   ⟨(some 29), .len (.tmp 28), (some (26, false)), .f⟩,
   ⟨(some 30), .fadr 1 (.tmp 1), (some (26, false)), .f⟩,
   ⟨(some 31), .load1 (.tmp 30), (some (26, false)), .f⟩,
   ⟨(some 32), .fadr 2 (.tmp 1), (some (26, false)), .f⟩,
   ⟨(some 33), .load1 (.tmp 32), (some (26, false)), .f⟩,
   ⟨(some 34), .bin .mul (.tmp 31) (.tmp 33), (some (26, false)), .f⟩,
   ⟨(some 35), .fadr 3 (.tmp 1), (some (26, false)), .f⟩,
   ⟨(some 36), .load1 (.tmp 35), (some (26, false)), .f⟩,
   ⟨(some 37), .bin .mul (.tmp 34) (.tmp 36), (some (26, false)), .f⟩,
   ⟨(some 38), .bin .neq (.tmp 29) (.tmp 37), (some (26, false)), .f⟩,
   ⟨(some 39), .pick (.tmp 26) (.const (.bool true)) (.tmp 38), none, .f⟩])
  (.cond (.tmp 39) (.seq (.reg [⟨(some 2), .mv (.const (.bool false)), none, .f⟩])
  .ret) .skip))
  (.seq (.seq (.reg [⟨(some 3), .mv (.const (.int .i64 0)), none, .f⟩])
  (.blk 0 (.loop (.seq (.seq (.reg [⟨(some 40), .mv (.tmp 3), none, .f⟩,
   ⟨(some 41), .fadr 4 (.tmp 1), none, .f⟩,
   ⟨(some 42), .load1 (.tmp 41), none, .f⟩,
   ⟨(some 43), .len (.tmp 42), none, .f⟩,
   ⟨(some 44), .bin .lss (.tmp 40) (.tmp 43), none, .f⟩])
  (.cond (.tmp 44) .skip (.exit 0)))
  (.seq (.blk 1 (.seq (.reg [⟨(some 47), .fadr 4 (.tmp 1), none, .f⟩,
   ⟨(some 48), .load1 (.tmp 47), none, .f⟩,
   ⟨(some 49), .mv (.tmp 3), none, .f⟩,
   ⟨(some 50), .ixs 1 (.tmp 48) (.tmp 49), none, .f⟩,
   ⟨(some 51), .load1 (.tmp 50), none, .f⟩,
   ⟨(some 52), .fadr 0 (.tmp 1), none, .f⟩,
   ⟨(some 53), .load1 (.tmp 52), none, .f⟩,
   ⟨(some 54), .bin .sub (.tmp 53) (.const (.int .i64 1)), none, .f⟩,
   ⟨(some 55), .call (.func 181) [(.tmp 51), (.const (.int .i64 0)), (.tmp 54)], none, .f⟩,
   ⟨(some 56), .un .not (.tmp 55), none, .f⟩])
  (.cond (.tmp 56) (.seq (.reg [⟨(some 2), .mv (.const (.bool false)), none, .f⟩])
  .ret) .skip)))
  (.reg [⟨(some 45), .mv (.tmp 3), none, .f⟩,
   ⟨(some 46), .bin .add (.tmp 45) (.const (.int .i64 1)), none, .f⟩,
   ⟨(some 3), .mv (.tmp 46), none, .f⟩]))))))
  (.seq (.reg [⟨(some 2), .mv (.const (.bool true)), none, .f⟩])
  .ret))))⟩
theorem s173 : compFn Try.prog Try.f173 = some c173 := by kernel_rfl
def c174 : XFn :=
 ⟨[.celln 4 5],
  (.seq (.reg [⟨(some 3), .box 36 (.tmp 1), none, .f⟩,
   ⟨(some 4), .alloc 36 [.int .i64 0, .int .i64 0, .int .i64 0, .int .i64 0, .slice none 0 0], none, .f⟩])
  (.seq (.reg [⟨(some 12), .fadr 0 (.tmp 3), none, .f⟩,
   ⟨(some 13), .load1 (.tmp 12), none, .f⟩,
   ⟨(some 14), .fadr 1 (.tmp 3), none, .f⟩,
   ⟨(some 15), .load1 (.tmp 14), none, .f⟩,
   ⟨(some 16), .fadr 2 (.tmp 3), none, .f⟩,
   ⟨(some 17), .load1 (.tmp 16), none, .f⟩,
   ⟨(some 18), .fadr 3 (.tmp 3), none, .f⟩,
   ⟨(some 19), .load1 (.tmp 18), none, .f⟩,
   ⟨(some 20), .call (.func 182) [(.tmp 13), (.tmp 15), (.tmp 17), (.tmp 19)], none, .f⟩,
   ⟨(some 5), .alloc 36 [.int .i64 0, .int .i64 0, .int .i64 0, .int .i64 0, .slice none 0 0], none, .f⟩,
   ⟨none, .store 5 (.tmp 5) (.tmp 20), none, .f⟩])
  (.seq (.seq (.reg [⟨(some 21), .mv (.tmp 0), none, .f⟩,
   ⟨(some 22), .call (.func 148) [(.tmp 21), (.const (.int .i64 3))], none, .f⟩,
   ⟨(some 23), .bin .eql (.tmp 22) (.const (.int .i64 0)), none, .f⟩])
  (.cond (.tmp 23) (.seq (.reg [⟨(some 24), .mv (.tmp 0), none, .f⟩,
   ⟨(some 25), .fadr 0 (.tmp 3), none, .f⟩,
   ⟨(some 26), .load1 (.tmp 25), none, .f⟩,
   ⟨(some 27), .fadr 1 (.tmp 3), none, .f⟩,
   ⟨(some 28), .load1 (.tmp 27), none, .f⟩,
   ⟨(some 29), .call (.func 250) [(.tmp 24), (.tmp 26), (.tmp 28)], none, (.s true [])⟩,
   ⟨(some 30), .mv (.tmp 0), none, .f⟩,
   ⟨(some 31), .fadr 0 (.tmp 3), none, .f⟩,
   ⟨(some 32), .load1 (.tmp 31), none, (.s false [(.tmp 24)])⟩,
   ⟨(some 33), .fadr 2 (.tmp 3), none, .f⟩,
   ⟨(some 34), .load1 (.tmp 33), none, (.s false [(.tmp 24)])⟩,
   ⟨(some 35), .call (.func 250) [(.tmp 30), (.tmp 32), (.tmp 34)], none, (.s true [])⟩,
   ⟨(some 36), .mv (.tmp 0), none, .f⟩,
   ⟨(some 37), .fadr 0 (.tmp 3), none, .f⟩,
   ⟨(some 38), .load1 (.tmp 37), none, (.s false [(.tmp 24), (.tmp 30)])⟩,
   ⟨(some 39), .fadr 3 (.tmp 3), none, .f⟩,
   ⟨(some 40), .load1 (.tmp 39), none, (.s false [(.tmp 24), (.tmp 30)])⟩,
   ⟨(some 41), .call (.func 250) [(.tmp 36), (.tmp 38), (.tmp 40)], none, .f⟩,
   ⟨(some 6), .mv (.tmp 29), none, .f⟩,
   ⟨(some 7), .mv (.tmp 35), none, .f⟩,
   ⟨(some 8), .mv (.tmp 41), none, .f⟩])
  (.seq (.seq (.reg [⟨(some 9), .mv (.const (.int .i64 0)), none, .f⟩])
  (.blk 0 (.loop (.seq (.seq (.reg [⟨(some 42), .mv (.tmp 9), none, .f⟩,
   ⟨(some 43), .fadr 4 (.tmp 5), none, .f⟩,
   ⟨(some 44), .load1 (.tmp 43), none, .f⟩,
   ⟨(some 45), .len (.tmp 44), none, .f⟩,
   ⟨(some 46), .bin .lss (.tmp 42) (.tmp 45), none, .f⟩])
  (.cond (.tmp 46) .skip (.exit 0)))
  (.seq (.blk 1 (.reg [⟨(some 49), .fadr 4 (.tmp 5), none, .f⟩,
   ⟨(some 50), .load1 (.tmp 49), none, .f⟩,
   ⟨(some 51), .mv (.tmp 9), none, .f⟩,
   ⟨(some 52), .mv (.tmp 6), none, .f⟩,
   ⟨(some 53), .mv (.tmp 9), none, .f⟩,
   ⟨(some 54), .fadr 2 (.tmp 3), none, .f⟩,
   ⟨(some 55), .load1 (.tmp 54), none, .f⟩,
   ⟨(some 56), .fadr 3 (.tmp 3), none, .f⟩,
   ⟨(some 57), .load1 (.tmp 56), none, .f⟩,
   ⟨(some 58), .bin .mul (.tmp 55) (.tmp 57), none, .f⟩,
   ⟨(some 59), .bin .quo (.tmp 53) (.tmp 58), none, .f⟩,
   ⟨(some 60), .ixs 1 (.tmp 52) (.tmp 59), none, .f⟩,
   ⟨(some 61), .load1 (.tmp 60), none, .f⟩,
   ⟨(some 62), .mv (.tmp 7), none, .f⟩,
   ⟨(some 63), .mv (.tmp 9), none, .f⟩,
   ⟨(some 64), .fadr 3 (.tmp 3), none, .f⟩,
   ⟨(some 65), .load1 (.tmp 64), none, .f⟩,
   ⟨(some 66), .bin .quo (.tmp 63) (.tmp 65), none, .f⟩,
   ⟨(some 67), .fadr 2 (.tmp 3), none, .f⟩,
   ⟨(some 68), .load1 (.tmp 67), none, .f⟩,
   ⟨(some 69), .bin .rem (.tmp 66) (.tmp 68), none, .f⟩,
   ⟨(some 70), .ixs 1 (.tmp 62) (.tmp 69), none, .f⟩,
   ⟨(some 71), .load1 (.tmp 70), none, .f⟩,
   ⟨(some 72), .bin .mul (.tmp 61) (.tmp 71), none, .f⟩,
   ⟨(some 73), .mv (.tmp 8), none, .f⟩,
   ⟨(some 74), .mv (.tmp 9), none, .f⟩,
   ⟨(some 75), .fadr 3 (.tmp 3), none, .f⟩,
   ⟨(some 76), .load1 (.tmp 75), none, .f⟩,
   ⟨(some 77), .bin .rem (.tmp 74) (.tmp 76), none, .f⟩,
   ⟨(some 78), .ixs 1 (.tmp 73) (.tmp 77), none, .f⟩,
   ⟨(some 79), .load1 (.tmp 78), none, .f⟩,
   ⟨(some 80), .bin .mul (.tmp 72) (.tmp 79), none, .f⟩,
   ⟨(some 81), .fadr 0 (.tmp 3), none, .f⟩,
   ⟨(some 82), .load1 (.tmp 81), none, .f⟩,
   ⟨(some 83), .bin .rem (.tmp 80) (.tmp 82), none, .f⟩,
   ⟨(some 84), .ixs 1 (.tmp 50) (.tmp 51), none, .f⟩,
   ⟨none, .store 1 (.tmp 84) (.tmp 83), none, .f⟩]))
  (.reg [⟨(some 47), .mv (.tmp 9), none, .f⟩,
   ⟨(some 48), .bin .add (.tmp 47) (.const (.int .i64 1)), none, .f⟩,
   ⟨(some 9), .mv (.tmp 48), none, .f⟩]))))))
  (.seq (.reg [⟨(some 85), .loadn 5 (.tmp 5), none, .f⟩,
   ⟨none, .store 5 (.tmp 4) (.tmp 85), none, .f⟩])
  .ret))) .skip))
  (.seq (.reg [⟨(some 86), .mv (.tmp 0), none, .f⟩,
   ⟨(some 87), .call (.func 148) [(.tmp 86), (.const (.int .i64 3))], none, .f⟩,
   ⟨(some 10), .mv (.tmp 87), none, .f⟩])
  (.seq (.seq (.reg [⟨(some 11), .mv (.const (.int .i64 0)), none, .f⟩])
  (.blk 2 (.loop (.seq (.seq (.reg [⟨(some 88), .mv (.tmp 11), none, .f⟩,
   ⟨(some 89), .fadr 4 (.tmp 5), none, .f⟩,
   ⟨(some 90), .load1 (.tmp 89), none, .f⟩,
   ⟨(some 91), .len (.tmp 90), none, .f⟩,
   ⟨(some 92), .bin .lss (.tmp 88) (.tmp 91), none, .f⟩])
  (.cond (.tmp 92) .skip (.exit 2)))
  (.seq (.blk 3 (.seq (.reg [⟨(some 95), .mv (.tmp 10), none, .f⟩,
   ⟨(some 96), .bin .eql (.tmp 95) (.const (.int .i64 0)), none, .f⟩,
   ⟨(some 97), .mv (.tmp 96), none, .f⟩,
   ⟨(some 98), .mv (.tmp 0), (some (97, false)), .f⟩,
   ⟨(some 99), .call (.func 148) [(.tmp 98), (.const (.int .i64 3))], (some (97, false)), .f⟩,
   ⟨(some 100), .bin .eql (.tmp 99) (.const (.int .i64 0)), (some (97, false)), .f⟩,
   ⟨(some 101), .pick (.tmp 97) (.const (.bool true)) (.tmp 100), none, .f⟩])
  (.cond (.tmp 101) (.reg [⟨(some 102), .fadr 4 (.tmp 5), none, .f⟩,
   ⟨(some 103), .load1 (.tmp 102), none, .f⟩,
   ⟨(some 104), .mv (.tmp 11), none, .f⟩,
   ⟨(some 105), .mv (.tmp 0), none, .f⟩,
   ⟨(some 106), .fadr 0 (.tmp 3), none, .f⟩,
   ⟨(some 107), .load1 (.tmp 106), none, .f⟩,
   ⟨(some 108), .call (.func 148) [(.tmp 105), (.tmp 107)], none, (.s true [(.tmp 102)])⟩,
   ⟨(some 109), .ixs 1 (.tmp 103) (.tmp 104), none, .f⟩,
   ⟨none, .store 1 (.tmp 109) (.tmp 108), none, .f⟩]) .skip)))
  (.reg [⟨(some 93), .mv (.tmp 11), none, .f⟩,
   ⟨(some 94), .bin .add (.tmp 93) (.const (.int .i64 1)), none, .f⟩,
   ⟨(some 11), .mv (.tmp 94), none, .f⟩]))))))
  (.seq (.reg [⟨(some 110), .loadn 5 (.tmp 5), none, .f⟩,
   ⟨none, .store 5 (.tmp 4) (.tmp 110), none, .f⟩])
  .ret))))))⟩
theorem s174 : compFn Try.prog Try.f174 = some c174 := by kernel_rfl
def c175 : XFn :=
 ⟨[.tmp 4],
  (.seq (.reg [⟨(some 4), .mv (.const (.int .i64 0)), none, .f⟩])
  (.seq (.seq (.reg [⟨(some 5), .mv (.tmp 0), none, .f⟩,
   ⟨(some 6), .call (.func 148) [(.tmp 5), (.const (.int .i64 14))], none, .f⟩,
   ⟨(some 7), .bin .eql (.tmp 6) (.const (.int .i64 0)), none, .f⟩])
  (.cond (.tmp 7) (.seq (.reg [⟨(some 8), .mv (.tmp 0), none, .f⟩,
   ⟨(some 9), .mv (.tmp 1), none, .f⟩,
   ⟨(some 10), .bin .add (.tmp 9) (.const (.int .i64 1)), none, .f⟩,
   ⟨(some 11), .bslice 2 1 4 [.int .i64 0] [(0, 1, (.const (.int .i64 (-1)))), (1, 1, (.tmp 10)), (2, 1, (.const (.int .i64 1099511627776))), (3, 1, (.const (.int .i64 (-4611686018427387904))))], none, .f⟩,
   ⟨(some 12), .call (.func 147) [(.tmp 8), (.tmp 11)], none, .f⟩,
   ⟨(some 4), .mv (.tmp 12), none, .f⟩])
  .ret) .skip))
  (.seq (.reg [⟨(some 13), .mv (.tmp 0), none, .f⟩,
   ⟨(some 14), .mv (.tmp 1), none, .f⟩,
   ⟨(some 15), .bin .add (.tmp 14) (.const (.int .i64 1)), none, .f⟩,
   ⟨(some 16), .call (.func 148) [(.tmp 13), (.tmp 15)], none, .f⟩,
   ⟨(some 4), .mv (.tmp 16), none, .f⟩])
  .ret)))⟩
theorem s175 : compFn Try.prog Try.f175 = some c175 := by kernel_rfl
def c177 : XFn :=
 ⟨[.celln 2 3],
  (.seq (.reg [⟨(some 1), .box 36 (.tmp 0), none, .f⟩,
   ⟨(some 2), .alloc 158 [.int .i64 0, .int .i64 0, .int .i64 0], none, .f⟩])
  (.seq (.reg [⟨(some 3), .fadr 1 (.tmp 1), none, .f⟩,
   ⟨(some 4), .load1 (.tmp 3), none, .f⟩,
   ⟨(some 5), .fadr 2 (.tmp 1), none, .f⟩,
   ⟨(some 6), .load1 (.tmp 5), none, .f⟩,
   ⟨(some 7), .fadr 3 (.tmp 1), none, .f⟩,
   ⟨(some 8), .load1 (.tmp 7), none, .f⟩,
   ⟨(some 9), .build [.int .i64 0, .int .i64 0, .int .i64 0] [(0, 1, (.tmp 4)), (1, 1, (.tmp 6)), (2, 1, (.tmp 8))], none, .f⟩,
   ⟨none, .store 3 (.tmp 2) (.tmp 9), none, .f⟩])
  .ret))⟩
theorem s177 : compFn Try.prog Try.f177 = some c177 := by kernel_rfl
def c178 : XFn :=
 ⟨[.celln 10 5],
  (.seq (.reg [⟨(some 10), .alloc 36 [.int .i64 0, .int .i64 0, .int .i64 0, .int .i64 0, .slice none 0 0], none, .f⟩])
  (.seq (.reg [⟨(some 15), .mv (.tmp 0), none, .f⟩,
   ⟨(some 16), .mv (.tmp 1), none, .f⟩,
   ⟨(some 17), .mv (.tmp 2), none, .f⟩,
   ⟨(some 18), .mv (.tmp 3), none, .f⟩,
   ⟨(some 19), .build [.int .i64 0, .int .i64 0, .int .i64 0, .int .i64 0, .slice none 0 0] [(0, 1, (.tmp 15)), (1, 1, (.tmp 16)), (2, 1, (.tmp 17)), (3, 1, (.tmp 18))], none, .f⟩,
   ⟨(some 11), .alloc 36 [.int .i64 0, .int .i64 0, .int .i64 0, .int .i64 0, .slice none 0 0], none, .f⟩,
   ⟨none, .store 5 (.tmp 11) (.tmp 19), none, .f⟩])
  (.seq (.seq (.reg [⟨(some 20), .mv (.tmp 1), none, .f⟩,
   ⟨(some 21), .mv (.const (.int .i64 0)), none, .f⟩])
  (.blk 0 (.loop (.seq (.reg [⟨(some 22), .bin .lss (.tmp 21) (.tmp 20), none, .f⟩])
  (.seq (.cond (.tmp 22) .skip (.exit 0))
  (.seq (.blk 1 (.seq (.reg [⟨(some 23), .mv (.tmp 21), none, .f⟩,
   ⟨(some 12), .mv (.tmp 23), none, .f⟩])
  (.seq (.reg [⟨(some 24), .mv (.tmp 2), none, .f⟩,
   ⟨(some 25), .mv (.const (.int .i64 0)), none, .f⟩])
  (.blk 2 (.loop (.seq (.reg [⟨(some 26), .bin .lss (.tmp 25) (.tmp 24), none, .f⟩])
  (.seq (.cond (.tmp 26) .skip (.exit 2))
  (.seq (.blk 3 (.seq (.reg [⟨(some 27), .mv (.tmp 25), none, .f⟩,
   ⟨(some 13), .mv (.tmp 27), none, .f⟩])
  (.seq (.reg [⟨(some 28), .mv (.tmp 3), none, .f⟩,
   ⟨(some 29), .mv (.const (.int .i64 0)), none, .f⟩])
  (.blk 4 (.loop (.seq (.reg [⟨(some 30), .bin .lss (.tmp 29) (.tmp 28), none, .f⟩])
  (.seq (.cond (.tmp 30) .skip (.exit 4))
  (.seq (.blk 5 (.seq (.reg [⟨(some 31), .mv (.tmp 29), none, .f⟩,
   ⟨(some 14), .mv (.tmp 31), none, .f⟩])
  (.reg [⟨(some 32), .fadr 4 (.tmp 11), none, .f⟩,
   ⟨(some 33), .load1 (.tmp 32), none, .f⟩,
   ⟨(some 34), .mv (.tmp 4), none, .f⟩,
   ⟨(some 35), .mv (.tmp 12), none, .f⟩,
   ⟨(some 36), .mv (.tmp 13), none, .f⟩,
   ⟨(some 37), .mv (.tmp 14), none, .f⟩,
   ⟨(some 38), .call (.tmp 34) [(.tmp 35), (.tmp 36), (.tmp 37)], none, .t⟩,
   ⟨(some 39), .mv (.tmp 0), none, .f⟩,
   ⟨(some 40), .bin .rem (.tmp 38) (.tmp 39), none, .f⟩,
   ⟨(some 41), .bslice 2 1 1 [.int .i64 0] [(0, 1, (.tmp 40))], none, .f⟩,
   ⟨(some 42), .app 2 1 8 (.tmp 33) (.tmp 41), none, .f⟩,
   ⟨(some 43), .fadr 4 (.tmp 11), none, .f⟩,
   ⟨none, .store 1 (.tmp 43) (.tmp 42), none, .f⟩])))
  (.reg [⟨(some 44), .bin .add (.tmp 29) (.const (.int .i64 1)), none, .f⟩,
   ⟨(some 29), .mv (.tmp 44), none, .f⟩])))))))))
  (.reg [⟨(some 45), .bin .add (.tmp 25) (.const (.int .i64 1)), none, .f⟩,
   ⟨(some 25), .mv (.tmp 45), none, .f⟩])))))))))
  (.reg [⟨(some 46), .bin .add (.tmp 21) (.const (.int .i64 1)), none, .f⟩,
   ⟨(some 21), .mv (.tmp 46), none, .f⟩])))))))
  (.seq (.reg [⟨(some 47), .loadn 5 (.tmp 11), none, .f⟩,
   ⟨none, .store 5 (.tmp 10) (.tmp 47), none, .f⟩])
  .ret))))⟩
theorem s178 : compFn Try.prog Try.f178 = some c178 := by kernel_rfl
def c180 : XFn :=
 ⟨[.tmp 8],
  (.seq (.reg [⟨(some 4), .box 36 (.tmp 0), none, .f⟩,
   ⟨(some 8), .mv (.const (.int .i64 0)), none, .f⟩])
  (.seq (.reg [⟨(some 9), .fadr 4 (.tmp 4), none, .f⟩,
   ⟨(some 10), .load1 (.tmp 9), none, .f⟩,
   ⟨(some 11), .mv (.tmp 1), none, .f⟩,
   ⟨(some 12), .fadr 2 (.tmp 4), none, .f⟩,
   ⟨(some 13), .load1 (.tmp 12), none, .f⟩,
   ⟨(some 14), .bin .mul (.tmp 11) (.tmp 13), none, .f⟩,
   ⟨(some 15), .mv (.tmp 2), none, .f⟩,
   ⟨(some 16), .bin .add (.tmp 14) (.tmp 15), none, .f⟩,
   ⟨(some 17), .fadr 3 (.tmp 4), none, .f⟩,
   ⟨(some 18), .load1 (.tmp 17), none, .f⟩,
   ⟨(some 19), .bin .mul (.tmp 16) (.tmp 18), none, .f⟩,
   ⟨(some 20), .mv (.tmp 3), none, .f⟩,
   ⟨(some 21), .bin .add (.tmp 19) (.tmp 20), none, .f⟩,
   ⟨(some 22), .ixs 1 (.tmp 10) (.tmp 21), none, .f⟩,
   ⟨(some 23), .load1 (.tmp 22), none, .f⟩,
   ⟨(some 8), .mv (.tmp 23), none, .f⟩])
  .ret))⟩
theorem s180 : compFn Try.prog Try.f180 = some c180 := by kernel_rfl
def c181 : XFn :=
 ⟨[.tmp 6],
  (.seq (.reg [⟨(some 6), .mv (.const (.bool false)), none, .f⟩])
  (.seq (.reg [⟨(some 7), .mv (.tmp 0), none, .f⟩,
   ⟨(some 8), .mv (.tmp 1), none, .f⟩,
   ⟨(some 9), .bin .geq (.tmp 7) (.tmp 8), none, .f⟩,
   ⟨(some 10), .mv (.tmp 9), none, .f⟩,
   ⟨(some 11), .mv (.tmp 0), (some (10, true)), .f⟩,
   ⟨(some 12), .mv (.tmp 2), (some (10, true)), .f⟩,
   ⟨(some 13), .bin .leq (.tmp 11) (.tmp 12), (some (10, true)), .f⟩,
   ⟨(some 14), .pick (.tmp 10) (.tmp 13) (.const (.bool false)), none, .f⟩,
   ⟨(some 6), .mv (.tmp 14), none, .f⟩])
  .ret))⟩
theorem s181 : compFn Try.prog Try.f181 = some c181 := by kernel_rfl
def c182 : XFn :=
 ⟨[.celln 8 5],
  (.seq (.reg [⟨(some 8), .alloc 36 [.int .i64 0, .int .i64 0, .int .i64 0, .int .i64 0, .slice none 0 0], none, .f⟩])
  (.seq (.reg [⟨(some 9), .mv (.tmp 0), none, .f⟩,
   ⟨(some 10), .mv (.tmp 1), none, .f⟩,
   ⟨(some 11), .mv (.tmp 2), none, .f⟩,
   ⟨(some 12), .mv (.tmp 3), none, .f⟩,
   ⟨(some 13), .mv (.tmp 1), none, .f⟩,
   ⟨(some 14), .mv (.tmp 2), none, .f⟩,
   ⟨(some 15), .bin .mul (.tmp 13) (.tmp 14), none, .f⟩,
   ⟨(some 16), .mv (.tmp 3), none, .f⟩,
   ⟨(some 17), .bin .mul (.tmp 15) (.tmp 16), none, .f⟩,
   ⟨(some 18), .mks 2 1 8 [.int .i64 0] (.tmp 17), none, .f⟩,
   ⟨(some 19), .build [.int .i64 0, .int .i64 0, .int .i64 0, .int .i64 0, .slice none 0 0] [(0, 1, (.tmp 9)), (1, 1, (.tmp 10)), (2, 1, (.tmp 11)), (3, 1, (.tmp 12)), (4, 1, (.tmp 18))], none, .f⟩,
   ⟨none, .store 5 (.tmp 8) (.tmp 19), none, .f⟩])
  .ret))⟩
theorem s182 : compFn Try.prog Try.f182 = some c182 := by kernel_rfl
def tab1 : List (Nat × XFn) := [(9, c9), (13, c13), (20, c20), (28, c28), (30, c30), (48, c48), (99, c99), (100, c100), (101, c101), (102, c102), (103, c103), (104, c104), (105, c105), (106, c106), (107, c107), (108, c108), (109, c109), (110, c110), (111, c111), (112, c112), (113, c113), (114, c114), (115, c115), (116, c116), (117, c117), (145, c145), (147, c147), (148, c148), (163, c163), (166, c166), (168, c168), (172, c172), (173, c173), (174, c174), (175, c175), (177, c177), (178, c178), (180, c180), (181, c181), (182, c182)]
theorem ts1 : TSound Try.prog (fun g => tab1.lookup g) := by
  refine tsound_of_all (P := Try.prog) (tab := tab1) ?_
  intro p hp
  simp only [tab1, List.mem_cons, List.not_mem_nil, or_false] at hp
  rcases hp with rfl | rfl | rfl | rfl | rfl | rfl | rfl | rfl | rfl | rfl | rfl | rfl | rfl | rfl | rfl | rfl | rfl | rfl | rfl | rfl | rfl | rfl | rfl | rfl | rfl | rfl | rfl | rfl | rfl | rfl | rfl | rfl | rfl | rfl | rfl | rfl | rfl | rfl | rfl | rfl
  · exact ⟨_, Try.func9, s9⟩
  · exact ⟨_, Try.func13, s13⟩
  · exact ⟨_, Try.func20, s20⟩
  · exact ⟨_, Try.func28, s28⟩
  · exact ⟨_, Try.func30, s30⟩
  · exact ⟨_, Try.func48, s48⟩
  · exact ⟨_, Try.func99, s99⟩
  · exact ⟨_, Try.func100, s100⟩
  · exact ⟨_, Try.func101, s101⟩
  · exact ⟨_, Try.func102, s102⟩
  · exact ⟨_, Try.func103, s103⟩
  · exact ⟨_, Try.func104, s104⟩
  · exact ⟨_, Try.func105, s105⟩
  · exact ⟨_, Try.func106, s106⟩
  · exact ⟨_, Try.func107, s107⟩
  · exact ⟨_, Try.func108, s108⟩
  · exact ⟨_, Try.func109, s109⟩
  · exact ⟨_, Try.func110, s110⟩
  · exact ⟨_, Try.func111, s111⟩
  · exact ⟨_, Try.func112, s112⟩
  · exact ⟨_, Try.func113, s113⟩
  · exact ⟨_, Try.func114, s114⟩
  · exact ⟨_, Try.func115, s115⟩
  · exact ⟨_, Try.func116, s116⟩
  · exact ⟨_, Try.func117, s117⟩
  · exact ⟨_, Try.func145, s145⟩
  · exact ⟨_, Try.func147, s147⟩
  · exact ⟨_, Try.func148, s148⟩
  · exact ⟨_, Try.func163, s163⟩
  · exact ⟨_, Try.func166, s166⟩
  · exact ⟨_, Try.func168, s168⟩
  · exact ⟨_, Try.func172, s172⟩
  · exact ⟨_, Try.func173, s173⟩
  · exact ⟨_, Try.func174, s174⟩
  · exact ⟨_, Try.func175, s175⟩
  · exact ⟨_, Try.func177, s177⟩
  · exact ⟨_, Try.func178, s178⟩
  · exact ⟨_, Try.func180, s180⟩
  · exact ⟨_, Try.func181, s181⟩
  · exact ⟨_, Try.func182, s182⟩
end Go.Proofs.Ytapafdpnmakekaa.X
