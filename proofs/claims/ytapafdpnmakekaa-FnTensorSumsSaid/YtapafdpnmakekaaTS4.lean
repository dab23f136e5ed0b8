/- Texts of one claim, put together by merge.py: XCode1. -/
import Derived.Test.YtapafdpnmakekaaTS3
import Derived.Test.YtapafdpnmakekaaProg
/- Part of the abstract code of the seat's functions, printed by a program of this session, and that it is what the compiler of XComp makes. -/
set_option linter.unusedVariables false
set_option maxRecDepth 4000
namespace Go.Proofs.Ytapafdpnmakekaa.X
open Go Go.RowKit

/-- loop.example/g01262/laws.FnTensorSums -/
def c4 : XFn :=
 ⟨[.tmp 2],
  (.seq (.reg [⟨(some 2), .mv (.const (.bool false)), none, .f⟩])
  (.seq (.seq (.reg [⟨(some 51), .mv (.tmp 0), none, .f⟩,
   ⟨(some 52), .call (.func 13) [(.tmp 51)], none, .f⟩])
  (.cond (.tmp 52) (.seq (.reg [⟨(some 2), .mv (.const (.bool true)), none, .f⟩])
  .ret) .skip))
  (.seq (.reg [⟨(some 54), .mv (.tmp 0), none, .f⟩,
   ⟨(some 55), .call (.func 24) [(.tmp 54)], none, .f⟩,
   ⟨(some 53), .mv (.tmp 55), none, .f⟩,
   ⟨(some 56), .ext (.tmp 53) 0, none, .f⟩,
   ⟨(some 57), .ext (.tmp 53) 1, none, .f⟩,
   ⟨(some 58), .ext (.tmp 53) 2, none, .f⟩,
   ⟨(some 3), .alloc 36 [.int .i64 0, .int .i64 0, .int .i64 0, .int .i64 0, .slice none 0 0], none, .f⟩,
   ⟨(some 4), .alloc 36 [.int .i64 0, .int .i64 0, .int .i64 0, .int .i64 0, .slice none 0 0], none, .f⟩,
   ⟨none, .store 5 (.tmp 3) (.tmp 56), none, .f⟩,
   ⟨none, .store 5 (.tmp 4) (.tmp 57), none, .f⟩,
   ⟨(some 5), .mv (.tmp 58), none, .f⟩])
  (.seq (.reg [⟨(some 60), .loadn 5 (.tmp 3), none, .f⟩,
   ⟨(some 61), .loadn 5 (.tmp 4), none, .f⟩,
   ⟨(some 62), .mv (.tmp 5), none, .f⟩,
   ⟨(some 63), .call (.func 25) [(.tmp 60), (.tmp 61), (.tmp 62)], none, .f⟩,
   ⟨(some 59), .mv (.tmp 63), none, .f⟩,
   ⟨(some 64), .ext (.tmp 59) 0, none, .f⟩,
   ⟨(some 65), .ext (.tmp 59) 1, none, .f⟩,
   ⟨(some 6), .alloc 36 [.int .i64 0, .int .i64 0, .int .i64 0, .int .i64 0, .slice none 0 0], none, .f⟩,
   ⟨none, .store 5 (.tmp 6) (.tmp 64), none, .f⟩,
   ⟨(some 7), .mv (.tmp 65), none, .f⟩])
  (.seq (.reg [⟨(some 67), .loadn 5 (.tmp 3), none, .f⟩,
   ⟨(some 68), .loadn 5 (.tmp 4), none, .f⟩,
   ⟨(some 69), .mv (.tmp 5), none, .f⟩,
   ⟨(some 70), .call (.func 26) [(.tmp 67), (.tmp 68), (.tmp 69)], none, .f⟩,
   ⟨(some 66), .mv (.tmp 70), none, .f⟩,
   ⟨(some 71), .ext (.tmp 66) 0, none, .f⟩,
   ⟨(some 72), .ext (.tmp 66) 1, none, .f⟩,
   ⟨(some 8), .alloc 36 [.int .i64 0, .int .i64 0, .int .i64 0, .int .i64 0, .slice none 0 0], none, .f⟩,
   ⟨none, .store 5 (.tmp 8) (.tmp 71), none, .f⟩,
   ⟨(some 9), .mv (.tmp 72), none, .f⟩])
  (.seq (.seq (.reg [⟨(some 73), .mv (.tmp 7), none, .f⟩,
   ⟨(some 74), .mv (.tmp 9), none, .f⟩,
   ⟨(some 75), .bin .neq (.tmp 73) (.tmp 74), none, .f⟩,
   ⟨(some 76), .mv (.tmp 75), none, .f⟩,
   ⟨(some 77), .loadn 5 (.tmp 6), (some (76, false)), .f⟩,
   ⟨(some 78), .loadn 5 (.tmp 8), (some (76, false)), .f⟩,
   ⟨(some 79), .call (.func 27) [(.tmp 77), (.tmp 78)], (some (76, false)), .f⟩,
   ⟨(some 80), .un .not (.tmp 79), (some (76, false)), .f⟩,
   ⟨(some 81), .pick (.tmp 76) (.const (.bool true)) (.tmp 80), none, .f⟩,
   ⟨(some 82), .mv (.tmp 81), none, .f⟩,
   ⟨(some 83), .loadn 5 (.tmp 3), (some (82, false)), .f⟩,
   ⟨(some 84), .call (.func 28) [(.tmp 83)], (some (82, false)), .t⟩,
   ⟨(some 85), .loadn 5 (.tmp 3), (some (82, false)), .f⟩,
   ⟨(some 86), .call (.func 29) [(.tmp 85)], (some (82, false)), .f⟩,
   ⟨(some 87), .eqb true (.tmp 84) (.tmp 86), (some (82, false)), .f⟩,
   ⟨(some 88), .pick (.tmp 82) (.const (.bool true)) (.tmp 87), none, .f⟩])
  (.cond (.tmp 88) (.seq (.reg [⟨(some 2), .mv (.const (.bool false)), none, .f⟩])
  .ret) .skip))
  (.seq (.seq (.reg [⟨(some 89), .mv (.tmp 7), none, .f⟩,
   ⟨(some 90), .bin .eql (.tmp 89) (.const (.int .i64 0)), none, .f⟩])
  (.cond (.tmp 90) (.seq (.reg [⟨(some 92), .loadn 5 (.tmp 3), none, .f⟩,
   ⟨(some 93), .call (.func 30) [(.tmp 92)], none, .f⟩,
   ⟨(some 91), .mv (.tmp 93), none, .f⟩,
   ⟨(some 94), .ext (.tmp 91) 0, none, .f⟩,
   ⟨(some 95), .ext (.tmp 91) 1, none, .f⟩,
   ⟨(some 10), .mv (.tmp 94), none, .f⟩,
   ⟨(some 11), .mv (.tmp 95), none, .f⟩])
  (.seq (.reg [⟨(some 97), .loadn 5 (.tmp 4), none, .f⟩,
   ⟨(some 98), .call (.func 30) [(.tmp 97)], none, .f⟩,
   ⟨(some 96), .mv (.tmp 98), none, .f⟩,
   ⟨(some 99), .ext (.tmp 96) 0, none, .f⟩,
   ⟨(some 100), .ext (.tmp 96) 1, none, .f⟩,
   ⟨(some 12), .mv (.tmp 99), none, .f⟩,
   ⟨(some 13), .mv (.tmp 100), none, .f⟩])
  (.seq (.reg [⟨(some 102), .loadn 5 (.tmp 6), none, .f⟩,
   ⟨(some 103), .call (.func 30) [(.tmp 102)], none, .f⟩,
   ⟨(some 101), .mv (.tmp 103), none, .f⟩,
   ⟨(some 104), .ext (.tmp 101) 0, none, .f⟩,
   ⟨(some 105), .ext (.tmp 101) 1, none, .f⟩,
   ⟨(some 14), .mv (.tmp 104), none, .f⟩,
   ⟨(some 15), .mv (.tmp 105), none, .f⟩])
  (.seq (.seq (.reg [⟨(some 106), .mv (.tmp 11), none, .f⟩,
   ⟨(some 107), .bin .neq (.tmp 106) (.const (.int .i64 0)), none, .f⟩,
   ⟨(some 108), .mv (.tmp 107), none, .f⟩,
   ⟨(some 109), .mv (.tmp 13), (some (108, false)), .f⟩,
   ⟨(some 110), .bin .neq (.tmp 109) (.const (.int .i64 0)), (some (108, false)), .f⟩,
   ⟨(some 111), .pick (.tmp 108) (.const (.bool true)) (.tmp 110), none, .f⟩,
   ⟨(some 112), .mv (.tmp 111), none, .f⟩,
   ⟨(some 113), .mv (.tmp 15), (some (112, false)), .f⟩,
   ⟨(some 114), .bin .neq (.tmp 113) (.const (.int .i64 0)), (some (112, false)), .f⟩,
   ⟨(some 115), .pick (.tmp 112) (.const (.bool true)) (.tmp 114), none, .f⟩,
   ⟨(some 116), .mv (.tmp 115), none, .f⟩,
   ⟨(some 117), .mv (.tmp 10), (some (116, false)), .f⟩,
   ⟨(some 118), .len (.tmp 117), (some (116, false)), .f⟩,
   ⟨(some 119), .bin .neq (.tmp 118) (.const (.int .i64 3)), (some (116, false)), .f⟩,
   ⟨(some 120), .pick (.tmp 116) (.const (.bool true)) (.tmp 119), none, .f⟩,
   ⟨(some 121), .mv (.tmp 120), none, .f⟩,
   ⟨(some 122), .mv (.tmp 12), (some (121, false)), .f⟩,
   ⟨(some 123), .len (.tmp 122), (some (121, false)), .f⟩,
   ⟨(some 124), .bin .neq (.tmp 123) (.const (.int .i64 3)), (some (121, false)), .f⟩,
   ⟨(some 125), .pick (.tmp 121) (.const (.bool true)) (.tmp 124), none, .f⟩,
   ⟨(some 126), .mv (.tmp 125), none, .f⟩,
   ⟨(some 127), .mv (.tmp 14), (some (126, false)), .f⟩,
   ⟨(some 128), .len (.tmp 127), (some (126, false)), .f⟩,
   ⟨(some 129), .bin .neq (.tmp 128) (.const (.int .i64 3)), (some (126, false)), .f⟩,
   ⟨(some 130), .pick (.tmp 126) (.const (.bool true)) (.tmp 129), none, .f⟩])
  (.cond (.tmp 130) (.seq (.reg [⟨(some 2), .mv (.const (.bool false)), none, .f⟩])
  .ret) .skip))
  (.seq (.reg [⟨(some 16), .mv (.const (.int .i64 0)), none, .f⟩])
  (.blk 0 (.loop (.seq (.seq (.reg [⟨(some 131), .mv (.tmp 16), none, .f⟩,
   ⟨(some 132), .bin .lss (.tmp 131) (.const (.int .i64 3)), none, .f⟩])
  (.cond (.tmp 132) .skip (.exit 0)))
  (.seq (.blk 1 (.seq (.reg [⟨(some 135), .mv (.tmp 14), none, .f⟩,
   ⟨(some 136), .mv (.tmp 16), none, .f⟩,
   ⟨(some 137), .ixs 1 (.tmp 135) (.tmp 136), none, .f⟩,
   ⟨(some 138), .load1 (.tmp 137), none, .f⟩,
   ⟨(some 139), .mv (.tmp 10), none, .f⟩,
   ⟨(some 140), .mv (.tmp 16), none, .f⟩,
   ⟨(some 141), .ixs 1 (.tmp 139) (.tmp 140), none, .f⟩,
   ⟨(some 142), .load1 (.tmp 141), none, .f⟩,
   ⟨(some 143), .mv (.tmp 12), none, .f⟩,
   ⟨(some 144), .mv (.tmp 16), none, .f⟩,
   ⟨(some 145), .ixs 1 (.tmp 143) (.tmp 144), none, .f⟩,
   ⟨(some 146), .load1 (.tmp 145), none, .f⟩,
   ⟨(some 147), .bin .add (.tmp 142) (.tmp 146), none, .f⟩,
   ⟨(some 148), .bin .gtr (.tmp 138) (.tmp 147), none, .f⟩])
  (.cond (.tmp 148) (.seq (.reg [⟨(some 2), .mv (.const (.bool false)), none, .f⟩])
  .ret) .skip)))
  (.reg [⟨(some 133), .mv (.tmp 16), none, .f⟩,
   ⟨(some 134), .bin .add (.tmp 133) (.const (.int .i64 1)), none, .f⟩,
   ⟨(some 16), .mv (.tmp 134), none, .f⟩])))))))))) .skip))
  (.seq (.reg [⟨(some 150), .mv (.tmp 0), none, .f⟩,
   ⟨(some 151), .call (.func 31) [(.tmp 150)], none, .f⟩,
   ⟨(some 149), .mv (.tmp 151), none, .f⟩,
   ⟨(some 152), .ext (.tmp 149) 0, none, .f⟩,
   ⟨(some 153), .ext (.tmp 149) 1, none, .f⟩,
   ⟨(some 17), .alloc 36 [.int .i64 0, .int .i64 0, .int .i64 0, .int .i64 0, .slice none 0 0], none, .f⟩,
   ⟨(some 18), .alloc 36 [.int .i64 0, .int .i64 0, .int .i64 0, .int .i64 0, .slice none 0 0], none, .f⟩,
   ⟨none, .store 5 (.tmp 17) (.tmp 152), none, .f⟩,
   ⟨none, .store 5 (.tmp 18) (.tmp 153), none, .f⟩])
  (.seq (.reg [⟨(some 155), .loadn 5 (.tmp 17), none, .f⟩,
   ⟨(some 156), .loadn 5 (.tmp 18), none, .f⟩,
   ⟨(some 157), .call (.func 32) [(.tmp 155), (.tmp 156)], none, .f⟩,
   ⟨(some 154), .mv (.tmp 157), none, .f⟩,
   ⟨(some 158), .ext (.tmp 154) 0, none, .f⟩,
   ⟨(some 159), .ext (.tmp 154) 1, none, .f⟩,
   ⟨(some 19), .alloc 36 [.int .i64 0, .int .i64 0, .int .i64 0, .int .i64 0, .slice none 0 0], none, .f⟩,
   ⟨none, .store 5 (.tmp 19) (.tmp 158), none, .f⟩,
   ⟨(some 20), .mv (.tmp 159), none, .f⟩])
  (.seq (.reg [⟨(some 161), .loadn 5 (.tmp 17), none, .f⟩,
   ⟨(some 162), .loadn 5 (.tmp 18), none, .f⟩,
   ⟨(some 163), .call (.func 33) [(.tmp 161), (.tmp 162)], none, .f⟩,
   ⟨(some 160), .mv (.tmp 163), none, .f⟩,
   ⟨(some 164), .ext (.tmp 160) 0, none, .f⟩,
   ⟨(some 165), .ext (.tmp 160) 1, none, .f⟩,
   ⟨(some 21), .alloc 36 [.int .i64 0, .int .i64 0, .int .i64 0, .int .i64 0, .slice none 0 0], none, .f⟩,
   ⟨none, .store 5 (.tmp 21) (.tmp 164), none, .f⟩,
   ⟨(some 22), .mv (.tmp 165), none, .f⟩])
  (.seq (.reg [⟨(some 167), .loadn 5 (.tmp 17), none, .f⟩,
   ⟨(some 168), .loadn 5 (.tmp 18), none, .f⟩,
   ⟨(some 169), .call (.func 34) [(.tmp 167), (.tmp 168)], none, .f⟩,
   ⟨(some 166), .mv (.tmp 169), none, .f⟩,
   ⟨(some 170), .ext (.tmp 166) 0, none, .f⟩,
   ⟨(some 171), .ext (.tmp 166) 1, none, .f⟩,
   ⟨(some 23), .alloc 36 [.int .i64 0, .int .i64 0, .int .i64 0, .int .i64 0, .slice none 0 0], none, .f⟩,
   ⟨none, .store 5 (.tmp 23) (.tmp 170), none, .f⟩,
   ⟨(some 24), .mv (.tmp 171), none, .f⟩])
  (.seq (.reg [⟨(some 173), .loadn 5 (.tmp 17), none, .f⟩,
   ⟨(some 174), .loadn 5 (.tmp 18), none, .f⟩,
   ⟨(some 175), .call (.func 35) [(.tmp 173), (.tmp 174)], none, .f⟩,
   ⟨(some 172), .mv (.tmp 175), none, .f⟩,
   ⟨(some 176), .ext (.tmp 172) 0, none, .f⟩,
   ⟨(some 177), .ext (.tmp 172) 1, none, .f⟩,
   ⟨(some 25), .alloc 36 [.int .i64 0, .int .i64 0, .int .i64 0, .int .i64 0, .slice none 0 0], none, .f⟩,
   ⟨none, .store 5 (.tmp 25) (.tmp 176), none, .f⟩,
   ⟨(some 26), .mv (.tmp 177), none, .f⟩])
  (.seq (.seq (.reg [⟨(some 178), .mv (.tmp 20), none, .f⟩,
   ⟨(some 179), .mv (.tmp 22), none, .f⟩,
   ⟨(some 180), .bin .neq (.tmp 178) (.tmp 179), none, .f⟩,
   ⟨(some 181), .mv (.tmp 180), none, .f⟩,
   ⟨(some 182), .loadn 5 (.tmp 19), (some (181, false)), .f⟩,
   ⟨(some 183), .loadn 5 (.tmp 21), (some (181, false)), .f⟩,
   ⟨(some 184), .call (.func 27) [(.tmp 182), (.tmp 183)], (some (181, false)), .f⟩,
   ⟨(some 185), .un .not (.tmp 184), (some (181, false)), .f⟩,
   ⟨(some 186), .pick (.tmp 181) (.const (.bool true)) (.tmp 185), none, .f⟩,
   ⟨(some 187), .mv (.tmp 186), none, .f⟩,
   ⟨(some 188), .mv (.tmp 24), (some (187, false)), .f⟩,
   ⟨(some 189), .mv (.tmp 26), (some (187, false)), .f⟩,
   ⟨(some 190), .bin .neq (.tmp 188) (.tmp 189), (some (187, false)), .f⟩,
   ⟨(some 191), .pick (.tmp 187) (.const (.bool true)) (.tmp 190), none, .f⟩,
   ⟨(some 192), .mv (.tmp 191), none, .f⟩,
   ⟨(some 193), .loadn 5 (.tmp 23), (some (192, false)), .f⟩,
   ⟨(some 194), .loadn 5 (.tmp 25), (some (192, false)), .f⟩,
   ⟨(some 195), .call (.func 27) [(.tmp 193), (.tmp 194)], (some (192, false)), .f⟩,
   ⟨(some 196), .un .not (.tmp 195), (some (192, false)), .f⟩,
   ⟨(some 197), .pick (.tmp 192) (.const (.bool true)) (.tmp 196), none, .f⟩])
  (.cond (.tmp 197) (.seq (.reg [⟨(some 2), .mv (.const (.bool false)), none, .f⟩])
  .ret) .skip))
  (.seq (.seq (.reg [⟨(some 198), .mv (.tmp 20), none, .f⟩,
   ⟨(some 199), .bin .eql (.tmp 198) (.const (.int .i64 0)), none, .f⟩,
   ⟨(some 200), .mv (.tmp 199), none, .f⟩,
   ⟨(some 201), .mv (.tmp 24), (some (200, true)), .f⟩,
   ⟨(some 202), .bin .eql (.tmp 201) (.const (.int .i64 0)), (some (200, true)), .f⟩,
   ⟨(some 203), .pick (.tmp 200) (.tmp 202) (.const (.bool false)), none, .f⟩])
  (.cond (.tmp 203) (.seq (.reg [⟨(some 205), .loadn 5 (.tmp 17), none, .f⟩,
   ⟨(some 206), .call (.func 30) [(.tmp 205)], none, .f⟩,
   ⟨(some 204), .mv (.tmp 206), none, .f⟩,
   ⟨(some 207), .ext (.tmp 204) 0, none, .f⟩,
   ⟨(some 208), .ext (.tmp 204) 1, none, .f⟩,
   ⟨(some 27), .mv (.tmp 207), none, .f⟩,
   ⟨(some 28), .mv (.tmp 208), none, .f⟩])
  (.seq (.reg [⟨(some 210), .loadn 5 (.tmp 18), none, .f⟩,
   ⟨(some 211), .call (.func 30) [(.tmp 210)], none, .f⟩,
   ⟨(some 209), .mv (.tmp 211), none, .f⟩,
   ⟨(some 212), .ext (.tmp 209) 0, none, .f⟩,
   ⟨(some 213), .ext (.tmp 209) 1, none, .f⟩,
   ⟨(some 29), .mv (.tmp 212), none, .f⟩,
   ⟨(some 30), .mv (.tmp 213), none, .f⟩])
  (.seq (.reg [⟨(some 215), .loadn 5 (.tmp 19), none, .f⟩,
   ⟨(some 216), .call (.func 30) [(.tmp 215)], none, .f⟩,
   ⟨(some 214), .mv (.tmp 216), none, .f⟩,
   ⟨(some 217), .ext (.tmp 214) 0, none, .f⟩,
   ⟨(some 218), .ext (.tmp 214) 1, none, .f⟩,
   ⟨(some 31), .mv (.tmp 217), none, .f⟩,
   ⟨(some 32), .mv (.tmp 218), none, .f⟩])
  (.seq (.reg [⟨(some 220), .loadn 5 (.tmp 23), none, .f⟩,
   ⟨(some 221), .call (.func 30) [(.tmp 220)], none, .f⟩,
   ⟨(some 219), .mv (.tmp 221), none, .f⟩,
   ⟨(some 222), .ext (.tmp 219) 0, none, .f⟩,
   ⟨(some 223), .ext (.tmp 219) 1, none, .f⟩,
   ⟨(some 33), .mv (.tmp 222), none, .f⟩,
   ⟨(some 34), .mv (.tmp 223), none, .f⟩])
  (.seq (.seq (.reg [⟨(some 224), .mv (.tmp 28), none, .f⟩,
   ⟨(some 225), .bin .neq (.tmp 224) (.const (.int .i64 0)), none, .f⟩,
   ⟨(some 226), .mv (.tmp 225), none, .f⟩,
   ⟨(some 227), .mv (.tmp 30), (some (226, false)), .f⟩,
   ⟨(some 228), .bin .neq (.tmp 227) (.const (.int .i64 0)), (some (226, false)), .f⟩,
   ⟨(some 229), .pick (.tmp 226) (.const (.bool true)) (.tmp 228), none, .f⟩,
   ⟨(some 230), .mv (.tmp 229), none, .f⟩,
   ⟨(some 231), .mv (.tmp 32), (some (230, false)), .f⟩,
   ⟨(some 232), .bin .neq (.tmp 231) (.const (.int .i64 0)), (some (230, false)), .f⟩,
   ⟨(some 233), .pick (.tmp 230) (.const (.bool true)) (.tmp 232), none, .f⟩,
   ⟨(some 234), .mv (.tmp 233), none, .f⟩,
   ⟨(some 235), .mv (.tmp 34), (some (234, false)), .f⟩,
   ⟨(some 236), .bin .neq (.tmp 235) (.const (.int .i64 0)), (some (234, false)), .f⟩,
   ⟨(some 237), .pick (.tmp 234) (.const (.bool true)) (.tmp 236), none, .f⟩,
   ⟨(some 238), .mv (.tmp 237), none, .f⟩,
   ⟨(some 239), .mv (.tmp 27), (some (238, false)), .f⟩,
   ⟨(some 240), .len (.tmp 239), (some (238, false)), .f⟩,
   ⟨(some 241), .bin .neq (.tmp 240) (.const (.int .i64 3)), (some (238, false)), .f⟩,
   ⟨(some 242), .pick (.tmp 238) (.const (.bool true)) (.tmp 241), none, .f⟩,
   ⟨(some 243), .mv (.tmp 242), none, .f⟩,
   ⟨(some 244), .mv (.tmp 29), (some (243, false)), .f⟩,
   ⟨(some 245), .len (.tmp 244), (some (243, false)), .f⟩,
   ⟨(some 246), .bin .neq (.tmp 245) (.const (.int .i64 3)), (some (243, false)), .f⟩,
   ⟨(some 247), .pick (.tmp 243) (.const (.bool true)) (.tmp 246), none, .f⟩,
   ⟨(some 248), .mv (.tmp 247), none, .f⟩,
   ⟨(some 249), .mv (.tmp 31), (some (248, false)), .f⟩,
   ⟨(some 250), .len (.tmp 249), (some (248, false)), .f⟩,
   ⟨(some 251), .bin .neq (.tmp 250) (.const (.int .i64 3)), (some (248, false)), .f⟩,
   ⟨(some 252), .pick (.tmp 248) (.const (.bool true)) (.tmp 251), none, .f⟩,
   ⟨(some 253), .mv (.tmp 252), none, .f⟩,
   ⟨(some 254), .mv (.tmp 33), (some (253, false)), .f⟩,
   ⟨(some 255), .len (.tmp 254), (some (253, false)), .f⟩,
   ⟨(some 256), .bin .neq (.tmp 255) (.const (.int .i64 3)), (some (253, false)), .f⟩,
   ⟨(some 257), .pick (.tmp 253) (.const (.bool true)) (.tmp 256), none, .f⟩])
  (.cond (.tmp 257) (.seq (.reg [⟨(some 2), .mv (.const (.bool false)), none, .f⟩])
  .ret) .skip))
  (.seq (.reg [⟨(some 35), .mv (.const (.int .i64 0)), none, .f⟩])
  (.blk 2 (.loop (.seq (.seq (.reg [⟨(some 258), .mv (.tmp 35), none, .f⟩,
   ⟨(some 259), .bin .lss (.tmp 258) (.const (.int .i64 3)), none, .f⟩])
  (.cond (.tmp 259) .skip (.exit 2)))
  (.seq (.blk 3 (.seq (.reg [⟨(some 262), .mv (.tmp 31), none, .f⟩,
   ⟨(some 263), .mv (.tmp 35), none, .f⟩,
   ⟨(some 264), .ixs 1 (.tmp 262) (.tmp 263), none, .f⟩,
   ⟨(some 265), .load1 (.tmp 264), none, .f⟩,
   ⟨(some 266), .mv (.tmp 27), none, .f⟩,
   ⟨(some 267), .mv (.tmp 35), none, .f⟩,
   ⟨(some 268), .ixs 1 (.tmp 266) (.tmp 267), none, .f⟩,
   ⟨(some 269), .load1 (.tmp 268), none, .f⟩,
   ⟨(some 270), .mv (.tmp 29), none, .f⟩,
   ⟨(some 271), .mv (.tmp 35), none, .f⟩,
   ⟨(some 272), .ixs 1 (.tmp 270) (.tmp 271), none, .f⟩,
   ⟨(some 273), .load1 (.tmp 272), none, .f⟩,
   ⟨(some 274), .bin .add (.tmp 269) (.tmp 273), none, .f⟩,
   ⟨(some 275), .bin .neq (.tmp 265) (.tmp 274), none, .f⟩,
   ⟨(some 276), .mv (.tmp 275), none, .f⟩,
   ⟨(some 277), .mv (.tmp 33), (some (276, false)), .f⟩,
   ⟨(some 278), .mv (.tmp 35), (some (276, false)), .f⟩,
   ⟨(some 279), .ixs 1 (.tmp 277) (.tmp 278), (some (276, false)), .f⟩,
   ⟨(some 280), .load1 (.tmp 279), (some (276, false)), .f⟩,
   ⟨(some 281), .mv (.tmp 27), (some (276, false)), .f⟩,
   ⟨(some 282), .mv (.tmp 35), (some (276, false)), .f⟩,
   ⟨(some 283), .ixs 1 (.tmp 281) (.tmp 282), (some (276, false)), .f⟩,
   ⟨(some 284), .load1 (.tmp 283), (some (276, false)), .f⟩,
   ⟨(some 285), .mv (.tmp 29), (some (276, false)), .f⟩,
   ⟨(some 286), .mv (.tmp 35), (some (276, false)), .f⟩,
   ⟨(some 287), .ixs 1 (.tmp 285) (.tmp 286), (some (276, false)), .f⟩,
   ⟨(some 288), .load1 (.tmp 287), (some (276, false)), .f⟩,
   ⟨(some 289), .bin .mul (.tmp 284) (.tmp 288), (some (276, false)), .f⟩,
   ⟨(some 290), .bin .neq (.tmp 280) (.tmp 289), (some (276, false)), .f⟩,
   ⟨(some 291), .pick (.tmp 276) (.const (.bool true)) (.tmp 290), none, .f⟩])
  (.cond (.tmp 291) (.seq (.reg [⟨(some 2), .mv (.const (.bool false)), none, .f⟩])
  .ret) .skip)))
  (.reg [⟨(some 260), .mv (.tmp 35), none, .f⟩,
   ⟨(some 261), .bin .add (.tmp 260) (.const (.int .i64 1)), none, .f⟩,
   ⟨(some 35), .mv (.tmp 261), none, .f⟩]))))))))))) .skip))
  (.seq (.reg [⟨(some 292), .mv (.tmp 0), none, .f⟩,
   ⟨(some 293), .call (.func 36) [(.tmp 292)], none, .f⟩,
   ⟨(some 36), .alloc 36 [.int .i64 0, .int .i64 0, .int .i64 0, .int .i64 0, .slice none 0 0], none, .f⟩,
   ⟨none, .store 5 (.tmp 36) (.tmp 293), none, .f⟩])
  (.seq (.reg [⟨(some 295), .loadn 5 (.tmp 36), none, .f⟩,
   ⟨(some 296), .call (.func 37) [(.tmp 295)], none, .f⟩,
   ⟨(some 294), .mv (.tmp 296), none, .f⟩,
   ⟨(some 297), .ext (.tmp 294) 0, none, .f⟩,
   ⟨(some 298), .ext (.tmp 294) 1, none, .f⟩,
   ⟨(some 37), .alloc 36 [.int .i64 0, .int .i64 0, .int .i64 0, .int .i64 0, .slice none 0 0], none, .f⟩,
   ⟨none, .store 5 (.tmp 37) (.tmp 297), none, .f⟩,
   ⟨(some 38), .mv (.tmp 298), none, .f⟩])
  (.seq (.reg [⟨(some 300), .loadn 5 (.tmp 36), none, .f⟩,
   ⟨(some 301), .call (.func 38) [(.tmp 300)], none, .f⟩,
   ⟨(some 299), .mv (.tmp 301), none, .f⟩,
   ⟨(some 302), .ext (.tmp 299) 0, none, .f⟩,
   ⟨(some 303), .ext (.tmp 299) 1, none, .f⟩,
   ⟨(some 39), .alloc 36 [.int .i64 0, .int .i64 0, .int .i64 0, .int .i64 0, .slice none 0 0], none, .f⟩,
   ⟨none, .store 5 (.tmp 39) (.tmp 302), none, .f⟩,
   ⟨(some 40), .mv (.tmp 303), none, .f⟩])
  (.seq (.seq (.reg [⟨(some 304), .mv (.tmp 38), none, .f⟩,
   ⟨(some 305), .mv (.tmp 40), none, .f⟩,
   ⟨(some 306), .bin .neq (.tmp 304) (.tmp 305), none, .f⟩,
   ⟨(some 307), .mv (.tmp 306), none, .f⟩,
   ⟨(some 308), .loadn 5 (.tmp 37), (some (307, false)), .f⟩,
   ⟨(some 309), .loadn 5 (.tmp 39), (some (307, false)), .f⟩,
   ⟨(some 310), .call (.func 27) [(.tmp 308), (.tmp 309)], (some (307, false)), .f⟩,
   ⟨(some 311), .un .not (.tmp 310), (some (307, false)), .f⟩,
   ⟨(some 312), .pick (.tmp 307) (.const (.bool true)) (.tmp 311), none, .f⟩])
  (.cond (.tmp 312) (.seq (.reg [⟨(some 2), .mv (.const (.bool false)), none, .f⟩])
  .ret) .skip))
  (.seq (.seq (.reg [⟨(some 313), .mv (.tmp 38), none, .f⟩,
   ⟨(some 314), .bin .eql (.tmp 313) (.const (.int .i64 0)), none, .f⟩])
  (.cond (.tmp 314) (.seq (.reg [⟨(some 316), .loadn 5 (.tmp 37), none, .f⟩,
   ⟨(some 317), .call (.func 37) [(.tmp 316)], none, .f⟩,
   ⟨(some 315), .mv (.tmp 317), none, .f⟩,
   ⟨(some 318), .ext (.tmp 315) 0, none, .f⟩,
   ⟨(some 319), .ext (.tmp 315) 1, none, .f⟩,
   ⟨(some 41), .alloc 36 [.int .i64 0, .int .i64 0, .int .i64 0, .int .i64 0, .slice none 0 0], none, .f⟩,
   ⟨none, .store 5 (.tmp 41) (.tmp 318), none, .f⟩,
   ⟨(some 42), .mv (.tmp 319), none, .f⟩])
  (.seq (.reg [⟨(some 321), .loadn 5 (.tmp 41), none, .f⟩,
   ⟨(some 322), .call (.func 37) [(.tmp 321)], none, .f⟩,
   ⟨(some 320), .mv (.tmp 322), none, .f⟩,
   ⟨(some 323), .ext (.tmp 320) 0, none, .f⟩,
   ⟨(some 324), .ext (.tmp 320) 1, none, .f⟩,
   ⟨(some 43), .alloc 36 [.int .i64 0, .int .i64 0, .int .i64 0, .int .i64 0, .slice none 0 0], none, .f⟩,
   ⟨none, .store 5 (.tmp 43) (.tmp 323), none, .f⟩,
   ⟨(some 44), .mv (.tmp 324), none, .f⟩])
  (.seq (.reg [⟨(some 325), .mv (.tmp 42), none, .f⟩,
   ⟨(some 326), .bin .neq (.tmp 325) (.const (.int .i64 0)), none, .f⟩,
   ⟨(some 327), .mv (.tmp 326), none, .f⟩,
   ⟨(some 328), .mv (.tmp 44), (some (327, false)), .f⟩,
   ⟨(some 329), .bin .neq (.tmp 328) (.const (.int .i64 0)), (some (327, false)), .f⟩,
   ⟨(some 330), .pick (.tmp 327) (.const (.bool true)) (.tmp 329), none, .f⟩,
   ⟨(some 331), .mv (.tmp 330), none, .f⟩,
   ⟨(some 332), .loadn 5 (.tmp 43), (some (331, false)), .f⟩,
   ⟨(some 333), .loadn 5 (.tmp 36), (some (331, false)), .f⟩,
   ⟨(some 334), .call (.func 27) [(.tmp 332), (.tmp 333)], (some (331, false)), .f⟩,
   ⟨(some 335), .un .not (.tmp 334), (some (331, false)), .f⟩,
   ⟨(some 336), .pick (.tmp 331) (.const (.bool true)) (.tmp 335), none, .f⟩])
  (.cond (.tmp 336) (.seq (.reg [⟨(some 2), .mv (.const (.bool false)), none, .f⟩])
  .ret) .skip)))) .skip))
  (.seq (.reg [⟨(some 338), .mv (.tmp 0), none, .f⟩,
   ⟨(some 339), .call (.func 39) [(.tmp 338)], none, .f⟩,
   ⟨(some 337), .mv (.tmp 339), none, .f⟩,
   ⟨(some 340), .ext (.tmp 337) 0, none, .f⟩,
   ⟨(some 341), .ext (.tmp 337) 1, none, .f⟩,
   ⟨(some 45), .alloc 36 [.int .i64 0, .int .i64 0, .int .i64 0, .int .i64 0, .slice none 0 0], none, .f⟩,
   ⟨(some 46), .alloc 36 [.int .i64 0, .int .i64 0, .int .i64 0, .int .i64 0, .slice none 0 0], none, .f⟩,
   ⟨none, .store 5 (.tmp 45) (.tmp 340), none, .f⟩,
   ⟨none, .store 5 (.tmp 46) (.tmp 341), none, .f⟩])
  (.seq (.reg [⟨(some 343), .loadn 5 (.tmp 45), none, .f⟩,
   ⟨(some 344), .loadn 5 (.tmp 46), none, .f⟩,
   ⟨(some 345), .call (.func 34) [(.tmp 343), (.tmp 344)], none, .f⟩,
   ⟨(some 342), .mv (.tmp 345), none, .f⟩,
   ⟨(some 346), .ext (.tmp 342) 0, none, .f⟩,
   ⟨(some 347), .ext (.tmp 342) 1, none, .f⟩,
   ⟨(some 47), .alloc 36 [.int .i64 0, .int .i64 0, .int .i64 0, .int .i64 0, .slice none 0 0], none, .f⟩,
   ⟨none, .store 5 (.tmp 47) (.tmp 346), none, .f⟩,
   ⟨(some 48), .mv (.tmp 347), none, .f⟩])
  (.seq (.reg [⟨(some 349), .loadn 5 (.tmp 45), none, .f⟩,
   ⟨(some 350), .loadn 5 (.tmp 46), none, .f⟩,
   ⟨(some 351), .call (.func 35) [(.tmp 349), (.tmp 350)], none, .f⟩,
   ⟨(some 348), .mv (.tmp 351), none, .f⟩,
   ⟨(some 352), .ext (.tmp 348) 0, none, .f⟩,
   ⟨(some 353), .ext (.tmp 348) 1, none, .f⟩,
   ⟨(some 49), .alloc 36 [.int .i64 0, .int .i64 0, .int .i64 0, .int .i64 0, .slice none 0 0], none, .f⟩,
   ⟨none, .store 5 (.tmp 49) (.tmp 352), none, .f⟩,
   ⟨(some 50), .mv (.tmp 353), none, .f⟩])
  (.seq (.reg [⟨(some 354), .mv (.tmp 48), none, .f⟩,
   ⟨(some 355), .mv (.tmp 50), none, .f⟩,
   ⟨(some 356), .bin .eql (.tmp 354) (.tmp 355), none, .f⟩,
   ⟨(some 357), .mv (.tmp 356), none, .f⟩,
   ⟨(some 358), .loadn 5 (.tmp 47), (some (357, true)), .f⟩,
   ⟨(some 359), .loadn 5 (.tmp 49), (some (357, true)), .f⟩,
   ⟨(some 360), .call (.func 27) [(.tmp 358), (.tmp 359)], (some (357, true)), .f⟩,
   ⟨(some 361), .pick (.tmp 357) (.tmp 360) (.const (.bool false)), none, .f⟩,
   ⟨(some 2), .mv (.tmp 361), none, .f⟩])
  .ret)))))))))))))))))))))))⟩

theorem s4 : compFn Try.prog Try.f4 = some c4 := by kernel_rfl

/-- loop.example/g01262/laws.big -/
def c13 : XFn :=
 ⟨[.tmp 2],
  (.seq (.reg [⟨(some 2), .mv (.const (.bool false)), none, .f⟩])
  (.seq (.reg [⟨(some 3), .mv (.tmp 0), none, .f⟩,
   ⟨(some 4), .len (.tmp 3), none, .f⟩,
   ⟨(some 5), .bin .gtr (.tmp 4) (.const (.int .i64 4096)), none, .f⟩,
   ⟨(some 2), .mv (.tmp 5), none, .f⟩])
  .ret))⟩

theorem s13 : compFn Try.prog Try.f13 = some c13 := by kernel_rfl

/-- loop.example/g01262/laws.likeInts -/
def c20 : XFn :=
 ⟨[.tmp 4],
  (.seq (.reg [⟨(some 4), .mv (.const (.bool false)), none, .f⟩])
  (.seq (.seq (.reg [⟨(some 6), .mv (.tmp 0), none, .f⟩,
   ⟨(some 7), .len (.tmp 6), none, .f⟩,
   ⟨(some 8), .mv (.tmp 1), none, .f⟩,
   ⟨(some 9), .len (.tmp 8), none, .f⟩,
   ⟨(some 10), .bin .neq (.tmp 7) (.tmp 9), none, .f⟩])
  (.cond (.tmp 10) (.seq (.reg [⟨(some 4), .mv (.const (.bool false)), none, .f⟩])
  .ret) .skip))
  (.seq (.seq (.reg [⟨(some 5), .mv (.const (.int .i64 0)), none, .f⟩])
  (.blk 0 (.loop (.seq (.seq (.reg [⟨(some 11), .mv (.tmp 5), none, .f⟩,
   ⟨(some 12), .mv (.tmp 0), none, .f⟩,
   ⟨(some 13), .len (.tmp 12), none, .f⟩,
   ⟨(some 14), .bin .lss (.tmp 11) (.tmp 13), none, .f⟩])
  (.cond (.tmp 14) .skip (.exit 0)))
  (.seq (.blk 1 (.seq (.reg [⟨(some 17), .mv (.tmp 0), none, .f⟩,
   ⟨(some 18), .mv (.tmp 5), none, .f⟩,
   ⟨(some 19), .ixs 1 (.tmp 17) (.tmp 18), none, .f⟩,
   ⟨(some 20), .load1 (.tmp 19), none, .f⟩,
   ⟨(some 21), .mv (.tmp 1), none, .f⟩,
   ⟨(some 22), .mv (.tmp 5), none, .f⟩,
   ⟨(some 23), .ixs 1 (.tmp 21) (.tmp 22), none, .f⟩,
   ⟨(some 24), .load1 (.tmp 23), none, .f⟩,
   ⟨(some 25), .bin .neq (.tmp 20) (.tmp 24), none, .f⟩])
  (.cond (.tmp 25) (.seq (.reg [⟨(some 4), .mv (.const (.bool false)), none, .f⟩])
  .ret) .skip)))
  (.reg [⟨(some 15), .mv (.tmp 5), none, .f⟩,
   ⟨(some 16), .bin .add (.tmp 15) (.const (.int .i64 1)), none, .f⟩,
   ⟨(some 5), .mv (.tmp 16), none, .f⟩]))))))
  (.seq (.reg [⟨(some 4), .mv (.const (.bool true)), none, .f⟩])
  .ret))))⟩

theorem s20 : compFn Try.prog Try.f20 = some c20 := by kernel_rfl

/-- loop.example/g01262/spec.DrawAddTensors -/
def c24 : XFn :=
 ⟨[.celln 2 5, .celln 3 5, .tmp 4],
  (.seq (.reg [⟨(some 2), .alloc 36 [.int .i64 0, .int .i64 0, .int .i64 0, .int .i64 0, .slice none 0 0], none, .f⟩,
   ⟨(some 3), .alloc 36 [.int .i64 0, .int .i64 0, .int .i64 0, .int .i64 0, .slice none 0 0], none, .f⟩,
   ⟨(some 4), .mv (.const (.int .i64 0)), none, .f⟩])
  (.seq (.reg [⟨(some 7), .mv (.tmp 0), none, .f⟩,
   ⟨(some 8), .call (.func 145) [(.tmp 7)], none, .f⟩,
   ⟨(some 5), .mv (.tmp 8), none, .f⟩])
  (.seq (.reg [⟨(some 9), .mv (.tmp 5), none, .f⟩,
   ⟨(some 10), .call (.func 172) [(.tmp 9)], none, .f⟩,
   ⟨(some 6), .alloc 36 [.int .i64 0, .int .i64 0, .int .i64 0, .int .i64 0, .slice none 0 0], none, .f⟩,
   ⟨none, .store 5 (.tmp 6) (.tmp 10), none, .f⟩])
  (.seq (.seq (.reg [⟨(some 11), .loadn 5 (.tmp 6), none, .f⟩,
   ⟨(some 12), .call (.func 173) [(.tmp 11)], none, .f⟩,
   ⟨(some 13), .un .not (.tmp 12), none, .f⟩,
   ⟨(some 14), .mv (.tmp 13), none, .f⟩,
   ⟨(some 15), .mv (.tmp 5), (some (14, false)), .f⟩,
   ⟨(some 16), .call (.func 148) [(.tmp 15), (.const (.int .i64 12))], (some (14, false)), .f⟩,
   ⟨(some 17), .bin .eql (.tmp 16) (.const (.int .i64 0)), (some (14, false)), .f⟩,
   ⟨(some 18), .pick (.tmp 14) (.const (.bool true)) (.tmp 17), none, .f⟩])
  (.cond (.tmp 18) (.seq (.reg [⟨(some 19), .loadn 5 (.tmp 6), none, .f⟩,
   ⟨(some 20), .mv (.tmp 5), none, .f⟩,
   ⟨(some 21), .call (.func 172) [(.tmp 20)], none, (.s true [(.tmp 6)])⟩,
   ⟨none, .store 5 (.tmp 2) (.tmp 19), none, .f⟩,
   ⟨none, .store 5 (.tmp 3) (.tmp 21), none, .f⟩,
   ⟨(some 4), .mv (.const (.int .i64 1)), none, .f⟩])
  .ret) .skip))
  (.seq (.reg [⟨(some 22), .loadn 5 (.tmp 6), none, .f⟩,
   ⟨(some 23), .mv (.tmp 5), none, .f⟩,
   ⟨(some 24), .loadn 5 (.tmp 6), none, .f⟩,
   ⟨(some 25), .call (.func 174) [(.tmp 23), (.tmp 24)], none, (.s true [(.tmp 6)])⟩,
   ⟨(some 26), .mv (.tmp 5), none, .f⟩,
   ⟨(some 27), .fadr 0 (.tmp 6), none, .f⟩,
   ⟨(some 28), .load1 (.tmp 27), none, (.s false [(.tmp 23)])⟩,
   ⟨(some 29), .bin .sub (.tmp 28) (.const (.int .i64 1)), none, .f⟩,
   ⟨(some 30), .call (.func 175) [(.tmp 26), (.tmp 29)], none, (.s true [(.tmp 6)])⟩,
   ⟨none, .store 5 (.tmp 2) (.tmp 22), none, .f⟩,
   ⟨none, .store 5 (.tmp 3) (.tmp 25), none, .f⟩,
   ⟨(some 4), .mv (.tmp 30), none, .f⟩])
  .ret)))))⟩

theorem s24 : compFn Try.prog Try.f24 = some c24 := by kernel_rfl

/-- loop.example/g01262/impl.AddTensors -/
def c25 : XFn :=
 ⟨[.celln 6 5, .tmp 7],
  (.seq (.reg [⟨(some 3), .box 36 (.tmp 0), none, .f⟩,
   ⟨(some 4), .box 36 (.tmp 1), none, .f⟩,
   ⟨(some 5), .box 2 (.tmp 2), none, .f⟩,
   ⟨(some 6), .alloc 36 [.int .i64 0, .int .i64 0, .int .i64 0, .int .i64 0, .slice none 0 0], none, .f⟩,
   ⟨(some 7), .mv (.const (.int .i64 0)), none, .f⟩])
  (.seq (.blk 0 (.seq (.reg [⟨(some 9), .loadn 5 (.tmp 3), none, .f⟩,
   ⟨(some 10), .loadn 5 (.tmp 4), none, .f⟩,
   ⟨(some 11), .bslice 36 5 2 [.int .i64 0, .int .i64 0, .int .i64 0, .int .i64 0, .slice none 0 0] [(0, 5, (.tmp 9)), (5, 5, (.tmp 10))], none, .f⟩,
   ⟨(some 12), .call (.func 176) [(.tmp 11)], none, .f⟩,
   ⟨(some 13), .un .not (.tmp 12), none, .f⟩,
   ⟨(some 8), .mv (.tmp 13), none, .f⟩])
  (.cond (.tmp 8) (.seq (.reg [⟨(some 14), .build [.int .i64 0, .int .i64 0, .int .i64 0, .int .i64 0, .slice none 0 0] [], none, .f⟩,
   ⟨none, .store 5 (.tmp 6) (.tmp 14), none, .f⟩,
   ⟨(some 7), .mv (.const (.int .i64 1)), none, .f⟩])
  .ret) (.seq (.reg [⟨(some 16), .fadr 0 (.tmp 3), none, .f⟩,
   ⟨(some 17), .load1 (.tmp 16), none, .f⟩,
   ⟨(some 18), .fadr 0 (.tmp 4), none, .f⟩,
   ⟨(some 19), .load1 (.tmp 18), none, .f⟩,
   ⟨(some 20), .bin .neq (.tmp 17) (.tmp 19), none, .f⟩,
   ⟨(some 21), .mv (.tmp 20), none, .f⟩,
   ⟨(some 22), .loadn 5 (.tmp 3), (some (21, false)), .f⟩,
   ⟨(some 23), .call (.func 177) [(.tmp 22)], (some (21, false)), .t⟩,
   ⟨(some 24), .loadn 5 (.tmp 4), (some (21, false)), .f⟩,
   ⟨(some 25), .call (.func 177) [(.tmp 24)], (some (21, false)), .f⟩,
   ⟨(some 26), .eqa true 3 (.tmp 23) (.tmp 25), (some (21, false)), .f⟩,
   ⟨(some 27), .pick (.tmp 21) (.const (.bool true)) (.tmp 26), none, .f⟩,
   ⟨(some 28), .mv (.tmp 27), none, .f⟩,
   ⟨(some 29), .load1 (.tmp 5), (some (28, false)), .f⟩,
   ⟨(some 30), .bin .lss (.tmp 29) (.const (.int .i64 0)), (some (28, false)), .f⟩,
   ⟨(some 31), .pick (.tmp 28) (.const (.bool true)) (.tmp 30), none, .f⟩,
   ⟨(some 32), .mv (.tmp 31), none, .f⟩,
   ⟨(some 33), .load1 (.tmp 5), (some (32, false)), .f⟩,
   ⟨(some 34), .fadr 0 (.tmp 3), (some (32, false)), .f⟩,
   ⟨(some 35), .load1 (.tmp 34), (some (32, false)), .f⟩,
   ⟨(some 36), .bin .geq (.tmp 33) (.tmp 35), (some (32, false)), .f⟩,
   ⟨(some 37), .pick (.tmp 32) (.const (.bool true)) (.tmp 36), none, .f⟩,
   ⟨(some 15), .mv (.tmp 37), none, .f⟩])
  (.cond (.tmp 15) (.seq (.reg [⟨(some 38), .build [.int .i64 0, .int .i64 0, .int .i64 0, .int .i64 0, .slice none 0 0] [], none, .f⟩,
   ⟨none, .store 5 (.tmp 6) (.tmp 38), none, .f⟩,
   ⟨(some 7), .mv (.const (.int .i64 2)), none, .f⟩])
  .ret) .skip)))))
  (.seq (.reg [⟨(some 39), .fadr 0 (.tmp 3), none, .f⟩,
   ⟨(some 40), .load1 (.tmp 39), none, .f⟩,
   ⟨(some 41), .fadr 1 (.tmp 3), none, .f⟩,
   ⟨(some 42), .load1 (.tmp 41), none, .f⟩,
   ⟨(some 43), .fadr 2 (.tmp 3), none, .f⟩,
   ⟨(some 44), .load1 (.tmp 43), none, .f⟩,
   ⟨(some 45), .fadr 3 (.tmp 3), none, .f⟩,
   ⟨(some 46), .load1 (.tmp 45), none, .f⟩,
   ⟨(some 47), .mkf 179 [(.tmp 3), (.tmp 5), (.tmp 4)], none, .f⟩,
   ⟨(some 48), .call (.func 178) [(.tmp 40), (.tmp 42), (.tmp 44), (.tmp 46), (.tmp 47)], none, .f⟩,
   ⟨none, .store 5 (.tmp 6) (.tmp 48), none, .f⟩,
   ⟨(some 7), .mv (.const (.int .i64 0)), none, .f⟩])
  .ret)))⟩

theorem s25 : compFn Try.prog Try.f25 = some c25 := by kernel_rfl

/-- loop.example/g01262/spec.AddTensors -/
def c26 : XFn :=
 ⟨[.celln 6 5, .tmp 7],
  (.seq (.reg [⟨(some 3), .box 36 (.tmp 0), none, .f⟩,
   ⟨(some 4), .box 36 (.tmp 1), none, .f⟩,
   ⟨(some 6), .alloc 36 [.int .i64 0, .int .i64 0, .int .i64 0, .int .i64 0, .slice none 0 0], none, .f⟩,
   ⟨(some 7), .mv (.const (.int .i64 0)), none, .f⟩])
  (.seq (.blk 0 (.seq (.reg [⟨(some 11), .loadn 5 (.tmp 3), none, .f⟩,
   ⟨(some 12), .call (.func 173) [(.tmp 11)], none, .f⟩,
   ⟨(some 13), .un .not (.tmp 12), none, .f⟩,
   ⟨(some 14), .mv (.tmp 13), none, .f⟩,
   ⟨(some 15), .loadn 5 (.tmp 4), (some (14, false)), .f⟩,
   ⟨(some 16), .call (.func 173) [(.tmp 15)], (some (14, false)), .f⟩,
   ⟨(some 17), .un .not (.tmp 16), (some (14, false)), .f⟩,
   ⟨(some 18), .pick (.tmp 14) (.const (.bool true)) (.tmp 17), none, .f⟩,
   ⟨(some 10), .mv (.tmp 18), none, .f⟩])
  (.cond (.tmp 10) (.seq (.reg [⟨(some 19), .build [.int .i64 0, .int .i64 0, .int .i64 0, .int .i64 0, .slice none 0 0] [], none, .f⟩,
   ⟨none, .store 5 (.tmp 6) (.tmp 19), none, .f⟩,
   ⟨(some 7), .mv (.const (.int .i64 1)), none, .f⟩])
  .ret) (.seq (.reg [⟨(some 21), .fadr 0 (.tmp 3), none, .f⟩,
   ⟨(some 22), .load1 (.tmp 21), none, .f⟩,
   ⟨(some 23), .fadr 0 (.tmp 4), none, .f⟩,
   ⟨(some 24), .load1 (.tmp 23), none, .f⟩,
   ⟨(some 25), .bin .neq (.tmp 22) (.tmp 24), none, .f⟩,
   ⟨(some 26), .mv (.tmp 25), none, .f⟩,
   ⟨(some 27), .fadr 1 (.tmp 3), (some (26, false)), .f⟩,
   ⟨(some 28), .load1 (.tmp 27), (some (26, false)), .f⟩,
   ⟨(some 29), .fadr 1 (.tmp 4), (some (26, false)), .f⟩,
   ⟨(some 30), .load1 (.tmp 29), (some (26, false)), .f⟩,
   ⟨(some 31), .bin .neq (.tmp 28) (.tmp 30), (some (26, false)), .f⟩,
   ⟨(some 32), .pick (.tmp 26) (.const (.bool true)) (.tmp 31), none, .f⟩,
   ⟨(some 33), .mv (.tmp 32), none, .f⟩,
   ⟨(some 34), .fadr 2 (.tmp 3), (some (33, false)), .f⟩,
   ⟨(some 35), .load1 (.tmp 34), (some (33, false)), .f⟩,
   ⟨(some 36), .fadr 2 (.tmp 4), (some (33, false)), .f⟩,
   ⟨(some 37), .load1 (.tmp 36), (some (33, false)), .f⟩,
   ⟨(some 38), .bin .neq (.tmp 35) (.tmp 37), (some (33, false)), .f⟩,
   ⟨(some 39), .pick (.tmp 33) (.const (.bool true)) (.tmp 38), none, .f⟩,
   ⟨(some 40), .mv (.tmp 39), none, .f⟩,
   ⟨(some 41), .fadr 3 (.tmp 3), (some (40, false)), .f⟩,
   ⟨(some 42), .load1 (.tmp 41), (some (40, false)), .f⟩,
   ⟨(some 43), .fadr 3 (.tmp 4), (some (40, false)), .f⟩,
   ⟨(some 44), .load1 (.tmp 43), (some (40, false)), .f⟩,
   ⟨(some 45), .bin .neq (.tmp 42) (.tmp 44), (some (40, false)), .f⟩,
   ⟨(some 46), .pick (.tmp 40) (.const (.bool true)) (.tmp 45), none, .f⟩,
   ⟨(some 47), .mv (.tmp 46), none, .f⟩,
   ⟨(some 48), .mv (.tmp 2), (some (47, false)), .f⟩,
   ⟨(some 49), .fadr 0 (.tmp 3), (some (47, false)), .f⟩,
   ⟨(some 50), .load1 (.tmp 49), (some (47, false)), .f⟩,
   ⟨(some 51), .bin .sub (.tmp 50) (.const (.int .i64 1)), (some (47, false)), .f⟩,
   ⟨(some 52), .call (.func 181) [(.tmp 48), (.const (.int .i64 0)), (.tmp 51)], (some (47, false)), .f⟩,
   ⟨(some 53), .un .not (.tmp 52), (some (47, false)), .f⟩,
   ⟨(some 54), .pick (.tmp 47) (.const (.bool true)) (.tmp 53), none, .f⟩,
   ⟨(some 20), .mv (.tmp 54), none, .f⟩])
  (.cond (.tmp 20) (.seq (.reg [⟨(some 55), .build [.int .i64 0, .int .i64 0, .int .i64 0, .int .i64 0, .slice none 0 0] [], none, .f⟩,
   ⟨none, .store 5 (.tmp 6) (.tmp 55), none, .f⟩,
   ⟨(some 7), .mv (.const (.int .i64 2)), none, .f⟩])
  .ret) .skip)))))
  (.seq (.reg [⟨(some 56), .fadr 0 (.tmp 3), none, .f⟩,
   ⟨(some 57), .load1 (.tmp 56), none, .f⟩,
   ⟨(some 58), .fadr 1 (.tmp 3), none, .f⟩,
   ⟨(some 59), .load1 (.tmp 58), none, .f⟩,
   ⟨(some 60), .fadr 2 (.tmp 3), none, .f⟩,
   ⟨(some 61), .load1 (.tmp 60), none, .f⟩,
   ⟨(some 62), .fadr 3 (.tmp 3), none, .f⟩,
   ⟨(some 63), .load1 (.tmp 62), none, .f⟩,
   ⟨(some 64), .call (.func 182) [(.tmp 57), (.tmp 59), (.tmp 61), (.tmp 63)], none, .f⟩,
   ⟨(some 8), .alloc 36 [.int .i64 0, .int .i64 0, .int .i64 0, .int .i64 0, .slice none 0 0], none, .f⟩,
   ⟨none, .store 5 (.tmp 8) (.tmp 64), none, .f⟩])
  (.seq (.seq (.reg [⟨(some 9), .mv (.const (.int .i64 0)), none, .f⟩])
  (.blk 1 (.loop (.seq (.seq (.reg [⟨(some 65), .mv (.tmp 9), none, .f⟩,
   ⟨(some 66), .fadr 4 (.tmp 3), none, .f⟩,
   ⟨(some 67), .load1 (.tmp 66), none, .f⟩,
   ⟨(some 68), .len (.tmp 67), none, .f⟩,
   ⟨(some 69), .bin .lss (.tmp 65) (.tmp 68), none, .f⟩])
  (.cond (.tmp 69) .skip (.exit 1)))
  (.seq (.blk 2 (.reg [⟨(some 72), .fadr 4 (.tmp 8), none, .f⟩,
   ⟨(some 73), .load1 (.tmp 72), none, .f⟩,
   ⟨(some 74), .mv (.tmp 9), none, .f⟩,
   ⟨(some 75), .fadr 4 (.tmp 3), none, .f⟩,
   ⟨(some 76), .load1 (.tmp 75), none, .f⟩,
   ⟨(some 77), .mv (.tmp 9), none, .f⟩,
   ⟨(some 78), .ixs 1 (.tmp 76) (.tmp 77), none, .f⟩,
   ⟨(some 79), .load1 (.tmp 78), none, .f⟩,
   ⟨(some 80), .mv (.tmp 2), none, .f⟩,
   ⟨(some 81), .fadr 4 (.tmp 4), none, .f⟩,
   ⟨(some 82), .load1 (.tmp 81), none, .f⟩,
   ⟨(some 83), .mv (.tmp 9), none, .f⟩,
   ⟨(some 84), .ixs 1 (.tmp 82) (.tmp 83), none, .f⟩,
   ⟨(some 85), .load1 (.tmp 84), none, .f⟩,
   ⟨(some 86), .bin .mul (.tmp 80) (.tmp 85), none, .f⟩,
   ⟨(some 87), .bin .add (.tmp 79) (.tmp 86), none, .f⟩,
   ⟨(some 88), .fadr 0 (.tmp 3), none, .f⟩,
   ⟨(some 89), .load1 (.tmp 88), none, .f⟩,
   ⟨(some 90), .bin .rem (.tmp 87) (.tmp 89), none, .f⟩,
   ⟨(some 91), .ixs 1 (.tmp 73) (.tmp 74), none, .f⟩,
   ⟨none, .store 1 (.tmp 91) (.tmp 90), none, .f⟩]))
  (.reg [⟨(some 70), .mv (.tmp 9), none, .f⟩,
   ⟨(some 71), .bin .add (.tmp 70) (.const (.int .i64 1)), none, .f⟩,
   ⟨(some 9), .mv (.tmp 71), none, .f⟩]))))))
  (.seq (.reg [⟨(some 92), .loadn 5 (.tmp 8), none, .f⟩,
   ⟨none, .store 5 (.tmp 6) (.tmp 92), none, .f⟩,
   ⟨(some 7), .mv (.const (.int .i64 0)), none, .f⟩])
  .ret)))))⟩

theorem s26 : compFn Try.prog Try.f26 = some c26 := by kernel_rfl

/-- loop.example/g01262/laws.tensors5 -/
def c27 : XFn :=
 ⟨[.tmp 4],
  (.seq (.reg [⟨(some 2), .box 36 (.tmp 0), none, .f⟩,
   ⟨(some 3), .box 36 (.tmp 1), none, .f⟩,
   ⟨(some 4), .mv (.const (.bool false)), none, .f⟩])
  (.seq (.reg [⟨(some 5), .fadr 0 (.tmp 2), none, .f⟩,
   ⟨(some 6), .load1 (.tmp 5), none, .f⟩,
   ⟨(some 7), .fadr 0 (.tmp 3), none, .f⟩,
   ⟨(some 8), .load1 (.tmp 7), none, .f⟩,
   ⟨(some 9), .bin .eql (.tmp 6) (.tmp 8), none, .f⟩,
   ⟨(some 10), .mv (.tmp 9), none, .f⟩,
   ⟨(some 11), .fadr 1 (.tmp 2), (some (10, true)), .f⟩,
   ⟨(some 12), .load1 (.tmp 11), (some (10, true)), .f⟩,
   ⟨(some 13), .fadr 1 (.tmp 3), (some (10, true)), .f⟩,
   ⟨(some 14), .load1 (.tmp 13), (some (10, true)), .f⟩,
   ⟨(some 15), .bin .eql (.tmp 12) (.tmp 14), (some (10, true)), .f⟩,
   ⟨(some 16), .pick (.tmp 10) (.tmp 15) (.const (.bool false)), none, .f⟩,
   ⟨(some 17), .mv (.tmp 16), none, .f⟩,
   ⟨(some 18), .fadr 2 (.tmp 2), (some (17, true)), .f⟩,
   ⟨(some 19), .load1 (.tmp 18), (some (17, true)), .f⟩,
   ⟨(some 20), .fadr 2 (.tmp 3), (some (17, true)), .f⟩,
   ⟨(some 21), .load1 (.tmp 20), (some (17, true)), .f⟩,
   ⟨(some 22), .bin .eql (.tmp 19) (.tmp 21), (some (17, true)), .f⟩,
   ⟨(some 23), .pick (.tmp 17) (.tmp 22) (.const (.bool false)), none, .f⟩,
   ⟨(some 24), .mv (.tmp 23), none, .f⟩,
   ⟨(some 25), .fadr 3 (.tmp 2), (some (24, true)), .f⟩,
   ⟨(some 26), .load1 (.tmp 25), (some (24, true)), .f⟩,
   ⟨(some 27), .fadr 3 (.tmp 3), (some (24, true)), .f⟩,
   ⟨(some 28), .load1 (.tmp 27), (some (24, true)), .f⟩,
   ⟨(some 29), .bin .eql (.tmp 26) (.tmp 28), (some (24, true)), .f⟩,
   ⟨(some 30), .pick (.tmp 24) (.tmp 29) (.const (.bool false)), none, .f⟩,
   ⟨(some 31), .mv (.tmp 30), none, .f⟩,
   ⟨(some 32), .fadr 4 (.tmp 2), (some (31, true)), .f⟩,
   ⟨(some 33), .load1 (.tmp 32), (some (31, true)), .f⟩,
   ⟨(some 34), .fadr 4 (.tmp 3), (some (31, true)), .f⟩,
   ⟨(some 35), .load1 (.tmp 34), (some (31, true)), .f⟩,
   ⟨(some 36), .call (.func 20) [(.tmp 33), (.tmp 35)], (some (31, true)), .f⟩,
   ⟨(some 37), .pick (.tmp 31) (.tmp 36) (.const (.bool false)), none, .f⟩,
   ⟨(some 4), .mv (.tmp 37), none, .f⟩])
  .ret))⟩

theorem s27 : compFn Try.prog Try.f27 = some c27 := by kernel_rfl

/-- loop.example/g01262/impl.IsTensor -/
def c28 : XFn :=
 ⟨[.tmp 2],
  (.seq (.reg [⟨(some 1), .box 36 (.tmp 0), none, .f⟩,
   ⟨(some 2), .mv (.const (.bool false)), none, .f⟩])
  (.seq (.reg [⟨(some 3), .fadr 0 (.tmp 1), none, .f⟩,
   ⟨(some 4), .load1 (.tmp 3), none, .f⟩,
   ⟨(some 5), .call (.func 166) [(.tmp 4)], none, .f⟩,
   ⟨(some 6), .mv (.tmp 5), none, .f⟩,
   ⟨(some 7), .fadr 1 (.tmp 1), (some (6, true)), .f⟩,
   ⟨(some 8), .load1 (.tmp 7), (some (6, true)), .f⟩,
   ⟨(some 9), .fadr 2 (.tmp 1), (some (6, true)), .f⟩,
   ⟨(some 10), .load1 (.tmp 9), (some (6, true)), .f⟩,
   ⟨(some 11), .fadr 3 (.tmp 1), (some (6, true)), .f⟩,
   ⟨(some 12), .load1 (.tmp 11), (some (6, true)), .f⟩,
   ⟨(some 13), .bslice 2 1 3 [.int .i64 0] [(0, 1, (.tmp 8)), (1, 1, (.tmp 10)), (2, 1, (.tmp 12))], (some (6, true)), .f⟩,
   ⟨(some 14), .call (.func 183) [(.tmp 13)], (some (6, true)), .f⟩,
   ⟨(some 15), .pick (.tmp 6) (.tmp 14) (.const (.bool false)), none, .f⟩,
   ⟨(some 16), .mv (.tmp 15), none, .f⟩,
   ⟨(some 17), .fadr 4 (.tmp 1), (some (16, true)), .f⟩,
   ⟨(some 18), .load1 (.tmp 17), (some (16, true)), .f⟩,
   ⟨(some 19), .len (.tmp 18), (some (16, true)), .f⟩,
   ⟨(some 20), .fadr 1 (.tmp 1), (some (16, true)), .f⟩,
   ⟨(some 21), .load1 (.tmp 20), (some (16, true)), .f⟩,
   ⟨(some 22), .fadr 2 (.tmp 1), (some (16, true)), .f⟩,
   ⟨(some 23), .load1 (.tmp 22), (some (16, true)), .f⟩,
   ⟨(some 24), .bin .mul (.tmp 21) (.tmp 23), (some (16, true)), .f⟩,
   ⟨(some 25), .fadr 3 (.tmp 1), (some (16, true)), .f⟩,
   ⟨(some 26), .load1 (.tmp 25), (some (16, true)), .f⟩,
   ⟨(some 27), .bin .mul (.tmp 24) (.tmp 26), (some (16, true)), .f⟩,
   ⟨(some 28), .bin .eql (.tmp 19) (.tmp 27), (some (16, true)), .f⟩,
   ⟨(some 29), .pick (.tmp 16) (.tmp 28) (.const (.bool false)), none, .f⟩,
   ⟨(some 30), .mv (.tmp 29), none, .f⟩,
   ⟨(some 31), .fadr 0 (.tmp 1), (some (30, true)), .f⟩,
   ⟨(some 32), .load1 (.tmp 31), (some (30, true)), .f⟩,
   ⟨(some 33), .fadr 4 (.tmp 1), (some (30, true)), .f⟩,
   ⟨(some 34), .load1 (.tmp 33), (some (30, true)), .f⟩,
   ⟨(some 35), .call (.func 184) [(.tmp 32), (.tmp 34)], (some (30, true)), .f⟩,
   ⟨(some 36), .pick (.tmp 30) (.tmp 35) (.const (.bool false)), none, .f⟩,
   ⟨(some 2), .mv (.tmp 36), none, .f⟩])
  .ret))⟩

theorem s28 : compFn Try.prog Try.f28 = some c28 := by kernel_rfl

/-- loop.example/g01262/spec.IsTensor -/
def c29 : XFn :=
 ⟨[.tmp 2],
  (.seq (.reg [⟨(some 1), .box 36 (.tmp 0), none, .f⟩,
   ⟨(some 2), .mv (.const (.bool false)), none, .f⟩])
  (.seq (.reg [⟨(some 3), .loadn 5 (.tmp 1), none, .f⟩,
   ⟨(some 4), .call (.func 173) [(.tmp 3)], none, .f⟩,
   ⟨(some 2), .mv (.tmp 4), none, .f⟩])
  .ret))⟩

theorem s29 : compFn Try.prog Try.f29 = some c29 := by kernel_rfl

/-- loop.example/g01262/impl.FlattenRanks -/
def c30 : XFn :=
 ⟨[.tmp 2, .tmp 3],
  (.seq (.reg [⟨(some 1), .box 36 (.tmp 0), none, .f⟩,
   ⟨(some 2), .mv (.const (.slice none 0 0)), none, .f⟩,
   ⟨(some 3), .mv (.const (.int .i64 0)), none, .f⟩])
  (.seq (.seq (.reg [⟨(some 4), .loadn 5 (.tmp 1), none, .f⟩,
   ⟨(some 5), .call (.func 28) [(.tmp 4)], none, .f⟩,
   ⟨(some 6), .un .not (.tmp 5), none, .f⟩])
  (.cond (.tmp 6) (.seq (.reg [⟨(some 2), .mv (.const (.slice none 0 0)), none, .f⟩,
   ⟨(some 3), .mv (.const (.int .i64 1)), none, .f⟩])
  .ret) .skip))
  (.seq (.reg [⟨(some 7), .loadn 5 (.tmp 1), none, .f⟩,
   ⟨(some 8), .call (.func 185) [(.tmp 7)], none, .f⟩,
   ⟨(some 2), .mv (.tmp 8), none, .f⟩,
   ⟨(some 3), .mv (.const (.int .i64 0)), none, .f⟩])
  .ret)))⟩

theorem s30 : compFn Try.prog Try.f30 = some c30 := by kernel_rfl

/-- loop.example/g01262/spec.DrawDirectSum -/
def c31 : XFn :=
 ⟨[.celln 2 5, .celln 3 5],
  (.seq (.reg [⟨(some 2), .alloc 36 [.int .i64 0, .int .i64 0, .int .i64 0, .int .i64 0, .slice none 0 0], none, .f⟩,
   ⟨(some 3), .alloc 36 [.int .i64 0, .int .i64 0, .int .i64 0, .int .i64 0, .slice none 0 0], none, .f⟩])
  (.seq (.reg [⟨(some 7), .mv (.tmp 0), none, .f⟩,
   ⟨(some 8), .call (.func 186) [(.tmp 7)], none, .f⟩,
   ⟨(some 6), .mv (.tmp 8), none, .f⟩,
   ⟨(some 9), .ext (.tmp 6) 0, none, .f⟩,
   ⟨(some 10), .ext (.tmp 6) 1, none, .f⟩,
   ⟨(some 4), .alloc 36 [.int .i64 0, .int .i64 0, .int .i64 0, .int .i64 0, .slice none 0 0], none, .f⟩,
   ⟨(some 5), .alloc 36 [.int .i64 0, .int .i64 0, .int .i64 0, .int .i64 0, .slice none 0 0], none, .f⟩,
   ⟨none, .store 5 (.tmp 4) (.tmp 9), none, .f⟩,
   ⟨none, .store 5 (.tmp 5) (.tmp 10), none, .f⟩])
  (.seq (.reg [⟨(some 11), .loadn 5 (.tmp 4), none, .f⟩,
   ⟨(some 12), .loadn 5 (.tmp 5), none, .f⟩,
   ⟨none, .store 5 (.tmp 2) (.tmp 11), none, (.s false [(.tmp 5)])⟩,
   ⟨none, .store 5 (.tmp 3) (.tmp 12), none, .f⟩])
  .ret)))⟩

theorem s31 : compFn Try.prog Try.f31 = some c31 := by kernel_rfl

/-- loop.example/g01262/impl.DirectSum -/
def c32 : XFn :=
 ⟨[.celln 4 5, .tmp 5],
  (.seq (.reg [⟨(some 2), .box 36 (.tmp 0), none, .f⟩,
   ⟨(some 3), .box 36 (.tmp 1), none, .f⟩,
   ⟨(some 4), .alloc 36 [.int .i64 0, .int .i64 0, .int .i64 0, .int .i64 0, .slice none 0 0], none, .f⟩,
   ⟨(some 5), .mv (.const (.int .i64 0)), none, .f⟩])
  (.seq (.seq (.reg [⟨(some 7), .loadn 5 (.tmp 2), none, .f⟩,
   ⟨(some 8), .loadn 5 (.tmp 3), none, .f⟩,
   ⟨(some 9), .fadr 1 (.tmp 2), none, .f⟩,
   ⟨(some 10), .load1 (.tmp 9), none, .f⟩,
   ⟨(some 11), .fadr 1 (.tmp 3), none, .f⟩,
   ⟨(some 12), .load1 (.tmp 11), none, .f⟩,
   ⟨(some 13), .bin .add (.tmp 10) (.tmp 12), none, .f⟩,
   ⟨(some 14), .fadr 2 (.tmp 2), none, .f⟩,
   ⟨(some 15), .load1 (.tmp 14), none, .f⟩,
   ⟨(some 16), .fadr 2 (.tmp 3), none, .f⟩,
   ⟨(some 17), .load1 (.tmp 16), none, .f⟩,
   ⟨(some 18), .bin .add (.tmp 15) (.tmp 17), none, .f⟩,
   ⟨(some 19), .fadr 3 (.tmp 2), none, .f⟩,
   ⟨(some 20), .load1 (.tmp 19), none, .f⟩,
   ⟨(some 21), .fadr 3 (.tmp 3), none, .f⟩,
   ⟨(some 22), .load1 (.tmp 21), none, .f⟩,
   ⟨(some 23), .bin .add (.tmp 20) (.tmp 22), none, .f⟩,
   ⟨(some 24), .bslice 2 1 3 [.int .i64 0] [(0, 1, (.tmp 13)), (1, 1, (.tmp 18)), (2, 1, (.tmp 23))], none, .f⟩,
   ⟨(some 25), .call (.func 187) [(.tmp 7), (.tmp 8), (.tmp 24)], none, .f⟩,
   ⟨(some 6), .mv (.tmp 25), none, .f⟩])
  (.seq (.reg [⟨(some 26), .mv (.tmp 6), none, .f⟩,
   ⟨(some 27), .bin .neq (.tmp 26) (.const (.int .i64 0)), none, .f⟩])
  (.cond (.tmp 27) (.seq (.reg [⟨(some 28), .build [.int .i64 0, .int .i64 0, .int .i64 0, .int .i64 0, .slice none 0 0] [], none, .f⟩,
   ⟨(some 29), .mv (.tmp 6), none, .f⟩,
   ⟨none, .store 5 (.tmp 4) (.tmp 28), none, .f⟩,
   ⟨(some 5), .mv (.tmp 29), none, .f⟩])
  .ret) .skip)))
  (.seq (.reg [⟨(some 30), .fadr 0 (.tmp 2), none, .f⟩,
   ⟨(some 31), .load1 (.tmp 30), none, .f⟩,
   ⟨(some 32), .fadr 1 (.tmp 2), none, .f⟩,
   ⟨(some 33), .load1 (.tmp 32), none, .f⟩,
   ⟨(some 34), .fadr 1 (.tmp 3), none, .f⟩,
   ⟨(some 35), .load1 (.tmp 34), none, .f⟩,
   ⟨(some 36), .bin .add (.tmp 33) (.tmp 35), none, .f⟩,
   ⟨(some 37), .fadr 2 (.tmp 2), none, .f⟩,
   ⟨(some 38), .load1 (.tmp 37), none, .f⟩,
   ⟨(some 39), .fadr 2 (.tmp 3), none, .f⟩,
   ⟨(some 40), .load1 (.tmp 39), none, .f⟩,
   ⟨(some 41), .bin .add (.tmp 38) (.tmp 40), none, .f⟩,
   ⟨(some 42), .fadr 3 (.tmp 2), none, .f⟩,
   ⟨(some 43), .load1 (.tmp 42), none, .f⟩,
   ⟨(some 44), .fadr 3 (.tmp 3), none, .f⟩,
   ⟨(some 45), .load1 (.tmp 44), none, .f⟩,
   ⟨(some 46), .bin .add (.tmp 43) (.tmp 45), none, .f⟩,
   ⟨(some 47), .mkf 188 [(.tmp 2), (.tmp 3)], none, .f⟩,
   ⟨(some 48), .call (.func 178) [(.tmp 31), (.tmp 36), (.tmp 41), (.tmp 46), (.tmp 47)], none, .f⟩,
   ⟨none, .store 5 (.tmp 4) (.tmp 48), none, .f⟩,
   ⟨(some 5), .mv (.const (.int .i64 0)), none, .f⟩])
  .ret)))⟩

theorem s32 : compFn Try.prog Try.f32 = some c32 := by kernel_rfl

/-- loop.example/g01262/spec.DirectSum -/
def c33 : XFn :=
 ⟨[.celln 4 5, .tmp 5],
  (.seq (.reg [⟨(some 2), .box 36 (.tmp 0), none, .f⟩,
   ⟨(some 3), .box 36 (.tmp 1), none, .f⟩,
   ⟨(some 4), .alloc 36 [.int .i64 0, .int .i64 0, .int .i64 0, .int .i64 0, .slice none 0 0], none, .f⟩,
   ⟨(some 5), .mv (.const (.int .i64 0)), none, .f⟩])
  (.seq (.seq (.reg [⟨(some 12), .loadn 5 (.tmp 2), none, .f⟩,
   ⟨(some 13), .loadn 5 (.tmp 3), none, .f⟩,
   ⟨(some 14), .call (.func 189) [(.tmp 12), (.tmp 13)], none, .f⟩,
   ⟨(some 6), .mv (.tmp 14), none, .f⟩])
  (.seq (.reg [⟨(some 15), .mv (.tmp 6), none, .f⟩,
   ⟨(some 16), .bin .neq (.tmp 15) (.const (.int .i64 0)), none, .f⟩])
  (.cond (.tmp 16) (.seq (.reg [⟨(some 17), .build [.int .i64 0, .int .i64 0, .int .i64 0, .int .i64 0, .slice none 0 0] [], none, .f⟩,
   ⟨(some 18), .mv (.tmp 6), none, .f⟩,
   ⟨none, .store 5 (.tmp 4) (.tmp 17), none, .f⟩,
   ⟨(some 5), .mv (.tmp 18), none, .f⟩])
  .ret) .skip)))
  (.seq (.seq (.reg [⟨(some 19), .fadr 1 (.tmp 2), none, .f⟩,
   ⟨(some 20), .load1 (.tmp 19), none, .f⟩,
   ⟨(some 21), .fadr 1 (.tmp 3), none, .f⟩,
   ⟨(some 22), .load1 (.tmp 21), none, .f⟩,
   ⟨(some 23), .bin .add (.tmp 20) (.tmp 22), none, .f⟩,
   ⟨(some 24), .fadr 2 (.tmp 2), none, .f⟩,
   ⟨(some 25), .load1 (.tmp 24), none, .f⟩,
   ⟨(some 26), .fadr 2 (.tmp 3), none, .f⟩,
   ⟨(some 27), .load1 (.tmp 26), none, .f⟩,
   ⟨(some 28), .bin .add (.tmp 25) (.tmp 27), none, .f⟩,
   ⟨(some 29), .fadr 3 (.tmp 2), none, .f⟩,
   ⟨(some 30), .load1 (.tmp 29), none, .f⟩,
   ⟨(some 31), .fadr 3 (.tmp 3), none, .f⟩,
   ⟨(some 32), .load1 (.tmp 31), none, .f⟩,
   ⟨(some 33), .bin .add (.tmp 30) (.tmp 32), none, .f⟩,
   ⟨(some 34), .mm true (.tmp 23) [(.tmp 28), (.tmp 33)], none, .f⟩,
   ⟨(some 35), .bin .gtr (.tmp 34) (.const (.int .i64 9)), none, .f⟩])
  (.cond (.tmp 35) (.seq (.reg [⟨(some 36), .build [.int .i64 0, .int .i64 0, .int .i64 0, .int .i64 0, .slice none 0 0] [], none, .f⟩,
   ⟨none, .store 5 (.tmp 4) (.tmp 36), none, .f⟩,
   ⟨(some 5), .mv (.const (.int .i64 3)), none, .f⟩])
  .ret) .skip))
  (.seq (.reg [⟨(some 37), .fadr 0 (.tmp 2), none, .f⟩,
   ⟨(some 38), .load1 (.tmp 37), none, .f⟩,
   ⟨(some 39), .fadr 1 (.tmp 2), none, .f⟩,
   ⟨(some 40), .load1 (.tmp 39), none, .f⟩,
   ⟨(some 41), .fadr 1 (.tmp 3), none, .f⟩,
   ⟨(some 42), .load1 (.tmp 41), none, .f⟩,
   ⟨(some 43), .bin .add (.tmp 40) (.tmp 42), none, .f⟩,
   ⟨(some 44), .fadr 2 (.tmp 2), none, .f⟩,
   ⟨(some 45), .load1 (.tmp 44), none, .f⟩,
   ⟨(some 46), .fadr 2 (.tmp 3), none, .f⟩,
   ⟨(some 47), .load1 (.tmp 46), none, .f⟩,
   ⟨(some 48), .bin .add (.tmp 45) (.tmp 47), none, .f⟩,
   ⟨(some 49), .fadr 3 (.tmp 2), none, .f⟩,
   ⟨(some 50), .load1 (.tmp 49), none, .f⟩,
   ⟨(some 51), .fadr 3 (.tmp 3), none, .f⟩,
   ⟨(some 52), .load1 (.tmp 51), none, .f⟩,
   ⟨(some 53), .bin .add (.tmp 50) (.tmp 52), none, .f⟩,
   ⟨(some 54), .call (.func 182) [(.tmp 38), (.tmp 43), (.tmp 48), (.tmp 53)], none, .f⟩,
   ⟨(some 7), .alloc 36 [.int .i64 0, .int .i64 0, .int .i64 0, .int .i64 0, .slice none 0 0], none, .f⟩,
   ⟨none, .store 5 (.tmp 7) (.tmp 54), none, .f⟩])
  (.seq (.seq (.reg [⟨(some 8), .mv (.const (.int .i64 0)), none, .f⟩])
  (.blk 0 (.loop (.seq (.seq (.reg [⟨(some 55), .mv (.tmp 8), none, .f⟩,
   ⟨(some 56), .fadr 1 (.tmp 7), none, .f⟩,
   ⟨(some 57), .load1 (.tmp 56), none, .f⟩,
   ⟨(some 58), .bin .lss (.tmp 55) (.tmp 57), none, .f⟩])
  (.cond (.tmp 58) .skip (.exit 0)))
  (.seq (.blk 1 (.seq (.reg [⟨(some 9), .mv (.const (.int .i64 0)), none, .f⟩])
  (.blk 2 (.loop (.seq (.seq (.reg [⟨(some 61), .mv (.tmp 9), none, .f⟩,
   ⟨(some 62), .fadr 2 (.tmp 7), none, .f⟩,
   ⟨(some 63), .load1 (.tmp 62), none, .f⟩,
   ⟨(some 64), .bin .lss (.tmp 61) (.tmp 63), none, .f⟩])
  (.cond (.tmp 64) .skip (.exit 2)))
  (.seq (.blk 3 (.seq (.reg [⟨(some 10), .mv (.const (.int .i64 0)), none, .f⟩])
  (.blk 4 (.loop (.seq (.seq (.reg [⟨(some 67), .mv (.tmp 10), none, .f⟩,
   ⟨(some 68), .fadr 3 (.tmp 7), none, .f⟩,
   ⟨(some 69), .load1 (.tmp 68), none, .f⟩,
   ⟨(some 70), .bin .lss (.tmp 67) (.tmp 69), none, .f⟩])
  (.cond (.tmp 70) .skip (.exit 4)))
  (.seq (.blk 5 (.seq (.reg [⟨(some 73), .mv (.tmp 8), none, .f⟩,
   ⟨(some 74), .fadr 2 (.tmp 7), none, .f⟩,
   ⟨(some 75), .load1 (.tmp 74), none, .f⟩,
   ⟨(some 76), .bin .mul (.tmp 73) (.tmp 75), none, .f⟩,
   ⟨(some 77), .mv (.tmp 9), none, .f⟩,
   ⟨(some 78), .bin .add (.tmp 76) (.tmp 77), none, .f⟩,
   ⟨(some 79), .fadr 3 (.tmp 7), none, .f⟩,
   ⟨(some 80), .load1 (.tmp 79), none, .f⟩,
   ⟨(some 81), .bin .mul (.tmp 78) (.tmp 80), none, .f⟩,
   ⟨(some 82), .mv (.tmp 10), none, .f⟩,
   ⟨(some 83), .bin .add (.tmp 81) (.tmp 82), none, .f⟩,
   ⟨(some 11), .mv (.tmp 83), none, .f⟩])
  (.blk 6 (.seq (.reg [⟨(some 85), .mv (.tmp 8), none, .f⟩,
   ⟨(some 86), .fadr 1 (.tmp 2), none, .f⟩,
   ⟨(some 87), .load1 (.tmp 86), none, .f⟩,
   ⟨(some 88), .bin .lss (.tmp 85) (.tmp 87), none, .f⟩,
   ⟨(some 89), .mv (.tmp 88), none, .f⟩,
   ⟨(some 90), .mv (.tmp 9), (some (89, true)), .f⟩,
   ⟨(some 91), .fadr 2 (.tmp 2), (some (89, true)), .f⟩,
   ⟨(some 92), .load1 (.tmp 91), (some (89, true)), .f⟩,
   ⟨(some 93), .bin .lss (.tmp 90) (.tmp 92), (some (89, true)), .f⟩,
   ⟨(some 94), .pick (.tmp 89) (.tmp 93) (.const (.bool false)), none, .f⟩,
   ⟨(some 95), .mv (.tmp 94), none, .f⟩,
   ⟨(some 96), .mv (.tmp 10), (some (95, true)), .f⟩,
   ⟨(some 97), .fadr 3 (.tmp 2), (some (95, true)), .f⟩,
   ⟨(some 98), .load1 (.tmp 97), (some (95, true)), .f⟩,
   ⟨(some 99), .bin .lss (.tmp 96) (.tmp 98), (some (95, true)), .f⟩,
   ⟨(some 100), .pick (.tmp 95) (.tmp 99) (.const (.bool false)), none, .f⟩,
   ⟨(some 84), .mv (.tmp 100), none, .f⟩])
  (.cond (.tmp 84) (.reg [⟨(some 101), .fadr 4 (.tmp 7), none, .f⟩,
   ⟨(some 102), .load1 (.tmp 101), none, .f⟩,
   ⟨(some 103), .mv (.tmp 11), none, .f⟩,
   ⟨(some 104), .loadn 5 (.tmp 2), none, .f⟩,
   ⟨(some 105), .mv (.tmp 8), none, .f⟩,
   ⟨(some 106), .mv (.tmp 9), none, .f⟩,
   ⟨(some 107), .mv (.tmp 10), none, .f⟩,
   ⟨(some 108), .call (.func 190) [(.tmp 104), (.tmp 105), (.tmp 106), (.tmp 107)], none, .t⟩,
   ⟨(some 109), .ixs 1 (.tmp 102) (.tmp 103), none, .f⟩,
   ⟨none, .store 1 (.tmp 109) (.tmp 108), none, .f⟩]) (.seq (.reg [⟨(some 111), .mv (.tmp 8), none, .f⟩,
   ⟨(some 112), .fadr 1 (.tmp 2), none, .f⟩,
   ⟨(some 113), .load1 (.tmp 112), none, .f⟩,
   ⟨(some 114), .bin .geq (.tmp 111) (.tmp 113), none, .f⟩,
   ⟨(some 115), .mv (.tmp 114), none, .f⟩,
   ⟨(some 116), .mv (.tmp 9), (some (115, true)), .f⟩,
   ⟨(some 117), .fadr 2 (.tmp 2), (some (115, true)), .f⟩,
   ⟨(some 118), .load1 (.tmp 117), (some (115, true)), .f⟩,
   ⟨(some 119), .bin .geq (.tmp 116) (.tmp 118), (some (115, true)), .f⟩,
   ⟨(some 120), .pick (.tmp 115) (.tmp 119) (.const (.bool false)), none, .f⟩,
   ⟨(some 121), .mv (.tmp 120), none, .f⟩,
   ⟨(some 122), .mv (.tmp 10), (some (121, true)), .f⟩,
   ⟨(some 123), .fadr 3 (.tmp 2), (some (121, true)), .f⟩,
   ⟨(some 124), .load1 (.tmp 123), (some (121, true)), .f⟩,
   ⟨(some 125), .bin .geq (.tmp 122) (.tmp 124), (some (121, true)), .f⟩,
   ⟨(some 126), .pick (.tmp 121) (.tmp 125) (.const (.bool false)), none, .f⟩,
   ⟨(some 110), .mv (.tmp 126), none, .f⟩])
  (.cond (.tmp 110) (.reg [⟨(some 127), .fadr 4 (.tmp 7), none, .f⟩,
   ⟨(some 128), .load1 (.tmp 127), none, .f⟩,
   ⟨(some 129), .mv (.tmp 11), none, .f⟩,
   ⟨(some 130), .loadn 5 (.tmp 3), none, .f⟩,
   ⟨(some 131), .mv (.tmp 8), none, .f⟩,
   ⟨(some 132), .fadr 1 (.tmp 2), none, .f⟩,
   ⟨(some 133), .load1 (.tmp 132), none, .f⟩,
   ⟨(some 134), .bin .sub (.tmp 131) (.tmp 133), none, .f⟩,
   ⟨(some 135), .mv (.tmp 9), none, .f⟩,
   ⟨(some 136), .fadr 2 (.tmp 2), none, .f⟩,
   ⟨(some 137), .load1 (.tmp 136), none, .f⟩,
   ⟨(some 138), .bin .sub (.tmp 135) (.tmp 137), none, .f⟩,
   ⟨(some 139), .mv (.tmp 10), none, .f⟩,
   ⟨(some 140), .fadr 3 (.tmp 2), none, .f⟩,
   ⟨(some 141), .load1 (.tmp 140), none, .f⟩,
   ⟨(some 142), .bin .sub (.tmp 139) (.tmp 141), none, .f⟩,
   ⟨(some 143), .call (.func 190) [(.tmp 130), (.tmp 134), (.tmp 138), (.tmp 142)], none, .t⟩,
   ⟨(some 144), .ixs 1 (.tmp 128) (.tmp 129), none, .f⟩,
   ⟨none, .store 1 (.tmp 144) (.tmp 143), none, .f⟩]) .skip)))))))
  (.reg [⟨(some 71), .mv (.tmp 10), none, .f⟩,
   ⟨(some 72), .bin .add (.tmp 71) (.const (.int .i64 1)), none, .f⟩,
   ⟨(some 10), .mv (.tmp 72), none, .f⟩])))))))
  (.reg [⟨(some 65), .mv (.tmp 9), none, .f⟩,
   ⟨(some 66), .bin .add (.tmp 65) (.const (.int .i64 1)), none, .f⟩,
   ⟨(some 9), .mv (.tmp 66), none, .f⟩])))))))
  (.reg [⟨(some 59), .mv (.tmp 8), none, .f⟩,
   ⟨(some 60), .bin .add (.tmp 59) (.const (.int .i64 1)), none, .f⟩,
   ⟨(some 8), .mv (.tmp 60), none, .f⟩]))))))
  (.seq (.reg [⟨(some 145), .loadn 5 (.tmp 7), none, .f⟩,
   ⟨none, .store 5 (.tmp 4) (.tmp 145), none, .f⟩,
   ⟨(some 5), .mv (.const (.int .i64 0)), none, .f⟩])
  .ret))))))⟩

theorem s33 : compFn Try.prog Try.f33 = some c33 := by kernel_rfl

/-- loop.example/g01262/impl.KroneckerTensors -/
def c34 : XFn :=
 ⟨[.celln 4 5, .tmp 5],
  (.seq (.reg [⟨(some 2), .box 36 (.tmp 0), none, .f⟩,
   ⟨(some 3), .box 36 (.tmp 1), none, .f⟩,
   ⟨(some 4), .alloc 36 [.int .i64 0, .int .i64 0, .int .i64 0, .int .i64 0, .slice none 0 0], none, .f⟩,
   ⟨(some 5), .mv (.const (.int .i64 0)), none, .f⟩])
  (.seq (.seq (.reg [⟨(some 7), .loadn 5 (.tmp 2), none, .f⟩,
   ⟨(some 8), .loadn 5 (.tmp 3), none, .f⟩,
   ⟨(some 9), .fadr 1 (.tmp 2), none, .f⟩,
   ⟨(some 10), .load1 (.tmp 9), none, .f⟩,
   ⟨(some 11), .fadr 1 (.tmp 3), none, .f⟩,
   ⟨(some 12), .load1 (.tmp 11), none, .f⟩,
   ⟨(some 13), .bin .mul (.tmp 10) (.tmp 12), none, .f⟩,
   ⟨(some 14), .fadr 2 (.tmp 2), none, .f⟩,
   ⟨(some 15), .load1 (.tmp 14), none, .f⟩,
   ⟨(some 16), .fadr 2 (.tmp 3), none, .f⟩,
   ⟨(some 17), .load1 (.tmp 16), none, .f⟩,
   ⟨(some 18), .bin .mul (.tmp 15) (.tmp 17), none, .f⟩,
   ⟨(some 19), .fadr 3 (.tmp 2), none, .f⟩,
   ⟨(some 20), .load1 (.tmp 19), none, .f⟩,
   ⟨(some 21), .fadr 3 (.tmp 3), none, .f⟩,
   ⟨(some 22), .load1 (.tmp 21), none, .f⟩,
   ⟨(some 23), .bin .mul (.tmp 20) (.tmp 22), none, .f⟩,
   ⟨(some 24), .bslice 2 1 3 [.int .i64 0] [(0, 1, (.tmp 13)), (1, 1, (.tmp 18)), (2, 1, (.tmp 23))], none, .f⟩,
   ⟨(some 25), .call (.func 187) [(.tmp 7), (.tmp 8), (.tmp 24)], none, .f⟩,
   ⟨(some 6), .mv (.tmp 25), none, .f⟩])
  (.seq (.reg [⟨(some 26), .mv (.tmp 6), none, .f⟩,
   ⟨(some 27), .bin .neq (.tmp 26) (.const (.int .i64 0)), none, .f⟩])
  (.cond (.tmp 27) (.seq (.reg [⟨(some 28), .build [.int .i64 0, .int .i64 0, .int .i64 0, .int .i64 0, .slice none 0 0] [], none, .f⟩,
   ⟨(some 29), .mv (.tmp 6), none, .f⟩,
   ⟨none, .store 5 (.tmp 4) (.tmp 28), none, .f⟩,
   ⟨(some 5), .mv (.tmp 29), none, .f⟩])
  .ret) .skip)))
  (.seq (.reg [⟨(some 30), .fadr 0 (.tmp 2), none, .f⟩,
   ⟨(some 31), .load1 (.tmp 30), none, .f⟩,
   ⟨(some 32), .fadr 1 (.tmp 2), none, .f⟩,
   ⟨(some 33), .load1 (.tmp 32), none, .f⟩,
   ⟨(some 34), .fadr 1 (.tmp 3), none, .f⟩,
   ⟨(some 35), .load1 (.tmp 34), none, .f⟩,
   ⟨(some 36), .bin .mul (.tmp 33) (.tmp 35), none, .f⟩,
   ⟨(some 37), .fadr 2 (.tmp 2), none, .f⟩,
   ⟨(some 38), .load1 (.tmp 37), none, .f⟩,
   ⟨(some 39), .fadr 2 (.tmp 3), none, .f⟩,
   ⟨(some 40), .load1 (.tmp 39), none, .f⟩,
   ⟨(some 41), .bin .mul (.tmp 38) (.tmp 40), none, .f⟩,
   ⟨(some 42), .fadr 3 (.tmp 2), none, .f⟩,
   ⟨(some 43), .load1 (.tmp 42), none, .f⟩,
   ⟨(some 44), .fadr 3 (.tmp 3), none, .f⟩,
   ⟨(some 45), .load1 (.tmp 44), none, .f⟩,
   ⟨(some 46), .bin .mul (.tmp 43) (.tmp 45), none, .f⟩,
   ⟨(some 47), .mkf 191 [(.tmp 2), (.tmp 3)], none, .f⟩,
   ⟨(some 48), .call (.func 178) [(.tmp 31), (.tmp 36), (.tmp 41), (.tmp 46), (.tmp 47)], none, .f⟩,
   ⟨none, .store 5 (.tmp 4) (.tmp 48), none, .f⟩,
   ⟨(some 5), .mv (.const (.int .i64 0)), none, .f⟩])
  .ret)))⟩

theorem s34 : compFn Try.prog Try.f34 = some c34 := by kernel_rfl

/-- loop.example/g01262/spec.KroneckerTensors -/
def c35 : XFn :=
 ⟨[.celln 4 5, .tmp 5],
  (.seq (.reg [⟨(some 2), .box 36 (.tmp 0), none, .f⟩,
   ⟨(some 3), .box 36 (.tmp 1), none, .f⟩,
   ⟨(some 4), .alloc 36 [.int .i64 0, .int .i64 0, .int .i64 0, .int .i64 0, .slice none 0 0], none, .f⟩,
   ⟨(some 5), .mv (.const (.int .i64 0)), none, .f⟩])
  (.seq (.seq (.reg [⟨(some 7), .loadn 5 (.tmp 2), none, .f⟩,
   ⟨(some 8), .loadn 5 (.tmp 3), none, .f⟩,
   ⟨(some 9), .call (.func 189) [(.tmp 7), (.tmp 8)], none, .f⟩,
   ⟨(some 6), .mv (.tmp 9), none, .f⟩])
  (.seq (.reg [⟨(some 10), .mv (.tmp 6), none, .f⟩,
   ⟨(some 11), .bin .neq (.tmp 10) (.const (.int .i64 0)), none, .f⟩])
  (.cond (.tmp 11) (.seq (.reg [⟨(some 12), .build [.int .i64 0, .int .i64 0, .int .i64 0, .int .i64 0, .slice none 0 0] [], none, .f⟩,
   ⟨(some 13), .mv (.tmp 6), none, .f⟩,
   ⟨none, .store 5 (.tmp 4) (.tmp 12), none, .f⟩,
   ⟨(some 5), .mv (.tmp 13), none, .f⟩])
  .ret) .skip)))
  (.seq (.seq (.reg [⟨(some 14), .fadr 1 (.tmp 2), none, .f⟩,
   ⟨(some 15), .load1 (.tmp 14), none, .f⟩,
   ⟨(some 16), .fadr 1 (.tmp 3), none, .f⟩,
   ⟨(some 17), .load1 (.tmp 16), none, .f⟩,
   ⟨(some 18), .bin .mul (.tmp 15) (.tmp 17), none, .f⟩,
   ⟨(some 19), .fadr 2 (.tmp 2), none, .f⟩,
   ⟨(some 20), .load1 (.tmp 19), none, .f⟩,
   ⟨(some 21), .fadr 2 (.tmp 3), none, .f⟩,
   ⟨(some 22), .load1 (.tmp 21), none, .f⟩,
   ⟨(some 23), .bin .mul (.tmp 20) (.tmp 22), none, .f⟩,
   ⟨(some 24), .fadr 3 (.tmp 2), none, .f⟩,
   ⟨(some 25), .load1 (.tmp 24), none, .f⟩,
   ⟨(some 26), .fadr 3 (.tmp 3), none, .f⟩,
   ⟨(some 27), .load1 (.tmp 26), none, .f⟩,
   ⟨(some 28), .bin .mul (.tmp 25) (.tmp 27), none, .f⟩,
   ⟨(some 29), .mm true (.tmp 18) [(.tmp 23), (.tmp 28)], none, .f⟩,
   ⟨(some 30), .bin .gtr (.tmp 29) (.const (.int .i64 9)), none, .f⟩])
  (.cond (.tmp 30) (.seq (.reg [⟨(some 31), .build [.int .i64 0, .int .i64 0, .int .i64 0, .int .i64 0, .slice none 0 0] [], none, .f⟩,
   ⟨none, .store 5 (.tmp 4) (.tmp 31), none, .f⟩,
   ⟨(some 5), .mv (.const (.int .i64 3)), none, .f⟩])
  .ret) .skip))
  (.seq (.reg [⟨(some 32), .loadn 5 (.tmp 2), none, .f⟩,
   ⟨(some 33), .loadn 5 (.tmp 3), none, .f⟩,
   ⟨(some 34), .call (.func 192) [(.tmp 32), (.tmp 33)], none, .f⟩,
   ⟨none, .store 5 (.tmp 4) (.tmp 34), none, .f⟩,
   ⟨(some 5), .mv (.const (.int .i64 0)), none, .f⟩])
  .ret))))⟩

theorem s35 : compFn Try.prog Try.f35 = some c35 := by kernel_rfl

/-- loop.example/g01262/spec.DrawTurnTensor -/
def c36 : XFn :=
 ⟨[.celln 2 5],
  (.seq (.reg [⟨(some 2), .alloc 36 [.int .i64 0, .int .i64 0, .int .i64 0, .int .i64 0, .slice none 0 0], none, .f⟩])
  (.seq (.reg [⟨(some 3), .mv (.tmp 0), none, .f⟩,
   ⟨(some 4), .call (.func 145) [(.tmp 3)], none, .f⟩,
   ⟨(some 5), .call (.func 172) [(.tmp 4)], none, .f⟩,
   ⟨none, .store 5 (.tmp 2) (.tmp 5), none, .f⟩])
  .ret))⟩

theorem s36 : compFn Try.prog Try.f36 = some c36 := by kernel_rfl

/-- loop.example/g01262/impl.TurnTensor -/
def c37 : XFn :=
 ⟨[.celln 2 5, .tmp 3],
  (.seq (.reg [⟨(some 1), .box 36 (.tmp 0), none, .f⟩,
   ⟨(some 2), .alloc 36 [.int .i64 0, .int .i64 0, .int .i64 0, .int .i64 0, .slice none 0 0], none, .f⟩,
   ⟨(some 3), .mv (.const (.int .i64 0)), none, .f⟩])
  (.seq (.seq (.reg [⟨(some 4), .loadn 5 (.tmp 1), none, .f⟩,
   ⟨(some 5), .call (.func 28) [(.tmp 4)], none, .f⟩,
   ⟨(some 6), .un .not (.tmp 5), none, .f⟩])
  (.cond (.tmp 6) (.seq (.reg [⟨(some 7), .build [.int .i64 0, .int .i64 0, .int .i64 0, .int .i64 0, .slice none 0 0] [], none, .f⟩,
   ⟨none, .store 5 (.tmp 2) (.tmp 7), none, .f⟩,
   ⟨(some 3), .mv (.const (.int .i64 1)), none, .f⟩])
  .ret) .skip))
  (.seq (.reg [⟨(some 8), .loadn 5 (.tmp 1), none, .f⟩,
   ⟨(some 9), .call (.func 193) [(.tmp 8)], none, .f⟩,
   ⟨none, .store 5 (.tmp 2) (.tmp 9), none, .f⟩,
   ⟨(some 3), .mv (.const (.int .i64 0)), none, .f⟩])
  .ret)))⟩

theorem s37 : compFn Try.prog Try.f37 = some c37 := by kernel_rfl

/-- loop.example/g01262/spec.TurnTensor -/
def c38 : XFn :=
 ⟨[.celln 2 5, .tmp 3],
  (.seq (.reg [⟨(some 1), .box 36 (.tmp 0), none, .f⟩,
   ⟨(some 2), .alloc 36 [.int .i64 0, .int .i64 0, .int .i64 0, .int .i64 0, .slice none 0 0], none, .f⟩,
   ⟨(some 3), .mv (.const (.int .i64 0)), none, .f⟩])
  (.seq (.seq (.reg [⟨(some 4), .loadn 5 (.tmp 1), none, .f⟩,
   ⟨(some 5), .call (.func 173) [(.tmp 4)], none, .f⟩,
   ⟨(some 6), .un .not (.tmp 5), none, .f⟩])
  (.cond (.tmp 6) (.seq (.reg [⟨(some 7), .build [.int .i64 0, .int .i64 0, .int .i64 0, .int .i64 0, .slice none 0 0] [], none, .f⟩,
   ⟨none, .store 5 (.tmp 2) (.tmp 7), none, .f⟩,
   ⟨(some 3), .mv (.const (.int .i64 1)), none, .f⟩])
  .ret) .skip))
  (.seq (.reg [⟨(some 8), .loadn 5 (.tmp 1), none, .f⟩,
   ⟨(some 9), .call (.func 194) [(.tmp 8)], none, .f⟩,
   ⟨none, .store 5 (.tmp 2) (.tmp 9), none, .f⟩,
   ⟨(some 3), .mv (.const (.int .i64 0)), none, .f⟩])
  .ret)))⟩

theorem s38 : compFn Try.prog Try.f38 = some c38 := by kernel_rfl

/-- loop.example/g01262/spec.DrawKroneckerTensors -/
def c39 : XFn :=
 ⟨[.celln 2 5, .celln 3 5],
  (.seq (.reg [⟨(some 2), .alloc 36 [.int .i64 0, .int .i64 0, .int .i64 0, .int .i64 0, .slice none 0 0], none, .f⟩,
   ⟨(some 3), .alloc 36 [.int .i64 0, .int .i64 0, .int .i64 0, .int .i64 0, .slice none 0 0], none, .f⟩])
  (.seq (.reg [⟨(some 7), .mv (.tmp 0), none, .f⟩,
   ⟨(some 8), .call (.func 186) [(.tmp 7)], none, .f⟩,
   ⟨(some 6), .mv (.tmp 8), none, .f⟩,
   ⟨(some 9), .ext (.tmp 6) 0, none, .f⟩,
   ⟨(some 10), .ext (.tmp 6) 1, none, .f⟩,
   ⟨(some 4), .alloc 36 [.int .i64 0, .int .i64 0, .int .i64 0, .int .i64 0, .slice none 0 0], none, .f⟩,
   ⟨(some 5), .alloc 36 [.int .i64 0, .int .i64 0, .int .i64 0, .int .i64 0, .slice none 0 0], none, .f⟩,
   ⟨none, .store 5 (.tmp 4) (.tmp 9), none, .f⟩,
   ⟨none, .store 5 (.tmp 5) (.tmp 10), none, .f⟩])
  (.seq (.reg [⟨(some 11), .loadn 5 (.tmp 4), none, .f⟩,
   ⟨(some 12), .loadn 5 (.tmp 5), none, .f⟩,
   ⟨none, .store 5 (.tmp 2) (.tmp 11), none, (.s false [(.tmp 5)])⟩,
   ⟨none, .store 5 (.tmp 3) (.tmp 12), none, .f⟩])
  .ret)))⟩

theorem s39 : compFn Try.prog Try.f39 = some c39 := by kernel_rfl

/-- loop.example/g01262/spec.l01From -/
def c145 : XFn :=
 ⟨[.tmp 2],
  (.seq (.reg [⟨(some 2), .mv (.const (.pointer none)), none, .f⟩])
  (.seq (.reg [⟨(some 5), .mv (.tmp 0), none, .f⟩,
   ⟨(some 6), .mv (.tmp 0), none, .f⟩,
   ⟨(some 7), .len (.tmp 6), none, .f⟩,
   ⟨(some 8), .conv .u64 (.tmp 7), none, .f⟩,
   ⟨(some 9), .bin .add (.const (.int .u64 12619)) (.tmp 8), none, .f⟩,
   ⟨(some 10), .build [.slice none 0 0, .int .i64 0, .int .u64 0] [(0, 1, (.tmp 5)), (2, 1, (.tmp 9))], none, .f⟩,
   ⟨(some 11), .box 220 (.tmp 10), none, .f⟩,
   ⟨(some 3), .mv (.tmp 11), none, .f⟩])
  (.seq (.seq (.reg [⟨(some 4), .mv (.const (.int .i64 0)), none, .f⟩])
  (.blk 0 (.loop (.seq (.seq (.reg [⟨(some 12), .mv (.tmp 4), none, .f⟩,
   ⟨(some 13), .mv (.tmp 0), none, .f⟩,
   ⟨(some 14), .len (.tmp 13), none, .f⟩,
   ⟨(some 15), .bin .lss (.tmp 12) (.tmp 14), none, .f⟩,
   ⟨(some 16), .mv (.tmp 15), none, .f⟩,
   ⟨(some 17), .mv (.tmp 4), (some (16, true)), .f⟩,
   ⟨(some 18), .bin .lss (.tmp 17) (.const (.int .i64 4096)), (some (16, true)), .f⟩,
   ⟨(some 19), .pick (.tmp 16) (.tmp 18) (.const (.bool false)), none, .f⟩])
  (.cond (.tmp 19) .skip (.exit 0)))
  (.seq (.blk 1 (.reg [⟨(some 22), .mv (.tmp 3), none, .f⟩,
   ⟨(some 23), .mv (.tmp 3), none, .f⟩,
   ⟨(some 24), .nchk (.tmp 23), none, .f⟩,
   ⟨(some 25), .fadr 2 (.tmp 24), none, .f⟩,
   ⟨(some 26), .load1 (.tmp 25), none, .f⟩,
   ⟨(some 27), .bin .mul (.tmp 26) (.const (.int .u64 1099511628211)), none, .f⟩,
   ⟨(some 28), .mv (.tmp 0), none, .f⟩,
   ⟨(some 29), .mv (.tmp 4), none, .f⟩,
   ⟨(some 30), .ixs 1 (.tmp 28) (.tmp 29), none, .f⟩,
   ⟨(some 31), .load1 (.tmp 30), none, .f⟩,
   ⟨(some 32), .conv .u64 (.tmp 31), none, .f⟩,
   ⟨(some 33), .bin .add (.tmp 27) (.tmp 32), none, .f⟩,
   ⟨(some 34), .bin .add (.tmp 33) (.const (.int .u64 79)), none, .f⟩,
   ⟨(some 35), .nchk (.tmp 22), none, .f⟩,
   ⟨(some 36), .fadr 2 (.tmp 35), none, .f⟩,
   ⟨none, .store 1 (.tmp 36) (.tmp 34), none, .f⟩]))
  (.reg [⟨(some 20), .mv (.tmp 4), none, .f⟩,
   ⟨(some 21), .bin .add (.tmp 20) (.const (.int .i64 1)), none, .f⟩,
   ⟨(some 4), .mv (.tmp 21), none, .f⟩]))))))
  (.seq (.reg [⟨(some 37), .mv (.tmp 3), none, .f⟩,
   ⟨(some 2), .mv (.tmp 37), none, .f⟩])
  .ret))))⟩

theorem s145 : compFn Try.prog Try.f145 = some c145 := by kernel_rfl

/-- loop.example/g01262/spec.l01Pick -/
def c147 : XFn :=
 ⟨[.tmp 4],
  (.seq (.reg [⟨(some 4), .mv (.const (.int .i64 0)), none, .f⟩])
  (.seq (.reg [⟨(some 5), .mv (.tmp 1), none, .f⟩,
   ⟨(some 6), .mv (.tmp 0), none, .f⟩,
   ⟨(some 7), .mv (.tmp 1), none, .f⟩,
   ⟨(some 8), .len (.tmp 7), none, .f⟩,
   ⟨(some 9), .call (.func 148) [(.tmp 6), (.tmp 8)], none, .f⟩,
   ⟨(some 10), .ixs 1 (.tmp 5) (.tmp 9), none, .f⟩,
   ⟨(some 11), .load1 (.tmp 10), none, .f⟩,
   ⟨(some 4), .mv (.tmp 11), none, .f⟩])
  .ret))⟩

theorem s147 : compFn Try.prog Try.f147 = some c147 := by kernel_rfl

/-- loop.example/g01262/spec.l01Next -/
def c148 : XFn :=
 ⟨[.tmp 4],
  (.seq (.reg [⟨(some 4), .mv (.const (.int .i64 0)), none, .f⟩])
  (.seq (.seq (.reg [⟨(some 6), .mv (.tmp 1), none, .f⟩,
   ⟨(some 7), .bin .lss (.tmp 6) (.const (.int .i64 1)), none, .f⟩])
  (.cond (.tmp 7) (.seq (.reg [⟨(some 4), .mv (.const (.int .i64 0)), none, .f⟩])
  .ret) .skip))
  (.seq (.reg [⟨(some 8), .mv (.tmp 0), none, .f⟩,
   ⟨(some 9), .mv (.tmp 0), none, .f⟩,
   ⟨(some 10), .nchk (.tmp 9), none, .f⟩,
   ⟨(some 11), .fadr 2 (.tmp 10), none, .f⟩,
   ⟨(some 12), .load1 (.tmp 11), none, .f⟩,
   ⟨(some 13), .bin .mul (.tmp 12) (.const (.int .u64 6364136223846793005)), none, .f⟩,
   ⟨(some 14), .bin .add (.tmp 13) (.const (.int .u64 1442695040888963407)), none, .f⟩,
   ⟨(some 15), .nchk (.tmp 8), none, .f⟩,
   ⟨(some 16), .fadr 2 (.tmp 15), none, .f⟩,
   ⟨none, .store 1 (.tmp 16) (.tmp 14), none, .f⟩])
  (.seq (.reg [⟨(some 17), .mv (.tmp 0), none, .f⟩,
   ⟨(some 18), .nchk (.tmp 17), none, .f⟩,
   ⟨(some 19), .fadr 2 (.tmp 18), none, .f⟩,
   ⟨(some 20), .load1 (.tmp 19), none, .f⟩,
   ⟨(some 21), .bin .shr (.tmp 20) (.const (.int .u64 33)), none, .f⟩,
   ⟨(some 22), .bin .and (.tmp 21) (.const (.int .u64 16777215)), none, .f⟩,
   ⟨(some 23), .conv .i64 (.tmp 22), none, .f⟩,
   ⟨(some 5), .mv (.tmp 23), none, .f⟩])
  (.seq (.seq (.reg [⟨(some 24), .mv (.tmp 0), none, .f⟩,
   ⟨(some 25), .nchk (.tmp 24), none, .f⟩,
   ⟨(some 26), .fadr 1 (.tmp 25), none, .f⟩,
   ⟨(some 27), .load1 (.tmp 26), none, .f⟩,
   ⟨(some 28), .mv (.tmp 0), none, .f⟩,
   ⟨(some 29), .nchk (.tmp 28), none, .f⟩,
   ⟨(some 30), .fadr 0 (.tmp 29), none, .f⟩,
   ⟨(some 31), .load1 (.tmp 30), none, .f⟩,
   ⟨(some 32), .len (.tmp 31), none, .f⟩,
   ⟨(some 33), .bin .lss (.tmp 27) (.tmp 32), none, .f⟩])
  (.cond (.tmp 33) (.seq (.reg [⟨(some 34), .mv (.tmp 5), none, .f⟩,
   ⟨(some 35), .mv (.tmp 0), none, .f⟩,
   ⟨(some 36), .nchk (.tmp 35), none, .f⟩,
   ⟨(some 37), .fadr 0 (.tmp 36), none, .f⟩,
   ⟨(some 38), .load1 (.tmp 37), none, .f⟩,
   ⟨(some 39), .mv (.tmp 0), none, .f⟩,
   ⟨(some 40), .nchk (.tmp 39), none, .f⟩,
   ⟨(some 41), .fadr 1 (.tmp 40), none, .f⟩,
   ⟨(some 42), .load1 (.tmp 41), none, .f⟩,
   ⟨(some 43), .ixs 1 (.tmp 38) (.tmp 42), none, .f⟩,
   ⟨(some 44), .load1 (.tmp 43), none, .f⟩,
   ⟨(some 45), .conv .i64 (.tmp 44), none, .f⟩,
   ⟨(some 46), .bin .add (.tmp 34) (.tmp 45), none, .f⟩,
   ⟨(some 5), .mv (.tmp 46), none, .f⟩])
  (.reg [⟨(some 47), .mv (.tmp 0), none, .f⟩,
   ⟨(some 48), .mv (.tmp 0), none, .f⟩,
   ⟨(some 49), .nchk (.tmp 48), none, .f⟩,
   ⟨(some 50), .fadr 1 (.tmp 49), none, .f⟩,
   ⟨(some 51), .load1 (.tmp 50), none, .f⟩,
   ⟨(some 52), .bin .add (.tmp 51) (.const (.int .i64 1)), none, .f⟩,
   ⟨(some 53), .nchk (.tmp 47), none, .f⟩,
   ⟨(some 54), .fadr 1 (.tmp 53), none, .f⟩,
   ⟨none, .store 1 (.tmp 54) (.tmp 52), none, .f⟩])) .skip))
  (.seq (.reg [⟨(some 55), .mv (.tmp 5), none, .f⟩,
   ⟨(some 56), .mv (.tmp 1), none, .f⟩,
   ⟨(some 57), .bin .rem (.tmp 55) (.tmp 56), none, .f⟩,
   ⟨(some 4), .mv (.tmp 57), none, .f⟩])
  .ret))))))⟩

theorem s148 : compFn Try.prog Try.f148 = some c148 := by kernel_rfl

/-- loop.example/g01262/impl.parted -/
def c163 : XFn :=
 ⟨[.tmp 4],
  (.seq (.reg [⟨(some 4), .mv (.const (.slice none 0 0)), none, .f⟩])
  (.seq (.reg [⟨(some 7), .bslice 27 1 0 [.slice none 0 0] [], none, .f⟩,
   ⟨(some 5), .mv (.tmp 7), none, .f⟩])
  (.seq (.seq (.reg [⟨(some 6), .mv (.const (.int .i64 0)), none, .f⟩])
  (.blk 0 (.loop (.seq (.seq (.reg [⟨(some 8), .mv (.tmp 6), none, .f⟩,
   ⟨(some 9), .mv (.tmp 0), none, .f⟩,
   ⟨(some 10), .len (.tmp 9), none, .f⟩,
   ⟨(some 11), .bin .lss (.tmp 8) (.tmp 10), none, .f⟩])
  (.cond (.tmp 11) .skip (.exit 0)))
  (.seq (.blk 1 (.reg [⟨(some 15), .mv (.tmp 5), none, .f⟩,
   ⟨(some 16), .mv (.tmp 0), none, .f⟩,
   ⟨(some 17), .mv (.tmp 6), none, .f⟩,
   ⟨(some 18), .mv (.tmp 6), none, .f⟩,
   ⟨(some 19), .mv (.tmp 1), none, .f⟩,
   ⟨(some 20), .bin .add (.tmp 18) (.tmp 19), none, .f⟩,
   ⟨(some 21), .slc 1 (.tmp 16) (some (.tmp 17)) (some (.tmp 20)), none, .f⟩,
   ⟨(some 22), .call (.func 285) [(.tmp 21)], none, .f⟩,
   ⟨(some 23), .bslice 27 1 1 [.slice none 0 0] [(0, 1, (.tmp 22))], none, .f⟩,
   ⟨(some 24), .app 27 1 24 (.tmp 15) (.tmp 23), none, .f⟩,
   ⟨(some 5), .mv (.tmp 24), none, .f⟩]))
  (.reg [⟨(some 12), .mv (.tmp 6), none, .f⟩,
   ⟨(some 13), .mv (.tmp 1), none, .f⟩,
   ⟨(some 14), .bin .add (.tmp 12) (.tmp 13), none, .f⟩,
   ⟨(some 6), .mv (.tmp 14), none, .f⟩]))))))
  (.seq (.reg [⟨(some 25), .mv (.tmp 5), none, .f⟩,
   ⟨(some 4), .mv (.tmp 25), none, .f⟩])
  .ret))))⟩

theorem s163 : compFn Try.prog Try.f163 = some c163 := by kernel_rfl

/-- loop.example/g01262/impl.isPrime -/
def c166 : XFn :=
 ⟨[.tmp 2],
  (.seq (.reg [⟨(some 2), .mv (.const (.bool false)), none, .f⟩])
  (.seq (.reg [⟨(some 3), .mv (.tmp 0), none, .f⟩,
   ⟨(some 4), .bin .eql (.tmp 3) (.const (.int .i64 2)), none, .f⟩,
   ⟨(some 5), .mv (.tmp 4), none, .f⟩,
   ⟨(some 6), .mv (.tmp 0), (some (5, false)), .f⟩,
   ⟨(some 7), .bin .eql (.tmp 6) (.const (.int .i64 3)), (some (5, false)), .f⟩,
   ⟨(some 8), .pick (.tmp 5) (.const (.bool true)) (.tmp 7), none, .f⟩,
   ⟨(some 9), .mv (.tmp 8), none, .f⟩,
   ⟨(some 10), .mv (.tmp 0), (some (9, false)), .f⟩,
   ⟨(some 11), .bin .eql (.tmp 10) (.const (.int .i64 5)), (some (9, false)), .f⟩,
   ⟨(some 12), .pick (.tmp 9) (.const (.bool true)) (.tmp 11), none, .f⟩,
   ⟨(some 2), .mv (.tmp 12), none, .f⟩])
  .ret))⟩

theorem s166 : compFn Try.prog Try.f166 = some c166 := by kernel_rfl

/-- loop.example/g01262/spec.l05Spoil -/
def c172 : XFn :=
 ⟨[.celln 2 5],
  (.seq (.reg [⟨(some 2), .alloc 36 [.int .i64 0, .int .i64 0, .int .i64 0, .int .i64 0, .slice none 0 0], none, .f⟩])
  (.seq (.seq (.reg [⟨(some 3), .mv (.tmp 0), none, .f⟩,
   ⟨(some 4), .call (.func 148) [(.tmp 3), (.const (.int .i64 6))], none, .f⟩,
   ⟨(some 5), .bin .eql (.tmp 4) (.const (.int .i64 0)), none, .f⟩])
  (.cond (.tmp 5) (.seq (.reg [⟨(some 6), .mv (.tmp 0), none, .f⟩,
   ⟨(some 7), .mv (.tmp 0), none, .f⟩,
   ⟨(some 8), .call (.func 266) [(.tmp 7)], none, .f⟩,
   ⟨(some 9), .call (.func 291) [(.tmp 8)], none, .f⟩,
   ⟨(some 10), .call (.func 290) [(.tmp 6), (.tmp 9)], none, .f⟩,
   ⟨none, .store 5 (.tmp 2) (.tmp 10), none, .f⟩])
  .ret) .skip))
  (.seq (.reg [⟨(some 11), .mv (.tmp 0), none, .f⟩,
   ⟨(some 12), .mv (.tmp 0), none, .f⟩,
   ⟨(some 13), .mv (.tmp 0), none, .f⟩,
   ⟨(some 14), .mv (.tmp 0), none, .f⟩,
   ⟨(some 15), .bslice 2 1 3 [.int .i64 0] [(0, 1, (.const (.int .i64 2))), (1, 1, (.const (.int .i64 3))), (2, 1, (.const (.int .i64 4)))], none, .f⟩,
   ⟨(some 16), .call (.func 147) [(.tmp 14), (.tmp 15)], none, .f⟩,
   ⟨(some 17), .call (.func 292) [(.tmp 13), (.tmp 16)], none, .f⟩,
   ⟨(some 18), .call (.func 174) [(.tmp 12), (.tmp 17)], none, .f⟩,
   ⟨(some 19), .call (.func 290) [(.tmp 11), (.tmp 18)], none, .f⟩,
   ⟨none, .store 5 (.tmp 2) (.tmp 19), none, .f⟩])
  .ret)))⟩

theorem s172 : compFn Try.prog Try.f172 = some c172 := by kernel_rfl

/-- loop.example/g01262/spec.l05Is -/
def c173 : XFn :=
 ⟨[.tmp 2],
  (.seq (.reg [⟨(some 1), .box 36 (.tmp 0), none, .f⟩,
   ⟨(some 2), .mv (.const (.bool false)), none, .f⟩])
  (.seq (.seq (.reg [⟨(some 4), .fadr 0 (.tmp 1), none, .f⟩,
   ⟨(some 5), .load1 (.tmp 4), none, .f⟩,
   ⟨(some 6), .call (.func 224) [(.tmp 5)], none, .f⟩,
   ⟨(some 7), .un .not (.tmp 6), none, .f⟩,
   ⟨(some 8), .mv (.tmp 7), none, .f⟩,
   ⟨(some 9), .fadr 1 (.tmp 1), (some (8, false)), .f⟩,
   ⟨(some 10), .load1 (.tmp 9), (some (8, false)), .f⟩,
   ⟨(some 11), .call (.func 181) [(.tmp 10), (.const (.int .i64 1)), (.const (.int .i64 9))], (some (8, false)), .f⟩,
   ⟨(some 12), .un .not (.tmp 11), (some (8, false)), .f⟩,
   ⟨(some 13), .pick (.tmp 8) (.const (.bool true)) (.tmp 12), none, .f⟩,
   ⟨(some 14), .mv (.tmp 13), none, .f⟩,
   ⟨(some 15), .fadr 2 (.tmp 1), (some (14, false)), .f⟩,
   ⟨(some 16), .load1 (.tmp 15), (some (14, false)), .f⟩,
   ⟨(some 17), .call (.func 181) [(.tmp 16), (.const (.int .i64 1)), (.const (.int .i64 9))], (some (14, false)), .f⟩,
   ⟨(some 18), .un .not (.tmp 17), (some (14, false)), .f⟩,
   ⟨(some 19), .pick (.tmp 14) (.const (.bool true)) (.tmp 18), none, .f⟩,
   ⟨(some 20), .mv (.tmp 19), none, .f⟩,
   ⟨(some 21), .fadr 3 (.tmp 1), (some (20, false)), .f⟩,
   ⟨(some 22), .load1 (.tmp 21), (some (20, false)), .f⟩,
   ⟨(some 23), .call (.func 181) [(.tmp 22), (.const (.int .i64 1)), (.const (.int .i64 9))], (some (20, false)), .f⟩,
   ⟨(some 24), .un .not (.tmp 23), (some (20, false)), .f⟩,
   ⟨(some 25), .pick (.tmp 20) (.const (.bool true)) (.tmp 24), none, .f⟩,
   ⟨(some 26), .mv (.tmp 25), none, .f⟩,
   ⟨(some 27), .fadr 4 (.tmp 1), (some (26, false)), .f⟩,
   ⟨(some 28), .load1 (.tmp 27), (some (26, false)), .f⟩,
   ⟨(some 29), .len (.tmp 28), (some (26, false)), .f⟩,
   ⟨(some 30), .fadr 1 (.tmp 1), (some (26, false)), .f⟩,
   ⟨(some 31), .load1 (.tmp 30), (some (26, false)), .f⟩,
   ⟨(some 32), .fadr 2 (.tmp 1), (some (26, false)), .f⟩,
   ⟨(some 33), .load1 (.tmp 32), (some (26, false)), .f⟩,
   ⟨(some 34), .bin .mul (.tmp 31) (.tmp 33), (some (26, false)), .f⟩,
   ⟨(some 35), .fadr 3 (.tmp 1), (some (26, false)), .f⟩,
   ⟨(some 36), .load1 (.tmp 35), (some (26, false)), .f⟩,
   ⟨(some 37), .bin .mul (.tmp 34) (.tmp 36), (some (26, false)), .f⟩,
   ⟨(some 38), .bin .neq (.tmp 29) (.tmp 37), (some (26, false)), .f⟩,
   ⟨(some 39), .pick (.tmp 26) (.const (.bool true)) (.tmp 38), none, .f⟩])
  (.cond (.tmp 39) (.seq (.reg [⟨(some 2), .mv (.const (.bool false)), none, .f⟩])
  .ret) .skip))
  (.seq (.seq (.reg [⟨(some 3), .mv (.const (.int .i64 0)), none, .f⟩])
  (.blk 0 (.loop (.seq (.seq (.reg [⟨(some 40), .mv (.tmp 3), none, .f⟩,
   ⟨(some 41), .fadr 4 (.tmp 1), none, .f⟩,
   ⟨(some 42), .load1 (.tmp 41), none, .f⟩,
   ⟨(some 43), .len (.tmp 42), none, .f⟩,
   ⟨(some 44), .bin .lss (.tmp 40) (.tmp 43), none, .f⟩])
  (.cond (.tmp 44) .skip (.exit 0)))
  (.seq (.blk 1 (.seq (.reg [⟨(some 47), .fadr 4 (.tmp 1), none, .f⟩,
   ⟨(some 48), .load1 (.tmp 47), none, .f⟩,
   ⟨(some 49), .mv (.tmp 3), none, .f⟩,
   ⟨(some 50), .ixs 1 (.tmp 48) (.tmp 49), none, .f⟩,
   ⟨(some 51), .load1 (.tmp 50), none, .f⟩,
   ⟨(some 52), .fadr 0 (.tmp 1), none, .f⟩,
   ⟨(some 53), .load1 (.tmp 52), none, .f⟩,
   ⟨(some 54), .bin .sub (.tmp 53) (.const (.int .i64 1)), none, .f⟩,
   ⟨(some 55), .call (.func 181) [(.tmp 51), (.const (.int .i64 0)), (.tmp 54)], none, .f⟩,
   ⟨(some 56), .un .not (.tmp 55), none, .f⟩])
  (.cond (.tmp 56) (.seq (.reg [⟨(some 2), .mv (.const (.bool false)), none, .f⟩])
  .ret) .skip)))
  (.reg [⟨(some 45), .mv (.tmp 3), none, .f⟩,
   ⟨(some 46), .bin .add (.tmp 45) (.const (.int .i64 1)), none, .f⟩,
   ⟨(some 3), .mv (.tmp 46), none, .f⟩]))))))
  (.seq (.reg [⟨(some 2), .mv (.const (.bool true)), none, .f⟩])
  .ret))))⟩

theorem s173 : compFn Try.prog Try.f173 = some c173 := by kernel_rfl

/-- loop.example/g01262/spec.l05Fill -/
def c174 : XFn :=
 ⟨[.celln 4 5],
  (.seq (.reg [⟨(some 3), .box 36 (.tmp 1), none, .f⟩,
   ⟨(some 4), .alloc 36 [.int .i64 0, .int .i64 0, .int .i64 0, .int .i64 0, .slice none 0 0], none, .f⟩])
  (.seq (.reg [⟨(some 12), .fadr 0 (.tmp 3), none, .f⟩,
   ⟨(some 13), .load1 (.tmp 12), none, .f⟩,
   ⟨(some 14), .fadr 1 (.tmp 3), none, .f⟩,
   ⟨(some 15), .load1 (.tmp 14), none, .f⟩,
   ⟨(some 16), .fadr 2 (.tmp 3), none, .f⟩,
   ⟨(some 17), .load1 (.tmp 16), none, .f⟩,
   ⟨(some 18), .fadr 3 (.tmp 3), none, .f⟩,
   ⟨(some 19), .load1 (.tmp 18), none, .f⟩,
   ⟨(some 20), .call (.func 182) [(.tmp 13), (.tmp 15), (.tmp 17), (.tmp 19)], none, .f⟩,
   ⟨(some 5), .alloc 36 [.int .i64 0, .int .i64 0, .int .i64 0, .int .i64 0, .slice none 0 0], none, .f⟩,
   ⟨none, .store 5 (.tmp 5) (.tmp 20), none, .f⟩])
  (.seq (.seq (.reg [⟨(some 21), .mv (.tmp 0), none, .f⟩,
   ⟨(some 22), .call (.func 148) [(.tmp 21), (.const (.int .i64 3))], none, .f⟩,
   ⟨(some 23), .bin .eql (.tmp 22) (.const (.int .i64 0)), none, .f⟩])
  (.cond (.tmp 23) (.seq (.reg [⟨(some 24), .mv (.tmp 0), none, .f⟩,
   ⟨(some 25), .fadr 0 (.tmp 3), none, .f⟩,
   ⟨(some 26), .load1 (.tmp 25), none, .f⟩,
   ⟨(some 27), .fadr 1 (.tmp 3), none, .f⟩,
   ⟨(some 28), .load1 (.tmp 27), none, .f⟩,
   ⟨(some 29), .call (.func 250) [(.tmp 24), (.tmp 26), (.tmp 28)], none, (.s true [])⟩,
   ⟨(some 30), .mv (.tmp 0), none, .f⟩,
   ⟨(some 31), .fadr 0 (.tmp 3), none, .f⟩,
   ⟨(some 32), .load1 (.tmp 31), none, (.s false [(.tmp 24)])⟩,
   ⟨(some 33), .fadr 2 (.tmp 3), none, .f⟩,
   ⟨(some 34), .load1 (.tmp 33), none, (.s false [(.tmp 24)])⟩,
   ⟨(some 35), .call (.func 250) [(.tmp 30), (.tmp 32), (.tmp 34)], none, (.s true [])⟩,
   ⟨(some 36), .mv (.tmp 0), none, .f⟩,
   ⟨(some 37), .fadr 0 (.tmp 3), none, .f⟩,
   ⟨(some 38), .load1 (.tmp 37), none, (.s false [(.tmp 24), (.tmp 30)])⟩,
   ⟨(some 39), .fadr 3 (.tmp 3), none, .f⟩,
   ⟨(some 40), .load1 (.tmp 39), none, (.s false [(.tmp 24), (.tmp 30)])⟩,
   ⟨(some 41), .call (.func 250) [(.tmp 36), (.tmp 38), (.tmp 40)], none, .f⟩,
   ⟨(some 6), .mv (.tmp 29), none, .f⟩,
   ⟨(some 7), .mv (.tmp 35), none, .f⟩,
   ⟨(some 8), .mv (.tmp 41), none, .f⟩])
  (.seq (.seq (.reg [⟨(some 9), .mv (.const (.int .i64 0)), none, .f⟩])
  (.blk 0 (.loop (.seq (.seq (.reg [⟨(some 42), .mv (.tmp 9), none, .f⟩,
   ⟨(some 43), .fadr 4 (.tmp 5), none, .f⟩,
   ⟨(some 44), .load1 (.tmp 43), none, .f⟩,
   ⟨(some 45), .len (.tmp 44), none, .f⟩,
   ⟨(some 46), .bin .lss (.tmp 42) (.tmp 45), none, .f⟩])
  (.cond (.tmp 46) .skip (.exit 0)))
  (.seq (.blk 1 (.reg [⟨(some 49), .fadr 4 (.tmp 5), none, .f⟩,
   ⟨(some 50), .load1 (.tmp 49), none, .f⟩,
   ⟨(some 51), .mv (.tmp 9), none, .f⟩,
   ⟨(some 52), .mv (.tmp 6), none, .f⟩,
   ⟨(some 53), .mv (.tmp 9), none, .f⟩,
   ⟨(some 54), .fadr 2 (.tmp 3), none, .f⟩,
   ⟨(some 55), .load1 (.tmp 54), none, .f⟩,
   ⟨(some 56), .fadr 3 (.tmp 3), none, .f⟩,
   ⟨(some 57), .load1 (.tmp 56), none, .f⟩,
   ⟨(some 58), .bin .mul (.tmp 55) (.tmp 57), none, .f⟩,
   ⟨(some 59), .bin .quo (.tmp 53) (.tmp 58), none, .f⟩,
   ⟨(some 60), .ixs 1 (.tmp 52) (.tmp 59), none, .f⟩,
   ⟨(some 61), .load1 (.tmp 60), none, .f⟩,
   ⟨(some 62), .mv (.tmp 7), none, .f⟩,
   ⟨(some 63), .mv (.tmp 9), none, .f⟩,
   ⟨(some 64), .fadr 3 (.tmp 3), none, .f⟩,
   ⟨(some 65), .load1 (.tmp 64), none, .f⟩,
   ⟨(some 66), .bin .quo (.tmp 63) (.tmp 65), none, .f⟩,
   ⟨(some 67), .fadr 2 (.tmp 3), none, .f⟩,
   ⟨(some 68), .load1 (.tmp 67), none, .f⟩,
   ⟨(some 69), .bin .rem (.tmp 66) (.tmp 68), none, .f⟩,
   ⟨(some 70), .ixs 1 (.tmp 62) (.tmp 69), none, .f⟩,
   ⟨(some 71), .load1 (.tmp 70), none, .f⟩,
   ⟨(some 72), .bin .mul (.tmp 61) (.tmp 71), none, .f⟩,
   ⟨(some 73), .mv (.tmp 8), none, .f⟩,
   ⟨(some 74), .mv (.tmp 9), none, .f⟩,
   ⟨(some 75), .fadr 3 (.tmp 3), none, .f⟩,
   ⟨(some 76), .load1 (.tmp 75), none, .f⟩,
   ⟨(some 77), .bin .rem (.tmp 74) (.tmp 76), none, .f⟩,
   ⟨(some 78), .ixs 1 (.tmp 73) (.tmp 77), none, .f⟩,
   ⟨(some 79), .load1 (.tmp 78), none, .f⟩,
   ⟨(some 80), .bin .mul (.tmp 72) (.tmp 79), none, .f⟩,
   ⟨(some 81), .fadr 0 (.tmp 3), none, .f⟩,
   ⟨(some 82), .load1 (.tmp 81), none, .f⟩,
   ⟨(some 83), .bin .rem (.tmp 80) (.tmp 82), none, .f⟩,
   ⟨(some 84), .ixs 1 (.tmp 50) (.tmp 51), none, .f⟩,
   ⟨none, .store 1 (.tmp 84) (.tmp 83), none, .f⟩]))
  (.reg [⟨(some 47), .mv (.tmp 9), none, .f⟩,
   ⟨(some 48), .bin .add (.tmp 47) (.const (.int .i64 1)), none, .f⟩,
   ⟨(some 9), .mv (.tmp 48), none, .f⟩]))))))
  (.seq (.reg [⟨(some 85), .loadn 5 (.tmp 5), none, .f⟩,
   ⟨none, .store 5 (.tmp 4) (.tmp 85), none, .f⟩])
  .ret))) .skip))
  (.seq (.reg [⟨(some 86), .mv (.tmp 0), none, .f⟩,
   ⟨(some 87), .call (.func 148) [(.tmp 86), (.const (.int .i64 3))], none, .f⟩,
   ⟨(some 10), .mv (.tmp 87), none, .f⟩])
  (.seq (.seq (.reg [⟨(some 11), .mv (.const (.int .i64 0)), none, .f⟩])
  (.blk 2 (.loop (.seq (.seq (.reg [⟨(some 88), .mv (.tmp 11), none, .f⟩,
   ⟨(some 89), .fadr 4 (.tmp 5), none, .f⟩,
   ⟨(some 90), .load1 (.tmp 89), none, .f⟩,
   ⟨(some 91), .len (.tmp 90), none, .f⟩,
   ⟨(some 92), .bin .lss (.tmp 88) (.tmp 91), none, .f⟩])
  (.cond (.tmp 92) .skip (.exit 2)))
  (.seq (.blk 3 (.seq (.reg [⟨(some 95), .mv (.tmp 10), none, .f⟩,
   ⟨(some 96), .bin .eql (.tmp 95) (.const (.int .i64 0)), none, .f⟩,
   ⟨(some 97), .mv (.tmp 96), none, .f⟩,
   ⟨(some 98), .mv (.tmp 0), (some (97, false)), .f⟩,
   ⟨(some 99), .call (.func 148) [(.tmp 98), (.const (.int .i64 3))], (some (97, false)), .f⟩,
   ⟨(some 100), .bin .eql (.tmp 99) (.const (.int .i64 0)), (some (97, false)), .f⟩,
   ⟨(some 101), .pick (.tmp 97) (.const (.bool true)) (.tmp 100), none, .f⟩])
  (.cond (.tmp 101) (.reg [⟨(some 102), .fadr 4 (.tmp 5), none, .f⟩,
   ⟨(some 103), .load1 (.tmp 102), none, .f⟩,
   ⟨(some 104), .mv (.tmp 11), none, .f⟩,
   ⟨(some 105), .mv (.tmp 0), none, .f⟩,
   ⟨(some 106), .fadr 0 (.tmp 3), none, .f⟩,
   ⟨(some 107), .load1 (.tmp 106), none, .f⟩,
   ⟨(some 108), .call (.func 148) [(.tmp 105), (.tmp 107)], none, (.s true [(.tmp 102)])⟩,
   ⟨(some 109), .ixs 1 (.tmp 103) (.tmp 104), none, .f⟩,
   ⟨none, .store 1 (.tmp 109) (.tmp 108), none, .f⟩]) .skip)))
  (.reg [⟨(some 93), .mv (.tmp 11), none, .f⟩,
   ⟨(some 94), .bin .add (.tmp 93) (.const (.int .i64 1)), none, .f⟩,
   ⟨(some 11), .mv (.tmp 94), none, .f⟩]))))))
  (.seq (.reg [⟨(some 110), .loadn 5 (.tmp 5), none, .f⟩,
   ⟨none, .store 5 (.tmp 4) (.tmp 110), none, .f⟩])
  .ret))))))⟩

theorem s174 : compFn Try.prog Try.f174 = some c174 := by kernel_rfl

/-- loop.example/g01262/spec.l01Near -/
def c175 : XFn :=
 ⟨[.tmp 4],
  (.seq (.reg [⟨(some 4), .mv (.const (.int .i64 0)), none, .f⟩])
  (.seq (.seq (.reg [⟨(some 5), .mv (.tmp 0), none, .f⟩,
   ⟨(some 6), .call (.func 148) [(.tmp 5), (.const (.int .i64 14))], none, .f⟩,
   ⟨(some 7), .bin .eql (.tmp 6) (.const (.int .i64 0)), none, .f⟩])
  (.cond (.tmp 7) (.seq (.reg [⟨(some 8), .mv (.tmp 0), none, .f⟩,
   ⟨(some 9), .mv (.tmp 1), none, .f⟩,
   ⟨(some 10), .bin .add (.tmp 9) (.const (.int .i64 1)), none, .f⟩,
   ⟨(some 11), .bslice 2 1 4 [.int .i64 0] [(0, 1, (.const (.int .i64 (-1)))), (1, 1, (.tmp 10)), (2, 1, (.const (.int .i64 1099511627776))), (3, 1, (.const (.int .i64 (-4611686018427387904))))], none, .f⟩,
   ⟨(some 12), .call (.func 147) [(.tmp 8), (.tmp 11)], none, .f⟩,
   ⟨(some 4), .mv (.tmp 12), none, .f⟩])
  .ret) .skip))
  (.seq (.reg [⟨(some 13), .mv (.tmp 0), none, .f⟩,
   ⟨(some 14), .mv (.tmp 1), none, .f⟩,
   ⟨(some 15), .bin .add (.tmp 14) (.const (.int .i64 1)), none, .f⟩,
   ⟨(some 16), .call (.func 148) [(.tmp 13), (.tmp 15)], none, .f⟩,
   ⟨(some 4), .mv (.tmp 16), none, .f⟩])
  .ret)))⟩

theorem s175 : compFn Try.prog Try.f175 = some c175 := by kernel_rfl

/-- loop.example/g01262/impl.areTensors -/
def c176 : XFn :=
 ⟨[.tmp 2],
  (.seq (.reg [⟨(some 2), .mv (.const (.bool false)), none, .f⟩])
  (.seq (.seq (.reg [⟨(some 5), .mv (.tmp 0), none, .f⟩,
   ⟨(some 6), .len (.tmp 5), none, .f⟩,
   ⟨(some 7), .mv (.const (.int .i64 0)), none, .f⟩])
  (.blk 0 (.loop (.seq (.reg [⟨(some 8), .bin .lss (.tmp 7) (.tmp 6), none, .f⟩])
  (.seq (.cond (.tmp 8) .skip (.exit 0))
  (.seq (.blk 1 (.seq (.reg [⟨(some 9), .ixs 5 (.tmp 5) (.tmp 7), none, .f⟩,
   ⟨(some 10), .loadn 5 (.tmp 9), none, .f⟩,
   ⟨(some 4), .alloc 36 [.int .i64 0, .int .i64 0, .int .i64 0, .int .i64 0, .slice none 0 0], none, .f⟩,
   ⟨none, .store 5 (.tmp 4) (.tmp 10), none, .f⟩])
  (.seq (.reg [⟨(some 11), .loadn 5 (.tmp 4), none, .f⟩,
   ⟨(some 12), .call (.func 28) [(.tmp 11)], none, .f⟩,
   ⟨(some 13), .un .not (.tmp 12), none, .f⟩])
  (.cond (.tmp 13) (.seq (.reg [⟨(some 2), .mv (.const (.bool false)), none, .f⟩])
  .ret) .skip))))
  (.reg [⟨(some 14), .bin .add (.tmp 7) (.const (.int .i64 1)), none, .f⟩,
   ⟨(some 7), .mv (.tmp 14), none, .f⟩])))))))
  (.seq (.reg [⟨(some 2), .mv (.const (.bool true)), none, .f⟩])
  .ret)))⟩

theorem s176 : compFn Try.prog Try.f176 = some c176 := by kernel_rfl

/-- (loop.example/g01262/impl.Tensor).sides -/
def c177 : XFn :=
 ⟨[.celln 2 3],
  (.seq (.reg [⟨(some 1), .box 36 (.tmp 0), none, .f⟩,
   ⟨(some 2), .alloc 158 [.int .i64 0, .int .i64 0, .int .i64 0], none, .f⟩])
  (.seq (.reg [⟨(some 3), .fadr 1 (.tmp 1), none, .f⟩,
   ⟨(some 4), .load1 (.tmp 3), none, .f⟩,
   ⟨(some 5), .fadr 2 (.tmp 1), none, .f⟩,
   ⟨(some 6), .load1 (.tmp 5), none, .f⟩,
   ⟨(some 7), .fadr 3 (.tmp 1), none, .f⟩,
   ⟨(some 8), .load1 (.tmp 7), none, .f⟩,
   ⟨(some 9), .build [.int .i64 0, .int .i64 0, .int .i64 0] [(0, 1, (.tmp 4)), (1, 1, (.tmp 6)), (2, 1, (.tmp 8))], none, .f⟩,
   ⟨none, .store 3 (.tmp 2) (.tmp 9), none, .f⟩])
  .ret))⟩

theorem s177 : compFn Try.prog Try.f177 = some c177 := by kernel_rfl

/-- loop.example/g01262/impl.tensor -/
def c178 : XFn :=
 ⟨[.celln 10 5],
  (.seq (.reg [⟨(some 10), .alloc 36 [.int .i64 0, .int .i64 0, .int .i64 0, .int .i64 0, .slice none 0 0], none, .f⟩])
  (.seq (.reg [⟨(some 15), .mv (.tmp 0), none, .f⟩,
   ⟨(some 16), .mv (.tmp 1), none, .f⟩,
   ⟨(some 17), .mv (.tmp 2), none, .f⟩,
   ⟨(some 18), .mv (.tmp 3), none, .f⟩,
   ⟨(some 19), .build [.int .i64 0, .int .i64 0, .int .i64 0, .int .i64 0, .slice none 0 0] [(0, 1, (.tmp 15)), (1, 1, (.tmp 16)), (2, 1, (.tmp 17)), (3, 1, (.tmp 18))], none, .f⟩,
   ⟨(some 11), .alloc 36 [.int .i64 0, .int .i64 0, .int .i64 0, .int .i64 0, .slice none 0 0], none, .f⟩,
   ⟨none, .store 5 (.tmp 11) (.tmp 19), none, .f⟩])
  (.seq (.seq (.reg [⟨(some 20), .mv (.tmp 1), none, .f⟩,
   ⟨(some 21), .mv (.const (.int .i64 0)), none, .f⟩])
  (.blk 0 (.loop (.seq (.reg [⟨(some 22), .bin .lss (.tmp 21) (.tmp 20), none, .f⟩])
  (.seq (.cond (.tmp 22) .skip (.exit 0))
  (.seq (.blk 1 (.seq (.reg [⟨(some 23), .mv (.tmp 21), none, .f⟩,
   ⟨(some 12), .mv (.tmp 23), none, .f⟩])
  (.seq (.reg [⟨(some 24), .mv (.tmp 2), none, .f⟩,
   ⟨(some 25), .mv (.const (.int .i64 0)), none, .f⟩])
  (.blk 2 (.loop (.seq (.reg [⟨(some 26), .bin .lss (.tmp 25) (.tmp 24), none, .f⟩])
  (.seq (.cond (.tmp 26) .skip (.exit 2))
  (.seq (.blk 3 (.seq (.reg [⟨(some 27), .mv (.tmp 25), none, .f⟩,
   ⟨(some 13), .mv (.tmp 27), none, .f⟩])
  (.seq (.reg [⟨(some 28), .mv (.tmp 3), none, .f⟩,
   ⟨(some 29), .mv (.const (.int .i64 0)), none, .f⟩])
  (.blk 4 (.loop (.seq (.reg [⟨(some 30), .bin .lss (.tmp 29) (.tmp 28), none, .f⟩])
  (.seq (.cond (.tmp 30) .skip (.exit 4))
  (.seq (.blk 5 (.seq (.reg [⟨(some 31), .mv (.tmp 29), none, .f⟩,
   ⟨(some 14), .mv (.tmp 31), none, .f⟩])
  (.reg [⟨(some 32), .fadr 4 (.tmp 11), none, .f⟩,
   ⟨(some 33), .load1 (.tmp 32), none, .f⟩,
   ⟨(some 34), .mv (.tmp 4), none, .f⟩,
   ⟨(some 35), .mv (.tmp 12), none, .f⟩,
   ⟨(some 36), .mv (.tmp 13), none, .f⟩,
   ⟨(some 37), .mv (.tmp 14), none, .f⟩,
   ⟨(some 38), .call (.tmp 34) [(.tmp 35), (.tmp 36), (.tmp 37)], none, .t⟩,
   ⟨(some 39), .mv (.tmp 0), none, .f⟩,
   ⟨(some 40), .bin .rem (.tmp 38) (.tmp 39), none, .f⟩,
   ⟨(some 41), .bslice 2 1 1 [.int .i64 0] [(0, 1, (.tmp 40))], none, .f⟩,
   ⟨(some 42), .app 2 1 8 (.tmp 33) (.tmp 41), none, .f⟩,
   ⟨(some 43), .fadr 4 (.tmp 11), none, .f⟩,
   ⟨none, .store 1 (.tmp 43) (.tmp 42), none, .f⟩])))
  (.reg [⟨(some 44), .bin .add (.tmp 29) (.const (.int .i64 1)), none, .f⟩,
   ⟨(some 29), .mv (.tmp 44), none, .f⟩])))))))))
  (.reg [⟨(some 45), .bin .add (.tmp 25) (.const (.int .i64 1)), none, .f⟩,
   ⟨(some 25), .mv (.tmp 45), none, .f⟩])))))))))
  (.reg [⟨(some 46), .bin .add (.tmp 21) (.const (.int .i64 1)), none, .f⟩,
   ⟨(some 21), .mv (.tmp 46), none, .f⟩])))))))
  (.seq (.reg [⟨(some 47), .loadn 5 (.tmp 11), none, .f⟩,
   ⟨none, .store 5 (.tmp 10) (.tmp 47), none, .f⟩])
  .ret))))⟩

theorem s178 : compFn Try.prog Try.f178 = some c178 := by kernel_rfl

/-- loop.example/g01262/impl.AddTensors$1 -/
def c179 : XFn :=
 ⟨[.tmp 9],
  (.seq (.reg [⟨(some 9), .mv (.const (.int .i64 0)), none, .f⟩])
  (.seq (.reg [⟨(some 10), .loadn 5 (.tmp 3), none, .f⟩,
   ⟨(some 11), .mv (.tmp 0), none, .f⟩,
   ⟨(some 12), .mv (.tmp 1), none, .f⟩,
   ⟨(some 13), .mv (.tmp 2), none, .f⟩,
   ⟨(some 14), .call (.func 180) [(.tmp 10), (.tmp 11), (.tmp 12), (.tmp 13)], none, .t⟩,
   ⟨(some 15), .load1 (.tmp 4), none, .f⟩,
   ⟨(some 16), .loadn 5 (.tmp 5), none, .f⟩,
   ⟨(some 17), .mv (.tmp 0), none, .f⟩,
   ⟨(some 18), .mv (.tmp 1), none, .f⟩,
   ⟨(some 19), .mv (.tmp 2), none, .f⟩,
   ⟨(some 20), .call (.func 180) [(.tmp 16), (.tmp 17), (.tmp 18), (.tmp 19)], none, .t⟩,
   ⟨(some 21), .bin .mul (.tmp 15) (.tmp 20), none, .f⟩,
   ⟨(some 22), .bin .add (.tmp 14) (.tmp 21), none, .f⟩,
   ⟨(some 9), .mv (.tmp 22), none, .f⟩])
  .ret))⟩

theorem s179 : compFn Try.prog Try.f179 = some c179 := by kernel_rfl

/-- (loop.example/g01262/impl.Tensor).at -/
def c180 : XFn :=
 ⟨[.tmp 8],
  (.seq (.reg [⟨(some 4), .box 36 (.tmp 0), none, .f⟩,
   ⟨(some 8), .mv (.const (.int .i64 0)), none, .f⟩])
  (.seq (.reg [⟨(some 9), .fadr 4 (.tmp 4), none, .f⟩,
   ⟨(some 10), .load1 (.tmp 9), none, .f⟩,
   ⟨(some 11), .mv (.tmp 1), none, .f⟩,
   ⟨(some 12), .fadr 2 (.tmp 4), none, .f⟩,
   ⟨(some 13), .load1 (.tmp 12), none, .f⟩,
   ⟨(some 14), .bin .mul (.tmp 11) (.tmp 13), none, .f⟩,
   ⟨(some 15), .mv (.tmp 2), none, .f⟩,
   ⟨(some 16), .bin .add (.tmp 14) (.tmp 15), none, .f⟩,
   ⟨(some 17), .fadr 3 (.tmp 4), none, .f⟩,
   ⟨(some 18), .load1 (.tmp 17), none, .f⟩,
   ⟨(some 19), .bin .mul (.tmp 16) (.tmp 18), none, .f⟩,
   ⟨(some 20), .mv (.tmp 3), none, .f⟩,
   ⟨(some 21), .bin .add (.tmp 19) (.tmp 20), none, .f⟩,
   ⟨(some 22), .ixs 1 (.tmp 10) (.tmp 21), none, .f⟩,
   ⟨(some 23), .load1 (.tmp 22), none, .f⟩,
   ⟨(some 8), .mv (.tmp 23), none, .f⟩])
  .ret))⟩

theorem s180 : compFn Try.prog Try.f180 = some c180 := by kernel_rfl

/-- loop.example/g01262/spec.l01In -/
def c181 : XFn :=
 ⟨[.tmp 6],
  (.seq (.reg [⟨(some 6), .mv (.const (.bool false)), none, .f⟩])
  (.seq (.reg [⟨(some 7), .mv (.tmp 0), none, .f⟩,
   ⟨(some 8), .mv (.tmp 1), none, .f⟩,
   ⟨(some 9), .bin .geq (.tmp 7) (.tmp 8), none, .f⟩,
   ⟨(some 10), .mv (.tmp 9), none, .f⟩,
   ⟨(some 11), .mv (.tmp 0), (some (10, true)), .f⟩,
   ⟨(some 12), .mv (.tmp 2), (some (10, true)), .f⟩,
   ⟨(some 13), .bin .leq (.tmp 11) (.tmp 12), (some (10, true)), .f⟩,
   ⟨(some 14), .pick (.tmp 10) (.tmp 13) (.const (.bool false)), none, .f⟩,
   ⟨(some 6), .mv (.tmp 14), none, .f⟩])
  .ret))⟩

theorem s181 : compFn Try.prog Try.f181 = some c181 := by kernel_rfl

/-- loop.example/g01262/spec.l05Empty -/
def c182 : XFn :=
 ⟨[.celln 8 5],
  (.seq (.reg [⟨(some 8), .alloc 36 [.int .i64 0, .int .i64 0, .int .i64 0, .int .i64 0, .slice none 0 0], none, .f⟩])
  (.seq (.reg [⟨(some 9), .mv (.tmp 0), none, .f⟩,
   ⟨(some 10), .mv (.tmp 1), none, .f⟩,
   ⟨(some 11), .mv (.tmp 2), none, .f⟩,
   ⟨(some 12), .mv (.tmp 3), none, .f⟩,
   ⟨(some 13), .mv (.tmp 1), none, .f⟩,
   ⟨(some 14), .mv (.tmp 2), none, .f⟩,
   ⟨(some 15), .bin .mul (.tmp 13) (.tmp 14), none, .f⟩,
   ⟨(some 16), .mv (.tmp 3), none, .f⟩,
   ⟨(some 17), .bin .mul (.tmp 15) (.tmp 16), none, .f⟩,
   ⟨(some 18), .mks 2 1 8 [.int .i64 0] (.tmp 17), none, .f⟩,
   ⟨(some 19), .build [.int .i64 0, .int .i64 0, .int .i64 0, .int .i64 0, .slice none 0 0] [(0, 1, (.tmp 9)), (1, 1, (.tmp 10)), (2, 1, (.tmp 11)), (3, 1, (.tmp 12)), (4, 1, (.tmp 18))], none, .f⟩,
   ⟨none, .store 5 (.tmp 8) (.tmp 19), none, .f⟩])
  .ret))⟩

theorem s182 : compFn Try.prog Try.f182 = some c182 := by kernel_rfl

/-- loop.example/g01262/impl.isSide -/
def c183 : XFn :=
 ⟨[.tmp 2],
  (.seq (.reg [⟨(some 2), .mv (.const (.bool false)), none, .f⟩])
  (.seq (.seq (.reg [⟨(some 5), .mv (.tmp 0), none, .f⟩,
   ⟨(some 6), .len (.tmp 5), none, .f⟩,
   ⟨(some 7), .mv (.const (.int .i64 0)), none, .f⟩])
  (.blk 0 (.loop (.seq (.reg [⟨(some 8), .bin .lss (.tmp 7) (.tmp 6), none, .f⟩])
  (.seq (.cond (.tmp 8) .skip (.exit 0))
  (.seq (.blk 1 (.seq (.reg [⟨(some 9), .ixs 1 (.tmp 5) (.tmp 7), none, .f⟩,
   ⟨(some 10), .load1 (.tmp 9), none, .f⟩,
   ⟨(some 4), .mv (.tmp 10), none, .f⟩])
  (.seq (.reg [⟨(some 11), .mv (.tmp 4), none, .f⟩,
   ⟨(some 12), .bin .lss (.tmp 11) (.const (.int .i64 1)), none, .f⟩,
   ⟨(some 13), .mv (.tmp 12), none, .f⟩,
   ⟨(some 14), .mv (.tmp 4), (some (13, false)), .f⟩,
   ⟨(some 15), .bin .gtr (.tmp 14) (.const (.int .i64 9)), (some (13, false)), .f⟩,
   ⟨(some 16), .pick (.tmp 13) (.const (.bool true)) (.tmp 15), none, .f⟩])
  (.cond (.tmp 16) (.seq (.reg [⟨(some 2), .mv (.const (.bool false)), none, .f⟩])
  .ret) .skip))))
  (.reg [⟨(some 17), .bin .add (.tmp 7) (.const (.int .i64 1)), none, .f⟩,
   ⟨(some 7), .mv (.tmp 17), none, .f⟩])))))))
  (.seq (.reg [⟨(some 2), .mv (.const (.bool true)), none, .f⟩])
  .ret)))⟩

theorem s183 : compFn Try.prog Try.f183 = some c183 := by kernel_rfl

/-- loop.example/g01262/impl.areNumbers -/
def c184 : XFn :=
 ⟨[.tmp 4],
  (.seq (.reg [⟨(some 4), .mv (.const (.bool false)), none, .f⟩])
  (.seq (.seq (.reg [⟨(some 7), .mv (.tmp 1), none, .f⟩,
   ⟨(some 8), .len (.tmp 7), none, .f⟩,
   ⟨(some 9), .mv (.const (.int .i64 0)), none, .f⟩])
  (.blk 0 (.loop (.seq (.reg [⟨(some 10), .bin .lss (.tmp 9) (.tmp 8), none, .f⟩])
  (.seq (.cond (.tmp 10) .skip (.exit 0))
  (.seq (.blk 1 (.seq (.reg [⟨(some 11), .ixs 1 (.tmp 7) (.tmp 9), none, .f⟩,
   ⟨(some 12), .load1 (.tmp 11), none, .f⟩,
   ⟨(some 6), .mv (.tmp 12), none, .f⟩])
  (.seq (.reg [⟨(some 13), .mv (.tmp 6), none, .f⟩,
   ⟨(some 14), .bin .lss (.tmp 13) (.const (.int .i64 0)), none, .f⟩,
   ⟨(some 15), .mv (.tmp 14), none, .f⟩,
   ⟨(some 16), .mv (.tmp 6), (some (15, false)), .f⟩,
   ⟨(some 17), .mv (.tmp 0), (some (15, false)), .f⟩,
   ⟨(some 18), .bin .geq (.tmp 16) (.tmp 17), (some (15, false)), .f⟩,
   ⟨(some 19), .pick (.tmp 15) (.const (.bool true)) (.tmp 18), none, .f⟩])
  (.cond (.tmp 19) (.seq (.reg [⟨(some 4), .mv (.const (.bool false)), none, .f⟩])
  .ret) .skip))))
  (.reg [⟨(some 20), .bin .add (.tmp 9) (.const (.int .i64 1)), none, .f⟩,
   ⟨(some 9), .mv (.tmp 20), none, .f⟩])))))))
  (.seq (.reg [⟨(some 4), .mv (.const (.bool true)), none, .f⟩])
  .ret)))⟩

theorem s184 : compFn Try.prog Try.f184 = some c184 := by kernel_rfl

/-- loop.example/g01262/impl.flattenRanks -/
def c185 : XFn :=
 ⟨[.tmp 2],
  (.seq (.reg [⟨(some 1), .box 36 (.tmp 0), none, .f⟩,
   ⟨(some 2), .mv (.const (.slice none 0 0)), none, .f⟩])
  (.seq (.reg [⟨(some 6), .bslice 2 1 0 [.int .i64 0] [], none, .f⟩,
   ⟨(some 3), .mv (.tmp 6), none, .f⟩])
  (.seq (.seq (.reg [⟨(some 7), .mv (.const (.int .i64 0)), none, .f⟩])
  (.blk 0 (.loop (.seq (.reg [⟨(some 8), .bin .lss (.tmp 7) (.const (.int .i64 3)), none, .f⟩])
  (.seq (.cond (.tmp 8) .skip (.exit 0))
  (.seq (.blk 1 (.seq (.reg [⟨(some 9), .mv (.tmp 7), none, .f⟩,
   ⟨(some 4), .mv (.tmp 9), none, .f⟩])
  (.seq (.reg [⟨(some 10), .loadn 5 (.tmp 1), none, .f⟩,
   ⟨(some 11), .mv (.tmp 4), none, .f⟩,
   ⟨(some 12), .call (.func 245) [(.tmp 10), (.tmp 11)], none, .f⟩,
   ⟨(some 5), .alloc 36 [.int .i64 0, .int .i64 0, .int .i64 0, .int .i64 0, .slice none 0 0], none, .f⟩,
   ⟨none, .store 5 (.tmp 5) (.tmp 12), none, .f⟩])
  (.reg [⟨(some 13), .mv (.tmp 3), none, .f⟩,
   ⟨(some 14), .fadr 0 (.tmp 1), none, .f⟩,
   ⟨(some 15), .load1 (.tmp 14), none, .f⟩,
   ⟨(some 16), .fadr 4 (.tmp 5), none, .f⟩,
   ⟨(some 17), .load1 (.tmp 16), none, .f⟩,
   ⟨(some 18), .fadr 2 (.tmp 5), none, .f⟩,
   ⟨(some 19), .load1 (.tmp 18), none, .f⟩,
   ⟨(some 20), .fadr 3 (.tmp 5), none, .f⟩,
   ⟨(some 21), .load1 (.tmp 20), none, .f⟩,
   ⟨(some 22), .bin .mul (.tmp 19) (.tmp 21), none, .f⟩,
   ⟨(some 23), .call (.func 163) [(.tmp 17), (.tmp 22)], none, .t⟩,
   ⟨(some 24), .call (.func 246) [(.tmp 15), (.tmp 23)], none, .f⟩,
   ⟨(some 25), .bslice 2 1 1 [.int .i64 0] [(0, 1, (.tmp 24))], none, .f⟩,
   ⟨(some 26), .app 2 1 8 (.tmp 13) (.tmp 25), none, .f⟩,
   ⟨(some 3), .mv (.tmp 26), none, .f⟩]))))
  (.reg [⟨(some 27), .bin .add (.tmp 7) (.const (.int .i64 1)), none, .f⟩,
   ⟨(some 7), .mv (.tmp 27), none, .f⟩])))))))
  (.seq (.reg [⟨(some 28), .mv (.tmp 3), none, .f⟩,
   ⟨(some 2), .mv (.tmp 28), none, .f⟩])
  .ret))))⟩

theorem s185 : compFn Try.prog Try.f185 = some c185 := by kernel_rfl

/-- loop.example/g01262/spec.l05Pair -/
def c186 : XFn :=
 ⟨[.celln 2 5, .celln 3 5],
  (.seq (.reg [⟨(some 2), .alloc 36 [.int .i64 0, .int .i64 0, .int .i64 0, .int .i64 0, .slice none 0 0], none, .f⟩,
   ⟨(some 3), .alloc 36 [.int .i64 0, .int .i64 0, .int .i64 0, .int .i64 0, .slice none 0 0], none, .f⟩])
  (.seq (.reg [⟨(some 7), .mv (.tmp 0), none, .f⟩,
   ⟨(some 8), .call (.func 145) [(.tmp 7)], none, .f⟩,
   ⟨(some 4), .mv (.tmp 8), none, .f⟩])
  (.seq (.reg [⟨(some 9), .mv (.tmp 4), none, .f⟩,
   ⟨(some 10), .mv (.tmp 4), none, .f⟩,
   ⟨(some 11), .call (.func 292) [(.tmp 10), (.const (.int .i64 3))], none, .f⟩,
   ⟨(some 12), .call (.func 174) [(.tmp 9), (.tmp 11)], none, .f⟩,
   ⟨(some 13), .mv (.tmp 4), none, .f⟩,
   ⟨(some 14), .mv (.tmp 4), none, .f⟩,
   ⟨(some 15), .bslice 2 1 3 [.int .i64 0] [(0, 1, (.const (.int .i64 2))), (1, 1, (.const (.int .i64 3))), (2, 1, (.const (.int .i64 4)))], none, .f⟩,
   ⟨(some 16), .call (.func 147) [(.tmp 14), (.tmp 15)], none, .f⟩,
   ⟨(some 17), .call (.func 292) [(.tmp 13), (.tmp 16)], none, .f⟩,
   ⟨(some 5), .alloc 36 [.int .i64 0, .int .i64 0, .int .i64 0, .int .i64 0, .slice none 0 0], none, .f⟩,
   ⟨(some 6), .alloc 36 [.int .i64 0, .int .i64 0, .int .i64 0, .int .i64 0, .slice none 0 0], none, .f⟩,
   ⟨none, .store 5 (.tmp 5) (.tmp 12), none, .f⟩,
   ⟨none, .store 5 (.tmp 6) (.tmp 17), none, .f⟩])
  (.seq (.seq (.reg [⟨(some 18), .mv (.tmp 4), none, .f⟩,
   ⟨(some 19), .call (.func 148) [(.tmp 18), (.const (.int .i64 12))], none, .f⟩,
   ⟨(some 20), .bin .gtr (.tmp 19) (.const (.int .i64 0)), none, .f⟩])
  (.cond (.tmp 20) (.reg [⟨(some 21), .fadr 0 (.tmp 5), none, .f⟩,
   ⟨(some 22), .load1 (.tmp 21), none, .f⟩,
   ⟨(some 23), .fadr 0 (.tmp 6), none, .f⟩,
   ⟨none, .store 1 (.tmp 23) (.tmp 22), none, .f⟩]) .skip))
  (.seq (.reg [⟨(some 24), .mv (.tmp 4), none, .f⟩,
   ⟨(some 25), .loadn 5 (.tmp 5), none, .f⟩,
   ⟨(some 26), .call (.func 290) [(.tmp 24), (.tmp 25)], none, (.s true [])⟩,
   ⟨(some 27), .mv (.tmp 4), none, .f⟩,
   ⟨(some 28), .mv (.tmp 4), none, .f⟩,
   ⟨(some 29), .loadn 5 (.tmp 6), none, (.s false [(.tmp 24)])⟩,
   ⟨(some 30), .call (.func 174) [(.tmp 28), (.tmp 29)], none, .f⟩,
   ⟨(some 31), .call (.func 290) [(.tmp 27), (.tmp 30)], none, .f⟩,
   ⟨none, .store 5 (.tmp 2) (.tmp 26), none, .f⟩,
   ⟨none, .store 5 (.tmp 3) (.tmp 31), none, .f⟩])
  .ret)))))⟩

theorem s186 : compFn Try.prog Try.f186 = some c186 := by kernel_rfl

/-- loop.example/g01262/impl.twoTensors -/
def c187 : XFn :=
 ⟨[.tmp 6],
  (.seq (.reg [⟨(some 3), .box 36 (.tmp 0), none, .f⟩,
   ⟨(some 4), .box 36 (.tmp 1), none, .f⟩,
   ⟨(some 6), .mv (.const (.int .i64 0)), none, .f⟩])
  (.seq (.blk 0 (.seq (.reg [⟨(some 8), .loadn 5 (.tmp 3), none, .f⟩,
   ⟨(some 9), .loadn 5 (.tmp 4), none, .f⟩,
   ⟨(some 10), .bslice 36 5 2 [.int .i64 0, .int .i64 0, .int .i64 0, .int .i64 0, .slice none 0 0] [(0, 5, (.tmp 8)), (5, 5, (.tmp 9))], none, .f⟩,
   ⟨(some 11), .call (.func 176) [(.tmp 10)], none, .f⟩,
   ⟨(some 12), .un .not (.tmp 11), none, .f⟩,
   ⟨(some 7), .mv (.tmp 12), none, .f⟩])
  (.cond (.tmp 7) (.seq (.reg [⟨(some 6), .mv (.const (.int .i64 1)), none, .f⟩])
  .ret) (.seq (.reg [⟨(some 14), .fadr 0 (.tmp 3), none, .f⟩,
   ⟨(some 15), .load1 (.tmp 14), none, .f⟩,
   ⟨(some 16), .fadr 0 (.tmp 4), none, .f⟩,
   ⟨(some 17), .load1 (.tmp 16), none, .f⟩,
   ⟨(some 18), .bin .neq (.tmp 15) (.tmp 17), none, .f⟩,
   ⟨(some 13), .mv (.tmp 18), none, .f⟩])
  (.cond (.tmp 13) (.seq (.reg [⟨(some 6), .mv (.const (.int .i64 2)), none, .f⟩])
  .ret) (.seq (.reg [⟨(some 20), .mv (.tmp 2), none, .f⟩,
   ⟨(some 21), .call (.func 183) [(.tmp 20)], none, .f⟩,
   ⟨(some 22), .un .not (.tmp 21), none, .f⟩,
   ⟨(some 19), .mv (.tmp 22), none, .f⟩])
  (.cond (.tmp 19) (.seq (.reg [⟨(some 6), .mv (.const (.int .i64 3)), none, .f⟩])
  .ret) .skip)))))))
  (.seq (.reg [⟨(some 6), .mv (.const (.int .i64 0)), none, .f⟩])
  .ret)))⟩

theorem s187 : compFn Try.prog Try.f187 = some c187 := by kernel_rfl

def tab1 : List (Nat × XFn) := [(4, c4), (13, c13), (20, c20), (24, c24), (25, c25), (26, c26), (27, c27), (28, c28), (29, c29), (30, c30), (31, c31), (32, c32), (33, c33), (34, c34), (35, c35), (36, c36), (37, c37), (38, c38), (39, c39), (145, c145), (147, c147), (148, c148), (163, c163), (166, c166), (172, c172), (173, c173), (174, c174), (175, c175), (176, c176), (177, c177), (178, c178), (179, c179), (180, c180), (181, c181), (182, c182), (183, c183), (184, c184), (185, c185), (186, c186), (187, c187)]
theorem ts1 : TSound Try.prog (fun g => tab1.lookup g) := by
  refine tsound_of_all (P := Try.prog) (tab := tab1) ?_
  intro p hp
  simp only [tab1, List.mem_cons, List.not_mem_nil, or_false] at hp
  rcases hp with rfl | rfl | rfl | rfl | rfl | rfl | rfl | rfl | rfl | rfl | rfl | rfl | rfl | rfl | rfl | rfl | rfl | rfl | rfl | rfl | rfl | rfl | rfl | rfl | rfl | rfl | rfl | rfl | rfl | rfl | rfl | rfl | rfl | rfl | rfl | rfl | rfl | rfl | rfl | rfl
  · exact ⟨_, Try.func4, s4⟩
  · exact ⟨_, Try.func13, s13⟩
  · exact ⟨_, Try.func20, s20⟩
  · exact ⟨_, Try.func24, s24⟩
  · exact ⟨_, Try.func25, s25⟩
  · exact ⟨_, Try.func26, s26⟩
  · exact ⟨_, Try.func27, s27⟩
  · exact ⟨_, Try.func28, s28⟩
  · exact ⟨_, Try.func29, s29⟩
  · exact ⟨_, Try.func30, s30⟩
  · exact ⟨_, Try.func31, s31⟩
  · exact ⟨_, Try.func32, s32⟩
  · exact ⟨_, Try.func33, s33⟩
  · exact ⟨_, Try.func34, s34⟩
  · exact ⟨_, Try.func35, s35⟩
  · exact ⟨_, Try.func36, s36⟩
  · exact ⟨_, Try.func37, s37⟩
  · exact ⟨_, Try.func38, s38⟩
  · exact ⟨_, Try.func39, s39⟩
  · exact ⟨_, Try.func145, s145⟩
  · exact ⟨_, Try.func147, s147⟩
  · exact ⟨_, Try.func148, s148⟩
  · exact ⟨_, Try.func163, s163⟩
  · exact ⟨_, Try.func166, s166⟩
  · exact ⟨_, Try.func172, s172⟩
  · exact ⟨_, Try.func173, s173⟩
  · exact ⟨_, Try.func174, s174⟩
  · exact ⟨_, Try.func175, s175⟩
  · exact ⟨_, Try.func176, s176⟩
  · exact ⟨_, Try.func177, s177⟩
  · exact ⟨_, Try.func178, s178⟩
  · exact ⟨_, Try.func179, s179⟩
  · exact ⟨_, Try.func180, s180⟩
  · exact ⟨_, Try.func181, s181⟩
  · exact ⟨_, Try.func182, s182⟩
  · exact ⟨_, Try.func183, s183⟩
  · exact ⟨_, Try.func184, s184⟩
  · exact ⟨_, Try.func185, s185⟩
  · exact ⟨_, Try.func186, s186⟩
  · exact ⟨_, Try.func187, s187⟩
end Go.Proofs.Ytapafdpnmakekaa.X
