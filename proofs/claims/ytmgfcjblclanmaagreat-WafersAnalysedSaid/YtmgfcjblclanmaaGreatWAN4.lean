/-
  The functions' forms for the abstract machine, each checked against the program's form.
-/
import Derived.Test.YtmgfcjblclanmaaGreatWAN1
import Derived.Test.YtmgfcjblclanmaaGreatProg
import Derived.Test.YtmgfcjblclanmaaGreatWAN3
import Derived.Lib.Bytealg
import Derived.Laws.Externs
import Derived.KernelRfl
set_option linter.unusedVariables false
set_option linter.unusedSimpArgs false
set_option maxRecDepth 100000
namespace Go.Proofs.YtmgfcjblclanmaaGreat
def a3 : AFn := ⟨214, [.t 2], .seq (.ops [⟨(some 2), none, .mv (.c (.bool false))⟩])
 (.seq (.ops [⟨(some 26), none, .mv (.t 0)⟩, ⟨(some 27), none, .build [(.lit true 0 []), (.int .i64 0)] [(0, 1, (.t 26))]⟩, ⟨(some 28), none, .box 25 (.t 27)⟩, ⟨(some 3), none, .mv (.t 28)⟩])
 (.seq (.ops [⟨(some 29), none, .mv (.t 3)⟩, ⟨(some 30), none, .call 4 [(.t 29)]⟩, ⟨(some 31), none, .mv (.t 3)⟩, ⟨(some 32), none, .bslice 3 1 6 [(.int .i64 0)] [(0, 1, (.c (.int .i64 1))), (1, 1, (.c (.int .i64 1))), (2, 1, (.c (.int .i64 2))), (3, 1, (.c (.int .i64 3))), (4, 1, (.c (.int .i64 0))), (5, 1, (.c (.int .i64 3601)))]⟩, ⟨(some 33), none, .call 5 [(.t 31), (.t 32)]⟩, ⟨(some 34), none, .mv (.t 3)⟩, ⟨(some 35), none, .bslice 3 1 6 [(.int .i64 0)] [(0, 1, (.c (.int .i64 1))), (1, 1, (.c (.int .i64 2))), (2, 1, (.c (.int .i64 3))), (3, 1, (.c (.int .i64 5))), (4, 1, (.c (.int .i64 0))), (5, 1, (.c (.int .i64 9)))]⟩, ⟨(some 36), none, .call 5 [(.t 34), (.t 35)]⟩, ⟨(some 4), none, .alloc 28 [(.lit true 0 []), (.str [])]⟩, ⟨none, none, .store 2 (.t 4) (.t 30)⟩, ⟨(some 5), none, .mv (.t 33)⟩, ⟨(some 6), none, .mv (.t 36)⟩])
 (.seq (.ops [⟨(some 37), none, .load (some 2) (.t 4)⟩, ⟨(some 38), none, .call 6 [(.t 37)]⟩, ⟨(some 7), none, .mv (.t 38)⟩])
 (.seq (.ops [⟨(some 40), none, .load (some 2) (.t 4)⟩, ⟨(some 41), none, .mv (.t 5)⟩, ⟨(some 42), none, .call 7 [(.t 40), (.t 41)]⟩, ⟨(some 39), none, .mv (.t 42)⟩, ⟨(some 43), none, .ext (.t 39) 0⟩, ⟨(some 44), none, .ext (.t 39) 1⟩, ⟨(some 8), none, .mv (.t 43)⟩, ⟨(some 9), none, .mv (.t 44)⟩])
 (.seq (.ops [⟨(some 46), none, .load (some 2) (.t 4)⟩, ⟨(some 47), none, .mv (.t 6)⟩, ⟨(some 48), none, .call 8 [(.t 46), (.t 47)]⟩, ⟨(some 45), none, .mv (.t 48)⟩, ⟨(some 49), none, .ext (.t 45) 0⟩, ⟨(some 50), none, .ext (.t 45) 1⟩, ⟨(some 51), none, .ext (.t 45) 2⟩, ⟨(some 10), none, .alloc 28 [(.lit true 0 []), (.str [])]⟩, ⟨none, none, .store 2 (.t 10) (.t 49)⟩, ⟨(some 11), none, .mv (.t 50)⟩, ⟨(some 12), none, .mv (.t 51)⟩])
 (.seq (.ops [⟨(some 53), none, .load (some 2) (.t 4)⟩, ⟨(some 54), none, .call 9 [(.t 53)]⟩, ⟨(some 52), none, .mv (.t 54)⟩, ⟨(some 55), none, .ext (.t 52) 0⟩, ⟨(some 56), none, .ext (.t 52) 1⟩, ⟨(some 13), none, .mv (.t 55)⟩, ⟨(some 14), none, .mv (.t 56)⟩])
 (.seq (.ops [⟨(some 58), none, .load (some 2) (.t 4)⟩, ⟨(some 59), none, .call 10 [(.t 58)]⟩, ⟨(some 57), none, .mv (.t 59)⟩, ⟨(some 60), none, .ext (.t 57) 0⟩, ⟨(some 61), none, .ext (.t 57) 1⟩, ⟨(some 62), none, .ext (.t 57) 2⟩, ⟨(some 15), none, .mv (.t 60)⟩, ⟨(some 16), none, .mv (.t 61)⟩, ⟨(some 17), none, .mv (.t 62)⟩])
 (.seq (.ops [⟨(some 64), none, .load (some 2) (.t 4)⟩, ⟨(some 65), none, .call 11 [(.t 64)]⟩, ⟨(some 63), none, .mv (.t 65)⟩, ⟨(some 66), none, .ext (.t 63) 0⟩, ⟨(some 67), none, .ext (.t 63) 1⟩, ⟨(some 18), none, .alloc 28 [(.lit true 0 []), (.str [])]⟩, ⟨none, none, .store 2 (.t 18) (.t 66)⟩, ⟨(some 19), none, .mv (.t 67)⟩])
 (.seq (.seq (.ops [⟨(some 68), none, .mv (.t 7)⟩, ⟨(some 69), none, .bin 0 .neq (.t 68) (.c (.int .i64 0))⟩])
 (.cond (.t 69) (.seq (.ops [⟨(some 70), none, .mv (.t 9)⟩, ⟨(some 71), none, .mv (.t 7)⟩, ⟨(some 72), none, .bin 0 .eql (.t 70) (.t 71)⟩, ⟨(some 73), none, .mv (.t 72)⟩, ⟨(some 74), (some (73, true)), .mv (.t 12)⟩, ⟨(some 75), (some (73, true)), .mv (.t 7)⟩, ⟨(some 76), (some (73, true)), .bin 0 .eql (.t 74) (.t 75)⟩, ⟨(some 77), none, .pick (.t 73) (.t 76) (.c (.bool false))⟩, ⟨(some 78), none, .mv (.t 77)⟩, ⟨(some 79), (some (78, true)), .mv (.t 14)⟩, ⟨(some 80), (some (78, true)), .mv (.t 7)⟩, ⟨(some 81), (some (78, true)), .bin 0 .eql (.t 79) (.t 80)⟩, ⟨(some 82), none, .pick (.t 78) (.t 81) (.c (.bool false))⟩, ⟨(some 83), none, .mv (.t 82)⟩, ⟨(some 84), (some (83, true)), .mv (.t 17)⟩, ⟨(some 85), (some (83, true)), .mv (.t 7)⟩, ⟨(some 86), (some (83, true)), .bin 0 .eql (.t 84) (.t 85)⟩, ⟨(some 87), none, .pick (.t 83) (.t 86) (.c (.bool false))⟩, ⟨(some 88), none, .mv (.t 87)⟩, ⟨(some 89), (some (88, true)), .mv (.t 19)⟩, ⟨(some 90), (some (88, true)), .mv (.t 7)⟩, ⟨(some 91), (some (88, true)), .bin 0 .eql (.t 89) (.t 90)⟩, ⟨(some 92), none, .pick (.t 88) (.t 91) (.c (.bool false))⟩, ⟨(some 93), none, .mv (.t 92)⟩, ⟨(some 94), (some (93, true)), .mv (.t 8)⟩, ⟨(some 95), (some (93, true)), .len false (.t 94)⟩, ⟨(some 96), (some (93, true)), .mv (.t 13)⟩, ⟨(some 97), (some (93, true)), .len false (.t 96)⟩, ⟨(some 98), (some (93, true)), .bin 0 .add (.t 95) (.t 97)⟩, ⟨(some 99), (some (93, true)), .mv (.t 15)⟩, ⟨(some 100), (some (93, true)), .len false (.t 99)⟩, ⟨(some 101), (some (93, true)), .bin 0 .add (.t 98) (.t 100)⟩, ⟨(some 102), (some (93, true)), .mv (.t 16)⟩, ⟨(some 103), (some (93, true)), .len false (.t 102)⟩, ⟨(some 104), (some (93, true)), .bin 0 .add (.t 101) (.t 103)⟩, ⟨(some 105), (some (93, true)), .bin 0 .eql (.t 104) (.c (.int .i64 0))⟩, ⟨(some 106), none, .pick (.t 93) (.t 105) (.c (.bool false))⟩, ⟨(some 107), none, .mv (.t 106)⟩, ⟨(some 108), (some (107, true)), .mv (.t 11)⟩, ⟨(some 109), (some (107, true)), .bin 0 .eql (.t 108) (.c (.int .i64 0))⟩, ⟨(some 110), none, .pick (.t 107) (.t 109) (.c (.bool false))⟩, ⟨(some 111), none, .mv (.t 110)⟩, ⟨(some 112), (some (111, true)), .load (some 2) (.t 10)⟩, ⟨(some 113), (some (111, true)), .build [(.lit true 0 []), (.str [])] []⟩, ⟨(some 114), (some (111, true)), .call 12 [(.t 112), (.t 113)]⟩, ⟨(some 115), none, .pick (.t 111) (.t 114) (.c (.bool false))⟩, ⟨(some 116), none, .mv (.t 115)⟩, ⟨(some 117), (some (116, true)), .load (some 2) (.t 18)⟩, ⟨(some 118), (some (116, true)), .build [(.lit true 0 []), (.str [])] []⟩, ⟨(some 119), (some (116, true)), .call 12 [(.t 117), (.t 118)]⟩, ⟨(some 120), none, .pick (.t 116) (.t 119) (.c (.bool false))⟩, ⟨(some 121), none, .mv (.t 120)⟩, ⟨(some 122), (some (121, true)), .call 13 []⟩, ⟨(some 123), none, .pick (.t 121) (.t 122) (.c (.bool false))⟩, ⟨(some 2), none, .mv (.t 123)⟩])
 (.ret)) (.skip)))
 (.seq (.ops [⟨(some 124), none, .mv (.t 5)⟩, ⟨(some 125), none, .call 14 [(.t 124), (.c (.int .i64 1)), (.c (.int .i64 3600))]⟩, ⟨(some 126), none, .mv (.t 6)⟩, ⟨(some 127), none, .call 14 [(.t 126), (.c (.int .i64 1)), (.c (.int .i64 8))]⟩, ⟨(some 20), none, .mv (.t 125)⟩, ⟨(some 21), none, .mv (.t 127)⟩])
 (.seq (.seq (.ops [⟨(some 128), none, .mv (.t 9)⟩, ⟨(some 129), none, .mv (.t 20)⟩, ⟨(some 130), none, .bin 0 .neq (.t 128) (.t 129)⟩, ⟨(some 131), none, .mv (.t 130)⟩, ⟨(some 132), (some (131, false)), .mv (.t 20)⟩, ⟨(some 133), (some (131, false)), .bin 0 .eql (.t 132) (.c (.int .i64 0))⟩, ⟨(some 134), (some (131, false)), .mv (.t 133)⟩, ⟨(some 135), (some (134, true)), .mv (.t 8)⟩, ⟨(some 136), (some (134, true)), .load (some 2) (.t 4)⟩, ⟨(some 137), (some (134, true)), .mv (.t 5)⟩, ⟨(some 138), (some (134, true)), .call 16 [(.t 136), (.t 137)]⟩, ⟨(some 139), (some (134, true)), .call 15 [(.t 135), (.t 138), (.c (.fn 17 []))]⟩, ⟨(some 140), (some (134, true)), .un .not (.t 139)⟩, ⟨(some 141), (some (131, false)), .pick (.t 134) (.t 140) (.c (.bool false))⟩, ⟨(some 142), none, .pick (.t 131) (.c (.bool true)) (.t 141)⟩, ⟨(some 143), none, .mv (.t 142)⟩, ⟨(some 144), (some (143, false)), .mv (.t 20)⟩, ⟨(some 145), (some (143, false)), .bin 0 .neq (.t 144) (.c (.int .i64 0))⟩, ⟨(some 146), (some (143, false)), .mv (.t 145)⟩, ⟨(some 147), (some (146, true)), .mv (.t 8)⟩, ⟨(some 148), (some (146, true)), .len false (.t 147)⟩, ⟨(some 149), (some (146, true)), .bin 0 .gtr (.t 148) (.c (.int .i64 0))⟩, ⟨(some 150), (some (143, false)), .pick (.t 146) (.t 149) (.c (.bool false))⟩, ⟨(some 151), none, .pick (.t 143) (.c (.bool true)) (.t 150)⟩])
 (.cond (.t 151) (.seq (.ops [⟨(some 2), none, .mv (.c (.bool false))⟩])
 (.ret)) (.skip)))
 (.seq (.ops [⟨(some 22), none, .alloc 28 [(.lit true 0 []), (.str [])]⟩])
 (.seq (.ops [⟨(some 23), none, .mv (.c (.int .i64 0))⟩])
 (.seq (.seq (.ops [⟨(some 152), none, .mv (.t 21)⟩, ⟨(some 153), none, .bin 0 .eql (.t 152) (.c (.int .i64 0))⟩])
 (.cond (.t 153) (.ops [⟨(some 155), none, .load (some 2) (.t 4)⟩, ⟨(some 156), none, .mv (.t 6)⟩, ⟨(some 157), none, .call 18 [(.t 155), (.t 156)]⟩, ⟨(some 154), none, .mv (.t 157)⟩, ⟨(some 158), none, .ext (.t 154) 0⟩, ⟨(some 159), none, .ext (.t 154) 1⟩, ⟨none, none, .store 2 (.t 22) (.t 158)⟩, ⟨(some 23), none, .mv (.t 159)⟩]) (.skip)))
 (.seq (.seq (.ops [⟨(some 160), none, .mv (.t 12)⟩, ⟨(some 161), none, .mv (.t 21)⟩, ⟨(some 162), none, .bin 0 .neq (.t 160) (.t 161)⟩, ⟨(some 163), none, .mv (.t 162)⟩, ⟨(some 164), (some (163, false)), .mv (.t 11)⟩, ⟨(some 165), (some (163, false)), .mv (.t 23)⟩, ⟨(some 166), (some (163, false)), .bin 0 .neq (.t 164) (.t 165)⟩, ⟨(some 167), none, .pick (.t 163) (.c (.bool true)) (.t 166)⟩, ⟨(some 168), none, .mv (.t 167)⟩, ⟨(some 169), (some (168, false)), .load (some 2) (.t 10)⟩, ⟨(some 170), (some (168, false)), .load (some 2) (.t 22)⟩, ⟨(some 171), (some (168, false)), .call 12 [(.t 169), (.t 170)]⟩, ⟨(some 172), (some (168, false)), .un .not (.t 171)⟩, ⟨(some 173), none, .pick (.t 168) (.c (.bool true)) (.t 172)⟩])
 (.cond (.t 173) (.seq (.ops [⟨(some 2), none, .mv (.c (.bool false))⟩])
 (.ret)) (.skip)))
 (.seq (.ops [⟨(some 175), none, .load (some 2) (.t 4)⟩, ⟨(some 176), none, .call 19 [(.t 175)]⟩, ⟨(some 174), none, .mv (.t 176)⟩, ⟨(some 177), none, .ext (.t 174) 0⟩, ⟨(some 178), none, .ext (.t 174) 1⟩, ⟨(some 24), none, .mv (.t 177)⟩, ⟨(some 25), none, .mv (.t 178)⟩])
 (.seq (.any [(⟨(some 179), none, .mv (.t 14)⟩, []), (⟨(some 180), none, .bin 0 .eql (.t 179) (.c (.int .i64 0))⟩, []), (⟨(some 181), none, .mv (.t 180)⟩, []), (⟨(some 182), (some (181, true)), .mv (.t 13)⟩, []), (⟨(some 183), (some (181, true)), .load (some 2) (.t 4)⟩, [3]), (⟨(some 184), (some (181, true)), .call 20 [(.t 183)]⟩, [3]), (⟨(some 185), (some (181, true)), .call 17 [(.t 182), (.t 184)]⟩, []), (⟨(some 186), none, .pick (.t 181) (.t 185) (.c (.bool false))⟩, []), (⟨(some 187), none, .mv (.t 186)⟩, []), (⟨(some 188), (some (187, true)), .mv (.t 17)⟩, []), (⟨(some 189), (some (187, true)), .bin 0 .eql (.t 188) (.c (.int .i64 0))⟩, []), (⟨(some 190), none, .pick (.t 187) (.t 189) (.c (.bool false))⟩, []), (⟨(some 191), none, .mv (.t 190)⟩, []), (⟨(some 192), (some (191, true)), .mv (.t 15)⟩, []), (⟨(some 193), (some (191, true)), .mv (.t 24)⟩, [13]), (⟨(some 194), (some (191, true)), .call 21 [(.t 192), (.t 193)]⟩, []), (⟨(some 195), none, .pick (.t 191) (.t 194) (.c (.bool false))⟩, []), (⟨(some 196), none, .mv (.t 195)⟩, []), (⟨(some 197), (some (196, true)), .mv (.t 16)⟩, []), (⟨(some 198), (some (196, true)), .mv (.t 25)⟩, [18]), (⟨(some 199), (some (196, true)), .call 22 [(.t 197), (.t 198)]⟩, []), (⟨(some 200), none, .pick (.t 196) (.t 199) (.c (.bool false))⟩, []), (⟨(some 201), none, .mv (.t 200)⟩, []), (⟨(some 202), (some (201, true)), .mv (.t 19)⟩, []), (⟨(some 203), (some (201, true)), .bin 0 .eql (.t 202) (.c (.int .i64 0))⟩, []), (⟨(some 204), none, .pick (.t 201) (.t 203) (.c (.bool false))⟩, []), (⟨(some 205), none, .mv (.t 204)⟩, []), (⟨(some 206), (some (205, true)), .load (some 2) (.t 18)⟩, []), (⟨(some 207), (some (205, true)), .load (some 2) (.t 4)⟩, [27]), (⟨(some 208), (some (205, true)), .call 23 [(.t 207)]⟩, [27]), (⟨(some 209), (some (205, true)), .call 12 [(.t 206), (.t 208)]⟩, []), (⟨(some 210), none, .pick (.t 205) (.t 209) (.c (.bool false))⟩, []), (⟨(some 211), none, .mv (.t 210)⟩, []), (⟨(some 212), (some (211, true)), .call 13 []⟩, []), (⟨(some 213), none, .pick (.t 211) (.t 212) (.c (.bool false))⟩, []), (⟨(some 2), none, .mv (.t 213)⟩, [])])
 (.ret))))))))))))))))))⟩
theorem c3 : compF Go.Proofs.Tryz.prog 3 = some a3 := by kernel_rfl
def a4 : AFn := ⟨73, [.c 2 (some 2)], .seq (.ops [⟨(some 2), none, .alloc 28 [(.lit true 0 []), (.str [])]⟩])
 (.seq (.ops [⟨(some 6), none, .mv (.t 0)⟩, ⟨(some 7), none, .call 24 [(.t 6), (.c (.int .i64 1)), (.c (.int .i64 6))]⟩, ⟨(some 3), none, .mv (.t 7)⟩])
 (.seq (.ops [⟨(some 8), none, .mv (.t 0)⟩, ⟨(some 9), none, .bslice 9 1 5 [(.str [])] [(0, 1, (.c (.str [49]))), (1, 1, (.c (.str [49]))), (2, 1, (.c (.str [49, 50]))), (3, 1, (.c (.str [49, 97]))), (4, 1, (.c (.str [])))]⟩, ⟨(some 10), none, .call 25 [(.t 8), (.t 9)]⟩, ⟨(some 11), none, .build [(.lit true 0 []), (.str [])] [(1, 1, (.t 10))]⟩, ⟨(some 4), none, .alloc 28 [(.lit true 0 []), (.str [])]⟩, ⟨none, none, .store 2 (.t 4) (.t 11)⟩])
 (.seq (.seq (.ops [⟨(some 12), none, .mv (.t 0)⟩, ⟨(some 13), none, .call 24 [(.t 12), (.c (.int .i64 1)), (.c (.int .i64 6))]⟩, ⟨(some 14), none, .mv (.c (.int .i64 0))⟩])
 (.block 0 (.loop (.seq (.ops [⟨(some 15), none, .bin 0 .lss (.t 14) (.t 13)⟩])
 (.seq (.cond (.t 15) (.skip) (.exit 0))
 (.seq (.block 1 (.seq (.ops [⟨(some 5), none, .mv (.c (.str []))⟩])
 (.seq (.seq (.ops [⟨(some 16), none, .mv (.t 3)⟩, ⟨(some 17), none, .mv (.c (.int .i64 0))⟩])
 (.block 2 (.loop (.seq (.ops [⟨(some 18), none, .bin 0 .lss (.t 17) (.t 16)⟩])
 (.seq (.cond (.t 18) (.skip) (.exit 2))
 (.seq (.block 3 (.ops [⟨(some 19), none, .mv (.t 5)⟩, ⟨(some 20), none, .mv (.t 0)⟩, ⟨(some 21), none, .bslice 9 1 10 [(.str [])] [(0, 1, (.c (.str [49]))), (1, 1, (.c (.str [49]))), (2, 1, (.c (.str [49]))), (3, 1, (.c (.str [120]))), (4, 1, (.c (.str [120]))), (5, 1, (.c (.str [63]))), (6, 1, (.c (.str [46]))), (7, 1, (.c (.str [42]))), (8, 1, (.c (.str [50]))), (9, 1, (.c (.str [97])))]⟩, ⟨(some 22), none, .call 25 [(.t 20), (.t 21)]⟩, ⟨(some 23), none, .bin 1 .add (.t 19) (.t 22)⟩, ⟨(some 5), none, .mv (.t 23)⟩]))
 (.ops [⟨(some 24), none, .bin 0 .add (.t 17) (.c (.int .i64 1))⟩, ⟨(some 17), none, .mv (.t 24)⟩])))))))
 (.ops [⟨(some 25), none, .fadr 0 (.t 4)⟩, ⟨(some 26), none, .load none (.t 25)⟩, ⟨(some 27), none, .mv (.t 5)⟩, ⟨(some 28), none, .bslice 9 1 1 [(.str [])] [(0, 1, (.t 27))]⟩, ⟨(some 29), none, .app 9 1 16 (.t 26) (.t 28)⟩, ⟨(some 30), none, .fadr 0 (.t 4)⟩, ⟨none, none, .store 1 (.t 30) (.t 29)⟩]))))
 (.ops [⟨(some 31), none, .bin 0 .add (.t 14) (.c (.int .i64 1))⟩, ⟨(some 14), none, .mv (.t 31)⟩])))))))
 (.seq (.seq (.ops [⟨(some 32), none, .mv (.t 0)⟩, ⟨(some 33), none, .call 26 [(.t 32), (.c (.int .i64 12))]⟩])
 (.cond (.t 33) (.seq (.ops [⟨(some 34), none, .mv (.t 0)⟩, ⟨(some 35), none, .call 27 [(.t 34), (.c (.int .i64 3))]⟩])
 (.block 4 (.seq (.ops [⟨(some 41), none, .bin 0 .eql (.t 35) (.c (.int .i64 0))⟩, ⟨(some 40), none, .mv (.t 41)⟩])
 (.cond (.t 40) (.any [(⟨(some 42), none, .fadr 0 (.t 4)⟩, []), (⟨(some 43), none, .load none (.t 42)⟩, []), (⟨(some 44), none, .mv (.t 0)⟩, [0, 1]), (⟨(some 45), none, .fadr 0 (.t 4)⟩, [0, 1, 2]), (⟨(some 46), none, .load none (.t 45)⟩, [0, 1, 2]), (⟨(some 47), none, .len false (.t 46)⟩, [0, 1, 2]), (⟨(some 48), none, .call 27 [(.t 44), (.t 47)]⟩, [0, 1]), (⟨(some 49), none, .iadr 1 (.t 43) (.t 48)⟩, []), (⟨(some 50), none, .load none (.t 49)⟩, []), (⟨(some 51), none, .mv (.t 0)⟩, [0, 1, 2, 3, 4, 5, 6, 7, 8]), (⟨(some 52), none, .bslice 9 1 2 [(.str [])] [(0, 1, (.c (.str [49]))), (1, 1, (.c (.str [65])))]⟩, [0, 1, 2, 3, 4, 5, 6, 7, 8, 9]), (⟨(some 53), none, .call 25 [(.t 51), (.t 52)]⟩, [0, 1, 7, 8]), (⟨(some 54), none, .bin 1 .add (.t 50) (.t 53)⟩, []), (⟨(some 55), none, .iadr 1 (.t 43) (.t 48)⟩, []), (⟨none, none, .store 1 (.t 55) (.t 54)⟩, [])]) (.seq (.ops [⟨(some 57), none, .bin 0 .eql (.t 35) (.c (.int .i64 1))⟩, ⟨(some 56), none, .mv (.t 57)⟩])
 (.cond (.t 56) (.any [(⟨(some 58), none, .fadr 0 (.t 4)⟩, []), (⟨(some 59), none, .load none (.t 58)⟩, []), (⟨(some 60), none, .mv (.t 0)⟩, [0, 1]), (⟨(some 61), none, .fadr 0 (.t 4)⟩, [0, 1, 2]), (⟨(some 62), none, .load none (.t 61)⟩, [0, 1, 2]), (⟨(some 63), none, .len false (.t 62)⟩, [0, 1, 2]), (⟨(some 64), none, .call 27 [(.t 60), (.t 63)]⟩, [0, 1]), (⟨(some 65), none, .mv (.t 0)⟩, [0, 1, 2, 3, 4, 5, 6]), (⟨(some 66), none, .bslice 9 1 3 [(.str [])] [(0, 1, (.c (.str []))), (1, 1, (.c (.str [65]))), (2, 1, (.c (.str [32])))]⟩, [0, 1, 2, 3, 4, 5, 6, 7]), (⟨(some 67), none, .call 25 [(.t 65), (.t 66)]⟩, [0, 1]), (⟨(some 68), none, .iadr 1 (.t 59) (.t 64)⟩, []), (⟨none, none, .store 1 (.t 68) (.t 67)⟩, [])]) (.ops [⟨(some 36), none, .mv (.t 0)⟩, ⟨(some 37), none, .bslice 9 1 4 [(.str [])] [(0, 1, (.c (.str [50, 49]))), (1, 1, (.c (.str [49, 49]))), (2, 1, (.c (.str [65]))), (3, 1, (.c (.str [63])))]⟩, ⟨(some 38), none, .call 25 [(.t 36), (.t 37)]⟩, ⟨(some 39), none, .fadr 1 (.t 4)⟩, ⟨none, none, .store 1 (.t 39) (.t 38)⟩]))))))) (.skip)))
 (.seq (.seq (.ops [⟨(some 69), none, .mv (.t 0)⟩, ⟨(some 70), none, .call 26 [(.t 69), (.c (.int .i64 60))]⟩])
 (.cond (.t 70) (.ops [⟨(some 71), none, .fadr 0 (.t 4)⟩, ⟨none, none, .store 1 (.t 71) (.c (.lit true 0 []))⟩]) (.skip)))
 (.seq (.ops [⟨(some 72), none, .load (some 2) (.t 4)⟩, ⟨none, none, .store 2 (.t 2) (.t 72)⟩])
 (.ret)))))))⟩
theorem c4 : compF Go.Proofs.Tryz.prog 4 = some a4 := by kernel_rfl
def a5 : AFn := ⟨12, [.t 4], .seq (.ops [⟨(some 4), none, .mv (.c (.int .i64 0))⟩])
 (.seq (.ops [⟨(some 5), none, .mv (.t 1)⟩, ⟨(some 6), none, .mv (.t 0)⟩, ⟨(some 7), none, .mv (.t 1)⟩, ⟨(some 8), none, .len false (.t 7)⟩, ⟨(some 9), none, .call 27 [(.t 6), (.t 8)]⟩, ⟨(some 10), none, .iadr 1 (.t 5) (.t 9)⟩, ⟨(some 11), none, .load none (.t 10)⟩, ⟨(some 4), none, .mv (.t 11)⟩])
 (.ret))⟩
theorem c5 : compF Go.Proofs.Tryz.prog 5 = some a5 := by kernel_rfl
def a6 : AFn := ⟨46, [.t 2], .seq (.ops [⟨(some 1), none, .box 28 (.t 0)⟩, ⟨(some 2), none, .mv (.c (.int .i64 0))⟩])
 (.seq (.block 0 (.seq (.ops [⟨(some 6), none, .fadr 0 (.t 1)⟩, ⟨(some 7), none, .load none (.t 6)⟩, ⟨(some 8), none, .len false (.t 7)⟩, ⟨(some 9), none, .bin 0 .eql (.t 8) (.c (.int .i64 0))⟩, ⟨(some 5), none, .mv (.t 9)⟩])
 (.cond (.t 5) (.seq (.ops [⟨(some 2), none, .mv (.c (.int .i64 8))⟩])
 (.ret)) (.seq (.ops [⟨(some 11), none, .fadr 0 (.t 1)⟩, ⟨(some 12), none, .load none (.t 11)⟩, ⟨(some 13), none, .len false (.t 12)⟩, ⟨(some 14), none, .bin 0 .gtr (.t 13) (.c (.int .i64 60))⟩, ⟨(some 10), none, .mv (.t 14)⟩])
 (.cond (.t 10) (.seq (.ops [⟨(some 2), none, .mv (.c (.int .i64 2))⟩])
 (.ret)) (.skip))))))
 (.seq (.seq (.ops [⟨(some 15), none, .fadr 0 (.t 1)⟩, ⟨(some 16), none, .load none (.t 15)⟩, ⟨(some 17), none, .len false (.t 16)⟩, ⟨(some 18), none, .mv (.c (.int .i64 0))⟩])
 (.block 1 (.loop (.seq (.ops [⟨(some 19), none, .bin 0 .lss (.t 18) (.t 17)⟩])
 (.seq (.cond (.t 19) (.skip) (.exit 1))
 (.seq (.block 2 (.seq (.ops [⟨(some 20), none, .iadr 1 (.t 16) (.t 18)⟩, ⟨(some 21), none, .load none (.t 20)⟩, ⟨(some 4), none, .mv (.t 21)⟩])
 (.block 3 (.seq (.ops [⟨(some 23), none, .mv (.t 4)⟩, ⟨(some 24), none, .bin 1 .eql (.t 23) (.c (.str []))⟩, ⟨(some 22), none, .mv (.t 24)⟩])
 (.cond (.t 22) (.seq (.ops [⟨(some 2), none, .mv (.c (.int .i64 8))⟩])
 (.ret)) (.seq (.ops [⟨(some 26), none, .mv (.t 4)⟩, ⟨(some 27), none, .len true (.t 26)⟩, ⟨(some 28), none, .bin 0 .gtr (.t 27) (.c (.int .i64 60))⟩, ⟨(some 25), none, .mv (.t 28)⟩])
 (.cond (.t 25) (.seq (.ops [⟨(some 2), none, .mv (.c (.int .i64 2))⟩])
 (.ret)) (.seq (.ops [⟨(some 30), none, .mv (.t 4)⟩, ⟨(some 31), none, .len true (.t 30)⟩, ⟨(some 32), none, .fadr 0 (.t 1)⟩, ⟨(some 33), none, .load none (.t 32)⟩, ⟨(some 34), none, .iadr 1 (.t 33) (.c (.int .i64 0))⟩, ⟨(some 35), none, .load none (.t 34)⟩, ⟨(some 36), none, .len true (.t 35)⟩, ⟨(some 37), none, .bin 0 .neq (.t 31) (.t 36)⟩, ⟨(some 29), none, .mv (.t 37)⟩])
 (.cond (.t 29) (.seq (.ops [⟨(some 2), none, .mv (.c (.int .i64 3))⟩])
 (.ret)) (.seq (.ops [⟨(some 39), none, .mv (.t 4)⟩, ⟨(some 40), none, .s2b (.t 39)⟩, ⟨(some 41), none, .call 28 [(.t 40), (.c (.fn 29 []))]⟩, ⟨(some 38), none, .mv (.t 41)⟩])
 (.cond (.t 38) (.seq (.ops [⟨(some 2), none, .mv (.c (.int .i64 9))⟩])
 (.ret)) (.skip))))))))))))
 (.ops [⟨(some 42), none, .bin 0 .add (.t 18) (.c (.int .i64 1))⟩, ⟨(some 18), none, .mv (.t 42)⟩])))))))
 (.seq (.ops [⟨(some 43), none, .fadr 1 (.t 1)⟩, ⟨(some 44), none, .load none (.t 43)⟩, ⟨(some 45), none, .call 31 [(.t 44)]⟩, ⟨(some 2), none, .mv (.t 45)⟩])
 (.ret))))⟩
theorem c6 : compF Go.Proofs.Tryz.prog 6 = some a6 := by kernel_rfl
def a7 : AFn := ⟨91, [.t 4, .t 5], .seq (.ops [⟨(some 2), none, .box 28 (.t 0)⟩, ⟨(some 4), none, .mv (.c (.lit true 0 []))⟩, ⟨(some 5), none, .mv (.c (.int .i64 0))⟩])
 (.seq (.seq (.ops [⟨(some 15), none, .load (some 2) (.t 2)⟩, ⟨(some 16), none, .call 32 [(.t 15)]⟩, ⟨(some 6), none, .mv (.t 16)⟩])
 (.seq (.ops [⟨(some 17), none, .mv (.t 6)⟩, ⟨(some 18), none, .bin 0 .neq (.t 17) (.c (.int .i64 0))⟩])
 (.cond (.t 18) (.seq (.ops [⟨(some 19), none, .mv (.t 6)⟩, ⟨(some 4), none, .mv (.c (.lit true 0 []))⟩, ⟨(some 5), none, .mv (.t 19)⟩])
 (.ret)) (.skip))))
 (.seq (.seq (.ops [⟨(some 20), none, .mv (.t 1)⟩, ⟨(some 21), none, .call 33 [(.t 20), (.c (.int .i64 1)), (.c (.int .i64 3600))]⟩])
 (.cond (.t 21) (.seq (.ops [⟨(some 4), none, .mv (.c (.lit true 0 []))⟩, ⟨(some 5), none, .mv (.c (.int .i64 1))⟩])
 (.ret)) (.skip)))
 (.seq (.ops [⟨(some 22), none, .mmk .p (.bool false)⟩, ⟨(some 7), none, .mv (.t 22)⟩])
 (.seq (.ops [⟨(some 8), none, .mv (.c (.lit true 0 []))⟩])
 (.seq (.seq (.ops [⟨(some 23), none, .load (some 2) (.t 2)⟩, ⟨(some 24), none, .call 34 [(.t 23)]⟩, ⟨(some 25), none, .len false (.t 24)⟩, ⟨(some 26), none, .mv (.c (.int .i64 0))⟩])
 (.block 0 (.loop (.seq (.ops [⟨(some 27), none, .bin 0 .lss (.t 26) (.t 25)⟩])
 (.seq (.cond (.t 27) (.skip) (.exit 0))
 (.seq (.block 1 (.seq (.ops [⟨(some 28), none, .iadr 2 (.t 24) (.t 26)⟩, ⟨(some 29), none, .load (some 2) (.t 28)⟩, ⟨(some 10), none, .alloc 54 [(.int .i64 0), (.int .i64 0)]⟩, ⟨none, none, .store 2 (.t 10) (.t 29)⟩])
 (.seq (.seq (.any [(⟨(some 30), none, .mv (.t 7)⟩, []), (⟨(some 31), none, .load (some 2) (.t 10)⟩, [0]), (⟨(some 32), none, .mlk false .p (.bool false) (.t 30) (.t 31)⟩, []), (⟨(some 33), none, .mv (.t 32)⟩, []), (⟨(some 34), (some (33, false)), .load (some 2) (.t 2)⟩, []), (⟨(some 35), (some (33, false)), .load (some 2) (.t 2)⟩, [4]), (⟨(some 36), (some (33, false)), .load (some 2) (.t 10)⟩, [4, 5]), (⟨(some 37), (some (33, false)), .call 36 [(.t 35), (.t 36)]⟩, [4]), (⟨(some 38), (some (33, false)), .call 35 [(.t 34), (.t 37)]⟩, []), (⟨(some 39), (some (33, false)), .un .not (.t 38)⟩, []), (⟨(some 40), none, .pick (.t 33) (.c (.bool true)) (.t 39)⟩, [])])
 (.cond (.t 40) (.exit 1) (.skip)))
 (.seq (.ops [⟨(some 41), none, .mv (.t 7)⟩, ⟨(some 42), none, .load (some 2) (.t 10)⟩, ⟨none, none, .mup .p (.t 41) (.t 42) (.c (.bool true))⟩])
 (.seq (.ops [⟨(some 43), none, .load (some 2) (.t 10)⟩, ⟨(some 44), none, .bslice 54 2 1 [(.int .i64 0), (.int .i64 0)] [(0, 2, (.t 43))]⟩, ⟨(some 11), none, .mv (.t 44)⟩])
 (.seq (.seq (.ops [⟨(some 12), none, .mv (.c (.int .i64 0))⟩])
 (.block 2 (.loop (.seq (.seq (.ops [⟨(some 45), none, .mv (.t 12)⟩, ⟨(some 46), none, .mv (.t 11)⟩, ⟨(some 47), none, .len false (.t 46)⟩, ⟨(some 48), none, .bin 0 .lss (.t 45) (.t 47)⟩])
 (.cond (.t 48) (.skip) (.exit 2)))
 (.seq (.block 3 (.seq (.ops [⟨(some 51), none, .mv (.t 11)⟩, ⟨(some 52), none, .mv (.t 12)⟩, ⟨(some 53), none, .iadr 2 (.t 51) (.t 52)⟩, ⟨(some 54), none, .load (some 2) (.t 53)⟩, ⟨(some 55), none, .call 37 [(.t 54)]⟩, ⟨(some 56), none, .len false (.t 55)⟩, ⟨(some 57), none, .mv (.c (.int .i64 0))⟩])
 (.block 4 (.loop (.seq (.ops [⟨(some 58), none, .bin 0 .lss (.t 57) (.t 56)⟩])
 (.seq (.cond (.t 58) (.skip) (.exit 4))
 (.seq (.block 5 (.seq (.ops [⟨(some 59), none, .iadr 2 (.t 55) (.t 57)⟩, ⟨(some 60), none, .load (some 2) (.t 59)⟩, ⟨(some 14), none, .alloc 54 [(.int .i64 0), (.int .i64 0)]⟩, ⟨none, none, .store 2 (.t 14) (.t 60)⟩])
 (.seq (.any [(⟨(some 61), none, .mv (.t 7)⟩, []), (⟨(some 62), none, .load (some 2) (.t 14)⟩, [0]), (⟨(some 63), none, .mlk false .p (.bool false) (.t 61) (.t 62)⟩, []), (⟨(some 64), none, .un .not (.t 63)⟩, []), (⟨(some 65), none, .mv (.t 64)⟩, []), (⟨(some 66), (some (65, true)), .load (some 2) (.t 2)⟩, []), (⟨(some 67), (some (65, true)), .load (some 2) (.t 2)⟩, [5]), (⟨(some 68), (some (65, true)), .load (some 2) (.t 14)⟩, [5, 6]), (⟨(some 69), (some (65, true)), .call 36 [(.t 67), (.t 68)]⟩, [5]), (⟨(some 70), (some (65, true)), .call 35 [(.t 66), (.t 69)]⟩, []), (⟨(some 71), none, .pick (.t 65) (.t 70) (.c (.bool false))⟩, [])])
 (.cond (.t 71) (.seq (.ops [⟨(some 72), none, .mv (.t 7)⟩, ⟨(some 73), none, .load (some 2) (.t 14)⟩, ⟨none, none, .mup .p (.t 72) (.t 73) (.c (.bool true))⟩])
 (.ops [⟨(some 74), none, .mv (.t 11)⟩, ⟨(some 75), none, .load (some 2) (.t 14)⟩, ⟨(some 76), none, .bslice 54 2 1 [(.int .i64 0), (.int .i64 0)] [(0, 2, (.t 75))]⟩, ⟨(some 77), none, .app 54 2 16 (.t 74) (.t 76)⟩, ⟨(some 11), none, .mv (.t 77)⟩])) (.skip)))))
 (.ops [⟨(some 78), none, .bin 0 .add (.t 57) (.c (.int .i64 1))⟩, ⟨(some 57), none, .mv (.t 78)⟩]))))))))
 (.ops [⟨(some 49), none, .mv (.t 12)⟩, ⟨(some 50), none, .bin 0 .add (.t 49) (.c (.int .i64 1))⟩, ⟨(some 12), none, .mv (.t 50)⟩]))))))
 (.seq (.ops [⟨(some 79), none, .mv (.t 11)⟩, ⟨(some 80), none, .len false (.t 79)⟩, ⟨(some 81), none, .mv (.t 1)⟩, ⟨(some 82), none, .bin 0 .geq (.t 80) (.t 81)⟩])
 (.cond (.t 82) (.seq (.ops [⟨(some 83), none, .mv (.t 11)⟩, ⟨(some 84), none, .call 38 [(.t 83), (.c (.fn 39 []))]⟩])
 (.ops [⟨(some 85), none, .mv (.t 8)⟩, ⟨(some 86), none, .mv (.t 11)⟩, ⟨(some 87), none, .bslice 38 1 1 [(.lit true 0 [])] [(0, 1, (.t 86))]⟩, ⟨(some 88), none, .app 38 1 24 (.t 85) (.t 87)⟩, ⟨(some 8), none, .mv (.t 88)⟩])) (.skip)))))))))
 (.ops [⟨(some 89), none, .bin 0 .add (.t 26) (.c (.int .i64 1))⟩, ⟨(some 26), none, .mv (.t 89)⟩])))))))
 (.seq (.ops [⟨(some 90), none, .mv (.t 8)⟩, ⟨(some 4), none, .mv (.t 90)⟩, ⟨(some 5), none, .mv (.c (.int .i64 0))⟩])
 (.ret)))))))⟩
theorem c7 : compF Go.Proofs.Tryz.prog 7 = some a7 := by kernel_rfl
def a8 : AFn := ⟨24, [.c 4 (some 2), .t 5, .t 6], .seq (.ops [⟨(some 2), none, .box 28 (.t 0)⟩, ⟨(some 3), none, .box 3 (.t 1)⟩, ⟨(some 4), none, .alloc 28 [(.lit true 0 []), (.str [])]⟩, ⟨(some 5), none, .mv (.c (.int .i64 0))⟩, ⟨(some 6), none, .mv (.c (.int .i64 0))⟩])
 (.seq (.seq (.ops [⟨(some 10), none, .load (some 2) (.t 2)⟩, ⟨(some 11), none, .call 32 [(.t 10)]⟩, ⟨(some 7), none, .mv (.t 11)⟩])
 (.seq (.ops [⟨(some 12), none, .mv (.t 7)⟩, ⟨(some 13), none, .bin 0 .neq (.t 12) (.c (.int .i64 0))⟩])
 (.cond (.t 13) (.seq (.ops [⟨(some 14), none, .build [(.lit true 0 []), (.str [])] []⟩, ⟨(some 15), none, .mv (.t 7)⟩, ⟨none, none, .store 2 (.t 4) (.t 14)⟩, ⟨(some 5), none, .mv (.c (.int .i64 0))⟩, ⟨(some 6), none, .mv (.t 15)⟩])
 (.ret)) (.skip))))
 (.seq (.seq (.ops [⟨(some 16), none, .load none (.t 3)⟩, ⟨(some 17), none, .call 33 [(.t 16), (.c (.int .i64 1)), (.c (.int .i64 8))]⟩])
 (.cond (.t 17) (.seq (.ops [⟨(some 18), none, .build [(.lit true 0 []), (.str [])] []⟩, ⟨none, none, .store 2 (.t 4) (.t 18)⟩, ⟨(some 5), none, .mv (.c (.int .i64 0))⟩, ⟨(some 6), none, .mv (.c (.int .i64 1))⟩])
 (.ret)) (.skip)))
 (.seq (.ops [⟨(some 8), none, .alloc 3 [(.int .i64 0)]⟩, ⟨none, none, .store 1 (.t 8) (.c (.int .i64 0))⟩])
 (.seq (.ops [⟨(some 19), none, .load (some 2) (.t 2)⟩, ⟨(some 20), none, .mkfn 41 [(.t 2), (.t 3), (.t 8)]⟩, ⟨(some 21), none, .call 40 [(.t 19), (.t 20)]⟩, ⟨(some 9), none, .alloc 28 [(.lit true 0 []), (.str [])]⟩, ⟨none, none, .store 2 (.t 9) (.t 21)⟩])
 (.seq (.any [(⟨(some 22), none, .load (some 2) (.t 9)⟩, []), (⟨(some 23), none, .load none (.t 8)⟩, [0]), (⟨none, none, .store 2 (.t 4) (.t 22)⟩, [1]), (⟨(some 5), none, .mv (.t 23)⟩, []), (⟨(some 6), none, .mv (.c (.int .i64 0))⟩, [])])
 (.ret))))))⟩
theorem c8 : compF Go.Proofs.Tryz.prog 8 = some a8 := by kernel_rfl
def a9 : AFn := ⟨12, [.t 2, .t 3], .seq (.ops [⟨(some 1), none, .box 28 (.t 0)⟩, ⟨(some 2), none, .mv (.c (.lit true 0 []))⟩, ⟨(some 3), none, .mv (.c (.int .i64 0))⟩])
 (.seq (.seq (.ops [⟨(some 5), none, .load (some 2) (.t 1)⟩, ⟨(some 6), none, .call 32 [(.t 5)]⟩, ⟨(some 4), none, .mv (.t 6)⟩])
 (.seq (.ops [⟨(some 7), none, .mv (.t 4)⟩, ⟨(some 8), none, .bin 0 .neq (.t 7) (.c (.int .i64 0))⟩])
 (.cond (.t 8) (.seq (.ops [⟨(some 9), none, .mv (.t 4)⟩, ⟨(some 2), none, .mv (.c (.lit true 0 []))⟩, ⟨(some 3), none, .mv (.t 9)⟩])
 (.ret)) (.skip))))
 (.seq (.ops [⟨(some 10), none, .load (some 2) (.t 1)⟩, ⟨(some 11), none, .call 44 [(.t 10)]⟩, ⟨(some 2), none, .mv (.t 11)⟩, ⟨(some 3), none, .mv (.c (.int .i64 0))⟩])
 (.ret)))⟩
theorem c9 : compF Go.Proofs.Tryz.prog 9 = some a9 := by kernel_rfl
def a10 : AFn := ⟨91, [.t 2, .t 3, .t 4], .seq (.ops [⟨(some 1), none, .box 28 (.t 0)⟩, ⟨(some 2), none, .mv (.c (.lit true 0 []))⟩, ⟨(some 3), none, .mv (.c (.lit true 0 []))⟩, ⟨(some 4), none, .mv (.c (.int .i64 0))⟩])
 (.seq (.seq (.ops [⟨(some 19), none, .load (some 2) (.t 1)⟩, ⟨(some 20), none, .call 32 [(.t 19)]⟩, ⟨(some 5), none, .mv (.t 20)⟩])
 (.seq (.ops [⟨(some 21), none, .mv (.t 5)⟩, ⟨(some 22), none, .bin 0 .neq (.t 21) (.c (.int .i64 0))⟩])
 (.cond (.t 22) (.seq (.ops [⟨(some 23), none, .mv (.t 5)⟩, ⟨(some 2), none, .mv (.c (.lit true 0 []))⟩, ⟨(some 3), none, .mv (.c (.lit true 0 []))⟩, ⟨(some 4), none, .mv (.t 23)⟩])
 (.ret)) (.skip))))
 (.seq (.ops [⟨(some 6), none, .mv (.c (.lit true 0 []))⟩])
 (.seq (.ops [⟨(some 7), none, .mv (.c (.lit true 0 []))⟩])
 (.seq (.ops [⟨(some 24), none, .mmk .p (.bool false)⟩, ⟨(some 8), none, .mv (.t 24)⟩])
 (.seq (.ops [⟨(some 25), none, .load (some 2) (.t 1)⟩, ⟨(some 26), none, .call 44 [(.t 25)]⟩, ⟨(some 9), none, .mv (.t 26)⟩])
 (.seq (.seq (.ops [⟨(some 27), none, .mv (.t 9)⟩, ⟨(some 28), none, .len false (.t 27)⟩, ⟨(some 29), none, .mv (.c (.int .i64 0))⟩])
 (.block 0 (.loop (.seq (.ops [⟨(some 30), none, .bin 0 .lss (.t 29) (.t 28)⟩])
 (.seq (.cond (.t 30) (.skip) (.exit 0))
 (.seq (.block 1 (.seq (.ops [⟨(some 31), none, .iadr 2 (.t 27) (.t 29)⟩, ⟨(some 32), none, .load (some 2) (.t 31)⟩, ⟨(some 11), none, .alloc 54 [(.int .i64 0), (.int .i64 0)]⟩, ⟨none, none, .store 2 (.t 11) (.t 32)⟩])
 (.ops [⟨(some 33), none, .mv (.t 8)⟩, ⟨(some 34), none, .load (some 2) (.t 11)⟩, ⟨none, none, .mup .p (.t 33) (.t 34) (.c (.bool true))⟩])))
 (.ops [⟨(some 35), none, .bin 0 .add (.t 29) (.c (.int .i64 1))⟩, ⟨(some 29), none, .mv (.t 35)⟩])))))))
 (.seq (.block 2 (.loop (.seq (.seq (.ops [⟨(some 36), none, .mv (.t 9)⟩, ⟨(some 37), none, .len false (.t 36)⟩, ⟨(some 38), none, .bin 0 .gtr (.t 37) (.c (.int .i64 0))⟩])
 (.cond (.t 38) (.skip) (.exit 2)))
 (.block 3 (.seq (.ops [⟨(some 40), none, .load (some 2) (.t 1)⟩, ⟨(some 41), none, .mv (.t 9)⟩, ⟨(some 42), none, .call 45 [(.t 40), (.t 41)]⟩, ⟨(some 39), none, .mv (.t 42)⟩, ⟨(some 43), none, .ext (.t 39) 0⟩, ⟨(some 44), none, .ext (.t 39) 1⟩, ⟨(some 12), none, .mv (.t 43)⟩, ⟨(some 13), none, .mv (.t 44)⟩])
 (.seq (.ops [⟨(some 45), none, .mv (.t 6)⟩, ⟨(some 46), none, .mv (.t 12)⟩, ⟨(some 47), none, .mv (.t 13)⟩, ⟨(some 48), none, .mm true (.t 47) [(.c (.int .i64 1))]⟩, ⟨(some 49), none, .call 46 [(.t 46), (.t 48)]⟩, ⟨(some 50), none, .bslice 62 2 1 [(.int .i64 0), (.int .i64 0)] [(0, 2, (.t 49))]⟩, ⟨(some 51), none, .app 62 2 16 (.t 45) (.t 50)⟩, ⟨(some 52), none, .mv (.t 7)⟩, ⟨(some 53), none, .mv (.t 13)⟩, ⟨(some 54), none, .bin 0 .gtr (.t 53) (.c (.int .i64 0))⟩, ⟨(some 55), none, .bslice 4 1 1 [(.bool false)] [(0, 1, (.t 54))]⟩, ⟨(some 56), none, .app 4 1 1 (.t 52) (.t 55)⟩, ⟨(some 6), none, .mv (.t 51)⟩, ⟨(some 7), none, .mv (.t 56)⟩])
 (.seq (.ops [⟨(some 14), none, .mv (.c (.lit true 0 []))⟩])
 (.seq (.seq (.ops [⟨(some 57), none, .mv (.t 9)⟩, ⟨(some 58), none, .len false (.t 57)⟩, ⟨(some 59), none, .mv (.c (.int .i64 0))⟩])
 (.block 4 (.loop (.seq (.ops [⟨(some 60), none, .bin 0 .lss (.t 59) (.t 58)⟩])
 (.seq (.cond (.t 60) (.skip) (.exit 4))
 (.seq (.block 5 (.seq (.ops [⟨(some 61), none, .iadr 2 (.t 57) (.t 59)⟩, ⟨(some 62), none, .load (some 2) (.t 61)⟩, ⟨(some 16), none, .alloc 54 [(.int .i64 0), (.int .i64 0)]⟩, ⟨none, none, .store 2 (.t 16) (.t 62)⟩])
 (.seq (.ops [⟨(some 63), none, .load (some 2) (.t 16)⟩, ⟨(some 64), none, .call 37 [(.t 63)]⟩, ⟨(some 65), none, .len false (.t 64)⟩, ⟨(some 66), none, .mv (.c (.int .i64 0))⟩])
 (.block 6 (.loop (.seq (.ops [⟨(some 67), none, .bin 0 .lss (.t 66) (.t 65)⟩])
 (.seq (.cond (.t 67) (.skip) (.exit 6))
 (.seq (.block 7 (.seq (.ops [⟨(some 68), none, .iadr 2 (.t 64) (.t 66)⟩, ⟨(some 69), none, .load (some 2) (.t 68)⟩, ⟨(some 18), none, .alloc 54 [(.int .i64 0), (.int .i64 0)]⟩, ⟨none, none, .store 2 (.t 18) (.t 69)⟩])
 (.seq (.ops [⟨(some 70), none, .load (some 2) (.t 1)⟩, ⟨(some 71), none, .load (some 2) (.t 18)⟩, ⟨(some 72), none, .call 36 [(.t 70), (.t 71)]⟩, ⟨(some 73), none, .bin 0 .neq (.t 72) (.c (.int .u8 46))⟩, ⟨(some 74), none, .mv (.t 73)⟩, ⟨(some 75), (some (74, true)), .mv (.t 8)⟩, ⟨(some 76), (some (74, true)), .load (some 2) (.t 18)⟩, ⟨(some 77), (some (74, true)), .mlk false .p (.bool false) (.t 75) (.t 76)⟩, ⟨(some 78), (some (74, true)), .un .not (.t 77)⟩, ⟨(some 79), none, .pick (.t 74) (.t 78) (.c (.bool false))⟩])
 (.cond (.t 79) (.seq (.ops [⟨(some 80), none, .mv (.t 8)⟩, ⟨(some 81), none, .load (some 2) (.t 18)⟩, ⟨none, none, .mup .p (.t 80) (.t 81) (.c (.bool true))⟩])
 (.ops [⟨(some 82), none, .mv (.t 14)⟩, ⟨(some 83), none, .load (some 2) (.t 18)⟩, ⟨(some 84), none, .bslice 54 2 1 [(.int .i64 0), (.int .i64 0)] [(0, 2, (.t 83))]⟩, ⟨(some 85), none, .app 54 2 16 (.t 82) (.t 84)⟩, ⟨(some 14), none, .mv (.t 85)⟩])) (.skip)))))
 (.ops [⟨(some 86), none, .bin 0 .add (.t 66) (.c (.int .i64 1))⟩, ⟨(some 66), none, .mv (.t 86)⟩])))))))))
 (.ops [⟨(some 87), none, .bin 0 .add (.t 59) (.c (.int .i64 1))⟩, ⟨(some 59), none, .mv (.t 87)⟩])))))))
 (.ops [⟨(some 88), none, .mv (.t 14)⟩, ⟨(some 9), none, .mv (.t 88)⟩])))))))))
 (.seq (.ops [⟨(some 89), none, .mv (.t 6)⟩, ⟨(some 90), none, .mv (.t 7)⟩, ⟨(some 2), none, .mv (.t 89)⟩, ⟨(some 3), none, .mv (.t 90)⟩, ⟨(some 4), none, .mv (.c (.int .i64 0))⟩])
 (.ret)))))))))⟩
theorem c10 : compF Go.Proofs.Tryz.prog 10 = some a10 := by kernel_rfl
def a11 : AFn := ⟨53, [.c 2 (some 2), .t 3], .seq (.ops [⟨(some 1), none, .box 28 (.t 0)⟩, ⟨(some 2), none, .alloc 28 [(.lit true 0 []), (.str [])]⟩, ⟨(some 3), none, .mv (.c (.int .i64 0))⟩])
 (.seq (.seq (.ops [⟨(some 9), none, .load (some 2) (.t 1)⟩, ⟨(some 10), none, .call 32 [(.t 9)]⟩, ⟨(some 4), none, .mv (.t 10)⟩])
 (.seq (.ops [⟨(some 11), none, .mv (.t 4)⟩, ⟨(some 12), none, .bin 0 .neq (.t 11) (.c (.int .i64 0))⟩])
 (.cond (.t 12) (.seq (.ops [⟨(some 13), none, .build [(.lit true 0 []), (.str [])] []⟩, ⟨(some 14), none, .mv (.t 4)⟩, ⟨none, none, .store 2 (.t 2) (.t 13)⟩, ⟨(some 3), none, .mv (.t 14)⟩])
 (.ret)) (.skip))))
 (.seq (.ops [⟨(some 15), none, .fadr 1 (.t 1)⟩, ⟨(some 16), none, .load none (.t 15)⟩, ⟨(some 17), none, .build [(.lit true 0 []), (.str [])] [(1, 1, (.t 16))]⟩, ⟨(some 5), none, .alloc 28 [(.lit true 0 []), (.str [])]⟩, ⟨none, none, .store 2 (.t 5) (.t 17)⟩])
 (.seq (.seq (.ops [⟨(some 18), none, .fadr 0 (.t 1)⟩, ⟨(some 19), none, .load none (.t 18)⟩, ⟨(some 20), none, .iadr 1 (.t 19) (.c (.int .i64 0))⟩, ⟨(some 21), none, .load none (.t 20)⟩, ⟨(some 22), none, .len true (.t 21)⟩, ⟨(some 23), none, .mv (.c (.int .i64 0))⟩])
 (.block 0 (.loop (.seq (.ops [⟨(some 24), none, .bin 0 .lss (.t 23) (.t 22)⟩])
 (.seq (.cond (.t 24) (.skip) (.exit 0))
 (.seq (.block 1 (.seq (.ops [⟨(some 25), none, .mv (.t 23)⟩, ⟨(some 6), none, .mv (.t 25)⟩])
 (.seq (.ops [⟨(some 7), none, .mv (.c (.lit true 0 []))⟩])
 (.seq (.seq (.ops [⟨(some 26), none, .fadr 0 (.t 1)⟩, ⟨(some 27), none, .load none (.t 26)⟩, ⟨(some 28), none, .len false (.t 27)⟩, ⟨(some 29), none, .bin 0 .sub (.t 28) (.c (.int .i64 1))⟩, ⟨(some 8), none, .mv (.t 29)⟩])
 (.block 2 (.loop (.seq (.seq (.ops [⟨(some 30), none, .mv (.t 8)⟩, ⟨(some 31), none, .bin 0 .geq (.t 30) (.c (.int .i64 0))⟩])
 (.cond (.t 31) (.skip) (.exit 2)))
 (.seq (.block 3 (.ops [⟨(some 34), none, .mv (.t 7)⟩, ⟨(some 35), none, .fadr 0 (.t 1)⟩, ⟨(some 36), none, .load none (.t 35)⟩, ⟨(some 37), none, .mv (.t 8)⟩, ⟨(some 38), none, .iadr 1 (.t 36) (.t 37)⟩, ⟨(some 39), none, .load none (.t 38)⟩, ⟨(some 40), none, .mv (.t 6)⟩, ⟨(some 41), none, .idxs (.t 39) (.t 40)⟩, ⟨(some 42), none, .bslice 5 1 1 [(.int .u8 0)] [(0, 1, (.t 41))]⟩, ⟨(some 43), none, .app 5 1 1 (.t 34) (.t 42)⟩, ⟨(some 7), none, .mv (.t 43)⟩]))
 (.ops [⟨(some 32), none, .mv (.t 8)⟩, ⟨(some 33), none, .bin 0 .sub (.t 32) (.c (.int .i64 1))⟩, ⟨(some 8), none, .mv (.t 33)⟩]))))))
 (.ops [⟨(some 44), none, .fadr 0 (.t 5)⟩, ⟨(some 45), none, .load none (.t 44)⟩, ⟨(some 46), none, .mv (.t 7)⟩, ⟨(some 47), none, .b2s (.t 46)⟩, ⟨(some 48), none, .bslice 9 1 1 [(.str [])] [(0, 1, (.t 47))]⟩, ⟨(some 49), none, .app 9 1 16 (.t 45) (.t 48)⟩, ⟨(some 50), none, .fadr 0 (.t 5)⟩, ⟨none, none, .store 1 (.t 50) (.t 49)⟩])))))
 (.ops [⟨(some 51), none, .bin 0 .add (.t 23) (.c (.int .i64 1))⟩, ⟨(some 23), none, .mv (.t 51)⟩])))))))
 (.seq (.ops [⟨(some 52), none, .load (some 2) (.t 5)⟩, ⟨none, none, .store 2 (.t 2) (.t 52)⟩, ⟨(some 3), none, .mv (.c (.int .i64 0))⟩])
 (.ret)))))⟩
theorem c11 : compF Go.Proofs.Tryz.prog 11 = some a11 := by kernel_rfl
def a12 : AFn := ⟨17, [.t 4], .seq (.ops [⟨(some 2), none, .box 28 (.t 0)⟩, ⟨(some 3), none, .box 28 (.t 1)⟩, ⟨(some 4), none, .mv (.c (.bool false))⟩])
 (.seq (.ops [⟨(some 5), none, .fadr 0 (.t 2)⟩, ⟨(some 6), none, .load none (.t 5)⟩, ⟨(some 7), none, .fadr 0 (.t 3)⟩, ⟨(some 8), none, .load none (.t 7)⟩, ⟨(some 9), none, .call 47 [(.t 6), (.t 8)]⟩, ⟨(some 10), none, .mv (.t 9)⟩, ⟨(some 11), (some (10, true)), .fadr 1 (.t 2)⟩, ⟨(some 12), (some (10, true)), .load none (.t 11)⟩, ⟨(some 13), (some (10, true)), .fadr 1 (.t 3)⟩, ⟨(some 14), (some (10, true)), .load none (.t 13)⟩, ⟨(some 15), (some (10, true)), .bin 1 .eql (.t 12) (.t 14)⟩, ⟨(some 16), none, .pick (.t 10) (.t 15) (.c (.bool false))⟩, ⟨(some 4), none, .mv (.t 16)⟩])
 (.ret))⟩
theorem c12 : compF Go.Proofs.Tryz.prog 12 = some a12 := by kernel_rfl
def a13 : AFn := ⟨21, [.t 0], .seq (.ops [⟨(some 0), none, .mv (.c (.bool false))⟩])
 (.seq (.ops [⟨(some 5), none, .bslice 9 1 1 [(.str [])] [(0, 1, (.c (.str [49, 120])))]⟩, ⟨(some 6), none, .build [(.lit true 0 []), (.str [])] [(0, 1, (.t 5)), (1, 1, (.c (.str [49])))]⟩, ⟨(some 7), none, .call 48 [(.t 6)]⟩, ⟨(some 4), none, .mv (.t 7)⟩, ⟨(some 8), none, .ext (.t 4) 0⟩, ⟨(some 9), none, .ext (.t 4) 1⟩, ⟨(some 10), none, .ext (.t 4) 2⟩, ⟨(some 1), none, .alloc 62 [(.int .i64 0), (.int .i64 0)]⟩, ⟨none, none, .store 2 (.t 1) (.t 8)⟩, ⟨(some 2), none, .mv (.t 9)⟩, ⟨(some 3), none, .mv (.t 10)⟩])
 (.seq (.ops [⟨(some 11), none, .mv (.t 3)⟩, ⟨(some 12), none, .bin 0 .eql (.t 11) (.c (.int .i64 0))⟩, ⟨(some 13), none, .mv (.t 12)⟩, ⟨(some 14), (some (13, true)), .mv (.t 2)⟩, ⟨(some 15), none, .pick (.t 13) (.t 14) (.c (.bool false))⟩, ⟨(some 16), none, .mv (.t 15)⟩, ⟨(some 17), (some (16, true)), .load (some 2) (.t 1)⟩, ⟨(some 18), (some (16, true)), .build [(.int .i64 0), (.int .i64 0)] [(0, 1, (.c (.int .i64 1))), (1, 1, (.c (.int .i64 2)))]⟩, ⟨(some 19), (some (16, true)), .eqs false [0, 0] (.t 17) (.t 18)⟩, ⟨(some 20), none, .pick (.t 16) (.t 19) (.c (.bool false))⟩, ⟨(some 0), none, .mv (.t 20)⟩])
 (.ret)))⟩
theorem c13 : compF Go.Proofs.Tryz.prog 13 = some a13 := by kernel_rfl
def a14 : AFn := ⟨12, [.t 6], .seq (.ops [⟨(some 6), none, .mv (.c (.int .i64 0))⟩])
 (.seq (.seq (.ops [⟨(some 7), none, .mv (.t 0)⟩, ⟨(some 8), none, .mv (.t 1)⟩, ⟨(some 9), none, .mv (.t 2)⟩, ⟨(some 10), none, .call 49 [(.t 7), (.t 8), (.t 9)]⟩, ⟨(some 11), none, .un .not (.t 10)⟩])
 (.cond (.t 11) (.seq (.ops [⟨(some 6), none, .mv (.c (.int .i64 1))⟩])
 (.ret)) (.skip)))
 (.seq (.ops [⟨(some 6), none, .mv (.c (.int .i64 0))⟩])
 (.ret)))⟩
theorem c14 : compF Go.Proofs.Tryz.prog 14 = some a14 := by kernel_rfl
def a15 : AFn := ⟨32, [.t 6], .seq (.ops [⟨(some 6), none, .mv (.c (.bool false))⟩])
 (.seq (.seq (.ops [⟨(some 10), none, .mv (.t 0)⟩, ⟨(some 11), none, .len false (.t 10)⟩, ⟨(some 12), none, .mv (.t 1)⟩, ⟨(some 13), none, .len false (.t 12)⟩, ⟨(some 14), none, .bin 0 .neq (.t 11) (.t 13)⟩])
 (.cond (.t 14) (.seq (.ops [⟨(some 6), none, .mv (.c (.bool false))⟩])
 (.ret)) (.skip)))
 (.seq (.seq (.ops [⟨(some 15), none, .mv (.t 0)⟩, ⟨(some 16), none, .len false (.t 15)⟩, ⟨(some 17), none, .mv (.c (.int .i64 0))⟩])
 (.block 0 (.loop (.seq (.ops [⟨(some 18), none, .bin 0 .lss (.t 17) (.t 16)⟩])
 (.seq (.cond (.t 18) (.skip) (.exit 0))
 (.seq (.block 1 (.seq (.ops [⟨(some 19), none, .mv (.t 17)⟩, ⟨(some 20), none, .iadr 1 (.t 15) (.t 17)⟩, ⟨(some 21), none, .load none (.t 20)⟩, ⟨(some 7), none, .mv (.t 19)⟩, ⟨(some 8), none, .mv (.t 21)⟩])
 (.seq (.ops [⟨(some 22), none, .mv (.t 1)⟩, ⟨(some 23), none, .mv (.t 7)⟩, ⟨(some 24), none, .iadr 1 (.t 22) (.t 23)⟩, ⟨(some 25), none, .load none (.t 24)⟩, ⟨(some 9), none, .mv (.t 25)⟩])
 (.seq (.ops [⟨(some 26), none, .mv (.t 2)⟩, ⟨(some 27), none, .mv (.t 8)⟩, ⟨(some 28), none, .mv (.t 9)⟩, ⟨(some 29), none, .callv (.t 26) [(.t 27), (.t 28)]⟩, ⟨(some 30), none, .un .not (.t 29)⟩])
 (.cond (.t 30) (.seq (.ops [⟨(some 6), none, .mv (.c (.bool false))⟩])
 (.ret)) (.skip))))))
 (.ops [⟨(some 31), none, .bin 0 .add (.t 17) (.c (.int .i64 1))⟩, ⟨(some 17), none, .mv (.t 31)⟩])))))))
 (.seq (.ops [⟨(some 6), none, .mv (.c (.bool true))⟩])
 (.ret))))⟩
theorem c15 : compF Go.Proofs.Tryz.prog 15 = some a15 := by kernel_rfl
def a16 : AFn := ⟨71, [.t 4], .seq (.ops [⟨(some 2), none, .box 28 (.t 0)⟩, ⟨(some 4), none, .mv (.c (.lit true 0 []))⟩])
 (.seq (.ops [⟨(some 5), none, .mv (.c (.lit true 0 []))⟩])
 (.seq (.ops [⟨(some 6), none, .mv (.c (.lit true 0 []))⟩])
 (.seq (.seq (.ops [⟨(some 13), none, .load (some 2) (.t 2)⟩, ⟨(some 14), none, .mkfn 51 [(.t 2)]⟩, ⟨(some 15), none, .call 50 [(.t 13), (.t 14)]⟩, ⟨(some 16), none, .len false (.t 15)⟩, ⟨(some 17), none, .mv (.c (.int .i64 0))⟩])
 (.block 0 (.loop (.seq (.ops [⟨(some 18), none, .bin 0 .lss (.t 17) (.t 16)⟩])
 (.seq (.cond (.t 18) (.skip) (.exit 0))
 (.seq (.block 1 (.seq (.ops [⟨(some 19), none, .iadr 2 (.t 15) (.t 17)⟩, ⟨(some 20), none, .load (some 2) (.t 19)⟩, ⟨(some 8), none, .alloc 54 [(.int .i64 0), (.int .i64 0)]⟩, ⟨none, none, .store 2 (.t 8) (.t 20)⟩])
 (.seq (.seq (.ops [⟨(some 21), none, .mv (.t 6)⟩, ⟨(some 22), none, .load (some 2) (.t 8)⟩, ⟨(some 23), none, .call 53 [(.t 21), (.t 22)]⟩])
 (.cond (.t 23) (.exit 1) (.skip)))
 (.seq (.ops [⟨(some 24), none, .load (some 2) (.t 8)⟩, ⟨(some 25), none, .bslice 54 2 1 [(.int .i64 0), (.int .i64 0)] [(0, 2, (.t 24))]⟩, ⟨(some 9), none, .alloc 38 [(.lit true 0 [])]⟩, ⟨none, none, .store 1 (.t 9) (.t 25)⟩])
 (.seq (.seq (.ops [⟨(some 10), none, .mv (.c (.int .i64 0))⟩])
 (.block 2 (.loop (.seq (.seq (.ops [⟨(some 26), none, .mv (.t 10)⟩, ⟨(some 27), none, .load none (.t 9)⟩, ⟨(some 28), none, .len false (.t 27)⟩, ⟨(some 29), none, .bin 0 .lss (.t 26) (.t 28)⟩])
 (.cond (.t 29) (.skip) (.exit 2)))
 (.seq (.block 3 (.seq (.ops [⟨(some 32), none, .load none (.t 9)⟩, ⟨(some 33), none, .mv (.t 10)⟩, ⟨(some 34), none, .iadr 2 (.t 32) (.t 33)⟩, ⟨(some 35), none, .load (some 2) (.t 34)⟩, ⟨(some 36), none, .call 54 [(.t 35)]⟩, ⟨(some 37), none, .len false (.t 36)⟩, ⟨(some 38), none, .mv (.c (.int .i64 0))⟩])
 (.block 4 (.loop (.seq (.ops [⟨(some 39), none, .bin 0 .lss (.t 38) (.t 37)⟩])
 (.seq (.cond (.t 39) (.skip) (.exit 4))
 (.seq (.block 5 (.seq (.ops [⟨(some 40), none, .iadr 2 (.t 36) (.t 38)⟩, ⟨(some 41), none, .load (some 2) (.t 40)⟩, ⟨(some 12), none, .alloc 54 [(.int .i64 0), (.int .i64 0)]⟩, ⟨none, none, .store 2 (.t 12) (.t 41)⟩])
 (.seq (.ops [⟨(some 42), none, .load (some 2) (.t 2)⟩, ⟨(some 43), none, .load (some 2) (.t 12)⟩, ⟨(some 44), none, .call 52 [(.t 42), (.t 43)]⟩, ⟨(some 45), none, .mv (.t 44)⟩, ⟨(some 46), (some (45, true)), .load none (.t 9)⟩, ⟨(some 47), (some (45, true)), .load (some 2) (.t 12)⟩, ⟨(some 48), (some (45, true)), .call 53 [(.t 46), (.t 47)]⟩, ⟨(some 49), (some (45, true)), .un .not (.t 48)⟩, ⟨(some 50), none, .pick (.t 45) (.t 49) (.c (.bool false))⟩])
 (.cond (.t 50) (.ops [⟨(some 51), none, .load none (.t 9)⟩, ⟨(some 52), none, .load (some 2) (.t 12)⟩, ⟨(some 53), none, .bslice 54 2 1 [(.int .i64 0), (.int .i64 0)] [(0, 2, (.t 52))]⟩, ⟨(some 54), none, .app 54 2 16 (.t 51) (.t 53)⟩, ⟨none, none, .store 1 (.t 9) (.t 54)⟩]) (.skip)))))
 (.ops [⟨(some 55), none, .bin 0 .add (.t 38) (.c (.int .i64 1))⟩, ⟨(some 38), none, .mv (.t 55)⟩]))))))))
 (.ops [⟨(some 30), none, .mv (.t 10)⟩, ⟨(some 31), none, .bin 0 .add (.t 30) (.c (.int .i64 1))⟩, ⟨(some 10), none, .mv (.t 31)⟩]))))))
 (.seq (.ops [⟨(some 56), none, .mv (.t 6)⟩, ⟨(some 57), none, .load none (.t 9)⟩, ⟨(some 58), none, .app 54 2 16 (.t 56) (.t 57)⟩, ⟨(some 6), none, .mv (.t 58)⟩])
 (.seq (.ops [⟨(some 59), none, .load none (.t 9)⟩, ⟨(some 60), none, .len false (.t 59)⟩, ⟨(some 61), none, .mv (.t 1)⟩, ⟨(some 62), none, .bin 0 .geq (.t 60) (.t 61)⟩])
 (.cond (.t 62) (.ops [⟨(some 63), none, .mv (.t 5)⟩, ⟨(some 64), none, .load (some 2) (.t 2)⟩, ⟨(some 65), none, .mkfn 55 [(.t 9)]⟩, ⟨(some 66), none, .call 50 [(.t 64), (.t 65)]⟩, ⟨(some 67), none, .bslice 38 1 1 [(.lit true 0 [])] [(0, 1, (.t 66))]⟩, ⟨(some 68), none, .app 38 1 24 (.t 63) (.t 67)⟩, ⟨(some 5), none, .mv (.t 68)⟩]) (.skip)))))))))
 (.ops [⟨(some 69), none, .bin 0 .add (.t 17) (.c (.int .i64 1))⟩, ⟨(some 17), none, .mv (.t 69)⟩])))))))
 (.seq (.ops [⟨(some 70), none, .mv (.t 5)⟩, ⟨(some 4), none, .mv (.t 70)⟩])
 (.ret)))))⟩
theorem c16 : compF Go.Proofs.Tryz.prog 16 = some a16 := by kernel_rfl
def a17 : AFn := ⟨26, [.t 4], .seq (.ops [⟨(some 4), none, .mv (.c (.bool false))⟩])
 (.seq (.seq (.ops [⟨(some 6), none, .mv (.t 0)⟩, ⟨(some 7), none, .len false (.t 6)⟩, ⟨(some 8), none, .mv (.t 1)⟩, ⟨(some 9), none, .len false (.t 8)⟩, ⟨(some 10), none, .bin 0 .neq (.t 7) (.t 9)⟩])
 (.cond (.t 10) (.seq (.ops [⟨(some 4), none, .mv (.c (.bool false))⟩])
 (.ret)) (.skip)))
 (.seq (.seq (.ops [⟨(some 11), none, .mv (.t 0)⟩, ⟨(some 12), none, .len false (.t 11)⟩, ⟨(some 13), none, .mv (.c (.int .i64 0))⟩])
 (.block 0 (.loop (.seq (.ops [⟨(some 14), none, .bin 0 .lss (.t 13) (.t 12)⟩])
 (.seq (.cond (.t 14) (.skip) (.exit 0))
 (.seq (.block 1 (.seq (.ops [⟨(some 15), none, .mv (.t 13)⟩, ⟨(some 5), none, .mv (.t 15)⟩])
 (.seq (.any [(⟨(some 16), none, .mv (.t 0)⟩, []), (⟨(some 17), none, .mv (.t 5)⟩, [0]), (⟨(some 18), none, .iadr 2 (.t 16) (.t 17)⟩, []), (⟨(some 19), none, .load (some 2) (.t 18)⟩, []), (⟨(some 20), none, .mv (.t 1)⟩, [0, 1, 2, 3]), (⟨(some 21), none, .mv (.t 5)⟩, [0, 1, 2, 3, 4]), (⟨(some 22), none, .iadr 2 (.t 20) (.t 21)⟩, [0, 1, 2, 3]), (⟨(some 23), none, .load (some 2) (.t 22)⟩, [0, 1, 2, 3]), (⟨(some 24), none, .eqs true [0, 0] (.t 19) (.t 23)⟩, [])])
 (.cond (.t 24) (.seq (.ops [⟨(some 4), none, .mv (.c (.bool false))⟩])
 (.ret)) (.skip)))))
 (.ops [⟨(some 25), none, .bin 0 .add (.t 13) (.c (.int .i64 1))⟩, ⟨(some 13), none, .mv (.t 25)⟩])))))))
 (.seq (.ops [⟨(some 4), none, .mv (.c (.bool true))⟩])
 (.ret))))⟩
theorem c17 : compF Go.Proofs.Tryz.prog 17 = some a17 := by kernel_rfl
def a18 : AFn := ⟨15, [.c 4 (some 2), .t 5], .seq (.ops [⟨(some 2), none, .box 28 (.t 0)⟩, ⟨(some 3), none, .box 3 (.t 1)⟩, ⟨(some 4), none, .alloc 28 [(.lit true 0 []), (.str [])]⟩, ⟨(some 5), none, .mv (.c (.int .i64 0))⟩])
 (.seq (.ops [⟨(some 7), none, .load (some 2) (.t 2)⟩, ⟨(some 8), none, .mkfn 56 [(.t 2), (.t 3)]⟩, ⟨(some 9), none, .call 50 [(.t 7), (.t 8)]⟩, ⟨(some 6), none, .mv (.t 9)⟩])
 (.seq (.ops [⟨(some 10), none, .load (some 2) (.t 2)⟩, ⟨(some 11), none, .mv (.t 6)⟩, ⟨(some 12), none, .call 59 [(.t 10), (.t 11), (.c (.int .u8 42))]⟩, ⟨(some 13), none, .mv (.t 6)⟩, ⟨(some 14), none, .len false (.t 13)⟩, ⟨none, none, .store 2 (.t 4) (.t 12)⟩, ⟨(some 5), none, .mv (.t 14)⟩])
 (.ret)))⟩
theorem c18 : compF Go.Proofs.Tryz.prog 18 = some a18 := by kernel_rfl
def a19 : AFn := ⟨37, [.t 2, .t 3], .seq (.ops [⟨(some 1), none, .box 28 (.t 0)⟩, ⟨(some 2), none, .mv (.c (.lit true 0 []))⟩, ⟨(some 3), none, .mv (.c (.lit true 0 []))⟩])
 (.seq (.ops [⟨(some 4), none, .mv (.c (.lit true 0 []))⟩])
 (.seq (.ops [⟨(some 5), none, .mv (.c (.lit true 0 []))⟩])
 (.seq (.ops [⟨(some 6), none, .alloc 38 [(.lit true 0 [])]⟩])
 (.seq (.ops [⟨(some 10), none, .load (some 2) (.t 1)⟩, ⟨(some 11), none, .call 20 [(.t 10)]⟩, ⟨(some 7), none, .alloc 38 [(.lit true 0 [])]⟩, ⟨none, none, .store 1 (.t 7) (.t 11)⟩])
 (.seq (.block 0 (.loop (.seq (.seq (.ops [⟨(some 12), none, .load none (.t 7)⟩, ⟨(some 13), none, .len false (.t 12)⟩, ⟨(some 14), none, .bin 0 .gtr (.t 13) (.c (.int .i64 0))⟩])
 (.cond (.t 14) (.skip) (.exit 0)))
 (.block 1 (.seq (.ops [⟨(some 16), none, .load (some 2) (.t 1)⟩, ⟨(some 17), none, .load none (.t 7)⟩, ⟨(some 18), none, .call 60 [(.t 16), (.t 17)]⟩, ⟨(some 15), none, .mv (.t 18)⟩, ⟨(some 19), none, .ext (.t 15) 0⟩, ⟨(some 20), none, .ext (.t 15) 1⟩, ⟨(some 8), none, .alloc 62 [(.int .i64 0), (.int .i64 0)]⟩, ⟨none, none, .store 2 (.t 8) (.t 19)⟩, ⟨(some 9), none, .mv (.t 20)⟩])
 (.seq (.ops [⟨(some 21), none, .mv (.t 4)⟩, ⟨(some 22), none, .load (some 2) (.t 8)⟩, ⟨(some 23), none, .bslice 62 2 1 [(.int .i64 0), (.int .i64 0)] [(0, 2, (.t 22))]⟩, ⟨(some 24), none, .app 62 2 16 (.t 21) (.t 23)⟩, ⟨(some 25), none, .mv (.t 5)⟩, ⟨(some 26), none, .mv (.t 9)⟩, ⟨(some 27), none, .bslice 4 1 1 [(.bool false)] [(0, 1, (.t 26))]⟩, ⟨(some 28), none, .app 4 1 1 (.t 25) (.t 27)⟩, ⟨(some 4), none, .mv (.t 24)⟩, ⟨(some 5), none, .mv (.t 28)⟩])
 (.seq (.ops [⟨(some 29), none, .load none (.t 6)⟩, ⟨(some 30), none, .load none (.t 7)⟩, ⟨(some 31), none, .app 54 2 16 (.t 29) (.t 30)⟩, ⟨none, none, .store 1 (.t 6) (.t 31)⟩])
 (.ops [⟨(some 32), none, .load (some 2) (.t 1)⟩, ⟨(some 33), none, .mkfn 61 [(.t 1), (.t 6), (.t 7)]⟩, ⟨(some 34), none, .call 50 [(.t 32), (.t 33)]⟩, ⟨none, none, .store 1 (.t 7) (.t 34)⟩]))))))))
 (.seq (.ops [⟨(some 35), none, .mv (.t 4)⟩, ⟨(some 36), none, .mv (.t 5)⟩, ⟨(some 2), none, .mv (.t 35)⟩, ⟨(some 3), none, .mv (.t 36)⟩])
 (.ret)))))))⟩
theorem c19 : compF Go.Proofs.Tryz.prog 19 = some a19 := by kernel_rfl
def a20 : AFn := ⟨6, [.t 2], .seq (.ops [⟨(some 1), none, .box 28 (.t 0)⟩, ⟨(some 2), none, .mv (.c (.lit true 0 []))⟩])
 (.seq (.ops [⟨(some 3), none, .load (some 2) (.t 1)⟩, ⟨(some 4), none, .mkfn 65 [(.t 1)]⟩, ⟨(some 5), none, .call 50 [(.t 3), (.t 4)]⟩, ⟨(some 2), none, .mv (.t 5)⟩])
 (.ret))⟩
theorem c20 : compF Go.Proofs.Tryz.prog 20 = some a20 := by kernel_rfl
def a21 : AFn := ⟨26, [.t 4], .seq (.ops [⟨(some 4), none, .mv (.c (.bool false))⟩])
 (.seq (.seq (.ops [⟨(some 6), none, .mv (.t 0)⟩, ⟨(some 7), none, .len false (.t 6)⟩, ⟨(some 8), none, .mv (.t 1)⟩, ⟨(some 9), none, .len false (.t 8)⟩, ⟨(some 10), none, .bin 0 .neq (.t 7) (.t 9)⟩])
 (.cond (.t 10) (.seq (.ops [⟨(some 4), none, .mv (.c (.bool false))⟩])
 (.ret)) (.skip)))
 (.seq (.seq (.ops [⟨(some 11), none, .mv (.t 0)⟩, ⟨(some 12), none, .len false (.t 11)⟩, ⟨(some 13), none, .mv (.c (.int .i64 0))⟩])
 (.block 0 (.loop (.seq (.ops [⟨(some 14), none, .bin 0 .lss (.t 13) (.t 12)⟩])
 (.seq (.cond (.t 14) (.skip) (.exit 0))
 (.seq (.block 1 (.seq (.ops [⟨(some 15), none, .mv (.t 13)⟩, ⟨(some 5), none, .mv (.t 15)⟩])
 (.seq (.any [(⟨(some 16), none, .mv (.t 0)⟩, []), (⟨(some 17), none, .mv (.t 5)⟩, [0]), (⟨(some 18), none, .iadr 2 (.t 16) (.t 17)⟩, []), (⟨(some 19), none, .load (some 2) (.t 18)⟩, []), (⟨(some 20), none, .mv (.t 1)⟩, [0, 1, 2, 3]), (⟨(some 21), none, .mv (.t 5)⟩, [0, 1, 2, 3, 4]), (⟨(some 22), none, .iadr 2 (.t 20) (.t 21)⟩, [0, 1, 2, 3]), (⟨(some 23), none, .load (some 2) (.t 22)⟩, [0, 1, 2, 3]), (⟨(some 24), none, .eqs true [0, 0] (.t 19) (.t 23)⟩, [])])
 (.cond (.t 24) (.seq (.ops [⟨(some 4), none, .mv (.c (.bool false))⟩])
 (.ret)) (.skip)))))
 (.ops [⟨(some 25), none, .bin 0 .add (.t 13) (.c (.int .i64 1))⟩, ⟨(some 13), none, .mv (.t 25)⟩])))))))
 (.seq (.ops [⟨(some 4), none, .mv (.c (.bool true))⟩])
 (.ret))))⟩
theorem c21 : compF Go.Proofs.Tryz.prog 21 = some a21 := by kernel_rfl
def a22 : AFn := ⟨26, [.t 4], .seq (.ops [⟨(some 4), none, .mv (.c (.bool false))⟩])
 (.seq (.seq (.ops [⟨(some 6), none, .mv (.t 0)⟩, ⟨(some 7), none, .len false (.t 6)⟩, ⟨(some 8), none, .mv (.t 1)⟩, ⟨(some 9), none, .len false (.t 8)⟩, ⟨(some 10), none, .bin 0 .neq (.t 7) (.t 9)⟩])
 (.cond (.t 10) (.seq (.ops [⟨(some 4), none, .mv (.c (.bool false))⟩])
 (.ret)) (.skip)))
 (.seq (.seq (.ops [⟨(some 11), none, .mv (.t 0)⟩, ⟨(some 12), none, .len false (.t 11)⟩, ⟨(some 13), none, .mv (.c (.int .i64 0))⟩])
 (.block 0 (.loop (.seq (.ops [⟨(some 14), none, .bin 0 .lss (.t 13) (.t 12)⟩])
 (.seq (.cond (.t 14) (.skip) (.exit 0))
 (.seq (.block 1 (.seq (.ops [⟨(some 15), none, .mv (.t 13)⟩, ⟨(some 5), none, .mv (.t 15)⟩])
 (.seq (.any [(⟨(some 16), none, .mv (.t 0)⟩, []), (⟨(some 17), none, .mv (.t 5)⟩, [0]), (⟨(some 18), none, .iadr 1 (.t 16) (.t 17)⟩, []), (⟨(some 19), none, .load none (.t 18)⟩, []), (⟨(some 20), none, .mv (.t 1)⟩, [0, 1, 2, 3]), (⟨(some 21), none, .mv (.t 5)⟩, [0, 1, 2, 3, 4]), (⟨(some 22), none, .iadr 1 (.t 20) (.t 21)⟩, [0, 1, 2, 3]), (⟨(some 23), none, .load none (.t 22)⟩, [0, 1, 2, 3]), (⟨(some 24), none, .bin 2 .neq (.t 19) (.t 23)⟩, [])])
 (.cond (.t 24) (.seq (.ops [⟨(some 4), none, .mv (.c (.bool false))⟩])
 (.ret)) (.skip)))))
 (.ops [⟨(some 25), none, .bin 0 .add (.t 13) (.c (.int .i64 1))⟩, ⟨(some 13), none, .mv (.t 25)⟩])))))))
 (.seq (.ops [⟨(some 4), none, .mv (.c (.bool true))⟩])
 (.ret))))⟩
theorem c22 : compF Go.Proofs.Tryz.prog 22 = some a22 := by kernel_rfl
def a23 : AFn := ⟨46, [.c 2 (some 2)], .seq (.ops [⟨(some 1), none, .box 28 (.t 0)⟩, ⟨(some 2), none, .alloc 28 [(.lit true 0 []), (.str [])]⟩])
 (.seq (.ops [⟨(some 7), none, .fadr 1 (.t 1)⟩, ⟨(some 8), none, .load none (.t 7)⟩, ⟨(some 9), none, .build [(.lit true 0 []), (.str [])] [(1, 1, (.t 8))]⟩, ⟨(some 3), none, .alloc 28 [(.lit true 0 []), (.str [])]⟩, ⟨none, none, .store 2 (.t 3) (.t 9)⟩])
 (.seq (.seq (.ops [⟨(some 10), none, .fadr 0 (.t 1)⟩, ⟨(some 11), none, .load none (.t 10)⟩, ⟨(some 12), none, .iadr 1 (.t 11) (.c (.int .i64 0))⟩, ⟨(some 13), none, .load none (.t 12)⟩, ⟨(some 14), none, .len true (.t 13)⟩, ⟨(some 15), none, .mv (.c (.int .i64 0))⟩])
 (.block 0 (.loop (.seq (.ops [⟨(some 16), none, .bin 0 .lss (.t 15) (.t 14)⟩])
 (.seq (.cond (.t 16) (.skip) (.exit 0))
 (.seq (.block 1 (.seq (.ops [⟨(some 17), none, .mv (.t 15)⟩, ⟨(some 4), none, .mv (.t 17)⟩])
 (.seq (.ops [⟨(some 5), none, .mv (.c (.str []))⟩])
 (.seq (.seq (.ops [⟨(some 18), none, .fadr 0 (.t 1)⟩, ⟨(some 19), none, .load none (.t 18)⟩, ⟨(some 20), none, .len false (.t 19)⟩, ⟨(some 21), none, .mv (.c (.int .i64 0))⟩])
 (.block 2 (.loop (.seq (.ops [⟨(some 22), none, .bin 0 .lss (.t 21) (.t 20)⟩])
 (.seq (.cond (.t 22) (.skip) (.exit 2))
 (.seq (.block 3 (.seq (.ops [⟨(some 23), none, .mv (.t 21)⟩, ⟨(some 6), none, .mv (.t 23)⟩])
 (.ops [⟨(some 24), none, .mv (.t 5)⟩, ⟨(some 25), none, .load (some 2) (.t 1)⟩, ⟨(some 26), none, .mv (.t 4)⟩, ⟨(some 27), none, .fadr 0 (.t 1)⟩, ⟨(some 28), none, .load none (.t 27)⟩, ⟨(some 29), none, .len false (.t 28)⟩, ⟨(some 30), none, .bin 0 .sub (.t 29) (.c (.int .i64 1))⟩, ⟨(some 31), none, .mv (.t 6)⟩, ⟨(some 32), none, .bin 0 .sub (.t 30) (.t 31)⟩, ⟨(some 33), none, .build [(.int .i64 0), (.int .i64 0)] [(0, 1, (.t 26)), (1, 1, (.t 32))]⟩, ⟨(some 34), none, .call 62 [(.t 25), (.t 33)]⟩, ⟨(some 35), none, .i2s (.t 34)⟩, ⟨(some 36), none, .bin 1 .add (.t 24) (.t 35)⟩, ⟨(some 5), none, .mv (.t 36)⟩])))
 (.ops [⟨(some 37), none, .bin 0 .add (.t 21) (.c (.int .i64 1))⟩, ⟨(some 21), none, .mv (.t 37)⟩])))))))
 (.ops [⟨(some 38), none, .fadr 0 (.t 3)⟩, ⟨(some 39), none, .load none (.t 38)⟩, ⟨(some 40), none, .mv (.t 5)⟩, ⟨(some 41), none, .bslice 9 1 1 [(.str [])] [(0, 1, (.t 40))]⟩, ⟨(some 42), none, .app 9 1 16 (.t 39) (.t 41)⟩, ⟨(some 43), none, .fadr 0 (.t 3)⟩, ⟨none, none, .store 1 (.t 43) (.t 42)⟩])))))
 (.ops [⟨(some 44), none, .bin 0 .add (.t 15) (.c (.int .i64 1))⟩, ⟨(some 15), none, .mv (.t 44)⟩])))))))
 (.seq (.ops [⟨(some 45), none, .load (some 2) (.t 3)⟩, ⟨none, none, .store 2 (.t 2) (.t 45)⟩])
 (.ret))))⟩
theorem c23 : compF Go.Proofs.Tryz.prog 23 = some a23 := by kernel_rfl
def a24 : AFn := ⟨19, [.t 6], .seq (.ops [⟨(some 6), none, .mv (.c (.int .i64 0))⟩])
 (.seq (.seq (.ops [⟨(some 7), none, .mv (.t 2)⟩, ⟨(some 8), none, .mv (.t 1)⟩, ⟨(some 9), none, .bin 0 .lss (.t 7) (.t 8)⟩])
 (.cond (.t 9) (.seq (.ops [⟨(some 10), none, .mv (.t 1)⟩, ⟨(some 6), none, .mv (.t 10)⟩])
 (.ret)) (.skip)))
 (.seq (.ops [⟨(some 11), none, .mv (.t 1)⟩, ⟨(some 12), none, .mv (.t 0)⟩, ⟨(some 13), none, .mv (.t 2)⟩, ⟨(some 14), none, .mv (.t 1)⟩, ⟨(some 15), none, .bin 0 .sub (.t 13) (.t 14)⟩, ⟨(some 16), none, .bin 0 .add (.t 15) (.c (.int .i64 1))⟩, ⟨(some 17), none, .call 27 [(.t 12), (.t 16)]⟩, ⟨(some 18), none, .bin 0 .add (.t 11) (.t 17)⟩, ⟨(some 6), none, .mv (.t 18)⟩])
 (.ret)))⟩
theorem c24 : compF Go.Proofs.Tryz.prog 24 = some a24 := by kernel_rfl
def a25 : AFn := ⟨12, [.t 4], .seq (.ops [⟨(some 4), none, .mv (.c (.str []))⟩])
 (.seq (.ops [⟨(some 5), none, .mv (.t 1)⟩, ⟨(some 6), none, .mv (.t 0)⟩, ⟨(some 7), none, .mv (.t 1)⟩, ⟨(some 8), none, .len false (.t 7)⟩, ⟨(some 9), none, .call 27 [(.t 6), (.t 8)]⟩, ⟨(some 10), none, .iadr 1 (.t 5) (.t 9)⟩, ⟨(some 11), none, .load none (.t 10)⟩, ⟨(some 4), none, .mv (.t 11)⟩])
 (.ret))⟩
theorem c25 : compF Go.Proofs.Tryz.prog 25 = some a25 := by kernel_rfl
def a26 : AFn := ⟨9, [.t 4], .seq (.ops [⟨(some 4), none, .mv (.c (.bool false))⟩])
 (.seq (.ops [⟨(some 5), none, .mv (.t 0)⟩, ⟨(some 6), none, .mv (.t 1)⟩, ⟨(some 7), none, .call 27 [(.t 5), (.t 6)]⟩, ⟨(some 8), none, .bin 0 .eql (.t 7) (.c (.int .i64 0))⟩, ⟨(some 4), none, .mv (.t 8)⟩])
 (.ret))⟩
theorem c26 : compF Go.Proofs.Tryz.prog 26 = some a26 := by kernel_rfl
def a27 : AFn := ⟨64, [.t 4], .seq (.ops [⟨(some 4), none, .mv (.c (.int .i64 0))⟩])
 (.seq (.ops [⟨(some 7), none, .mv (.t 0)⟩, ⟨(some 8), none, .nilchk (.t 7)⟩, ⟨(some 9), none, .fadr 1 (.t 8)⟩, ⟨(some 10), none, .load none (.t 9)⟩, ⟨(some 11), none, .bin 0 .add (.t 10) (.c (.int .i64 1))⟩, ⟨(some 12), none, .nilchk (.t 7)⟩, ⟨(some 13), none, .fadr 1 (.t 12)⟩, ⟨none, none, .store 1 (.t 13) (.t 11)⟩])
 (.seq (.seq (.ops [⟨(some 14), none, .mv (.t 0)⟩, ⟨(some 15), none, .nilchk (.t 14)⟩, ⟨(some 16), none, .fadr 0 (.t 15)⟩, ⟨(some 17), none, .load none (.t 16)⟩, ⟨(some 18), none, .len false (.t 17)⟩, ⟨(some 19), none, .bin 0 .eql (.t 18) (.c (.int .i64 0))⟩])
 (.cond (.t 19) (.seq (.ops [⟨(some 20), none, .mv (.t 0)⟩, ⟨(some 21), none, .nilchk (.t 20)⟩, ⟨(some 22), none, .fadr 1 (.t 21)⟩, ⟨(some 23), none, .load none (.t 22)⟩, ⟨(some 24), none, .bin 0 .mul (.t 23) (.c (.int .i64 7919))⟩, ⟨(some 25), none, .mv (.t 1)⟩, ⟨(some 26), none, .call 67 [(.t 24), (.t 25)]⟩, ⟨(some 4), none, .mv (.t 26)⟩])
 (.ret)) (.skip)))
 (.seq (.any [(⟨(some 27), none, .mv (.t 0)⟩, []), (⟨(some 28), none, .nilchk (.t 27)⟩, []), (⟨(some 29), none, .fadr 1 (.t 28)⟩, []), (⟨(some 30), none, .load none (.t 29)⟩, []), (⟨(some 31), none, .bin 0 .sub (.t 30) (.c (.int .i64 1))⟩, []), (⟨(some 32), none, .mv (.t 0)⟩, [0, 1, 2, 3, 4]), (⟨(some 33), none, .nilchk (.t 32)⟩, [0, 1, 2, 3, 4]), (⟨(some 34), none, .fadr 0 (.t 33)⟩, [0, 1, 2, 3, 4]), (⟨(some 35), none, .load none (.t 34)⟩, [0, 1, 2, 3, 4]), (⟨(some 36), none, .len false (.t 35)⟩, [0, 1, 2, 3, 4]), (⟨(some 37), none, .bin 0 .rem (.t 31) (.t 36)⟩, []), (⟨(some 5), none, .mv (.t 37)⟩, [])])
 (.seq (.any [(⟨(some 38), none, .mv (.t 0)⟩, []), (⟨(some 39), none, .nilchk (.t 38)⟩, []), (⟨(some 40), none, .fadr 1 (.t 39)⟩, []), (⟨(some 41), none, .load none (.t 40)⟩, []), (⟨(some 42), none, .bin 0 .sub (.t 41) (.c (.int .i64 1))⟩, []), (⟨(some 43), none, .mv (.t 0)⟩, [0, 1, 2, 3, 4]), (⟨(some 44), none, .nilchk (.t 43)⟩, [0, 1, 2, 3, 4]), (⟨(some 45), none, .fadr 0 (.t 44)⟩, [0, 1, 2, 3, 4]), (⟨(some 46), none, .load none (.t 45)⟩, [0, 1, 2, 3, 4]), (⟨(some 47), none, .len false (.t 46)⟩, [0, 1, 2, 3, 4]), (⟨(some 48), none, .bin 0 .quo (.t 42) (.t 47)⟩, []), (⟨(some 6), none, .mv (.t 48)⟩, [])])
 (.seq (.ops [⟨(some 49), none, .mv (.t 0)⟩, ⟨(some 50), none, .nilchk (.t 49)⟩, ⟨(some 51), none, .fadr 0 (.t 50)⟩, ⟨(some 52), none, .load none (.t 51)⟩, ⟨(some 53), none, .mv (.t 5)⟩, ⟨(some 54), none, .iadr 1 (.t 52) (.t 53)⟩, ⟨(some 55), none, .load none (.t 54)⟩, ⟨(some 56), none, .call 67 [(.t 55), (.c (.int .i64 1073741824))]⟩, ⟨(some 57), none, .mv (.t 6)⟩, ⟨(some 58), none, .mv (.t 5)⟩, ⟨(some 59), none, .bin 0 .add (.c (.int .i64 7919)) (.t 58)⟩, ⟨(some 60), none, .bin 0 .mul (.t 57) (.t 59)⟩, ⟨(some 61), none, .bin 0 .add (.t 56) (.t 60)⟩, ⟨(some 62), none, .mv (.t 1)⟩, ⟨(some 63), none, .call 67 [(.t 61), (.t 62)]⟩, ⟨(some 4), none, .mv (.t 63)⟩])
 (.ret))))))⟩
theorem c27 : compF Go.Proofs.Tryz.prog 27 = some a27 := by kernel_rfl
def a28 : AFn := ⟨9, [.t 4], .seq (.ops [⟨(some 4), none, .mv (.c (.bool false))⟩])
 (.seq (.ops [⟨(some 5), none, .mv (.t 0)⟩, ⟨(some 6), none, .mv (.t 1)⟩, ⟨(some 7), none, .call 68 [(.t 5), (.t 6)]⟩, ⟨(some 8), none, .bin 0 .geq (.t 7) (.c (.int .i64 0))⟩, ⟨(some 4), none, .mv (.t 8)⟩])
 (.ret))⟩
theorem c28 : compF Go.Proofs.Tryz.prog 28 = some a28 := by kernel_rfl
def a29 : AFn := ⟨6, [.t 2], .seq (.ops [⟨(some 2), none, .mv (.c (.bool false))⟩])
 (.seq (.ops [⟨(some 3), none, .mv (.t 0)⟩, ⟨(some 4), none, .call 30 [(.t 3)]⟩, ⟨(some 5), none, .un .not (.t 4)⟩, ⟨(some 2), none, .mv (.t 5)⟩])
 (.ret))⟩
theorem c29 : compF Go.Proofs.Tryz.prog 29 = some a29 := by kernel_rfl
def a30 : AFn := ⟨18, [.t 2], .seq (.ops [⟨(some 2), none, .mv (.c (.bool false))⟩])
 (.seq (.ops [⟨(some 3), none, .mv (.t 0)⟩, ⟨(some 4), none, .call 69 [(.c (.str [48, 49, 50, 51, 52, 53, 54, 55, 56, 57, 97, 98, 99, 100, 101, 102, 103, 104, 105, 106, 107, 108, 109, 110, 111, 112, 113, 114, 115, 116, 117, 118, 119, 120, 121, 122])), (.t 3)]⟩, ⟨(some 5), none, .bin 0 .geq (.t 4) (.c (.int .i64 0))⟩, ⟨(some 6), none, .mv (.t 5)⟩, ⟨(some 7), (some (6, false)), .mv (.t 0)⟩, ⟨(some 8), (some (6, false)), .bin 0 .eql (.t 7) (.c (.int .u8 46))⟩, ⟨(some 9), none, .pick (.t 6) (.c (.bool true)) (.t 8)⟩, ⟨(some 10), none, .mv (.t 9)⟩, ⟨(some 11), (some (10, false)), .mv (.t 0)⟩, ⟨(some 12), (some (10, false)), .bin 0 .eql (.t 11) (.c (.int .u8 63))⟩, ⟨(some 13), none, .pick (.t 10) (.c (.bool true)) (.t 12)⟩, ⟨(some 14), none, .mv (.t 13)⟩, ⟨(some 15), (some (14, false)), .mv (.t 0)⟩, ⟨(some 16), (some (14, false)), .bin 0 .eql (.t 15) (.c (.int .u8 42))⟩, ⟨(some 17), none, .pick (.t 14) (.c (.bool true)) (.t 16)⟩, ⟨(some 2), none, .mv (.t 17)⟩])
 (.ret))⟩
theorem c30 : compF Go.Proofs.Tryz.prog 30 = some a30 := by kernel_rfl
def a31 : AFn := ⟨29, [.t 2], .seq (.ops [⟨(some 2), none, .mv (.c (.int .i64 0))⟩])
 (.seq (.seq (.ops [⟨(some 4), none, .mv (.t 0)⟩, ⟨(some 5), none, .len true (.t 4)⟩, ⟨(some 6), none, .mv (.c (.int .i64 0))⟩])
 (.block 0 (.loop (.seq (.ops [⟨(some 7), none, .bin 0 .lss (.t 6) (.t 5)⟩])
 (.seq (.cond (.t 7) (.skip) (.exit 0))
 (.seq (.block 1 (.seq (.ops [⟨(some 8), none, .mv (.t 6)⟩, ⟨(some 3), none, .mv (.t 8)⟩])
 (.block 2 (.seq (.ops [⟨(some 10), none, .mv (.t 0)⟩, ⟨(some 11), none, .mv (.t 3)⟩, ⟨(some 12), none, .idxs (.t 10) (.t 11)⟩, ⟨(some 13), none, .call 69 [(.c (.str [48, 49, 50, 51, 52, 53, 54, 55, 56, 57, 97, 98, 99, 100, 101, 102, 103, 104, 105, 106, 107, 108, 109, 110, 111, 112, 113, 114, 115, 116, 117, 118, 119, 120, 121, 122])), (.t 12)]⟩, ⟨(some 14), none, .bin 0 .lss (.t 13) (.c (.int .i64 0))⟩, ⟨(some 9), none, .mv (.t 14)⟩])
 (.cond (.t 9) (.seq (.ops [⟨(some 2), none, .mv (.c (.int .i64 9))⟩])
 (.ret)) (.seq (.any [(⟨(some 16), none, .mv (.t 3)⟩, []), (⟨(some 17), none, .bin 0 .gtr (.t 16) (.c (.int .i64 0))⟩, []), (⟨(some 18), none, .mv (.t 17)⟩, []), (⟨(some 19), (some (18, true)), .mv (.t 0)⟩, []), (⟨(some 20), (some (18, true)), .mv (.t 3)⟩, [3]), (⟨(some 21), (some (18, true)), .idxs (.t 19) (.t 20)⟩, []), (⟨(some 22), (some (18, true)), .mv (.t 0)⟩, [3, 4, 5]), (⟨(some 23), (some (18, true)), .mv (.t 3)⟩, [3, 4, 5, 6]), (⟨(some 24), (some (18, true)), .bin 0 .sub (.t 23) (.c (.int .i64 1))⟩, [3, 4, 5, 6]), (⟨(some 25), (some (18, true)), .idxs (.t 22) (.t 24)⟩, [3, 4, 5]), (⟨(some 26), (some (18, true)), .bin 0 .leq (.t 21) (.t 25)⟩, []), (⟨(some 27), none, .pick (.t 18) (.t 26) (.c (.bool false))⟩, []), (⟨(some 15), none, .mv (.t 27)⟩, [])])
 (.cond (.t 15) (.seq (.ops [⟨(some 2), none, .mv (.c (.int .i64 7))⟩])
 (.ret)) (.skip))))))))
 (.ops [⟨(some 28), none, .bin 0 .add (.t 6) (.c (.int .i64 1))⟩, ⟨(some 6), none, .mv (.t 28)⟩])))))))
 (.seq (.ops [⟨(some 2), none, .mv (.c (.int .i64 0))⟩])
 (.ret)))⟩
theorem c31 : compF Go.Proofs.Tryz.prog 31 = some a31 := by kernel_rfl
def a32 : AFn := ⟨72, [.t 2], .seq (.ops [⟨(some 1), none, .box 28 (.t 0)⟩, ⟨(some 2), none, .mv (.c (.int .i64 0))⟩])
 (.seq (.block 0 (.seq (.ops [⟨(some 7), none, .fadr 0 (.t 1)⟩, ⟨(some 8), none, .load none (.t 7)⟩, ⟨(some 9), none, .len false (.t 8)⟩, ⟨(some 10), none, .bin 0 .eql (.t 9) (.c (.int .i64 0))⟩, ⟨(some 6), none, .mv (.t 10)⟩])
 (.cond (.t 6) (.seq (.ops [⟨(some 2), none, .mv (.c (.int .i64 8))⟩])
 (.ret)) (.seq (.ops [⟨(some 12), none, .fadr 0 (.t 1)⟩, ⟨(some 13), none, .load none (.t 12)⟩, ⟨(some 14), none, .len false (.t 13)⟩, ⟨(some 15), none, .bin 0 .gtr (.t 14) (.c (.int .i64 60))⟩, ⟨(some 11), none, .mv (.t 15)⟩])
 (.cond (.t 11) (.seq (.ops [⟨(some 2), none, .mv (.c (.int .i64 2))⟩])
 (.ret)) (.skip))))))
 (.seq (.seq (.ops [⟨(some 16), none, .fadr 0 (.t 1)⟩, ⟨(some 17), none, .load none (.t 16)⟩, ⟨(some 18), none, .len false (.t 17)⟩, ⟨(some 19), none, .mv (.c (.int .i64 0))⟩])
 (.block 1 (.loop (.seq (.ops [⟨(some 20), none, .bin 0 .lss (.t 19) (.t 18)⟩])
 (.seq (.cond (.t 20) (.skip) (.exit 1))
 (.seq (.block 2 (.seq (.ops [⟨(some 21), none, .iadr 1 (.t 17) (.t 19)⟩, ⟨(some 22), none, .load none (.t 21)⟩, ⟨(some 4), none, .mv (.t 22)⟩])
 (.block 3 (.seq (.ops [⟨(some 24), none, .mv (.t 4)⟩, ⟨(some 25), none, .bin 1 .eql (.t 24) (.c (.str []))⟩, ⟨(some 23), none, .mv (.t 25)⟩])
 (.cond (.t 23) (.seq (.ops [⟨(some 2), none, .mv (.c (.int .i64 8))⟩])
 (.ret)) (.seq (.ops [⟨(some 27), none, .mv (.t 4)⟩, ⟨(some 28), none, .len true (.t 27)⟩, ⟨(some 29), none, .bin 0 .gtr (.t 28) (.c (.int .i64 60))⟩, ⟨(some 26), none, .mv (.t 29)⟩])
 (.cond (.t 26) (.seq (.ops [⟨(some 2), none, .mv (.c (.int .i64 2))⟩])
 (.ret)) (.seq (.ops [⟨(some 31), none, .mv (.t 4)⟩, ⟨(some 32), none, .len true (.t 31)⟩, ⟨(some 33), none, .fadr 0 (.t 1)⟩, ⟨(some 34), none, .load none (.t 33)⟩, ⟨(some 35), none, .iadr 1 (.t 34) (.c (.int .i64 0))⟩, ⟨(some 36), none, .load none (.t 35)⟩, ⟨(some 37), none, .len true (.t 36)⟩, ⟨(some 38), none, .bin 0 .neq (.t 32) (.t 37)⟩, ⟨(some 30), none, .mv (.t 38)⟩])
 (.cond (.t 30) (.seq (.ops [⟨(some 2), none, .mv (.c (.int .i64 3))⟩])
 (.ret)) (.seq (.ops [⟨(some 40), none, .mv (.t 4)⟩, ⟨(some 41), none, .call 70 [(.t 40)]⟩, ⟨(some 39), none, .mv (.t 41)⟩])
 (.cond (.t 39) (.seq (.ops [⟨(some 2), none, .mv (.c (.int .i64 9))⟩])
 (.ret)) (.skip))))))))))))
 (.ops [⟨(some 42), none, .bin 0 .add (.t 19) (.c (.int .i64 1))⟩, ⟨(some 19), none, .mv (.t 42)⟩])))))))
 (.seq (.seq (.ops [⟨(some 43), none, .fadr 1 (.t 1)⟩, ⟨(some 44), none, .load none (.t 43)⟩, ⟨(some 45), none, .len true (.t 44)⟩, ⟨(some 46), none, .mv (.c (.int .i64 0))⟩])
 (.block 4 (.loop (.seq (.ops [⟨(some 47), none, .bin 0 .lss (.t 46) (.t 45)⟩])
 (.seq (.cond (.t 47) (.skip) (.exit 4))
 (.seq (.block 5 (.seq (.ops [⟨(some 48), none, .mv (.t 46)⟩, ⟨(some 5), none, .mv (.t 48)⟩])
 (.block 6 (.seq (.ops [⟨(some 50), none, .fadr 1 (.t 1)⟩, ⟨(some 51), none, .load none (.t 50)⟩, ⟨(some 52), none, .mv (.t 5)⟩, ⟨(some 53), none, .idxs (.t 51) (.t 52)⟩, ⟨(some 54), none, .call 71 [(.t 53)]⟩, ⟨(some 55), none, .un .not (.t 54)⟩, ⟨(some 49), none, .mv (.t 55)⟩])
 (.cond (.t 49) (.seq (.ops [⟨(some 2), none, .mv (.c (.int .i64 9))⟩])
 (.ret)) (.seq (.any [(⟨(some 57), none, .mv (.t 5)⟩, []), (⟨(some 58), none, .bin 0 .gtr (.t 57) (.c (.int .i64 0))⟩, []), (⟨(some 59), none, .mv (.t 58)⟩, []), (⟨(some 60), (some (59, true)), .fadr 1 (.t 1)⟩, []), (⟨(some 61), (some (59, true)), .load none (.t 60)⟩, []), (⟨(some 62), (some (59, true)), .mv (.t 5)⟩, [3, 4]), (⟨(some 63), (some (59, true)), .idxs (.t 61) (.t 62)⟩, []), (⟨(some 64), (some (59, true)), .fadr 1 (.t 1)⟩, [3, 4, 5, 6]), (⟨(some 65), (some (59, true)), .load none (.t 64)⟩, [3, 4, 5, 6]), (⟨(some 66), (some (59, true)), .mv (.t 5)⟩, [3, 4, 5, 6, 7, 8]), (⟨(some 67), (some (59, true)), .bin 0 .sub (.t 66) (.c (.int .i64 1))⟩, [3, 4, 5, 6, 7, 8]), (⟨(some 68), (some (59, true)), .idxs (.t 65) (.t 67)⟩, [3, 4, 5, 6]), (⟨(some 69), (some (59, true)), .bin 0 .leq (.t 63) (.t 68)⟩, []), (⟨(some 70), none, .pick (.t 59) (.t 69) (.c (.bool false))⟩, []), (⟨(some 56), none, .mv (.t 70)⟩, [])])
 (.cond (.t 56) (.seq (.ops [⟨(some 2), none, .mv (.c (.int .i64 7))⟩])
 (.ret)) (.skip))))))))
 (.ops [⟨(some 71), none, .bin 0 .add (.t 46) (.c (.int .i64 1))⟩, ⟨(some 46), none, .mv (.t 71)⟩])))))))
 (.seq (.ops [⟨(some 2), none, .mv (.c (.int .i64 0))⟩])
 (.ret)))))⟩
theorem c32 : compF Go.Proofs.Tryz.prog 32 = some a32 := by kernel_rfl
def a33 : AFn := ⟨15, [.t 6], .seq (.ops [⟨(some 6), none, .mv (.c (.bool false))⟩])
 (.seq (.ops [⟨(some 7), none, .mv (.t 0)⟩, ⟨(some 8), none, .mv (.t 1)⟩, ⟨(some 9), none, .bin 0 .lss (.t 7) (.t 8)⟩, ⟨(some 10), none, .mv (.t 9)⟩, ⟨(some 11), (some (10, false)), .mv (.t 0)⟩, ⟨(some 12), (some (10, false)), .mv (.t 2)⟩, ⟨(some 13), (some (10, false)), .bin 0 .gtr (.t 11) (.t 12)⟩, ⟨(some 14), none, .pick (.t 10) (.c (.bool true)) (.t 13)⟩, ⟨(some 6), none, .mv (.t 14)⟩])
 (.ret))⟩
theorem c33 : compF Go.Proofs.Tryz.prog 33 = some a33 := by kernel_rfl
def a34 : AFn := ⟨29, [.t 2], .seq (.ops [⟨(some 1), none, .box 28 (.t 0)⟩, ⟨(some 2), none, .mv (.c (.lit true 0 []))⟩])
 (.seq (.ops [⟨(some 3), none, .mv (.c (.lit true 0 []))⟩])
 (.seq (.seq (.ops [⟨(some 7), none, .fadr 0 (.t 1)⟩, ⟨(some 8), none, .load none (.t 7)⟩, ⟨(some 9), none, .len false (.t 8)⟩, ⟨(some 10), none, .mv (.c (.int .i64 0))⟩])
 (.block 0 (.loop (.seq (.ops [⟨(some 11), none, .bin 0 .lss (.t 10) (.t 9)⟩])
 (.seq (.cond (.t 11) (.skip) (.exit 0))
 (.seq (.block 1 (.seq (.ops [⟨(some 12), none, .mv (.t 10)⟩, ⟨(some 13), none, .iadr 1 (.t 8) (.t 10)⟩, ⟨(some 14), none, .load none (.t 13)⟩, ⟨(some 4), none, .mv (.t 12)⟩, ⟨(some 5), none, .mv (.t 14)⟩])
 (.seq (.ops [⟨(some 15), none, .mv (.t 5)⟩, ⟨(some 16), none, .len true (.t 15)⟩, ⟨(some 17), none, .mv (.c (.int .i64 0))⟩])
 (.block 2 (.loop (.seq (.ops [⟨(some 18), none, .bin 0 .lss (.t 17) (.t 16)⟩])
 (.seq (.cond (.t 18) (.skip) (.exit 2))
 (.seq (.block 3 (.seq (.ops [⟨(some 19), none, .mv (.t 17)⟩, ⟨(some 6), none, .mv (.t 19)⟩])
 (.ops [⟨(some 20), none, .mv (.t 3)⟩, ⟨(some 21), none, .mv (.t 6)⟩, ⟨(some 22), none, .mv (.t 4)⟩, ⟨(some 23), none, .build [(.int .i64 0), (.int .i64 0)] [(0, 1, (.t 21)), (1, 1, (.t 22))]⟩, ⟨(some 24), none, .bslice 54 2 1 [(.int .i64 0), (.int .i64 0)] [(0, 2, (.t 23))]⟩, ⟨(some 25), none, .app 54 2 16 (.t 20) (.t 24)⟩, ⟨(some 3), none, .mv (.t 25)⟩])))
 (.ops [⟨(some 26), none, .bin 0 .add (.t 17) (.c (.int .i64 1))⟩, ⟨(some 17), none, .mv (.t 26)⟩])))))))))
 (.ops [⟨(some 27), none, .bin 0 .add (.t 10) (.c (.int .i64 1))⟩, ⟨(some 10), none, .mv (.t 27)⟩])))))))
 (.seq (.ops [⟨(some 28), none, .mv (.t 3)⟩, ⟨(some 2), none, .mv (.t 28)⟩])
 (.ret))))⟩
theorem c34 : compF Go.Proofs.Tryz.prog 34 = some a34 := by kernel_rfl
def a35 : AFn := ⟨13, [.t 4], .seq (.ops [⟨(some 2), none, .box 28 (.t 0)⟩, ⟨(some 4), none, .mv (.c (.bool false))⟩])
 (.seq (.ops [⟨(some 5), none, .mv (.t 1)⟩, ⟨(some 6), none, .call 71 [(.t 5)]⟩, ⟨(some 7), none, .mv (.t 6)⟩, ⟨(some 8), (some (7, true)), .load (some 2) (.t 2)⟩, ⟨(some 9), (some (7, true)), .mv (.t 1)⟩, ⟨(some 10), (some (7, true)), .call 42 [(.t 8), (.t 9)]⟩, ⟨(some 11), (some (7, true)), .un .not (.t 10)⟩, ⟨(some 12), none, .pick (.t 7) (.t 11) (.c (.bool false))⟩, ⟨(some 4), none, .mv (.t 12)⟩])
 (.ret))⟩
theorem c35 : compF Go.Proofs.Tryz.prog 35 = some a35 := by kernel_rfl
def a36 : AFn := ⟨32, [.t 4], .seq (.ops [⟨(some 2), none, .box 28 (.t 0)⟩, ⟨(some 3), none, .box 54 (.t 1)⟩, ⟨(some 4), none, .mv (.c (.int .u8 0))⟩])
 (.seq (.seq (.any [(⟨(some 5), none, .fadr 1 (.t 3)⟩, []), (⟨(some 6), none, .load none (.t 5)⟩, []), (⟨(some 7), none, .fadr 0 (.t 2)⟩, [0, 1]), (⟨(some 8), none, .load none (.t 7)⟩, [0, 1]), (⟨(some 9), none, .len false (.t 8)⟩, [0, 1]), (⟨(some 10), none, .bin 0 .sub (.t 9) (.c (.int .i64 1))⟩, [0, 1]), (⟨(some 11), none, .call 33 [(.t 6), (.c (.int .i64 0)), (.t 10)]⟩, []), (⟨(some 12), none, .mv (.t 11)⟩, []), (⟨(some 13), (some (12, false)), .fadr 0 (.t 3)⟩, []), (⟨(some 14), (some (12, false)), .load none (.t 13)⟩, []), (⟨(some 15), (some (12, false)), .fadr 0 (.t 2)⟩, [8, 9]), (⟨(some 16), (some (12, false)), .load none (.t 15)⟩, [8, 9]), (⟨(some 17), (some (12, false)), .iadr 1 (.t 16) (.c (.int .i64 0))⟩, [8, 9]), (⟨(some 18), (some (12, false)), .load none (.t 17)⟩, [8, 9]), (⟨(some 19), (some (12, false)), .len true (.t 18)⟩, [8, 9]), (⟨(some 20), (some (12, false)), .bin 0 .sub (.t 19) (.c (.int .i64 1))⟩, [8, 9]), (⟨(some 21), (some (12, false)), .call 33 [(.t 14), (.c (.int .i64 0)), (.t 20)]⟩, []), (⟨(some 22), none, .pick (.t 12) (.c (.bool true)) (.t 21)⟩, [])])
 (.cond (.t 22) (.seq (.ops [⟨(some 4), none, .mv (.c (.int .u8 46))⟩])
 (.ret)) (.skip)))
 (.seq (.any [(⟨(some 23), none, .fadr 0 (.t 2)⟩, []), (⟨(some 24), none, .load none (.t 23)⟩, []), (⟨(some 25), none, .fadr 1 (.t 3)⟩, [0, 1]), (⟨(some 26), none, .load none (.t 25)⟩, [0, 1]), (⟨(some 27), none, .iadr 1 (.t 24) (.t 26)⟩, []), (⟨(some 28), none, .load none (.t 27)⟩, []), (⟨(some 29), none, .fadr 0 (.t 3)⟩, [0, 1, 2, 3, 4, 5]), (⟨(some 30), none, .load none (.t 29)⟩, [0, 1, 2, 3, 4, 5]), (⟨(some 31), none, .idxs (.t 28) (.t 30)⟩, []), (⟨(some 4), none, .mv (.t 31)⟩, [])])
 (.ret)))⟩
theorem c36 : compF Go.Proofs.Tryz.prog 36 = some a36 := by kernel_rfl
def a37 : AFn := ⟨38, [.t 2], .seq (.ops [⟨(some 1), none, .box 54 (.t 0)⟩, ⟨(some 2), none, .mv (.c (.lit true 0 []))⟩])
 (.seq (.ops [⟨(some 3), none, .mv (.c (.lit true 0 []))⟩])
 (.seq (.seq (.ops [⟨(some 7), none, .fadr 1 (.t 1)⟩, ⟨(some 8), none, .load none (.t 7)⟩, ⟨(some 9), none, .bin 0 .sub (.t 8) (.c (.int .i64 1))⟩, ⟨(some 4), none, .mv (.t 9)⟩])
 (.block 0 (.loop (.seq (.seq (.ops [⟨(some 10), none, .mv (.t 4)⟩, ⟨(some 11), none, .fadr 1 (.t 1)⟩, ⟨(some 12), none, .load none (.t 11)⟩, ⟨(some 13), none, .bin 0 .add (.t 12) (.c (.int .i64 1))⟩, ⟨(some 14), none, .bin 0 .leq (.t 10) (.t 13)⟩])
 (.cond (.t 14) (.skip) (.exit 0)))
 (.seq (.block 1 (.seq (.ops [⟨(some 17), none, .fadr 0 (.t 1)⟩, ⟨(some 18), none, .load none (.t 17)⟩, ⟨(some 19), none, .bin 0 .sub (.t 18) (.c (.int .i64 1))⟩, ⟨(some 5), none, .mv (.t 19)⟩])
 (.block 2 (.loop (.seq (.seq (.ops [⟨(some 20), none, .mv (.t 5)⟩, ⟨(some 21), none, .fadr 0 (.t 1)⟩, ⟨(some 22), none, .load none (.t 21)⟩, ⟨(some 23), none, .bin 0 .add (.t 22) (.c (.int .i64 1))⟩, ⟨(some 24), none, .bin 0 .leq (.t 20) (.t 23)⟩])
 (.cond (.t 24) (.skip) (.exit 2)))
 (.seq (.block 3 (.seq (.ops [⟨(some 27), none, .mv (.t 5)⟩, ⟨(some 28), none, .mv (.t 4)⟩, ⟨(some 29), none, .build [(.int .i64 0), (.int .i64 0)] [(0, 1, (.t 27)), (1, 1, (.t 28))]⟩, ⟨(some 6), none, .alloc 54 [(.int .i64 0), (.int .i64 0)]⟩, ⟨none, none, .store 2 (.t 6) (.t 29)⟩])
 (.seq (.ops [⟨(some 30), none, .load (some 2) (.t 6)⟩, ⟨(some 31), none, .load (some 2) (.t 1)⟩, ⟨(some 32), none, .eqs true [0, 0] (.t 30) (.t 31)⟩])
 (.cond (.t 32) (.ops [⟨(some 33), none, .mv (.t 3)⟩, ⟨(some 34), none, .load (some 2) (.t 6)⟩, ⟨(some 35), none, .bslice 54 2 1 [(.int .i64 0), (.int .i64 0)] [(0, 2, (.t 34))]⟩, ⟨(some 36), none, .app 54 2 16 (.t 33) (.t 35)⟩, ⟨(some 3), none, .mv (.t 36)⟩]) (.skip)))))
 (.ops [⟨(some 25), none, .mv (.t 5)⟩, ⟨(some 26), none, .bin 0 .add (.t 25) (.c (.int .i64 1))⟩, ⟨(some 5), none, .mv (.t 26)⟩])))))))
 (.ops [⟨(some 15), none, .mv (.t 4)⟩, ⟨(some 16), none, .bin 0 .add (.t 15) (.c (.int .i64 1))⟩, ⟨(some 4), none, .mv (.t 16)⟩]))))))
 (.seq (.ops [⟨(some 37), none, .mv (.t 3)⟩, ⟨(some 2), none, .mv (.t 37)⟩])
 (.ret))))⟩
theorem c37 : compF Go.Proofs.Tryz.prog 37 = some a37 := by kernel_rfl
def a40 : AFn := ⟨50, [.c 4 (some 2)], .seq (.ops [⟨(some 2), none, .box 28 (.t 0)⟩, ⟨(some 4), none, .alloc 28 [(.lit true 0 []), (.str [])]⟩])
 (.seq (.ops [⟨(some 10), none, .fadr 1 (.t 2)⟩, ⟨(some 11), none, .load none (.t 10)⟩, ⟨(some 12), none, .build [(.lit true 0 []), (.str [])] [(1, 1, (.t 11))]⟩, ⟨(some 5), none, .alloc 28 [(.lit true 0 []), (.str [])]⟩, ⟨none, none, .store 2 (.t 5) (.t 12)⟩])
 (.seq (.seq (.ops [⟨(some 13), none, .fadr 0 (.t 2)⟩, ⟨(some 14), none, .load none (.t 13)⟩, ⟨(some 15), none, .len false (.t 14)⟩, ⟨(some 16), none, .mv (.c (.int .i64 0))⟩])
 (.block 0 (.loop (.seq (.ops [⟨(some 17), none, .bin 0 .lss (.t 16) (.t 15)⟩])
 (.seq (.cond (.t 17) (.skip) (.exit 0))
 (.seq (.block 1 (.seq (.ops [⟨(some 18), none, .mv (.t 16)⟩, ⟨(some 19), none, .iadr 1 (.t 14) (.t 16)⟩, ⟨(some 20), none, .load none (.t 19)⟩, ⟨(some 6), none, .mv (.t 18)⟩, ⟨(some 7), none, .mv (.t 20)⟩])
 (.seq (.ops [⟨(some 21), none, .mv (.t 7)⟩, ⟨(some 22), none, .s2bo (.t 21)⟩, ⟨(some 8), none, .mv (.t 22)⟩])
 (.seq (.seq (.ops [⟨(some 23), none, .mv (.t 8)⟩, ⟨(some 24), none, .len false (.t 23)⟩, ⟨(some 25), none, .mv (.c (.int .i64 0))⟩])
 (.block 2 (.loop (.seq (.ops [⟨(some 26), none, .bin 0 .lss (.t 25) (.t 24)⟩])
 (.seq (.cond (.t 26) (.skip) (.exit 2))
 (.seq (.block 3 (.seq (.ops [⟨(some 27), none, .mv (.t 25)⟩, ⟨(some 9), none, .mv (.t 27)⟩])
 (.ops [⟨(some 28), none, .mv (.t 8)⟩, ⟨(some 29), none, .mv (.t 9)⟩, ⟨(some 30), none, .mv (.t 1)⟩, ⟨(some 31), none, .mv (.t 9)⟩, ⟨(some 32), none, .mv (.t 6)⟩, ⟨(some 33), none, .build [(.int .i64 0), (.int .i64 0)] [(0, 1, (.t 31)), (1, 1, (.t 32))]⟩, ⟨(some 34), none, .mv (.t 8)⟩, ⟨(some 35), none, .mv (.t 9)⟩, ⟨(some 36), none, .iadr 1 (.t 34) (.t 35)⟩, ⟨(some 37), none, .load none (.t 36)⟩, ⟨(some 38), none, .callv (.t 30) [(.t 33), (.t 37)]⟩, ⟨(some 39), none, .iadr 1 (.t 28) (.t 29)⟩, ⟨none, none, .store 1 (.t 39) (.t 38)⟩])))
 (.ops [⟨(some 40), none, .bin 0 .add (.t 25) (.c (.int .i64 1))⟩, ⟨(some 25), none, .mv (.t 40)⟩])))))))
 (.ops [⟨(some 41), none, .fadr 0 (.t 5)⟩, ⟨(some 42), none, .load none (.t 41)⟩, ⟨(some 43), none, .mv (.t 8)⟩, ⟨(some 44), none, .b2s (.t 43)⟩, ⟨(some 45), none, .bslice 9 1 1 [(.str [])] [(0, 1, (.t 44))]⟩, ⟨(some 46), none, .app 9 1 16 (.t 42) (.t 45)⟩, ⟨(some 47), none, .fadr 0 (.t 5)⟩, ⟨none, none, .store 1 (.t 47) (.t 46)⟩])))))
 (.ops [⟨(some 48), none, .bin 0 .add (.t 16) (.c (.int .i64 1))⟩, ⟨(some 16), none, .mv (.t 48)⟩])))))))
 (.seq (.ops [⟨(some 49), none, .load (some 2) (.t 5)⟩, ⟨none, none, .store 2 (.t 4) (.t 49)⟩])
 (.ret))))⟩
theorem c40 : compF Go.Proofs.Tryz.prog 40 = some a40 := by kernel_rfl
def a41 : AFn := ⟨21, [.t 7], .seq (.ops [⟨(some 5), none, .box 54 (.t 0)⟩, ⟨(some 7), none, .mv (.c (.int .u8 0))⟩])
 (.seq (.seq (.any [(⟨(some 8), none, .load (some 2) (.t 2)⟩, []), (⟨(some 9), none, .mv (.t 1)⟩, [0]), (⟨(some 10), none, .call 42 [(.t 8), (.t 9)]⟩, []), (⟨(some 11), none, .mv (.t 10)⟩, []), (⟨(some 12), (some (11, true)), .load (some 2) (.t 2)⟩, []), (⟨(some 13), (some (11, true)), .load (some 2) (.t 5)⟩, [4]), (⟨(some 14), (some (11, true)), .call 43 [(.t 12), (.t 13)]⟩, []), (⟨(some 15), (some (11, true)), .load none (.t 3)⟩, [4, 5, 6]), (⟨(some 16), (some (11, true)), .bin 0 .geq (.t 14) (.t 15)⟩, []), (⟨(some 17), none, .pick (.t 11) (.t 16) (.c (.bool false))⟩, [])])
 (.cond (.t 17) (.seq (.ops [⟨(some 18), none, .load none (.t 4)⟩, ⟨(some 19), none, .bin 0 .add (.t 18) (.c (.int .i64 1))⟩, ⟨none, none, .store 1 (.t 4) (.t 19)⟩])
 (.seq (.ops [⟨(some 7), none, .mv (.c (.int .u8 42))⟩])
 (.ret))) (.skip)))
 (.seq (.ops [⟨(some 20), none, .mv (.t 1)⟩, ⟨(some 7), none, .mv (.t 20)⟩])
 (.ret)))⟩
theorem c41 : compF Go.Proofs.Tryz.prog 41 = some a41 := by kernel_rfl
def a42 : AFn := ⟨14, [.t 4], .seq (.ops [⟨(some 2), none, .box 28 (.t 0)⟩, ⟨(some 4), none, .mv (.c (.bool false))⟩])
 (.seq (.ops [⟨(some 5), none, .mv (.t 1)⟩, ⟨(some 6), none, .call 71 [(.t 5)]⟩, ⟨(some 7), none, .mv (.t 6)⟩, ⟨(some 8), (some (7, true)), .fadr 1 (.t 2)⟩, ⟨(some 9), (some (7, true)), .load none (.t 8)⟩, ⟨(some 10), (some (7, true)), .mv (.t 1)⟩, ⟨(some 11), (some (7, true)), .call 69 [(.t 9), (.t 10)]⟩, ⟨(some 12), (some (7, true)), .bin 0 .geq (.t 11) (.c (.int .i64 0))⟩, ⟨(some 13), none, .pick (.t 7) (.t 12) (.c (.bool false))⟩, ⟨(some 4), none, .mv (.t 13)⟩])
 (.ret))⟩
theorem c42 : compF Go.Proofs.Tryz.prog 42 = some a42 := by kernel_rfl
def a43 : AFn := ⟨24, [.t 4], .seq (.ops [⟨(some 2), none, .box 28 (.t 0)⟩, ⟨(some 3), none, .box 54 (.t 1)⟩, ⟨(some 4), none, .mv (.c (.int .i64 0))⟩])
 (.seq (.ops [⟨(some 5), none, .mv (.c (.int .i64 0))⟩])
 (.seq (.seq (.ops [⟨(some 8), none, .load (some 2) (.t 3)⟩, ⟨(some 9), none, .call 37 [(.t 8)]⟩, ⟨(some 10), none, .len false (.t 9)⟩, ⟨(some 11), none, .mv (.c (.int .i64 0))⟩])
 (.block 0 (.loop (.seq (.ops [⟨(some 12), none, .bin 0 .lss (.t 11) (.t 10)⟩])
 (.seq (.cond (.t 12) (.skip) (.exit 0))
 (.seq (.block 1 (.seq (.ops [⟨(some 13), none, .iadr 2 (.t 9) (.t 11)⟩, ⟨(some 14), none, .load (some 2) (.t 13)⟩, ⟨(some 7), none, .alloc 54 [(.int .i64 0), (.int .i64 0)]⟩, ⟨none, none, .store 2 (.t 7) (.t 14)⟩])
 (.seq (.any [(⟨(some 15), none, .load (some 2) (.t 2)⟩, []), (⟨(some 16), none, .load (some 2) (.t 2)⟩, [0]), (⟨(some 17), none, .load (some 2) (.t 7)⟩, [0, 1]), (⟨(some 18), none, .call 36 [(.t 16), (.t 17)]⟩, [0]), (⟨(some 19), none, .call 35 [(.t 15), (.t 18)]⟩, [])])
 (.cond (.t 19) (.ops [⟨(some 20), none, .mv (.t 5)⟩, ⟨(some 21), none, .bin 0 .add (.t 20) (.c (.int .i64 1))⟩, ⟨(some 5), none, .mv (.t 21)⟩]) (.skip)))))
 (.ops [⟨(some 22), none, .bin 0 .add (.t 11) (.c (.int .i64 1))⟩, ⟨(some 11), none, .mv (.t 22)⟩])))))))
 (.seq (.ops [⟨(some 23), none, .mv (.t 5)⟩, ⟨(some 4), none, .mv (.t 23)⟩])
 (.ret))))⟩
theorem c43 : compF Go.Proofs.Tryz.prog 43 = some a43 := by kernel_rfl
def a44 : AFn := ⟨7, [.t 2], .seq (.ops [⟨(some 1), none, .box 28 (.t 0)⟩, ⟨(some 2), none, .mv (.c (.lit true 0 []))⟩])
 (.seq (.ops [⟨(some 3), none, .load (some 2) (.t 1)⟩, ⟨(some 4), none, .call 34 [(.t 3)]⟩, ⟨(some 5), none, .mkfn 77 [(.t 1)]⟩, ⟨(some 6), none, .call 76 [(.t 4), (.t 5)]⟩, ⟨(some 2), none, .mv (.t 6)⟩])
 (.ret))⟩
theorem c44 : compF Go.Proofs.Tryz.prog 44 = some a44 := by kernel_rfl
def a45 : AFn := ⟨30, [.t 4, .t 5], .seq (.ops [⟨(some 2), none, .box 28 (.t 0)⟩, ⟨(some 4), none, .mv (.c (.int .i64 0))⟩, ⟨(some 5), none, .mv (.c (.int .i64 0))⟩])
 (.seq (.seq (.ops [⟨(some 9), none, .mv (.t 1)⟩, ⟨(some 10), none, .len false (.t 9)⟩, ⟨(some 11), none, .mv (.c (.int .i64 0))⟩])
 (.block 0 (.loop (.seq (.ops [⟨(some 12), none, .bin 0 .lss (.t 11) (.t 10)⟩])
 (.seq (.cond (.t 12) (.skip) (.exit 0))
 (.seq (.block 1 (.seq (.ops [⟨(some 13), none, .iadr 2 (.t 9) (.t 11)⟩, ⟨(some 14), none, .load (some 2) (.t 13)⟩, ⟨(some 7), none, .alloc 54 [(.int .i64 0), (.int .i64 0)]⟩, ⟨none, none, .store 2 (.t 7) (.t 14)⟩])
 (.seq (.ops [⟨(some 15), none, .load (some 2) (.t 2)⟩, ⟨(some 16), none, .load (some 2) (.t 7)⟩, ⟨(some 17), none, .call 36 [(.t 15), (.t 16)]⟩, ⟨(some 8), none, .mv (.t 17)⟩])
 (.seq (.seq (.ops [⟨(some 18), none, .mv (.t 8)⟩, ⟨(some 19), none, .call 79 [(.t 18)]⟩])
 (.cond (.t 19) (.ops [⟨(some 20), none, .mv (.t 5)⟩, ⟨(some 21), none, .bin 0 .add (.t 20) (.c (.int .i64 1))⟩, ⟨(some 5), none, .mv (.t 21)⟩]) (.skip)))
 (.seq (.ops [⟨(some 22), none, .load (some 2) (.t 2)⟩, ⟨(some 23), none, .mv (.t 8)⟩, ⟨(some 24), none, .call 42 [(.t 22), (.t 23)]⟩])
 (.cond (.t 24) (.ops [⟨(some 25), none, .mv (.t 4)⟩, ⟨(some 26), none, .bin 0 .add (.t 25) (.c (.int .i64 1))⟩, ⟨(some 4), none, .mv (.t 26)⟩]) (.skip)))))))
 (.ops [⟨(some 27), none, .bin 0 .add (.t 11) (.c (.int .i64 1))⟩, ⟨(some 11), none, .mv (.t 27)⟩])))))))
 (.seq (.ops [⟨(some 28), none, .mv (.t 4)⟩, ⟨(some 29), none, .mv (.t 5)⟩, ⟨(some 4), none, .mv (.t 28)⟩, ⟨(some 5), none, .mv (.t 29)⟩])
 (.ret)))⟩
theorem c45 : compF Go.Proofs.Tryz.prog 45 = some a45 := by kernel_rfl
def a46 : AFn := ⟨19, [.c 4 (some 2)], .seq (.ops [⟨(some 4), none, .alloc 62 [(.int .i64 0), (.int .i64 0)]⟩])
 (.seq (.ops [⟨(some 6), none, .mv (.t 0)⟩, ⟨(some 7), none, .mv (.t 0)⟩, ⟨(some 8), none, .un .neg (.t 7)⟩, ⟨(some 9), none, .mm true (.t 6) [(.t 8)]⟩, ⟨(some 10), none, .mv (.t 1)⟩, ⟨(some 11), none, .call 80 [(.t 9), (.t 10)]⟩, ⟨(some 5), none, .mv (.t 11)⟩])
 (.seq (.any [(⟨(some 12), none, .mv (.t 0)⟩, []), (⟨(some 13), none, .mv (.t 5)⟩, [0]), (⟨(some 14), none, .bin 0 .quo (.t 12) (.t 13)⟩, []), (⟨(some 15), none, .mv (.t 1)⟩, [0, 1, 2]), (⟨(some 16), none, .mv (.t 5)⟩, [0, 1, 2, 3]), (⟨(some 17), none, .bin 0 .quo (.t 15) (.t 16)⟩, [0, 1, 2]), (⟨(some 18), none, .build [(.int .i64 0), (.int .i64 0)] [(0, 1, (.t 14)), (1, 1, (.t 17))]⟩, []), (⟨none, none, .store 2 (.t 4) (.t 18)⟩, [])])
 (.ret)))⟩
theorem c46 : compF Go.Proofs.Tryz.prog 46 = some a46 := by kernel_rfl
def a47 : AFn := ⟨26, [.t 4], .seq (.ops [⟨(some 4), none, .mv (.c (.bool false))⟩])
 (.seq (.seq (.ops [⟨(some 6), none, .mv (.t 0)⟩, ⟨(some 7), none, .len false (.t 6)⟩, ⟨(some 8), none, .mv (.t 1)⟩, ⟨(some 9), none, .len false (.t 8)⟩, ⟨(some 10), none, .bin 0 .neq (.t 7) (.t 9)⟩])
 (.cond (.t 10) (.seq (.ops [⟨(some 4), none, .mv (.c (.bool false))⟩])
 (.ret)) (.skip)))
 (.seq (.seq (.ops [⟨(some 11), none, .mv (.t 0)⟩, ⟨(some 12), none, .len false (.t 11)⟩, ⟨(some 13), none, .mv (.c (.int .i64 0))⟩])
 (.block 0 (.loop (.seq (.ops [⟨(some 14), none, .bin 0 .lss (.t 13) (.t 12)⟩])
 (.seq (.cond (.t 14) (.skip) (.exit 0))
 (.seq (.block 1 (.seq (.ops [⟨(some 15), none, .mv (.t 13)⟩, ⟨(some 5), none, .mv (.t 15)⟩])
 (.seq (.any [(⟨(some 16), none, .mv (.t 0)⟩, []), (⟨(some 17), none, .mv (.t 5)⟩, [0]), (⟨(some 18), none, .iadr 1 (.t 16) (.t 17)⟩, []), (⟨(some 19), none, .load none (.t 18)⟩, []), (⟨(some 20), none, .mv (.t 1)⟩, [0, 1, 2, 3]), (⟨(some 21), none, .mv (.t 5)⟩, [0, 1, 2, 3, 4]), (⟨(some 22), none, .iadr 1 (.t 20) (.t 21)⟩, [0, 1, 2, 3]), (⟨(some 23), none, .load none (.t 22)⟩, [0, 1, 2, 3]), (⟨(some 24), none, .bin 1 .neq (.t 19) (.t 23)⟩, [])])
 (.cond (.t 24) (.seq (.ops [⟨(some 4), none, .mv (.c (.bool false))⟩])
 (.ret)) (.skip)))))
 (.ops [⟨(some 25), none, .bin 0 .add (.t 13) (.c (.int .i64 1))⟩, ⟨(some 13), none, .mv (.t 25)⟩])))))))
 (.seq (.ops [⟨(some 4), none, .mv (.c (.bool true))⟩])
 (.ret))))⟩
theorem c47 : compF Go.Proofs.Tryz.prog 47 = some a47 := by kernel_rfl
def a48 : AFn := ⟨27, [.c 2 (some 2), .t 3, .t 4], .seq (.ops [⟨(some 1), none, .box 28 (.t 0)⟩, ⟨(some 2), none, .alloc 62 [(.int .i64 0), (.int .i64 0)]⟩, ⟨(some 3), none, .mv (.c (.bool false))⟩, ⟨(some 4), none, .mv (.c (.int .i64 0))⟩])
 (.seq (.seq (.ops [⟨(some 8), none, .load (some 2) (.t 1)⟩, ⟨(some 9), none, .call 32 [(.t 8)]⟩, ⟨(some 5), none, .mv (.t 9)⟩])
 (.seq (.ops [⟨(some 10), none, .mv (.t 5)⟩, ⟨(some 11), none, .bin 0 .neq (.t 10) (.c (.int .i64 0))⟩])
 (.cond (.t 11) (.seq (.ops [⟨(some 12), none, .build [(.int .i64 0), (.int .i64 0)] []⟩, ⟨(some 13), none, .mv (.t 5)⟩, ⟨none, none, .store 2 (.t 2) (.t 12)⟩, ⟨(some 3), none, .mv (.c (.bool false))⟩, ⟨(some 4), none, .mv (.t 13)⟩])
 (.ret)) (.skip))))
 (.seq (.any [(⟨(some 15), none, .load (some 2) (.t 1)⟩, []), (⟨(some 16), none, .load (some 2) (.t 1)⟩, [0]), (⟨(some 17), none, .call 34 [(.t 16)]⟩, [0]), (⟨(some 18), none, .call 45 [(.t 15), (.t 17)]⟩, []), (⟨(some 14), none, .mv (.t 18)⟩, []), (⟨(some 19), none, .ext (.t 14) 0⟩, []), (⟨(some 20), none, .ext (.t 14) 1⟩, [5]), (⟨(some 6), none, .mv (.t 19)⟩, [6]), (⟨(some 7), none, .mv (.t 20)⟩, [])])
 (.seq (.seq (.ops [⟨(some 21), none, .mv (.t 7)⟩, ⟨(some 22), none, .bin 0 .eql (.t 21) (.c (.int .i64 0))⟩])
 (.cond (.t 22) (.seq (.ops [⟨(some 23), none, .build [(.int .i64 0), (.int .i64 0)] []⟩, ⟨none, none, .store 2 (.t 2) (.t 23)⟩, ⟨(some 3), none, .mv (.c (.bool false))⟩, ⟨(some 4), none, .mv (.c (.int .i64 0))⟩])
 (.ret)) (.skip)))
 (.seq (.ops [⟨(some 24), none, .mv (.t 6)⟩, ⟨(some 25), none, .mv (.t 7)⟩, ⟨(some 26), none, .call 46 [(.t 24), (.t 25)]⟩, ⟨none, none, .store 2 (.t 2) (.t 26)⟩, ⟨(some 3), none, .mv (.c (.bool true))⟩, ⟨(some 4), none, .mv (.c (.int .i64 0))⟩])
 (.ret)))))⟩
theorem c48 : compF Go.Proofs.Tryz.prog 48 = some a48 := by kernel_rfl
def a49 : AFn := ⟨15, [.t 6], .seq (.ops [⟨(some 6), none, .mv (.c (.bool false))⟩])
 (.seq (.ops [⟨(some 7), none, .mv (.t 1)⟩, ⟨(some 8), none, .mv (.t 0)⟩, ⟨(some 9), none, .bin 0 .leq (.t 7) (.t 8)⟩, ⟨(some 10), none, .mv (.t 9)⟩, ⟨(some 11), (some (10, true)), .mv (.t 0)⟩, ⟨(some 12), (some (10, true)), .mv (.t 2)⟩, ⟨(some 13), (some (10, true)), .bin 0 .leq (.t 11) (.t 12)⟩, ⟨(some 14), none, .pick (.t 10) (.t 13) (.c (.bool false))⟩, ⟨(some 6), none, .mv (.t 14)⟩])
 (.ret))⟩
theorem c49 : compF Go.Proofs.Tryz.prog 49 = some a49 := by kernel_rfl
def a50 : AFn := ⟨36, [.t 4], .seq (.ops [⟨(some 2), none, .box 28 (.t 0)⟩, ⟨(some 4), none, .mv (.c (.lit true 0 []))⟩])
 (.seq (.ops [⟨(some 5), none, .mv (.c (.lit true 0 []))⟩])
 (.seq (.seq (.ops [⟨(some 10), none, .fadr 0 (.t 2)⟩, ⟨(some 11), none, .load none (.t 10)⟩, ⟨(some 12), none, .len false (.t 11)⟩, ⟨(some 13), none, .mv (.c (.int .i64 0))⟩])
 (.block 0 (.loop (.seq (.ops [⟨(some 14), none, .bin 0 .lss (.t 13) (.t 12)⟩])
 (.seq (.cond (.t 14) (.skip) (.exit 0))
 (.seq (.block 1 (.seq (.ops [⟨(some 15), none, .mv (.t 13)⟩, ⟨(some 16), none, .iadr 1 (.t 11) (.t 13)⟩, ⟨(some 17), none, .load none (.t 16)⟩, ⟨(some 6), none, .mv (.t 15)⟩, ⟨(some 7), none, .mv (.t 17)⟩])
 (.seq (.ops [⟨(some 18), none, .mv (.t 7)⟩, ⟨(some 19), none, .len true (.t 18)⟩, ⟨(some 20), none, .mv (.c (.int .i64 0))⟩])
 (.block 2 (.loop (.seq (.ops [⟨(some 21), none, .bin 0 .lss (.t 20) (.t 19)⟩])
 (.seq (.cond (.t 21) (.skip) (.exit 2))
 (.seq (.block 3 (.seq (.ops [⟨(some 22), none, .mv (.t 20)⟩, ⟨(some 8), none, .mv (.t 22)⟩])
 (.seq (.ops [⟨(some 23), none, .mv (.t 8)⟩, ⟨(some 24), none, .mv (.t 6)⟩, ⟨(some 25), none, .build [(.int .i64 0), (.int .i64 0)] [(0, 1, (.t 23)), (1, 1, (.t 24))]⟩, ⟨(some 9), none, .alloc 54 [(.int .i64 0), (.int .i64 0)]⟩, ⟨none, none, .store 2 (.t 9) (.t 25)⟩])
 (.seq (.ops [⟨(some 26), none, .mv (.t 1)⟩, ⟨(some 27), none, .load (some 2) (.t 9)⟩, ⟨(some 28), none, .callv (.t 26) [(.t 27)]⟩])
 (.cond (.t 28) (.ops [⟨(some 29), none, .mv (.t 5)⟩, ⟨(some 30), none, .load (some 2) (.t 9)⟩, ⟨(some 31), none, .bslice 54 2 1 [(.int .i64 0), (.int .i64 0)] [(0, 2, (.t 30))]⟩, ⟨(some 32), none, .app 54 2 16 (.t 29) (.t 31)⟩, ⟨(some 5), none, .mv (.t 32)⟩]) (.skip))))))
 (.ops [⟨(some 33), none, .bin 0 .add (.t 20) (.c (.int .i64 1))⟩, ⟨(some 20), none, .mv (.t 33)⟩])))))))))
 (.ops [⟨(some 34), none, .bin 0 .add (.t 13) (.c (.int .i64 1))⟩, ⟨(some 13), none, .mv (.t 34)⟩])))))))
 (.seq (.ops [⟨(some 35), none, .mv (.t 5)⟩, ⟨(some 4), none, .mv (.t 35)⟩])
 (.ret))))⟩
theorem c50 : compF Go.Proofs.Tryz.prog 50 = some a50 := by kernel_rfl
def a51 : AFn := ⟨7, [.t 3], .seq (.ops [⟨(some 2), none, .box 54 (.t 0)⟩, ⟨(some 3), none, .mv (.c (.bool false))⟩])
 (.seq (.ops [⟨(some 4), none, .load (some 2) (.t 1)⟩, ⟨(some 5), none, .load (some 2) (.t 2)⟩, ⟨(some 6), none, .call 52 [(.t 4), (.t 5)]⟩, ⟨(some 3), none, .mv (.t 6)⟩])
 (.ret))⟩
theorem c51 : compF Go.Proofs.Tryz.prog 51 = some a51 := by kernel_rfl
def a52 : AFn := ⟨16, [.t 4], .seq (.ops [⟨(some 2), none, .box 28 (.t 0)⟩, ⟨(some 3), none, .box 54 (.t 1)⟩, ⟨(some 4), none, .mv (.c (.bool false))⟩])
 (.seq (.ops [⟨(some 5), none, .load (some 2) (.t 2)⟩, ⟨(some 6), none, .load (some 2) (.t 3)⟩, ⟨(some 7), none, .call 62 [(.t 5), (.t 6)]⟩, ⟨(some 8), none, .call 69 [(.c (.str [48, 49, 50, 51, 52, 53, 54, 55, 56, 57, 97, 98, 99, 100, 101, 102, 103, 104, 105, 106, 107, 108, 109, 110, 111, 112, 113, 114, 115, 116, 117, 118, 119, 120, 121, 122])), (.t 7)]⟩, ⟨(some 9), none, .bin 0 .geq (.t 8) (.c (.int .i64 0))⟩, ⟨(some 10), none, .mv (.t 9)⟩, ⟨(some 11), (some (10, true)), .load (some 2) (.t 2)⟩, ⟨(some 12), (some (10, true)), .load (some 2) (.t 3)⟩, ⟨(some 13), (some (10, true)), .call 57 [(.t 11), (.t 12)]⟩, ⟨(some 14), (some (10, true)), .un .not (.t 13)⟩, ⟨(some 15), none, .pick (.t 10) (.t 14) (.c (.bool false))⟩, ⟨(some 4), none, .mv (.t 15)⟩])
 (.ret))⟩
theorem c52 : compF Go.Proofs.Tryz.prog 52 = some a52 := by kernel_rfl
def a53 : AFn := ⟨9, [.t 4], .seq (.ops [⟨(some 3), none, .box 54 (.t 1)⟩, ⟨(some 4), none, .mv (.c (.bool false))⟩])
 (.seq (.ops [⟨(some 5), none, .mv (.t 0)⟩, ⟨(some 6), none, .load (some 2) (.t 3)⟩, ⟨(some 7), none, .call 81 [(.t 5), (.t 6)]⟩, ⟨(some 8), none, .bin 0 .geq (.t 7) (.c (.int .i64 0))⟩, ⟨(some 4), none, .mv (.t 8)⟩])
 (.ret))⟩
theorem c53 : compF Go.Proofs.Tryz.prog 53 = some a53 := by kernel_rfl
def a54 : AFn := ⟨33, [.t 2], .seq (.ops [⟨(some 1), none, .box 54 (.t 0)⟩, ⟨(some 2), none, .mv (.c (.lit true 0 []))⟩])
 (.seq (.ops [⟨(some 3), none, .mv (.c (.lit true 0 []))⟩])
 (.seq (.seq (.ops [⟨(some 4), none, .mv (.c (.int .i64 (-1)))⟩])
 (.block 0 (.loop (.seq (.seq (.ops [⟨(some 6), none, .mv (.t 4)⟩, ⟨(some 7), none, .bin 0 .leq (.t 6) (.c (.int .i64 1))⟩])
 (.cond (.t 7) (.skip) (.exit 0)))
 (.seq (.block 1 (.seq (.ops [⟨(some 5), none, .mv (.c (.int .i64 (-1)))⟩])
 (.block 2 (.loop (.seq (.seq (.ops [⟨(some 10), none, .mv (.t 5)⟩, ⟨(some 11), none, .bin 0 .leq (.t 10) (.c (.int .i64 1))⟩])
 (.cond (.t 11) (.skip) (.exit 2)))
 (.seq (.block 3 (.seq (.ops [⟨(some 14), none, .mv (.t 5)⟩, ⟨(some 15), none, .bin 0 .neq (.t 14) (.c (.int .i64 0))⟩, ⟨(some 16), none, .mv (.t 15)⟩, ⟨(some 17), (some (16, false)), .mv (.t 4)⟩, ⟨(some 18), (some (16, false)), .bin 0 .neq (.t 17) (.c (.int .i64 0))⟩, ⟨(some 19), none, .pick (.t 16) (.c (.bool true)) (.t 18)⟩])
 (.cond (.t 19) (.ops [⟨(some 20), none, .mv (.t 3)⟩, ⟨(some 21), none, .fadr 0 (.t 1)⟩, ⟨(some 22), none, .load none (.t 21)⟩, ⟨(some 23), none, .mv (.t 5)⟩, ⟨(some 24), none, .bin 0 .add (.t 22) (.t 23)⟩, ⟨(some 25), none, .fadr 1 (.t 1)⟩, ⟨(some 26), none, .load none (.t 25)⟩, ⟨(some 27), none, .mv (.t 4)⟩, ⟨(some 28), none, .bin 0 .add (.t 26) (.t 27)⟩, ⟨(some 29), none, .build [(.int .i64 0), (.int .i64 0)] [(0, 1, (.t 24)), (1, 1, (.t 28))]⟩, ⟨(some 30), none, .bslice 54 2 1 [(.int .i64 0), (.int .i64 0)] [(0, 2, (.t 29))]⟩, ⟨(some 31), none, .app 54 2 16 (.t 20) (.t 30)⟩, ⟨(some 3), none, .mv (.t 31)⟩]) (.skip))))
 (.ops [⟨(some 12), none, .mv (.t 5)⟩, ⟨(some 13), none, .bin 0 .add (.t 12) (.c (.int .i64 1))⟩, ⟨(some 5), none, .mv (.t 13)⟩])))))))
 (.ops [⟨(some 8), none, .mv (.t 4)⟩, ⟨(some 9), none, .bin 0 .add (.t 8) (.c (.int .i64 1))⟩, ⟨(some 4), none, .mv (.t 9)⟩]))))))
 (.seq (.ops [⟨(some 32), none, .mv (.t 3)⟩, ⟨(some 2), none, .mv (.t 32)⟩])
 (.ret))))⟩
theorem c54 : compF Go.Proofs.Tryz.prog 54 = some a54 := by kernel_rfl
def a55 : AFn := ⟨7, [.t 3], .seq (.ops [⟨(some 2), none, .box 54 (.t 0)⟩, ⟨(some 3), none, .mv (.c (.bool false))⟩])
 (.seq (.ops [⟨(some 4), none, .load none (.t 1)⟩, ⟨(some 5), none, .load (some 2) (.t 2)⟩, ⟨(some 6), none, .call 53 [(.t 4), (.t 5)]⟩, ⟨(some 3), none, .mv (.t 6)⟩])
 (.ret))⟩
theorem c55 : compF Go.Proofs.Tryz.prog 55 = some a55 := by kernel_rfl
def a56 : AFn := ⟨15, [.t 4], .seq (.ops [⟨(some 3), none, .box 54 (.t 0)⟩, ⟨(some 4), none, .mv (.c (.bool false))⟩])
 (.seq (.any [(⟨(some 5), none, .load (some 2) (.t 1)⟩, []), (⟨(some 6), none, .load (some 2) (.t 3)⟩, [0]), (⟨(some 7), none, .call 57 [(.t 5), (.t 6)]⟩, []), (⟨(some 8), none, .mv (.t 7)⟩, []), (⟨(some 9), (some (8, true)), .load (some 2) (.t 1)⟩, []), (⟨(some 10), (some (8, true)), .load (some 2) (.t 3)⟩, [4]), (⟨(some 11), (some (8, true)), .call 58 [(.t 9), (.t 10)]⟩, []), (⟨(some 12), (some (8, true)), .load none (.t 2)⟩, [4, 5, 6]), (⟨(some 13), (some (8, true)), .bin 0 .geq (.t 11) (.t 12)⟩, []), (⟨(some 14), none, .pick (.t 8) (.t 13) (.c (.bool false))⟩, []), (⟨(some 4), none, .mv (.t 14)⟩, [])])
 (.ret))⟩
theorem c56 : compF Go.Proofs.Tryz.prog 56 = some a56 := by kernel_rfl
def a57 : AFn := ⟨12, [.t 4], .seq (.ops [⟨(some 2), none, .box 28 (.t 0)⟩, ⟨(some 3), none, .box 54 (.t 1)⟩, ⟨(some 4), none, .mv (.c (.bool false))⟩])
 (.seq (.any [(⟨(some 5), none, .fadr 1 (.t 2)⟩, []), (⟨(some 6), none, .load none (.t 5)⟩, []), (⟨(some 7), none, .load (some 2) (.t 2)⟩, [0, 1]), (⟨(some 8), none, .load (some 2) (.t 3)⟩, [0, 1, 2]), (⟨(some 9), none, .call 62 [(.t 7), (.t 8)]⟩, [0, 1]), (⟨(some 10), none, .call 69 [(.t 6), (.t 9)]⟩, []), (⟨(some 11), none, .bin 0 .geq (.t 10) (.c (.int .i64 0))⟩, []), (⟨(some 4), none, .mv (.t 11)⟩, [])])
 (.ret))⟩
theorem c57 : compF Go.Proofs.Tryz.prog 57 = some a57 := by kernel_rfl
def a58 : AFn := ⟨23, [.t 4], .seq (.ops [⟨(some 2), none, .box 28 (.t 0)⟩, ⟨(some 3), none, .box 54 (.t 1)⟩, ⟨(some 4), none, .mv (.c (.int .i64 0))⟩])
 (.seq (.ops [⟨(some 5), none, .mv (.c (.int .i64 0))⟩])
 (.seq (.seq (.ops [⟨(some 8), none, .load (some 2) (.t 3)⟩, ⟨(some 9), none, .call 54 [(.t 8)]⟩, ⟨(some 10), none, .len false (.t 9)⟩, ⟨(some 11), none, .mv (.c (.int .i64 0))⟩])
 (.block 0 (.loop (.seq (.ops [⟨(some 12), none, .bin 0 .lss (.t 11) (.t 10)⟩])
 (.seq (.cond (.t 12) (.skip) (.exit 0))
 (.seq (.block 1 (.seq (.ops [⟨(some 13), none, .iadr 2 (.t 9) (.t 11)⟩, ⟨(some 14), none, .load (some 2) (.t 13)⟩, ⟨(some 7), none, .alloc 54 [(.int .i64 0), (.int .i64 0)]⟩, ⟨none, none, .store 2 (.t 7) (.t 14)⟩])
 (.ops [⟨(some 15), none, .mv (.t 5)⟩, ⟨(some 16), none, .load (some 2) (.t 2)⟩, ⟨(some 17), none, .load (some 2) (.t 7)⟩, ⟨(some 18), none, .call 52 [(.t 16), (.t 17)]⟩, ⟨(some 19), none, .call 82 [(.t 18)]⟩, ⟨(some 20), none, .bin 0 .add (.t 15) (.t 19)⟩, ⟨(some 5), none, .mv (.t 20)⟩])))
 (.ops [⟨(some 21), none, .bin 0 .add (.t 11) (.c (.int .i64 1))⟩, ⟨(some 11), none, .mv (.t 21)⟩])))))))
 (.seq (.ops [⟨(some 22), none, .mv (.t 5)⟩, ⟨(some 4), none, .mv (.t 22)⟩])
 (.ret))))⟩
theorem c58 : compF Go.Proofs.Tryz.prog 58 = some a58 := by kernel_rfl
def a59 : AFn := ⟨44, [.c 6 (some 2)], .seq (.ops [⟨(some 3), none, .box 28 (.t 0)⟩, ⟨(some 6), none, .alloc 28 [(.lit true 0 []), (.str [])]⟩])
 (.seq (.any [(⟨(some 11), none, .fadr 0 (.t 3)⟩, []), (⟨(some 12), none, .load none (.t 11)⟩, []), (⟨(some 13), none, .call 83 [(.t 12)]⟩, []), (⟨(some 14), none, .fadr 1 (.t 3)⟩, [0, 1, 2]), (⟨(some 15), none, .load none (.t 14)⟩, [0, 1, 2]), (⟨(some 16), none, .build [(.lit true 0 []), (.str [])] [(0, 1, (.t 13)), (1, 1, (.t 15))]⟩, []), (⟨(some 7), none, .alloc 28 [(.lit true 0 []), (.str [])]⟩, [0, 1, 2, 3, 4, 5]), (⟨none, none, .store 2 (.t 7) (.t 16)⟩, [])])
 (.seq (.seq (.ops [⟨(some 17), none, .mv (.t 1)⟩, ⟨(some 18), none, .len false (.t 17)⟩, ⟨(some 19), none, .mv (.c (.int .i64 0))⟩])
 (.block 0 (.loop (.seq (.ops [⟨(some 20), none, .bin 0 .lss (.t 19) (.t 18)⟩])
 (.seq (.cond (.t 20) (.skip) (.exit 0))
 (.seq (.block 1 (.seq (.ops [⟨(some 21), none, .iadr 2 (.t 17) (.t 19)⟩, ⟨(some 22), none, .load (some 2) (.t 21)⟩, ⟨(some 9), none, .alloc 54 [(.int .i64 0), (.int .i64 0)]⟩, ⟨none, none, .store 2 (.t 9) (.t 22)⟩])
 (.seq (.ops [⟨(some 23), none, .fadr 0 (.t 7)⟩, ⟨(some 24), none, .load none (.t 23)⟩, ⟨(some 25), none, .fadr 1 (.t 9)⟩, ⟨(some 26), none, .load none (.t 25)⟩, ⟨(some 27), none, .iadr 1 (.t 24) (.t 26)⟩, ⟨(some 28), none, .load none (.t 27)⟩, ⟨(some 29), none, .s2bo (.t 28)⟩, ⟨(some 10), none, .mv (.t 29)⟩])
 (.seq (.ops [⟨(some 30), none, .mv (.t 10)⟩, ⟨(some 31), none, .fadr 0 (.t 9)⟩, ⟨(some 32), none, .load none (.t 31)⟩, ⟨(some 33), none, .mv (.t 2)⟩, ⟨(some 34), none, .iadr 1 (.t 30) (.t 32)⟩, ⟨none, none, .store 1 (.t 34) (.t 33)⟩])
 (.ops [⟨(some 35), none, .fadr 0 (.t 7)⟩, ⟨(some 36), none, .load none (.t 35)⟩, ⟨(some 37), none, .fadr 1 (.t 9)⟩, ⟨(some 38), none, .load none (.t 37)⟩, ⟨(some 39), none, .mv (.t 10)⟩, ⟨(some 40), none, .b2s (.t 39)⟩, ⟨(some 41), none, .iadr 1 (.t 36) (.t 38)⟩, ⟨none, none, .store 1 (.t 41) (.t 40)⟩])))))
 (.ops [⟨(some 42), none, .bin 0 .add (.t 19) (.c (.int .i64 1))⟩, ⟨(some 19), none, .mv (.t 42)⟩])))))))
 (.seq (.ops [⟨(some 43), none, .load (some 2) (.t 7)⟩, ⟨none, none, .store 2 (.t 6) (.t 43)⟩])
 (.ret))))⟩
theorem c59 : compF Go.Proofs.Tryz.prog 59 = some a59 := by kernel_rfl
def a60 : AFn := ⟨35, [.c 4 (some 2), .t 5], .seq (.ops [⟨(some 2), none, .box 28 (.t 0)⟩, ⟨(some 4), none, .alloc 62 [(.int .i64 0), (.int .i64 0)]⟩, ⟨(some 5), none, .mv (.c (.bool false))⟩])
 (.seq (.ops [⟨(some 6), none, .mv (.c (.int .i64 0))⟩, ⟨(some 7), none, .mv (.c (.int .i64 0))⟩])
 (.seq (.seq (.ops [⟨(some 10), none, .mv (.t 1)⟩, ⟨(some 11), none, .len false (.t 10)⟩, ⟨(some 12), none, .mv (.c (.int .i64 0))⟩])
 (.block 0 (.loop (.seq (.ops [⟨(some 13), none, .bin 0 .lss (.t 12) (.t 11)⟩])
 (.seq (.cond (.t 13) (.skip) (.exit 0))
 (.seq (.block 1 (.seq (.ops [⟨(some 14), none, .iadr 2 (.t 10) (.t 12)⟩, ⟨(some 15), none, .load (some 2) (.t 14)⟩, ⟨(some 9), none, .alloc 54 [(.int .i64 0), (.int .i64 0)]⟩, ⟨none, none, .store 2 (.t 9) (.t 15)⟩])
 (.seq (.ops [⟨(some 16), none, .mv (.t 6)⟩, ⟨(some 17), none, .load (some 2) (.t 2)⟩, ⟨(some 18), none, .load (some 2) (.t 9)⟩, ⟨(some 19), none, .call 57 [(.t 17), (.t 18)]⟩, ⟨(some 20), none, .call 82 [(.t 19)]⟩, ⟨(some 21), none, .bin 0 .add (.t 16) (.t 20)⟩, ⟨(some 6), none, .mv (.t 21)⟩])
 (.ops [⟨(some 22), none, .mv (.t 7)⟩, ⟨(some 23), none, .load (some 2) (.t 2)⟩, ⟨(some 24), none, .load (some 2) (.t 9)⟩, ⟨(some 25), none, .call 84 [(.t 23), (.t 24)]⟩, ⟨(some 26), none, .call 82 [(.t 25)]⟩, ⟨(some 27), none, .bin 0 .add (.t 22) (.t 26)⟩, ⟨(some 7), none, .mv (.t 27)⟩]))))
 (.ops [⟨(some 28), none, .bin 0 .add (.t 12) (.c (.int .i64 1))⟩, ⟨(some 12), none, .mv (.t 28)⟩])))))))
 (.seq (.seq (.ops [⟨(some 29), none, .mv (.t 7)⟩, ⟨(some 30), none, .bin 0 .eql (.t 29) (.c (.int .i64 0))⟩])
 (.cond (.t 30) (.seq (.ops [⟨(some 31), none, .build [(.int .i64 0), (.int .i64 0)] [(0, 1, (.c (.int .i64 0))), (1, 1, (.c (.int .i64 1)))]⟩, ⟨none, none, .store 2 (.t 4) (.t 31)⟩, ⟨(some 5), none, .mv (.c (.bool false))⟩])
 (.ret)) (.skip)))
 (.seq (.ops [⟨(some 32), none, .mv (.t 6)⟩, ⟨(some 33), none, .mv (.t 7)⟩, ⟨(some 34), none, .call 85 [(.t 32), (.t 33)]⟩, ⟨none, none, .store 2 (.t 4) (.t 34)⟩, ⟨(some 5), none, .mv (.c (.bool true))⟩])
 (.ret)))))⟩
theorem c60 : compF Go.Proofs.Tryz.prog 60 = some a60 := by kernel_rfl
def a61 : AFn := ⟨22, [.t 5], .seq (.ops [⟨(some 4), none, .box 54 (.t 0)⟩, ⟨(some 5), none, .mv (.c (.bool false))⟩])
 (.seq (.ops [⟨(some 6), none, .load (some 2) (.t 1)⟩, ⟨(some 7), none, .load (some 2) (.t 4)⟩, ⟨(some 8), none, .call 62 [(.t 6), (.t 7)]⟩, ⟨(some 9), none, .bin 0 .neq (.t 8) (.c (.int .u8 46))⟩, ⟨(some 10), none, .mv (.t 9)⟩, ⟨(some 11), (some (10, true)), .load none (.t 2)⟩, ⟨(some 12), (some (10, true)), .load (some 2) (.t 4)⟩, ⟨(some 13), (some (10, true)), .call 53 [(.t 11), (.t 12)]⟩, ⟨(some 14), (some (10, true)), .un .not (.t 13)⟩, ⟨(some 15), none, .pick (.t 10) (.t 14) (.c (.bool false))⟩, ⟨(some 16), none, .mv (.t 15)⟩, ⟨(some 17), (some (16, true)), .load (some 2) (.t 4)⟩, ⟨(some 18), (some (16, true)), .call 54 [(.t 17)]⟩, ⟨(some 19), (some (16, true)), .mkfn 64 [(.t 3)]⟩, ⟨(some 20), (some (16, true)), .call 63 [(.t 18), (.t 19)]⟩, ⟨(some 21), none, .pick (.t 16) (.t 20) (.c (.bool false))⟩, ⟨(some 5), none, .mv (.t 21)⟩])
 (.ret))⟩
theorem c61 : compF Go.Proofs.Tryz.prog 61 = some a61 := by kernel_rfl
def a62 : AFn := ⟨34, [.t 4], .seq (.ops [⟨(some 2), none, .box 28 (.t 0)⟩, ⟨(some 3), none, .box 54 (.t 1)⟩, ⟨(some 4), none, .mv (.c (.int .u8 0))⟩])
 (.seq (.seq (.any [(⟨(some 5), none, .fadr 1 (.t 3)⟩, []), (⟨(some 6), none, .load none (.t 5)⟩, []), (⟨(some 7), none, .fadr 0 (.t 2)⟩, [0, 1]), (⟨(some 8), none, .load none (.t 7)⟩, [0, 1]), (⟨(some 9), none, .len false (.t 8)⟩, [0, 1]), (⟨(some 10), none, .bin 0 .sub (.t 9) (.c (.int .i64 1))⟩, [0, 1]), (⟨(some 11), none, .call 49 [(.t 6), (.c (.int .i64 0)), (.t 10)]⟩, []), (⟨(some 12), none, .un .not (.t 11)⟩, []), (⟨(some 13), none, .mv (.t 12)⟩, []), (⟨(some 14), (some (13, false)), .fadr 0 (.t 3)⟩, []), (⟨(some 15), (some (13, false)), .load none (.t 14)⟩, []), (⟨(some 16), (some (13, false)), .fadr 0 (.t 2)⟩, [9, 10]), (⟨(some 17), (some (13, false)), .load none (.t 16)⟩, [9, 10]), (⟨(some 18), (some (13, false)), .iadr 1 (.t 17) (.c (.int .i64 0))⟩, [9, 10]), (⟨(some 19), (some (13, false)), .load none (.t 18)⟩, [9, 10]), (⟨(some 20), (some (13, false)), .len true (.t 19)⟩, [9, 10]), (⟨(some 21), (some (13, false)), .bin 0 .sub (.t 20) (.c (.int .i64 1))⟩, [9, 10]), (⟨(some 22), (some (13, false)), .call 49 [(.t 15), (.c (.int .i64 0)), (.t 21)]⟩, []), (⟨(some 23), (some (13, false)), .un .not (.t 22)⟩, []), (⟨(some 24), none, .pick (.t 13) (.c (.bool true)) (.t 23)⟩, [])])
 (.cond (.t 24) (.seq (.ops [⟨(some 4), none, .mv (.c (.int .u8 46))⟩])
 (.ret)) (.skip)))
 (.seq (.any [(⟨(some 25), none, .fadr 0 (.t 2)⟩, []), (⟨(some 26), none, .load none (.t 25)⟩, []), (⟨(some 27), none, .fadr 1 (.t 3)⟩, [0, 1]), (⟨(some 28), none, .load none (.t 27)⟩, [0, 1]), (⟨(some 29), none, .iadr 1 (.t 26) (.t 28)⟩, []), (⟨(some 30), none, .load none (.t 29)⟩, []), (⟨(some 31), none, .fadr 0 (.t 3)⟩, [0, 1, 2, 3, 4, 5]), (⟨(some 32), none, .load none (.t 31)⟩, [0, 1, 2, 3, 4, 5]), (⟨(some 33), none, .idxs (.t 30) (.t 32)⟩, []), (⟨(some 4), none, .mv (.t 33)⟩, [])])
 (.ret)))⟩
theorem c62 : compF Go.Proofs.Tryz.prog 62 = some a62 := by kernel_rfl
def a63 : AFn := ⟨9, [.t 4], .seq (.ops [⟨(some 4), none, .mv (.c (.bool false))⟩])
 (.seq (.ops [⟨(some 5), none, .mv (.t 0)⟩, ⟨(some 6), none, .mv (.t 1)⟩, ⟨(some 7), none, .call 86 [(.t 5), (.t 6)]⟩, ⟨(some 8), none, .bin 0 .geq (.t 7) (.c (.int .i64 0))⟩, ⟨(some 4), none, .mv (.t 8)⟩])
 (.ret))⟩
theorem c63 : compF Go.Proofs.Tryz.prog 63 = some a63 := by kernel_rfl
def a64 : AFn := ⟨7, [.t 3], .seq (.ops [⟨(some 2), none, .box 54 (.t 0)⟩, ⟨(some 3), none, .mv (.c (.bool false))⟩])
 (.seq (.ops [⟨(some 4), none, .load none (.t 1)⟩, ⟨(some 5), none, .load (some 2) (.t 2)⟩, ⟨(some 6), none, .call 53 [(.t 4), (.t 5)]⟩, ⟨(some 3), none, .mv (.t 6)⟩])
 (.ret))⟩
theorem c64 : compF Go.Proofs.Tryz.prog 64 = some a64 := by kernel_rfl
def a65 : AFn := ⟨14, [.t 3], .seq (.ops [⟨(some 2), none, .box 54 (.t 0)⟩, ⟨(some 3), none, .mv (.c (.bool false))⟩])
 (.seq (.ops [⟨(some 4), none, .load (some 2) (.t 1)⟩, ⟨(some 5), none, .load (some 2) (.t 2)⟩, ⟨(some 6), none, .call 62 [(.t 4), (.t 5)]⟩, ⟨(some 7), none, .bin 0 .neq (.t 6) (.c (.int .u8 46))⟩, ⟨(some 8), none, .mv (.t 7)⟩, ⟨(some 9), (some (8, true)), .load (some 2) (.t 2)⟩, ⟨(some 10), (some (8, true)), .call 54 [(.t 9)]⟩, ⟨(some 11), (some (8, true)), .mkfn 66 [(.t 1)]⟩, ⟨(some 12), (some (8, true)), .call 63 [(.t 10), (.t 11)]⟩, ⟨(some 13), none, .pick (.t 8) (.t 12) (.c (.bool false))⟩, ⟨(some 3), none, .mv (.t 13)⟩])
 (.ret))⟩
theorem c65 : compF Go.Proofs.Tryz.prog 65 = some a65 := by kernel_rfl
def a66 : AFn := ⟨8, [.t 3], .seq (.ops [⟨(some 2), none, .box 54 (.t 0)⟩, ⟨(some 3), none, .mv (.c (.bool false))⟩])
 (.seq (.ops [⟨(some 4), none, .load (some 2) (.t 1)⟩, ⟨(some 5), none, .load (some 2) (.t 2)⟩, ⟨(some 6), none, .call 62 [(.t 4), (.t 5)]⟩, ⟨(some 7), none, .bin 0 .eql (.t 6) (.c (.int .u8 46))⟩, ⟨(some 3), none, .mv (.t 7)⟩])
 (.ret))⟩
theorem c66 : compF Go.Proofs.Tryz.prog 66 = some a66 := by kernel_rfl
def a67 : AFn := ⟨16, [.t 4], .seq (.ops [⟨(some 4), none, .mv (.c (.int .i64 0))⟩])
 (.seq (.seq (.ops [⟨(some 5), none, .mv (.t 1)⟩, ⟨(some 6), none, .bin 0 .lss (.t 5) (.c (.int .i64 1))⟩])
 (.cond (.t 6) (.seq (.ops [⟨(some 4), none, .mv (.c (.int .i64 0))⟩])
 (.ret)) (.skip)))
 (.seq (.ops [⟨(some 7), none, .mv (.t 0)⟩, ⟨(some 8), none, .mv (.t 1)⟩, ⟨(some 9), none, .bin 0 .rem (.t 7) (.t 8)⟩, ⟨(some 0), none, .mv (.t 9)⟩])
 (.seq (.seq (.ops [⟨(some 10), none, .mv (.t 0)⟩, ⟨(some 11), none, .bin 0 .lss (.t 10) (.c (.int .i64 0))⟩])
 (.cond (.t 11) (.ops [⟨(some 12), none, .mv (.t 0)⟩, ⟨(some 13), none, .mv (.t 1)⟩, ⟨(some 14), none, .bin 0 .add (.t 12) (.t 13)⟩, ⟨(some 0), none, .mv (.t 14)⟩]) (.skip)))
 (.seq (.ops [⟨(some 15), none, .mv (.t 0)⟩, ⟨(some 4), none, .mv (.t 15)⟩])
 (.ret)))))⟩
theorem c67 : compF Go.Proofs.Tryz.prog 67 = some a67 := by kernel_rfl
def a68 : AFn := ⟨19, [.t 4], .seq (.ops [⟨(some 4), none, .mv (.c (.int .i64 0))⟩])
 (.seq (.seq (.ops [⟨(some 6), none, .mv (.t 0)⟩, ⟨(some 7), none, .len false (.t 6)⟩, ⟨(some 8), none, .mv (.c (.int .i64 0))⟩])
 (.block 0 (.loop (.seq (.ops [⟨(some 9), none, .bin 0 .lss (.t 8) (.t 7)⟩])
 (.seq (.cond (.t 9) (.skip) (.exit 0))
 (.seq (.block 1 (.seq (.ops [⟨(some 10), none, .mv (.t 8)⟩, ⟨(some 5), none, .mv (.t 10)⟩])
 (.seq (.ops [⟨(some 11), none, .mv (.t 1)⟩, ⟨(some 12), none, .mv (.t 0)⟩, ⟨(some 13), none, .mv (.t 5)⟩, ⟨(some 14), none, .iadr 1 (.t 12) (.t 13)⟩, ⟨(some 15), none, .load none (.t 14)⟩, ⟨(some 16), none, .callv (.t 11) [(.t 15)]⟩])
 (.cond (.t 16) (.seq (.ops [⟨(some 17), none, .mv (.t 5)⟩, ⟨(some 4), none, .mv (.t 17)⟩])
 (.ret)) (.skip)))))
 (.ops [⟨(some 18), none, .bin 0 .add (.t 8) (.c (.int .i64 1))⟩, ⟨(some 8), none, .mv (.t 18)⟩])))))))
 (.seq (.ops [⟨(some 4), none, .mv (.c (.int .i64 (-1)))⟩])
 (.ret)))⟩
theorem c68 : compF Go.Proofs.Tryz.prog 68 = some a68 := by kernel_rfl
def a69 : AFn := ⟨8, [.t 4], .seq (.ops [⟨(some 4), none, .mv (.c (.int .i64 0))⟩])
 (.seq (.ops [⟨(some 5), none, .mv (.t 0)⟩, ⟨(some 6), none, .mv (.t 1)⟩, ⟨(some 7), none, .call 87 [(.t 5), (.t 6)]⟩, ⟨(some 4), none, .mv (.t 7)⟩])
 (.ret))⟩
theorem c69 : compF Go.Proofs.Tryz.prog 69 = some a69 := by kernel_rfl
def a70 : AFn := ⟨6, [.t 2], .seq (.ops [⟨(some 2), none, .mv (.c (.bool false))⟩])
 (.seq (.ops [⟨(some 3), none, .mv (.t 0)⟩, ⟨(some 4), none, .s2b (.t 3)⟩, ⟨(some 5), none, .call 28 [(.t 4), (.c (.fn 88 []))]⟩, ⟨(some 2), none, .mv (.t 5)⟩])
 (.ret))⟩
theorem c70 : compF Go.Proofs.Tryz.prog 70 = some a70 := by kernel_rfl
def a71 : AFn := ⟨17, [.t 2], .seq (.ops [⟨(some 2), none, .mv (.c (.bool false))⟩])
 (.seq (.ops [⟨(some 3), none, .mv (.t 0)⟩, ⟨(some 4), none, .bin 0 .geq (.t 3) (.c (.int .u8 48))⟩, ⟨(some 5), none, .mv (.t 4)⟩, ⟨(some 6), (some (5, true)), .mv (.t 0)⟩, ⟨(some 7), (some (5, true)), .bin 0 .leq (.t 6) (.c (.int .u8 57))⟩, ⟨(some 8), none, .pick (.t 5) (.t 7) (.c (.bool false))⟩, ⟨(some 9), none, .mv (.t 8)⟩, ⟨(some 10), (some (9, false)), .mv (.t 0)⟩, ⟨(some 11), (some (9, false)), .bin 0 .geq (.t 10) (.c (.int .u8 97))⟩, ⟨(some 12), (some (9, false)), .mv (.t 11)⟩, ⟨(some 13), (some (12, true)), .mv (.t 0)⟩, ⟨(some 14), (some (12, true)), .bin 0 .leq (.t 13) (.c (.int .u8 122))⟩, ⟨(some 15), (some (9, false)), .pick (.t 12) (.t 14) (.c (.bool false))⟩, ⟨(some 16), none, .pick (.t 9) (.c (.bool true)) (.t 15)⟩, ⟨(some 2), none, .mv (.t 16)⟩])
 (.ret))⟩
theorem c71 : compF Go.Proofs.Tryz.prog 71 = some a71 := by kernel_rfl
def a76 : AFn := ⟨42, [.t 4], .seq (.ops [⟨(some 4), none, .mv (.c (.lit true 0 []))⟩])
 (.seq (.ops [⟨(some 8), none, .mv (.t 0)⟩, ⟨(some 9), none, .mv (.t 1)⟩, ⟨(some 10), none, .call 86 [(.t 8), (.t 9)]⟩, ⟨(some 5), none, .mv (.t 10)⟩])
 (.seq (.seq (.ops [⟨(some 11), none, .mv (.t 5)⟩, ⟨(some 12), none, .bin 0 .eql (.t 11) (.c (.int .i64 (-1)))⟩])
 (.cond (.t 12) (.seq (.ops [⟨(some 13), none, .mv (.t 0)⟩, ⟨(some 4), none, .mv (.t 13)⟩])
 (.ret)) (.skip)))
 (.seq (.seq (.ops [⟨(some 14), none, .mv (.t 5)⟩, ⟨(some 15), none, .bin 0 .add (.t 14) (.c (.int .i64 1))⟩, ⟨(some 6), none, .mv (.t 15)⟩])
 (.block 0 (.loop (.seq (.seq (.ops [⟨(some 16), none, .mv (.t 6)⟩, ⟨(some 17), none, .mv (.t 0)⟩, ⟨(some 18), none, .len false (.t 17)⟩, ⟨(some 19), none, .bin 0 .lss (.t 16) (.t 18)⟩])
 (.cond (.t 19) (.skip) (.exit 0)))
 (.seq (.block 1 (.seq (.ops [⟨(some 22), none, .mv (.t 0)⟩, ⟨(some 23), none, .mv (.t 6)⟩, ⟨(some 24), none, .iadr 2 (.t 22) (.t 23)⟩, ⟨(some 25), none, .load (some 2) (.t 24)⟩, ⟨(some 7), none, .alloc 54 [(.int .i64 0), (.int .i64 0)]⟩, ⟨none, none, .store 2 (.t 7) (.t 25)⟩])
 (.seq (.ops [⟨(some 26), none, .mv (.t 1)⟩, ⟨(some 27), none, .load (some 2) (.t 7)⟩, ⟨(some 28), none, .callv (.t 26) [(.t 27)]⟩, ⟨(some 29), none, .un .not (.t 28)⟩])
 (.cond (.t 29) (.seq (.ops [⟨(some 30), none, .mv (.t 0)⟩, ⟨(some 31), none, .mv (.t 5)⟩, ⟨(some 32), none, .load (some 2) (.t 7)⟩, ⟨(some 33), none, .iadr 2 (.t 30) (.t 31)⟩, ⟨none, none, .store 2 (.t 33) (.t 32)⟩])
 (.ops [⟨(some 34), none, .mv (.t 5)⟩, ⟨(some 35), none, .bin 0 .add (.t 34) (.c (.int .i64 1))⟩, ⟨(some 5), none, .mv (.t 35)⟩])) (.skip)))))
 (.ops [⟨(some 20), none, .mv (.t 6)⟩, ⟨(some 21), none, .bin 0 .add (.t 20) (.c (.int .i64 1))⟩, ⟨(some 6), none, .mv (.t 21)⟩]))))))
 (.seq (.ops [⟨(some 36), none, .mv (.t 0)⟩, ⟨(some 37), none, .mv (.t 5)⟩, ⟨(some 38), none, .slc 2 (.t 36) (some (.t 37)) none⟩, ⟨none, none, .clr [(.int .i64 0), (.int .i64 0)] (.t 38)⟩])
 (.seq (.ops [⟨(some 39), none, .mv (.t 0)⟩, ⟨(some 40), none, .mv (.t 5)⟩, ⟨(some 41), none, .slc 2 (.t 39) none (some (.t 40))⟩, ⟨(some 4), none, .mv (.t 41)⟩])
 (.ret))))))⟩
theorem c76 : compF Go.Proofs.Tryz.prog 76 = some a76 := by kernel_rfl
def a77 : AFn := ⟨15, [.t 3], .seq (.ops [⟨(some 2), none, .box 54 (.t 0)⟩, ⟨(some 3), none, .mv (.c (.bool false))⟩])
 (.seq (.ops [⟨(some 4), none, .load (some 2) (.t 1)⟩, ⟨(some 5), none, .load (some 2) (.t 2)⟩, ⟨(some 6), none, .call 36 [(.t 4), (.t 5)]⟩, ⟨(some 7), none, .bin 0 .eql (.t 6) (.c (.int .u8 46))⟩, ⟨(some 8), none, .mv (.t 7)⟩, ⟨(some 9), (some (8, false)), .load (some 2) (.t 2)⟩, ⟨(some 10), (some (8, false)), .call 37 [(.t 9)]⟩, ⟨(some 11), (some (8, false)), .mkfn 78 [(.t 1)]⟩, ⟨(some 12), (some (8, false)), .call 63 [(.t 10), (.t 11)]⟩, ⟨(some 13), (some (8, false)), .un .not (.t 12)⟩, ⟨(some 14), none, .pick (.t 8) (.c (.bool true)) (.t 13)⟩, ⟨(some 3), none, .mv (.t 14)⟩])
 (.ret))⟩
theorem c77 : compF Go.Proofs.Tryz.prog 77 = some a77 := by kernel_rfl
def a78 : AFn := ⟨8, [.t 3], .seq (.ops [⟨(some 2), none, .box 54 (.t 0)⟩, ⟨(some 3), none, .mv (.c (.bool false))⟩])
 (.seq (.ops [⟨(some 4), none, .load (some 2) (.t 1)⟩, ⟨(some 5), none, .load (some 2) (.t 2)⟩, ⟨(some 6), none, .call 36 [(.t 4), (.t 5)]⟩, ⟨(some 7), none, .bin 0 .eql (.t 6) (.c (.int .u8 46))⟩, ⟨(some 3), none, .mv (.t 7)⟩])
 (.ret))⟩
theorem c78 : compF Go.Proofs.Tryz.prog 78 = some a78 := by kernel_rfl
def a79 : AFn := ⟨9, [.t 2], .seq (.ops [⟨(some 2), none, .mv (.c (.bool false))⟩])
 (.seq (.ops [⟨(some 3), none, .mv (.t 0)⟩, ⟨(some 4), none, .call 71 [(.t 3)]⟩, ⟨(some 5), none, .mv (.t 4)⟩, ⟨(some 6), (some (5, false)), .mv (.t 0)⟩, ⟨(some 7), (some (5, false)), .bin 0 .eql (.t 6) (.c (.int .u8 42))⟩, ⟨(some 8), none, .pick (.t 5) (.c (.bool true)) (.t 7)⟩, ⟨(some 2), none, .mv (.t 8)⟩])
 (.ret))⟩
theorem c79 : compF Go.Proofs.Tryz.prog 79 = some a79 := by kernel_rfl
def a80 : AFn := ⟨12, [.t 4], .seq (.ops [⟨(some 4), none, .mv (.c (.int .i64 0))⟩])
 (.seq (.block 0 (.loop (.seq (.seq (.ops [⟨(some 5), none, .mv (.t 1)⟩, ⟨(some 6), none, .bin 0 .neq (.t 5) (.c (.int .i64 0))⟩])
 (.cond (.t 6) (.skip) (.exit 0)))
 (.block 1 (.any [(⟨(some 7), none, .mv (.t 1)⟩, []), (⟨(some 8), none, .mv (.t 0)⟩, [0]), (⟨(some 9), none, .mv (.t 1)⟩, [0, 1]), (⟨(some 10), none, .bin 0 .rem (.t 8) (.t 9)⟩, [0]), (⟨(some 0), none, .mv (.t 7)⟩, [2, 3]), (⟨(some 1), none, .mv (.t 10)⟩, [])])))))
 (.seq (.ops [⟨(some 11), none, .mv (.t 0)⟩, ⟨(some 4), none, .mv (.t 11)⟩])
 (.ret)))⟩
theorem c80 : compF Go.Proofs.Tryz.prog 80 = some a80 := by kernel_rfl
def a81 : AFn := ⟨19, [.t 4], .seq (.ops [⟨(some 3), none, .box 54 (.t 1)⟩, ⟨(some 4), none, .mv (.c (.int .i64 0))⟩])
 (.seq (.seq (.ops [⟨(some 6), none, .mv (.t 0)⟩, ⟨(some 7), none, .len false (.t 6)⟩, ⟨(some 8), none, .mv (.c (.int .i64 0))⟩])
 (.block 0 (.loop (.seq (.ops [⟨(some 9), none, .bin 0 .lss (.t 8) (.t 7)⟩])
 (.seq (.cond (.t 9) (.skip) (.exit 0))
 (.seq (.block 1 (.seq (.ops [⟨(some 10), none, .mv (.t 8)⟩, ⟨(some 5), none, .mv (.t 10)⟩])
 (.seq (.any [(⟨(some 11), none, .load (some 2) (.t 3)⟩, []), (⟨(some 12), none, .mv (.t 0)⟩, [0]), (⟨(some 13), none, .mv (.t 5)⟩, [0, 1]), (⟨(some 14), none, .iadr 2 (.t 12) (.t 13)⟩, [0]), (⟨(some 15), none, .load (some 2) (.t 14)⟩, [0]), (⟨(some 16), none, .eqs false [0, 0] (.t 11) (.t 15)⟩, [])])
 (.cond (.t 16) (.seq (.ops [⟨(some 17), none, .mv (.t 5)⟩, ⟨(some 4), none, .mv (.t 17)⟩])
 (.ret)) (.skip)))))
 (.ops [⟨(some 18), none, .bin 0 .add (.t 8) (.c (.int .i64 1))⟩, ⟨(some 8), none, .mv (.t 18)⟩])))))))
 (.seq (.ops [⟨(some 4), none, .mv (.c (.int .i64 (-1)))⟩])
 (.ret)))⟩
theorem c81 : compF Go.Proofs.Tryz.prog 81 = some a81 := by kernel_rfl
def a82 : AFn := ⟨4, [.t 2], .seq (.ops [⟨(some 2), none, .mv (.c (.int .i64 0))⟩])
 (.seq (.seq (.ops [⟨(some 3), none, .mv (.t 0)⟩])
 (.cond (.t 3) (.seq (.ops [⟨(some 2), none, .mv (.c (.int .i64 1))⟩])
 (.ret)) (.skip)))
 (.seq (.ops [⟨(some 2), none, .mv (.c (.int .i64 0))⟩])
 (.ret)))⟩
theorem c82 : compF Go.Proofs.Tryz.prog 82 = some a82 := by kernel_rfl
def a83 : AFn := ⟨8, [.t 2], .seq (.ops [⟨(some 2), none, .mv (.c (.lit true 0 []))⟩])
 (.seq (.seq (.ops [⟨(some 3), none, .mv (.t 0)⟩, ⟨(some 4), none, .bin 3 .eql (.t 3) (.c (.lit true 0 []))⟩])
 (.cond (.t 4) (.seq (.ops [⟨(some 2), none, .mv (.c (.lit true 0 []))⟩])
 (.ret)) (.skip)))
 (.seq (.ops [⟨(some 5), none, .bslice 9 1 0 [(.str [])] []⟩, ⟨(some 6), none, .mv (.t 0)⟩, ⟨(some 7), none, .app 9 1 16 (.t 5) (.t 6)⟩, ⟨(some 2), none, .mv (.t 7)⟩])
 (.ret)))⟩
theorem c83 : compF Go.Proofs.Tryz.prog 83 = some a83 := by kernel_rfl
def a84 : AFn := ⟨10, [.t 4], .seq (.ops [⟨(some 2), none, .box 28 (.t 0)⟩, ⟨(some 3), none, .box 54 (.t 1)⟩, ⟨(some 4), none, .mv (.c (.bool false))⟩])
 (.seq (.ops [⟨(some 5), none, .load (some 2) (.t 2)⟩, ⟨(some 6), none, .load (some 2) (.t 3)⟩, ⟨(some 7), none, .call 62 [(.t 5), (.t 6)]⟩, ⟨(some 8), none, .call 69 [(.c (.str [48, 49, 50, 51, 52, 53, 54, 55, 56, 57, 97, 98, 99, 100, 101, 102, 103, 104, 105, 106, 107, 108, 109, 110, 111, 112, 113, 114, 115, 116, 117, 118, 119, 120, 121, 122, 42])), (.t 7)]⟩, ⟨(some 9), none, .bin 0 .geq (.t 8) (.c (.int .i64 0))⟩, ⟨(some 4), none, .mv (.t 9)⟩])
 (.ret))⟩
theorem c84 : compF Go.Proofs.Tryz.prog 84 = some a84 := by kernel_rfl
def a85 : AFn := ⟨19, [.c 4 (some 2)], .seq (.ops [⟨(some 4), none, .alloc 62 [(.int .i64 0), (.int .i64 0)]⟩])
 (.seq (.ops [⟨(some 6), none, .mv (.t 0)⟩, ⟨(some 7), none, .mv (.t 0)⟩, ⟨(some 8), none, .un .neg (.t 7)⟩, ⟨(some 9), none, .mm true (.t 6) [(.t 8)]⟩, ⟨(some 10), none, .mv (.t 1)⟩, ⟨(some 11), none, .call 101 [(.t 9), (.t 10)]⟩, ⟨(some 5), none, .mv (.t 11)⟩])
 (.seq (.any [(⟨(some 12), none, .mv (.t 0)⟩, []), (⟨(some 13), none, .mv (.t 5)⟩, [0]), (⟨(some 14), none, .bin 0 .quo (.t 12) (.t 13)⟩, []), (⟨(some 15), none, .mv (.t 1)⟩, [0, 1, 2]), (⟨(some 16), none, .mv (.t 5)⟩, [0, 1, 2, 3]), (⟨(some 17), none, .bin 0 .quo (.t 15) (.t 16)⟩, [0, 1, 2]), (⟨(some 18), none, .build [(.int .i64 0), (.int .i64 0)] [(0, 1, (.t 14)), (1, 1, (.t 17))]⟩, []), (⟨none, none, .store 2 (.t 4) (.t 18)⟩, [])])
 (.ret)))⟩
theorem c85 : compF Go.Proofs.Tryz.prog 85 = some a85 := by kernel_rfl
def a86 : AFn := ⟨19, [.t 4], .seq (.ops [⟨(some 4), none, .mv (.c (.int .i64 0))⟩])
 (.seq (.seq (.ops [⟨(some 6), none, .mv (.t 0)⟩, ⟨(some 7), none, .len false (.t 6)⟩, ⟨(some 8), none, .mv (.c (.int .i64 0))⟩])
 (.block 0 (.loop (.seq (.ops [⟨(some 9), none, .bin 0 .lss (.t 8) (.t 7)⟩])
 (.seq (.cond (.t 9) (.skip) (.exit 0))
 (.seq (.block 1 (.seq (.ops [⟨(some 10), none, .mv (.t 8)⟩, ⟨(some 5), none, .mv (.t 10)⟩])
 (.seq (.ops [⟨(some 11), none, .mv (.t 1)⟩, ⟨(some 12), none, .mv (.t 0)⟩, ⟨(some 13), none, .mv (.t 5)⟩, ⟨(some 14), none, .iadr 2 (.t 12) (.t 13)⟩, ⟨(some 15), none, .load (some 2) (.t 14)⟩, ⟨(some 16), none, .callv (.t 11) [(.t 15)]⟩])
 (.cond (.t 16) (.seq (.ops [⟨(some 17), none, .mv (.t 5)⟩, ⟨(some 4), none, .mv (.t 17)⟩])
 (.ret)) (.skip)))))
 (.ops [⟨(some 18), none, .bin 0 .add (.t 8) (.c (.int .i64 1))⟩, ⟨(some 8), none, .mv (.t 18)⟩])))))))
 (.seq (.ops [⟨(some 4), none, .mv (.c (.int .i64 (-1)))⟩])
 (.ret)))⟩
theorem c86 : compF Go.Proofs.Tryz.prog 86 = some a86 := by kernel_rfl
def a87 : AFn := ⟨8, [.t 4], .seq (.ops [⟨(some 4), none, .mv (.c (.int .i64 0))⟩])
 (.seq (.ops [⟨(some 5), none, .mv (.t 0)⟩, ⟨(some 6), none, .mv (.t 1)⟩, ⟨(some 7), none, .call 102 [(.t 5), (.t 6)]⟩, ⟨(some 4), none, .mv (.t 7)⟩])
 (.ret))⟩
theorem c87 : compF Go.Proofs.Tryz.prog 87 = some a87 := by kernel_rfl
def a88 : AFn := ⟨6, [.t 2], .seq (.ops [⟨(some 2), none, .mv (.c (.bool false))⟩])
 (.seq (.ops [⟨(some 3), none, .mv (.t 0)⟩, ⟨(some 4), none, .call 89 [(.t 3)]⟩, ⟨(some 5), none, .un .not (.t 4)⟩, ⟨(some 2), none, .mv (.t 5)⟩])
 (.ret))⟩
theorem c88 : compF Go.Proofs.Tryz.prog 88 = some a88 := by kernel_rfl
def a89 : AFn := ⟨17, [.t 2], .seq (.ops [⟨(some 2), none, .mv (.c (.bool false))⟩])
 (.seq (.ops [⟨(some 3), none, .mv (.t 0)⟩, ⟨(some 4), none, .call 71 [(.t 3)]⟩, ⟨(some 5), none, .mv (.t 4)⟩, ⟨(some 6), (some (5, false)), .mv (.t 0)⟩, ⟨(some 7), (some (5, false)), .bin 0 .eql (.t 6) (.c (.int .u8 46))⟩, ⟨(some 8), none, .pick (.t 5) (.c (.bool true)) (.t 7)⟩, ⟨(some 9), none, .mv (.t 8)⟩, ⟨(some 10), (some (9, false)), .mv (.t 0)⟩, ⟨(some 11), (some (9, false)), .bin 0 .eql (.t 10) (.c (.int .u8 63))⟩, ⟨(some 12), none, .pick (.t 9) (.c (.bool true)) (.t 11)⟩, ⟨(some 13), none, .mv (.t 12)⟩, ⟨(some 14), (some (13, false)), .mv (.t 0)⟩, ⟨(some 15), (some (13, false)), .bin 0 .eql (.t 14) (.c (.int .u8 42))⟩, ⟨(some 16), none, .pick (.t 13) (.c (.bool true)) (.t 15)⟩, ⟨(some 2), none, .mv (.t 16)⟩])
 (.ret))⟩
theorem c89 : compF Go.Proofs.Tryz.prog 89 = some a89 := by kernel_rfl
def a101 : AFn := ⟨12, [.t 4], .seq (.ops [⟨(some 4), none, .mv (.c (.int .i64 0))⟩])
 (.seq (.block 0 (.loop (.seq (.seq (.ops [⟨(some 5), none, .mv (.t 1)⟩, ⟨(some 6), none, .bin 0 .neq (.t 5) (.c (.int .i64 0))⟩])
 (.cond (.t 6) (.skip) (.exit 0)))
 (.block 1 (.any [(⟨(some 7), none, .mv (.t 1)⟩, []), (⟨(some 8), none, .mv (.t 0)⟩, [0]), (⟨(some 9), none, .mv (.t 1)⟩, [0, 1]), (⟨(some 10), none, .bin 0 .rem (.t 8) (.t 9)⟩, [0]), (⟨(some 0), none, .mv (.t 7)⟩, [2, 3]), (⟨(some 1), none, .mv (.t 10)⟩, [])])))))
 (.seq (.ops [⟨(some 11), none, .mv (.t 0)⟩, ⟨(some 4), none, .mv (.t 11)⟩])
 (.ret)))⟩
theorem c101 : compF Go.Proofs.Tryz.prog 101 = some a101 := by kernel_rfl
end Go.Proofs.YtmgfcjblclanmaaGreat
namespace Go.Proofs.YtmgfcjblclanmaaGreat
open Go.RowKit
theorem below_c (x n : Int) (nid : Nat) (hn : n ≤ 9223372036854775807) : ACall Tryz.prog 67 [.int .i64 x, .int .i64 n] [] nid (.int .i64 (below x n)) [] := by
  refine acall_run c67 (by simp [a67]) ?_
  simp -dsimp only [a67, aqT, aqU, aqN, ↓seqK, ↓blkK, ↓loopK, step, stepBin, Nat.reduceBEq, Nat.reduceBeqDiff, Nat.add_assoc nid, Nat.reduceAdd, reduceCtorEq, ↓reduceIte, Nat.reduceLeDiff, Nat.reduceBneDiff, Option.toList, ← Int.ofNat_tmod, ← Int.ofNat_tdiv, Nat.reduceLT]
  refine S2.dec (fun h => ?_) (fun h => ?_)
  · simp -dsimp only [aqT, aqU, aqN, ↓seqK, ↓blkK, ↓loopK, step, stepBin, Nat.reduceBEq, Nat.reduceBeqDiff, Nat.add_assoc nid, Nat.reduceAdd, reduceCtorEq, ↓reduceIte, Nat.reduceLeDiff, Nat.reduceBneDiff, Option.toList, ← Int.ofNat_tmod, ← Int.ofNat_tdiv, Nat.reduceLT]
    refine RetOK.pure (.inl rfl) rfl ?_
    simp [retPV, PVCov, getS, below, h]
  simp -dsimp only [aqT, aqU, aqN, ↓seqK, ↓blkK, ↓loopK, step, stepBin, Nat.reduceBEq, Nat.reduceBeqDiff, Nat.add_assoc nid, Nat.reduceAdd, reduceCtorEq, ↓reduceIte, Nat.reduceLeDiff, Nat.reduceBneDiff, Option.toList, ← Int.ofNat_tmod, ← Int.ofNat_tdiv, Nat.reduceLT]
  refine ⟨by omega, S2.dec (fun h2 => ?_) (fun h2 => ?_)⟩
  · simp -dsimp only [aqT, aqU, aqN, ↓seqK, ↓blkK, ↓loopK, step, stepBin, Nat.reduceBEq, Nat.reduceBeqDiff, Nat.add_assoc nid, Nat.reduceAdd, reduceCtorEq, ↓reduceIte, Nat.reduceLeDiff, Nat.reduceBneDiff, Option.toList, ← Int.ofNat_tmod, ← Int.ofNat_tdiv, Nat.reduceLT]
    have := Int.lt_tmod_of_pos x (show 0 < n by omega)
    refine ⟨by unfold inI64; omega, RetOK.pure (.inl rfl) rfl ?_⟩
    have h3 : x.tmod n + n = x % n := by rw [Int.tmod_eq_emod]; split <;> rw [Int.tmod_eq_emod] at h2 <;> rename_i h6 <;> simp only [h6, if_true, if_false, not_false_eq_true] at h2 <;> have := Int.emod_nonneg x (show n ≠ 0 by omega) <;> omega
    simp [cvT, step, res, below, h, h3]
  · simp -dsimp only [aqT, aqU, aqN, ↓seqK, ↓blkK, ↓loopK, step, stepBin, Nat.reduceBEq, Nat.reduceBeqDiff, Nat.add_assoc nid, Nat.reduceAdd, reduceCtorEq, ↓reduceIte, Nat.reduceLeDiff, Nat.reduceBneDiff, Option.toList, ← Int.ofNat_tmod, ← Int.ofNat_tdiv, Nat.reduceLT]
    refine RetOK.pure (.inl rfl) rfl ?_
    have h3 : x.tmod n = x % n := by rw [Int.tmod_eq_emod]; split <;> rw [Int.tmod_eq_emod] at h2 <;> rename_i h6 <;> simp only [h6, if_true, if_false, not_false_eq_true] at h2 <;> have := Int.emod_lt_of_pos x (show 0 < n by omega) <;> omega
    simp [cvT, step, res, below, h, h3]
def strmC (nl : Bool) (A : List Int) (p : Nat) : Option ABlk := some (.box 25 [.lit nl A.length [.i .i64 fun i => A.getD i 0], .int .i64 p])
theorem strmC_low (n : Nat) (nl : Bool) (A : List Int) (p : Nat) : lowBlk n (strmC nl A p) = true := rfl
theorem next_c (s nid : Nat) (nl : Bool) (A : List Int) (p : Nat) (n : Int) (h : s < nid) (hp : p ≤ 1099511627775) (hA : A.length ≤ 17592186044416) (hn : n ≤ 9223372036854775807) :
    ACall Tryz.prog 27 [.ptr s 0, .int .i64 n] [(s, strmC nl A p)] nid (.int .i64 (nextV A p n)) [(s, strmC nl A (p + 1))] := by
  obtain ⟨e1, e2, e3, e4, e5, e6, e7, e8, e9⟩ := id_all h
  refine acall_run c27 (by simp [a27]) ?_
  simp -dsimp only [a27, strmC, aqT, aqU, aqN, ↓seqK, ↓blkK, ↓loopK, step, stepBin, Nat.reduceBEq, Nat.reduceBeqDiff, Nat.add_assoc nid, Nat.reduceAdd, reduceCtorEq, ↓reduceIte, Nat.reduceLeDiff, Nat.reduceBneDiff, Option.toList, ← Int.ofNat_tmod, ← Int.ofNat_tdiv, Nat.reduceLT, e1, e2, e3, e4, e5, e6, e7, e8, e9]
  refine ⟨by unfold inI64; omega, S2.intro (fun h2 => ?_) (fun h2 => ?_)⟩
  · simp -dsimp only [aqT, aqU, aqN, ↓seqK, ↓blkK, ↓loopK, step, stepBin, Nat.reduceBEq, Nat.reduceBeqDiff, Nat.add_assoc nid, Nat.reduceAdd, reduceCtorEq, ↓reduceIte, Nat.reduceLeDiff, Nat.reduceBneDiff, Option.toList, ← Int.ofNat_tmod, ← Int.ofNat_tdiv, Nat.reduceLT, e1, e2, e3, e4, e5, e6, e7, e8, e9]
    refine ⟨by unfold inI64; omega, CallO.pure (below_c _ _ _ hn) ?_⟩
    simp -dsimp only [aqT, aqU, aqN, ↓seqK, ↓blkK, ↓loopK, step, stepBin, Nat.reduceBEq, Nat.reduceBeqDiff, Nat.add_assoc nid, Nat.reduceAdd, reduceCtorEq, ↓reduceIte, Nat.reduceLeDiff, Nat.reduceBneDiff, Option.toList, ← Int.ofNat_tmod, ← Int.ofNat_tdiv, Nat.reduceLT, e1, e2, e3, e4, e5, e6, e7, e8, e9]
    have h3 : A.length = 0 := by simpa using h2
    refine RetOK.same (.inl rfl) rfl (by simp [strmC, liveIds]; omega) ?_ ?_
    · simp [cvT, step, res, strmC]
    · simp [cvT, step, res, nextV, h3]
  · simp -dsimp only [aqT, aqU, aqN, ↓seqK, ↓blkK, ↓loopK, step, stepBin, Nat.reduceBEq, Nat.reduceBeqDiff, Nat.add_assoc nid, Nat.reduceAdd, reduceCtorEq, ↓reduceIte, Nat.reduceLeDiff, Nat.reduceBneDiff, Option.toList, ← Int.ofNat_tmod, ← Int.ofNat_tdiv, Nat.reduceLT, e1, e2, e3, e4, e5, e6, e7, e8, e9]
    have h3 : 0 < A.length := by have : ¬ A.length = 0 := by simpa using h2
                                 omega
    have h4 : ∀ z : Nat, z ≤ 1099511627776 → IntKind.i64.wrap (z : Int) = z := fun z hz => IntWalk.i64_in _ (by omega)
    have h5 : p / A.length ≤ p := Nat.div_le_self _ _
    have h6 : p % A.length < A.length := Nat.mod_lt _ h3
    have h11 := h4 _ (show p / A.length ≤ 1099511627776 by omega)
    refine ⟨by unfold inI64; omega, by omega, by unfold inI64; omega, by omega, by omega, CallO.pure (below_c _ _ _ (by omega)) ?_⟩
    simp -dsimp only [aqT, aqU, aqN, ↓seqK, ↓blkK, ↓loopK, step, stepBin, Nat.reduceBEq, Nat.reduceBeqDiff, Nat.add_assoc nid, Nat.reduceAdd, reduceCtorEq, ↓reduceIte, Nat.reduceLeDiff, Nat.reduceBneDiff, Option.toList, ← Int.ofNat_tmod, ← Int.ofNat_tdiv, Nat.reduceLT, h11, e1, e2, e3, e4, e5, e6, e7, e8, e9]
    have h7 := round_bd p A.length h3 (by omega)
    have h8 := below_bd (A.getD (p % A.length) 0) (n := 1073741824) (by omega)
    rw [← Int.natCast_emod, ← Int.natCast_ediv] at h7
    generalize h9 : ((p / A.length : Nat) : Int) * (7919 + ((p % A.length : Nat) : Int)) = z at h7 ⊢
    refine ⟨by unfold inI64; omega, by unfold inI64; omega, by unfold inI64; omega, CallO.pure (below_c _ _ _ hn) ?_⟩
    simp -dsimp only [aqT, aqU, aqN, ↓seqK, ↓blkK, ↓loopK, step, stepBin, Nat.reduceBEq, Nat.reduceBeqDiff, Nat.add_assoc nid, Nat.reduceAdd, reduceCtorEq, ↓reduceIte, Nat.reduceLeDiff, Nat.reduceBneDiff, Option.toList, ← Int.ofNat_tmod, ← Int.ofNat_tdiv, Nat.reduceLT, e1, e2, e3, e4, e5, e6, e7, e8, e9]
    refine RetOK.same (.inl rfl) rfl (by simp [strmC, liveIds]; omega) ?_ ?_
    · simp [cvT, step, res, strmC]
    · have h10 : A.length ≠ 0 := by omega
      simp [cvT, step, res, nextV, h10, ← h9]
theorem range_c (s nid : Nat) (nl : Bool) (A : List Int) (p : Nat) (lo hi : Int) (h : s < nid) (hp : p ≤ 1099511627775) (hA : A.length ≤ 17592186044416) (h1 : lo ≤ hi) (hl : -1099511627776 ≤ lo) (hh : hi ≤ 1099511627776) :
    ACall Tryz.prog 24 [.ptr s 0, .int .i64 lo, .int .i64 hi] [(s, strmC nl A p)] nid (.int .i64 (rangeV A p lo hi)) [(s, strmC nl A (p + 1))] := by
  obtain ⟨e1, e2, e3, e4, e5, e6, e7, e8, e9⟩ := id_all h
  refine acall_run c24 (by simp [a24]) ?_
  simp -dsimp only [a24, aqT, aqU, aqN, ↓seqK, ↓blkK, ↓loopK, step, stepBin, Nat.reduceBEq, Nat.reduceBeqDiff, Nat.add_assoc nid, Nat.reduceAdd, reduceCtorEq, ↓reduceIte, Nat.reduceLeDiff, Nat.reduceBneDiff, Option.toList, ← Int.ofNat_tmod, ← Int.ofNat_tdiv, Nat.reduceLT, e1, e2, e3, e4, e5, e6, e7, e8, e9]
  refine S2.dec (fun h => absurd h (by omega)) (fun h => ?_)
  simp -dsimp only [aqT, aqU, aqN, ↓seqK, ↓blkK, ↓loopK, step, stepBin, Nat.reduceBEq, Nat.reduceBeqDiff, Nat.add_assoc nid, Nat.reduceAdd, reduceCtorEq, ↓reduceIte, Nat.reduceLeDiff, Nat.reduceBneDiff, Option.toList, ← Int.ofNat_tmod, ← Int.ofNat_tdiv, Nat.reduceLT, e1, e2, e3, e4, e5, e6, e7, e8, e9]
  refine ⟨by unfold inI64; omega, by unfold inI64; omega, CallO.on (next_c _ _ _ _ _ _ (by omega) hp hA (by omega)) (subH_hit _ _ _) ?_⟩
  simp -dsimp only [aqT, aqU, aqN, ↓seqK, ↓blkK, ↓loopK, step, stepBin, Nat.reduceBEq, Nat.reduceBeqDiff, Nat.add_assoc nid, Nat.reduceAdd, reduceCtorEq, ↓reduceIte, Nat.reduceLeDiff, Nat.reduceBneDiff, Option.toList, ← Int.ofNat_tmod, ← Int.ofNat_tdiv, Nat.reduceLT, e1, e2, e3, e4, e5, e6, e7, e8, e9]
  have := nextV_bd A p (n := hi - lo + 1) (by omega)
  refine ⟨by unfold inI64; omega, RetOK.same (.inl rfl) rfl (by simp [strmC, liveIds]; omega) ?_ ?_⟩
  · simp [cvT, step, res, strmC]
  · simp [cvT, step, res, rangeV]
theorem flip_c (s nid : Nat) (nl : Bool) (A : List Int) (p : Nat) (n : Int) (h : s < nid) (hp : p ≤ 1099511627775) (hA : A.length ≤ 17592186044416) (hn : n ≤ 9223372036854775807) :
    ACall Tryz.prog 26 [.ptr s 0, .int .i64 n] [(s, strmC nl A p)] nid (.bool (flipV A p n)) [(s, strmC nl A (p + 1))] := by
  obtain ⟨e1, e2, e3, e4, e5, e6, e7, e8, e9⟩ := id_all h
  refine acall_run c26 (by simp [a26]) ?_
  simp -dsimp only [a26, aqT, aqU, aqN, ↓seqK, ↓blkK, ↓loopK, step, stepBin, Nat.reduceBEq, Nat.reduceBeqDiff, Nat.add_assoc nid, Nat.reduceAdd, reduceCtorEq, ↓reduceIte, Nat.reduceLeDiff, Nat.reduceBneDiff, Option.toList, ← Int.ofNat_tmod, ← Int.ofNat_tdiv, Nat.reduceLT, e1, e2, e3, e4, e5, e6, e7, e8, e9]
  refine CallO.on (next_c _ _ _ _ _ _ (by omega) hp hA hn) (subH_hit _ _ _) ?_
  simp -dsimp only [aqT, aqU, aqN, ↓seqK, ↓blkK, ↓loopK, step, stepBin, Nat.reduceBEq, Nat.reduceBeqDiff, Nat.add_assoc nid, Nat.reduceAdd, reduceCtorEq, ↓reduceIte, Nat.reduceLeDiff, Nat.reduceBneDiff, Option.toList, ← Int.ofNat_tmod, ← Int.ofNat_tdiv, Nat.reduceLT, e1, e2, e3, e4, e5, e6, e7, e8, e9]
  refine RetOK.same (.inl rfl) rfl (by simp [strmC, liveIds]; omega) ?_ ?_
  · simp [cvT, step, res, strmC]
  · simp [cvT, step, res, flipV]
theorem pick_c (s nid : Nat) (nl nl' : Bool) (A : List Int) (p : Nat) (n : Nat) (g : Nat → Int) (h : s < nid) (hp : p ≤ 1099511627775) (hA : A.length ≤ 17592186044416) (h1 : 0 < n) (hn : n ≤ 1099511627776) :
    ACall Tryz.prog 5 [.ptr s 0, .lit nl' n [.i .i64 g]] [(s, strmC nl A p)] nid (.int .i64 (g (pickI A p n))) [(s, strmC nl A (p + 1))] := by
  obtain ⟨e1, e2, e3, e4, e5, e6, e7, e8, e9⟩ := id_all h
  refine acall_run c5 (by simp [a5]) ?_
  simp -dsimp only [a5, aqT, aqU, aqN, ↓seqK, ↓blkK, ↓loopK, step, stepBin, Nat.reduceBEq, Nat.reduceBeqDiff, Nat.add_assoc nid, Nat.reduceAdd, reduceCtorEq, ↓reduceIte, Nat.reduceLeDiff, Nat.reduceBneDiff, Option.toList, ← Int.ofNat_tmod, ← Int.ofNat_tdiv, Nat.reduceLT, e1, e2, e3, e4, e5, e6, e7, e8, e9]
  refine CallO.on (next_c _ _ _ _ _ _ (by omega) hp hA (by omega)) (subH_hit _ _ _) ?_
  simp -dsimp only [aqT, aqU, aqN, ↓seqK, ↓blkK, ↓loopK, step, stepBin, Nat.reduceBEq, Nat.reduceBeqDiff, Nat.add_assoc nid, Nat.reduceAdd, reduceCtorEq, ↓reduceIte, Nat.reduceLeDiff, Nat.reduceBneDiff, Option.toList, ← Int.ofNat_tmod, ← Int.ofNat_tdiv, Nat.reduceLT, e1, e2, e3, e4, e5, e6, e7, e8, e9]
  have := nextV_bd A p (n := (n : Int)) (by omega)
  refine ⟨this, RetOK.same (.inl rfl) rfl (by simp [strmC, liveIds]; omega) ?_ ?_⟩
  · simp [cvT, step, res, strmC]
  · simp [cvT, step, res, pickI]
theorem CallX.pick_go {s id nid : Nat} {nl : Bool} {A : List Int} {p : Nat} {n T : Nat} {g : Nat → Int} {H : Heap} {K : PV → Heap → List Nat → Prop} (hs : getH H s = strmC nl A p) (hid : getH H id = some (.arr T n [.i .i64 g])) (hne : (s == id) = false) (h : s < nid) (hp : p ≤ 1099511627775) (hA : A.length ≤ 17592186044416) (h1 : 0 < n) (hn : n ≤ 1099511627776)
    (hK : K (.int .i64 (g (pickI A p n))) [(s, strmC nl A (p + 1)), (id, none)] [s, id]) : CallX Tryz.prog 5 [.ptr s 0, .sl id 0 n] H nid K := by
  refine CallX.given [id] (u := [(s, strmC nl A (p + 1))]) (fun nl' => ?_) (subH_get hs) (by simp [getH, hne]) hK
  have e : lends H [id] nl' [.ptr s 0, .sl id 0 n] = [.ptr s 0, .lit (nl' id) n [.i .i64 g]] := by simp [lends, lend, hid, noOs]
  rw [e]
  exact pick_c s _ nl _ A p n _ h hp hA h1 hn
theorem CallO.pick_go {s id nid : Nat} {nl : Bool} {A : List Int} {p : Nat} {n T : Nat} {g : Nat → Int} {H : Heap} {K : PV → Heap → Prop} (hs : getH H s = strmC nl A p) (hid : getH H id = some (.arr T n [.i .i64 g])) (hne : (s == id) = false) (h : s < nid) (hp : p ≤ 1099511627775) (hA : A.length ≤ 17592186044416) (h1 : 0 < n) (hn : n ≤ 1099511627776)
    (hK : K (.int .i64 (g (pickI A p n))) [(s, strmC nl A (p + 1)), (id, none)]) : CallOK Tryz.prog 5 [.ptr s 0, .sl id 0 n] H nid K :=
  CallO.x (CallX.pick_go hs hid hne h hp hA h1 hn hK)
end Go.Proofs.YtmgfcjblclanmaaGreat
namespace Go.Proofs.YtmgfcjblclanmaaGreat
open Go.RowKit
def litI (nl : Bool) (l : List Int) : PV := .lit nl l.length [.i .i64 fun i => l.getD i 0]
theorem out_c (x lo hi : Int) (nid : Nat) : ACall Tryz.prog 33 [.int .i64 x, .int .i64 lo, .int .i64 hi] [] nid (.bool (outB x lo hi)) [] := by
  refine acall_run c33 (by simp [a33]) ?_
  simp -dsimp only [a33, aqT, aqU, aqN, ↓seqK, ↓blkK, ↓loopK, step, stepBin, Nat.reduceBEq, Nat.reduceBeqDiff, Nat.add_assoc nid, Nat.reduceAdd, reduceCtorEq, ↓reduceIte, Nat.reduceLeDiff, Nat.reduceBneDiff, Option.toList, ← Int.ofNat_tmod, ← Int.ofNat_tdiv, Nat.reduceLT]
  refine S2.dec (fun h => ?_) (fun h => ?_) <;> simp -dsimp only [aqT, aqU, aqN, ↓seqK, ↓blkK, ↓loopK, step, stepBin, Nat.reduceBEq, Nat.reduceBeqDiff, Nat.add_assoc nid, Nat.reduceAdd, reduceCtorEq, ↓reduceIte, Nat.reduceLeDiff, Nat.reduceBneDiff, Option.toList, ← Int.ofNat_tmod, ← Int.ofNat_tdiv, Nat.reduceLT] <;> refine RetOK.pure (.inl rfl) rfl ?_ <;> simp [cvT, step, res, outB] <;> omega
theorem in_c (x lo hi : Int) (nid : Nat) : ACall Tryz.prog 49 [.int .i64 x, .int .i64 lo, .int .i64 hi] [] nid (.bool (!outB x lo hi)) [] := by
  refine acall_run c49 (by simp [a49]) ?_
  simp -dsimp only [a49, aqT, aqU, aqN, ↓seqK, ↓blkK, ↓loopK, step, stepBin, Nat.reduceBEq, Nat.reduceBeqDiff, Nat.add_assoc nid, Nat.reduceAdd, reduceCtorEq, ↓reduceIte, Nat.reduceLeDiff, Nat.reduceBneDiff, Option.toList, ← Int.ofNat_tmod, ← Int.ofNat_tdiv, Nat.reduceLT]
  refine S2.dec (fun h => ?_) (fun h => ?_) <;> simp -dsimp only [aqT, aqU, aqN, ↓seqK, ↓blkK, ↓loopK, step, stepBin, Nat.reduceBEq, Nat.reduceBeqDiff, Nat.add_assoc nid, Nat.reduceAdd, reduceCtorEq, ↓reduceIte, Nat.reduceLeDiff, Nat.reduceBneDiff, Option.toList, ← Int.ofNat_tmod, ← Int.ofNat_tdiv, Nat.reduceLT] <;> refine RetOK.pure (.inl rfl) rfl ?_ <;> simp [cvT, step, res, outB] <;> first | omega | (rw [Bool.eq_iff_iff]; simp; omega)
end Go.Proofs.YtmgfcjblclanmaaGreat
namespace Go.Proofs.YtmgfcjblclanmaaGreat
open Go.RowKit
def isBinV (c : Int) : Bool := (decide (48 ≤ c) && decide (c ≤ 57)) || (decide (97 ≤ c) && decide (c ≤ 122))
theorem isBin_c (c : Int) (nid : Nat) : ACall Tryz.prog 71 [.int .u8 c] [] nid (.bool (isBinV c)) [] := by
  refine acall_run c71 (by simp [a71]) ?_
  unfold isBinV
  simp -dsimp only [a71, aqT, aqU, aqN, ↓seqK, ↓blkK, ↓loopK, step, stepBin, Nat.reduceBEq, Nat.reduceBeqDiff, Nat.add_assoc nid, Nat.reduceAdd, reduceCtorEq, ↓reduceIte, Nat.reduceLeDiff, Nat.reduceBneDiff, Option.toList, ← Int.ofNat_tmod, ← Int.ofNat_tdiv, Nat.reduceLT]
  cases h1 : decide (48 ≤ c) <;> simp -dsimp only [aqT, aqU, aqN, ↓seqK, ↓blkK, ↓loopK, step, stepBin, Nat.reduceBEq, Nat.reduceBeqDiff, Nat.add_assoc nid, Nat.reduceAdd, reduceCtorEq, ↓reduceIte, Nat.reduceLeDiff, Nat.reduceBneDiff, Option.toList, ← Int.ofNat_tmod, ← Int.ofNat_tdiv, Nat.reduceLT]
  · cases h3 : decide (97 ≤ c) <;> simp -dsimp only [aqT, aqU, aqN, ↓seqK, ↓blkK, ↓loopK, step, stepBin, Nat.reduceBEq, Nat.reduceBeqDiff, Nat.add_assoc nid, Nat.reduceAdd, reduceCtorEq, ↓reduceIte, Nat.reduceLeDiff, Nat.reduceBneDiff, Option.toList, ← Int.ofNat_tmod, ← Int.ofNat_tdiv, Nat.reduceLT]
    · refine RetOK.pure (.inl rfl) rfl ?_
      simp [cvT, step, res, h1, h3]
    · refine RetOK.pure (.inl rfl) rfl ?_
      simp [cvT, step, res, h1, h3]
  · cases h2 : decide (c ≤ 57) <;> simp -dsimp only [aqT, aqU, aqN, ↓seqK, ↓blkK, ↓loopK, step, stepBin, Nat.reduceBEq, Nat.reduceBeqDiff, Nat.add_assoc nid, Nat.reduceAdd, reduceCtorEq, ↓reduceIte, Nat.reduceLeDiff, Nat.reduceBneDiff, Option.toList, ← Int.ofNat_tmod, ← Int.ofNat_tdiv, Nat.reduceLT]
    · cases h3 : decide (97 ≤ c) <;> simp -dsimp only [aqT, aqU, aqN, ↓seqK, ↓blkK, ↓loopK, step, stepBin, Nat.reduceBEq, Nat.reduceBeqDiff, Nat.add_assoc nid, Nat.reduceAdd, reduceCtorEq, ↓reduceIte, Nat.reduceLeDiff, Nat.reduceBneDiff, Option.toList, ← Int.ofNat_tmod, ← Int.ofNat_tdiv, Nat.reduceLT] <;> refine RetOK.pure (.inl rfl) rfl ?_ <;> simp [cvT, step, res, h1, h2, h3]
    · refine RetOK.pure (.inl rfl) rfl ?_
      simp [cvT, step, res, h1, h2]
theorem isPlace_c (c : Int) (nid : Nat) : ACall Tryz.prog 89 [.int .u8 c] [] nid (.bool (isBinV c || c == 46 || c == 63 || c == 42)) [] := by
  refine acall_run c89 (by simp [a89]) ?_
  simp -dsimp only [a89, aqT, aqU, aqN, ↓seqK, ↓blkK, ↓loopK, step, stepBin, Nat.reduceBEq, Nat.reduceBeqDiff, Nat.add_assoc nid, Nat.reduceAdd, reduceCtorEq, ↓reduceIte, Nat.reduceLeDiff, Nat.reduceBneDiff, Option.toList, ← Int.ofNat_tmod, ← Int.ofNat_tdiv, Nat.reduceLT]
  refine CallO.pure (isBin_c _ _) ?_
  simp -dsimp only [aqT, aqU, aqN, ↓seqK, ↓blkK, ↓loopK, step, stepBin, Nat.reduceBEq, Nat.reduceBeqDiff, Nat.add_assoc nid, Nat.reduceAdd, reduceCtorEq, ↓reduceIte, Nat.reduceLeDiff, Nat.reduceBneDiff, Option.toList, ← Int.ofNat_tmod, ← Int.ofNat_tdiv, Nat.reduceLT]
  cases h0 : isBinV c <;> simp -dsimp only [aqT, aqU, aqN, ↓seqK, ↓blkK, ↓loopK, step, stepBin, Nat.reduceBEq, Nat.reduceBeqDiff, Nat.add_assoc nid, Nat.reduceAdd, reduceCtorEq, ↓reduceIte, Nat.reduceLeDiff, Nat.reduceBneDiff, Option.toList, ← Int.ofNat_tmod, ← Int.ofNat_tdiv, Nat.reduceLT]
  · cases h1 : (c == 46) <;> simp -dsimp only [aqT, aqU, aqN, ↓seqK, ↓blkK, ↓loopK, step, stepBin, Nat.reduceBEq, Nat.reduceBeqDiff, Nat.add_assoc nid, Nat.reduceAdd, reduceCtorEq, ↓reduceIte, Nat.reduceLeDiff, Nat.reduceBneDiff, Option.toList, ← Int.ofNat_tmod, ← Int.ofNat_tdiv, Nat.reduceLT, h1]
    · cases h2 : (c == 63) <;> simp -dsimp only [aqT, aqU, aqN, ↓seqK, ↓blkK, ↓loopK, step, stepBin, Nat.reduceBEq, Nat.reduceBeqDiff, Nat.add_assoc nid, Nat.reduceAdd, reduceCtorEq, ↓reduceIte, Nat.reduceLeDiff, Nat.reduceBneDiff, Option.toList, ← Int.ofNat_tmod, ← Int.ofNat_tdiv, Nat.reduceLT, h2] <;> refine RetOK.pure (.inl rfl) rfl ?_ <;> simp [cvT, step, res, h1, h2]
    · refine RetOK.pure (.inl rfl) rfl ?_
      simp [cvT, step, res]
  · refine RetOK.pure (.inl rfl) rfl ?_
    simp [cvT, step, res]
theorem oddF_c (c : Int) (nid : Nat) : ACall Tryz.prog 88 [.int .u8 c] [] nid (.bool (!(isBinV c || c == 46 || c == 63 || c == 42))) [] := by
  refine acall_run c88 (by simp [a88]) ?_
  simp -dsimp only [a88, aqT, aqU, aqN, ↓seqK, ↓blkK, ↓loopK, step, stepBin, Nat.reduceBEq, Nat.reduceBeqDiff, Nat.add_assoc nid, Nat.reduceAdd, reduceCtorEq, ↓reduceIte, Nat.reduceLeDiff, Nat.reduceBneDiff, Option.toList, ← Int.ofNat_tmod, ← Int.ofNat_tdiv, Nat.reduceLT]
  refine CallO.pure (isPlace_c _ _) ?_
  simp -dsimp only [aqT, aqU, aqN, ↓seqK, ↓blkK, ↓loopK, step, stepBin, Nat.reduceBEq, Nat.reduceBeqDiff, Nat.add_assoc nid, Nat.reduceAdd, reduceCtorEq, ↓reduceIte, Nat.reduceLeDiff, Nat.reduceBneDiff, Option.toList, ← Int.ofNat_tmod, ← Int.ofNat_tdiv, Nat.reduceLT]
  refine RetOK.pure (.inl rfl) rfl ?_
  simp [cvT, step, res]
def placeB (c : Int) : Bool := isBinV c || c == 46 || c == 63 || c == 42
theorem indexF_c (nl : Bool) (n : Nat) (g : Nat → Int) (nid : Nat) (hn : n ≤ 1000000000) (h : ∀ i, i < n → placeB (g i) = true) : ACall Tryz.prog 68 [.lit nl n [.i .u8 g], .fn 88 []] [] nid (.int .i64 (-1)) [] := by
  refine acall_run c68 (by simp [a68]) ?_
  simp -dsimp only [a68, aqT, aqU, aqN, ↓seqK, ↓blkK, ↓loopK, step, stepBin, Nat.reduceBEq, Nat.reduceBeqDiff, Nat.add_assoc nid, Nat.reduceAdd, reduceCtorEq, ↓reduceIte, Nat.reduceLeDiff, Nat.reduceBneDiff, Option.toList, ← Int.ofNat_tmod, ← Int.ofNat_tdiv, Nat.reduceLT]
  refine LP.mkP (fun k : Nat => k ≤ n) (fun k : Nat => ⟨[(8, .int .i64 k), (7, .int .i64 n), (0, .lit nl n [.i .u8 g]), (1, .fn 88 [])], [], nid + 100, nid⟩) (fun k => n + 1 - k) 0 (by omega) (Cov.go [] [] ?_) (fun k hk => ?_)
  · simp [cvT, step, res]
  simp -dsimp only [aqT, aqU, aqN, ↓seqK, ↓blkK, ↓loopK, step, stepBin, Nat.reduceBEq, Nat.reduceBeqDiff, Nat.add_assoc nid, Nat.reduceAdd, reduceCtorEq, ↓reduceIte, Nat.reduceLeDiff, Nat.reduceBneDiff, Option.toList, ← Int.ofNat_tmod, ← Int.ofNat_tdiv, Nat.reduceLT]
  refine S2.dec (fun h3 => ?_) (fun h3 => ?_) <;> simp -dsimp only [aqT, aqU, aqN, ↓seqK, ↓blkK, ↓loopK, step, stepBin, Nat.reduceBEq, Nat.reduceBeqDiff, Nat.add_assoc nid, Nat.reduceAdd, reduceCtorEq, ↓reduceIte, Nat.reduceLeDiff, Nat.reduceBneDiff, Option.toList, ← Int.ofNat_tmod, ← Int.ofNat_tdiv, Nat.reduceLT]
  · refine ⟨by omega, CallO.pure (oddF_c _ _) ?_⟩
    have hp := h k (by omega)
    unfold placeB at hp
    rw [hp]
    simp -dsimp only [aqT, aqU, aqN, ↓seqK, ↓blkK, ↓loopK, step, stepBin, Nat.reduceBEq, Nat.reduceBeqDiff, Nat.add_assoc nid, Nat.reduceAdd, reduceCtorEq, ↓reduceIte, Nat.reduceLeDiff, Nat.reduceBneDiff, Option.toList, ← Int.ofNat_tmod, ← Int.ofNat_tdiv, Nat.reduceLT]
    refine ⟨by unfold inI64; omega, k + 1, ⟨by omega, by omega⟩, Cov.go [] [] ?_⟩
    simp [cvT, step, res]
  · refine RetOK.pure (.inl rfl) rfl ?_
    simp [cvT, step, res]
theorem odd_c' (s : List UInt8) (nid : Nat) (hn : s.length ≤ 1000000000) (h : ∀ i, i < s.length → placeB ((s.getD i 0).toNat : Nat) = true) : ACall Tryz.prog 70 [.str s] [] nid (.bool false) [] := by
  have hcf : ∀ nid, ACall Tryz.prog 28 [.lit false s.length [.i .u8 fun i => ((s.getD i 0).toNat : Nat)], .fn 88 []] [] nid (.bool false) [] := fun nid => by
    refine acall_run c28 (by simp [a28]) ?_
    simp -dsimp only [a28, aqT, aqU, aqN, ↓seqK, ↓blkK, ↓loopK, step, stepBin, Nat.reduceBEq, Nat.reduceBeqDiff, Nat.add_assoc nid, Nat.reduceAdd, reduceCtorEq, ↓reduceIte, Nat.reduceLeDiff, Nat.reduceBneDiff, Option.toList, ← Int.ofNat_tmod, ← Int.ofNat_tdiv, Nat.reduceLT]
    refine CallO.pure (indexF_c _ _ _ _ hn h) ?_
    simp -dsimp only [aqT, aqU, aqN, ↓seqK, ↓blkK, ↓loopK, step, stepBin, Nat.reduceBEq, Nat.reduceBeqDiff, Nat.add_assoc nid, Nat.reduceAdd, reduceCtorEq, ↓reduceIte, Nat.reduceLeDiff, Nat.reduceBneDiff, Option.toList, ← Int.ofNat_tmod, ← Int.ofNat_tdiv, Nat.reduceLT, Int.cast_ofNat_Int, Int.reduceBEq, Int.reduceBNe, Int.reduceLT, Int.reduceLE, Int.reduceAdd, Int.reduceSub, Int.reduceMul, Int.reduceToNat, Int.reduceNeg, Int.reduceTMod, Int.reduceEq, not_false_eq_true, Int.reducePow, Int.reduceFDiv, Nat.reducePow, Nat.reduceSub, Nat.reduceMul, Nat.min_eq_left, Nat.reduceEqDiff, BEq.rfl, Int.tdiv_one, LN_succ]
    refine RetOK.pure (.inl rfl) rfl ?_
    simp [cvT, step, res]
  refine acall_run c70 (by simp [a70]) ?_
  simp -dsimp only [a70, aqT, aqU, aqN, ↓seqK, ↓blkK, ↓loopK, step, stepBin, Nat.reduceBEq, Nat.reduceBeqDiff, Nat.add_assoc nid, Nat.reduceAdd, reduceCtorEq, ↓reduceIte, Nat.reduceLeDiff, Nat.reduceBneDiff, Option.toList, ← Int.ofNat_tmod, ← Int.ofNat_tdiv, Nat.reduceLT]
  refine CallO.pure (hcf _) ?_
  simp -dsimp only [aqT, aqU, aqN, ↓seqK, ↓blkK, ↓loopK, step, stepBin, Nat.reduceBEq, Nat.reduceBeqDiff, Nat.add_assoc nid, Nat.reduceAdd, reduceCtorEq, ↓reduceIte, Nat.reduceLeDiff, Nat.reduceBneDiff, Option.toList, ← Int.ofNat_tmod, ← Int.ofNat_tdiv, Nat.reduceLT]
  refine RetOK.pure (.inl rfl) rfl ?_
  simp [cvT, step, res]
theorem tested_c (c : Int) (nid : Nat) : ACall Tryz.prog 79 [.int .u8 c] [] nid (.bool (isBinV c || c == 42)) [] := by
  refine acall_run c79 (by simp [a79]) ?_
  simp -dsimp only [a79, aqT, aqU, aqN, ↓seqK, ↓blkK, ↓loopK, step, stepBin, Nat.reduceBEq, Nat.reduceBeqDiff, Nat.add_assoc nid, Nat.reduceAdd, reduceCtorEq, ↓reduceIte, Nat.reduceLeDiff, Nat.reduceBneDiff, Option.toList, ← Int.ofNat_tmod, ← Int.ofNat_tdiv, Nat.reduceLT]
  refine CallO.pure (isBin_c _ _) ?_
  cases h0 : isBinV c <;> cases h1 : (c == 42) <;>
    simp -dsimp only [aqT, aqU, aqN, ↓seqK, ↓blkK, ↓loopK, step, stepBin, Nat.reduceBEq, Nat.reduceBeqDiff, Nat.add_assoc nid, Nat.reduceAdd, reduceCtorEq, ↓reduceIte, Nat.reduceLeDiff, Nat.reduceBneDiff, Option.toList, ← Int.ofNat_tmod, ← Int.ofNat_tdiv, Nat.reduceLT, h0, h1] <;> refine RetOK.pure (.inl rfl) rfl ?_ <;> simp [cvT, step, res]
theorem gcd12_c (nid : Nat) : ACall Tryz.prog 80 [.int .i64 1, .int .i64 2] [] nid (.int .i64 1) [] := by
  refine acall_run c80 (by simp [a80]) ?_
  simp -dsimp only [a80, aqT, aqU, aqN, ↓seqK, ↓blkK, ↓loopK, step, stepBin, Nat.reduceBEq, Nat.reduceBeqDiff, Nat.add_assoc nid, Nat.reduceAdd, reduceCtorEq, ↓reduceIte, Nat.reduceLeDiff, Nat.reduceBneDiff, Option.toList, ← Int.ofNat_tmod, ← Int.ofNat_tdiv, Nat.reduceLT]
  refine LP.rounds 5 ?_
  simp -dsimp only [aqT, aqU, aqN, ↓seqK, ↓blkK, ↓loopK, step, stepBin, Nat.reduceBEq, Nat.reduceBeqDiff, Nat.add_assoc nid, Nat.reduceAdd, reduceCtorEq, ↓reduceIte, Nat.reduceLeDiff, Nat.reduceBneDiff, Option.toList, ← Int.ofNat_tmod, ← Int.ofNat_tdiv, Nat.reduceLT, Int.cast_ofNat_Int, Int.reduceBEq, Int.reduceBNe, Int.reduceLT, Int.reduceLE, Int.reduceAdd, Int.reduceSub, Int.reduceMul, Int.reduceToNat, Int.reduceNeg, Int.reduceTMod, Int.reduceEq, not_false_eq_true, Int.reducePow, Int.reduceFDiv, Nat.reducePow, Nat.reduceSub, Nat.reduceMul, Nat.min_eq_left, Nat.reduceEqDiff, BEq.rfl, Int.tdiv_one, LN_succ]
  refine RetOK.pure (.inl rfl) rfl ?_
  simp [cvT, step, res]
theorem frac12_c (nid : Nat) : ACall Tryz.prog 46 [.int .i64 1, .int .i64 2] [] nid (.agg [.int .i64 1, .int .i64 2]) [] := by
  refine acall_run c46 (by simp [a46]) ?_
  simp -dsimp only [a46, aqT, aqU, aqN, ↓seqK, ↓blkK, ↓loopK, step, stepBin, Nat.reduceBEq, Nat.reduceBeqDiff, Nat.add_assoc nid, Nat.reduceAdd, reduceCtorEq, ↓reduceIte, Nat.reduceLeDiff, Nat.reduceBneDiff, Option.toList, ← Int.ofNat_tmod, ← Int.ofNat_tdiv, Nat.reduceLT, Int.cast_ofNat_Int, Int.reduceBEq, Int.reduceBNe, Int.reduceLT, Int.reduceLE, Int.reduceAdd, Int.reduceSub, Int.reduceMul, Int.reduceToNat, Int.reduceNeg, Int.reduceTMod, Int.reduceEq, not_false_eq_true, Int.reducePow, Int.reduceFDiv, Nat.reducePow, Nat.reduceSub, Nat.reduceMul, Nat.min_eq_left, Nat.reduceEqDiff, BEq.rfl, Int.tdiv_one, LN_succ]
  have hm : max (1 : Int) (-1) = 1 := by decide
  rw [hm]
  refine ⟨by unfold inI64; omega, CallO.pure (gcd12_c _) ?_⟩
  simp -dsimp only [aqT, aqU, aqN, ↓seqK, ↓blkK, ↓loopK, step, stepBin, Nat.reduceBEq, Nat.reduceBeqDiff, Nat.add_assoc nid, Nat.reduceAdd, reduceCtorEq, ↓reduceIte, Nat.reduceLeDiff, Nat.reduceBneDiff, Option.toList, ← Int.ofNat_tmod, ← Int.ofNat_tdiv, Nat.reduceLT, Int.cast_ofNat_Int, Int.reduceBEq, Int.reduceBNe, Int.reduceLT, Int.reduceLE, Int.reduceAdd, Int.reduceSub, Int.reduceMul, Int.reduceToNat, Int.reduceNeg, Int.reduceTMod, Int.reduceEq, not_false_eq_true, Int.reducePow, Int.reduceFDiv, Nat.reducePow, Nat.reduceSub, Nat.reduceMul, Nat.min_eq_left, Nat.reduceEqDiff, BEq.rfl, Int.tdiv_one, LN_succ]
  have h1 : IntKind.i64.wrap 1 = 1 := by decide
  have h2 : IntKind.i64.wrap 2 = 2 := by decide
  rw [h1, h2]
  refine RetOK.go [] [] (.inl rfl) ?_
  simp [a46, cvT, step, res]
theorem indexBS_c (s : List UInt8) (c : Int) (nid : Nat) : ACall Tryz.prog 102 [.str s, .int .u8 c] [] nid (.int .i64 (Lib.indexByte s c.toNat.toUInt8)) [] := by
  intro C vs hb hl hr hs
  obtain ⟨v0, v1, rfl⟩ : ∃ a b, vs = [a, b] := by
    rcases vs with _ | ⟨a, _ | ⟨b, _ | ⟨c, r⟩⟩⟩
    · simp at hl
    · simp at hl
    · exact ⟨a, b, rfl⟩
    · simp at hl
  have r0 := (hr 0 _ v0 rfl rfl).str_inv
  have r1 := (hr 1 _ v1 rfl rfl).int_inv
  subst r0; subst r1
  refine .inr ⟨.int .i64 (Lib.indexByte s c.toNat.toUInt8), C.w0, ?_, C.Y0, C.m0, .int, by simpa using hs.next (show nid ≤ nid + 4 by omega), Ev.refl _ _ _⟩
  rw [run_callFunc_extern (P := Tryz.prog) (f := 102) (fn := Tryz.f102) (e := Extern.BytealgIndexByte.indexByte) Tryz.func102 (by kernel_rfl) (by kernel_rfl) (by kernel_rfl) (by kernel_rfl)]
  have h := Lib.run_indexByteString (P := Tryz.prog) ⟨s.toArray⟩ c C.w0
  show ((Extern.BytealgIndexByte.indexByte #[.string ⟨s.toArray⟩, .int .u8 c]).run Tryz.prog C.w0).andThen _ = _
  rw [h]
  rfl
theorem indexB_c (s : List UInt8) (c : Int) (nid : Nat) : ACall Tryz.prog 69 [.str s, .int .u8 c] [] nid (.int .i64 (Lib.indexByte s c.toNat.toUInt8)) [] := by
  have h1 : ∀ nid, ACall Tryz.prog 87 [.str s, .int .u8 c] [] nid (.int .i64 (Lib.indexByte s c.toNat.toUInt8)) [] := fun nid => by
    refine acall_run c87 (by simp [a87]) ?_
    simp -dsimp only [a87, aqT, aqU, aqN, ↓seqK, ↓blkK, ↓loopK, step, stepBin, Nat.reduceBEq, Nat.reduceBeqDiff, Nat.add_assoc nid, Nat.reduceAdd, reduceCtorEq, ↓reduceIte, Nat.reduceLeDiff, Nat.reduceBneDiff, Option.toList, ← Int.ofNat_tmod, ← Int.ofNat_tdiv, Nat.reduceLT]
    refine CallO.pure (indexBS_c s c _) ?_
    simp -dsimp only [aqT, aqU, aqN, ↓seqK, ↓blkK, ↓loopK, step, stepBin, Nat.reduceBEq, Nat.reduceBeqDiff, Nat.add_assoc nid, Nat.reduceAdd, reduceCtorEq, ↓reduceIte, Nat.reduceLeDiff, Nat.reduceBneDiff, Option.toList, ← Int.ofNat_tmod, ← Int.ofNat_tdiv, Nat.reduceLT]
    refine RetOK.pure (.inl rfl) rfl ?_
    simp [cvT, step, res]
  refine acall_run c69 (by simp [a69]) ?_
  simp -dsimp only [a69, aqT, aqU, aqN, ↓seqK, ↓blkK, ↓loopK, step, stepBin, Nat.reduceBEq, Nat.reduceBeqDiff, Nat.add_assoc nid, Nat.reduceAdd, reduceCtorEq, ↓reduceIte, Nat.reduceLeDiff, Nat.reduceBneDiff, Option.toList, ← Int.ofNat_tmod, ← Int.ofNat_tdiv, Nat.reduceLT]
  refine CallO.pure (h1 _) ?_
  simp -dsimp only [aqT, aqU, aqN, ↓seqK, ↓blkK, ↓loopK, step, stepBin, Nat.reduceBEq, Nat.reduceBeqDiff, Nat.add_assoc nid, Nat.reduceAdd, reduceCtorEq, ↓reduceIte, Nat.reduceLeDiff, Nat.reduceBneDiff, Option.toList, ← Int.ofNat_tmod, ← Int.ofNat_tdiv, Nat.reduceLT]
  refine RetOK.pure (.inl rfl) rfl ?_
  simp [cvT, step, res]
def passedV (pass : List UInt8) (c : Int) : Bool := isBinV c && decide (0 ≤ Lib.indexByte pass c.toNat.toUInt8)
theorem passed_c (rows : PV) (pass : List UInt8) (c : Int) (nid : Nat) (nl : Bool) (n : Nat) (cols : List Col) (hr : rows = .lit nl n cols) : ACall Tryz.prog 42 [.agg [rows, .str pass], .int .u8 c] [] nid (.bool (passedV pass c)) [] := by
  subst hr
  refine acall_run c42 (by simp [a42]) ?_
  simp -dsimp only [a42, aqT, aqU, aqN, ↓seqK, ↓blkK, ↓loopK, step, stepBin, Nat.reduceBEq, Nat.reduceBeqDiff, Nat.add_assoc nid, Nat.reduceAdd, reduceCtorEq, ↓reduceIte, Nat.reduceLeDiff, Nat.reduceBneDiff, Option.toList, ← Int.ofNat_tmod, ← Int.ofNat_tdiv, Nat.reduceLT]
  refine CallO.pure (isBin_c _ _) ?_
  unfold passedV
  simp -dsimp only [aqT, aqU, aqN, ↓seqK, ↓blkK, ↓loopK, step, stepBin, Nat.reduceBEq, Nat.reduceBeqDiff, Nat.add_assoc nid, Nat.reduceAdd, reduceCtorEq, ↓reduceIte, Nat.reduceLeDiff, Nat.reduceBneDiff, Option.toList, ← Int.ofNat_tmod, ← Int.ofNat_tdiv, Nat.reduceLT]
  cases h0 : isBinV c <;> simp -dsimp only [aqT, aqU, aqN, ↓seqK, ↓blkK, ↓loopK, step, stepBin, Nat.reduceBEq, Nat.reduceBeqDiff, Nat.add_assoc nid, Nat.reduceAdd, reduceCtorEq, ↓reduceIte, Nat.reduceLeDiff, Nat.reduceBneDiff, Option.toList, ← Int.ofNat_tmod, ← Int.ofNat_tdiv, Nat.reduceLT]
  · refine RetOK.pure (.inl rfl) rfl ?_
    simp [cvT, step, res]
  · refine CallO.pure (indexB_c _ _ _) ?_
    simp -dsimp only [aqT, aqU, aqN, ↓seqK, ↓blkK, ↓loopK, step, stepBin, Nat.reduceBEq, Nat.reduceBeqDiff, Nat.add_assoc nid, Nat.reduceAdd, reduceCtorEq, ↓reduceIte, Nat.reduceLeDiff, Nat.reduceBneDiff, Option.toList, ← Int.ofNat_tmod, ← Int.ofNat_tdiv, Nat.reduceLT]
    refine RetOK.pure (.inl rfl) rfl ?_
    simp [cvT, step, res]
end Go.Proofs.YtmgfcjblclanmaaGreat
namespace Go.Proofs.YtmgfcjblclanmaaGreat
structure Waf where
  rows : List (List UInt8)
  pass : List UInt8
deriving DecidableEq
def byteI (b : UInt8) : Int := (b.toNat : Nat)
def wideOf (W : Waf) : Nat := (W.rows.getD 0 []).length
def dieV (W : Waf) (x y : Int) : Int := if outB y 0 ((W.rows.length : Int) - 1) = true then 46 else if outB x 0 ((wideOf W : Int) - 1) = true then 46 else byteI ((W.rows.getD y.toNat []).getD x.toNat 0)
def oddB (r : List UInt8) : Bool := r.any fun c => !placeB (byteI c)
def rowBad (wide : Nat) (r : List UInt8) : Int := if r = [] then 8 else if 60 < r.length then 2 else if r.length ≠ wide then 3 else if oddB r = true then 9 else 0
def passBad (p : List UInt8) (i : Nat) : Int := if isBinV (byteI (p.getD i 0)) = false then 9 else if 0 < i ∧ byteI (p.getD i 0) ≤ byteI (p.getD (i - 1) 0) then 7 else 0
def passV (p : List UInt8) : Int := firstBad (passBad p) (List.range p.length)
def waferV (W : Waf) : Int := if W.rows.length = 0 then 8 else if 60 < W.rows.length then 2 else if firstBad (rowBad (wideOf W)) W.rows ≠ 0 then firstBad (rowBad (wideOf W)) W.rows else passV W.pass
structure WafOk (W : Waf) : Prop where
  pos : 0 < W.rows.length
  len : W.rows.length ≤ 60
  row : ∀ r ∈ W.rows, r ≠ [] ∧ r.length ≤ 60 ∧ r.length = wideOf W ∧ oddB r = false
  bins : ∀ b ∈ W.pass, isBinV (byteI b) = true
theorem waferV_ok {W : Waf} (h : waferV W = 0) : WafOk W := by
  unfold waferV at h
  split at h; · cases h
  split at h; · cases h
  split at h; · contradiction
  rename_i h1 h2 h3
  have h3' : firstBad (rowBad (wideOf W)) W.rows = 0 := by simpa using h3
  refine ⟨by omega, by omega, fun r hr => ?_, fun b hb => ?_⟩
  · have := firstBad_all h3' r hr
    unfold rowBad at this
    split at this; · cases this
    split at this; · cases this
    split at this; · cases this
    split at this; · cases this
    rename_i a1 a2 a3 a4
    exact ⟨a1, by omega, by omega, by simpa using a4⟩
  · obtain ⟨i, hi, rfl⟩ := List.getElem_of_mem hb
    have := firstBad_all (f := passBad W.pass) h i (List.mem_range.2 hi)
    unfold passBad at this
    split at this; · cases this
    rename_i a1
    rw [List.getD_eq_getElem?_getD, List.getElem?_eq_getElem hi] at a1
    simpa using a1
theorem WafOk.wide {W : Waf} (h : WafOk W) : 0 < wideOf W ∧ wideOf W ≤ 60 := by
  have hm : W.rows.getD 0 [] ∈ W.rows := by
    rw [List.getD_eq_getElem?_getD, List.getElem?_eq_getElem h.pos]; exact List.getElem_mem _
  obtain ⟨h1, h2, h3, _⟩ := h.row _ hm
  have : 0 < (W.rows.getD 0 []).length := List.length_pos_iff.2 h1
  exact ⟨this, h2⟩
theorem WafOk.at {W : Waf} (h : WafOk W) {y : Nat} (hy : y < W.rows.length) : (W.rows.getD y []).length = wideOf W ∧ oddB (W.rows.getD y []) = false := by
  have hm : W.rows.getD y [] ∈ W.rows := by
    rw [List.getD_eq_getElem?_getD, List.getElem?_eq_getElem hy]; exact List.getElem_mem _
  exact (h.row _ hm).2.2
def rowPl (y n : Nat) : List Pt := (List.range n).map fun x => (((x : Nat) : Int), ((y : Nat) : Int))
def plTo (W : Waf) (y : Nat) : List Pt := (List.range y).flatMap fun y => rowPl y (W.rows.getD y []).length
def plV (W : Waf) : List Pt := plTo W W.rows.length
theorem rowPl_len (y n : Nat) : (rowPl y n).length = n := by simp [rowPl]
theorem rowPl_succ (y n : Nat) : rowPl y (n + 1) = rowPl y n ++ [((n : Int), (y : Int))] := by simp [rowPl, List.range_succ]
theorem plTo_succ (W : Waf) (y : Nat) : plTo W (y + 1) = plTo W y ++ rowPl y (W.rows.getD y []).length := by simp [plTo, List.range_succ]
theorem plTo_len {W : Waf} (h : ∀ r ∈ W.rows, r.length ≤ 1000) : ∀ y, y ≤ W.rows.length → (plTo W y).length ≤ 1000 * y
  | 0, _ => by simp [plTo]
  | y + 1, hy => by
    have := plTo_len h y (by omega)
    have hm : W.rows.getD y [] ∈ W.rows := by
      rw [List.getD_eq_getElem?_getD, List.getElem?_eq_getElem (by omega : y < W.rows.length)]; exact List.getElem_mem _
    have := h _ hm
    rw [plTo_succ, List.length_append, rowPl_len]
    omega
theorem plV_mem {W : Waf} {p : Pt} (h : p ∈ plV W) : ∃ x y : Nat, p = ((x : Int), (y : Int)) ∧ y < W.rows.length ∧ x < (W.rows.getD y []).length := by
  unfold plV plTo rowPl at h
  rw [List.mem_flatMap] at h
  obtain ⟨y, hy, h⟩ := h
  rw [List.mem_map] at h
  obtain ⟨x, hx, rfl⟩ := h
  exact ⟨x, y, rfl, List.mem_range.1 hy, List.mem_range.1 hx⟩
theorem dieV_in {W : Waf} {x y : Nat} (hy : y < W.rows.length) (hx : x < wideOf W) : dieV W (x : Int) (y : Int) = byteI ((W.rows.getD y []).getD x 0) := by
  unfold dieV outB
  rw [if_neg (by simp; omega), if_neg (by simp; omega), Int.toNat_natCast, Int.toNat_natCast]
def binsL : List UInt8 := [48, 49, 50, 51, 52, 53, 54, 55, 56, 57, 97, 98, 99, 100, 101, 102, 103, 104, 105, 106, 107, 108, 109, 110, 111, 112, 113, 114, 115, 116, 117, 118, 119, 120, 121, 122]
theorem bins_all : ((List.range 256).all fun n => decide (0 ≤ Lib.indexByte binsL n.toUInt8) == isBinV (n : Int)) = true := by kernel_rfl
theorem bins_ok (n : Nat) (hn : n < 256) : decide (0 ≤ Lib.indexByte binsL n.toUInt8) = isBinV (n : Int) := by
  have := List.all_eq_true.1 bins_all n (List.mem_range.2 hn)
  exact beq_iff_eq.1 this
theorem binsS_all : ((List.range 256).all fun n => decide (0 ≤ Lib.indexByte (binsL ++ [42]) n.toUInt8) == (isBinV (n : Int) || (n : Int) == 42)) = true := by kernel_rfl
theorem binsS_ok (n : Nat) (hn : n < 256) : decide (0 ≤ Lib.indexByte (binsL ++ [42]) n.toUInt8) = (isBinV (n : Int) || (n : Int) == 42) := by
  have := List.all_eq_true.1 binsS_all n (List.mem_range.2 hn)
  exact beq_iff_eq.1 this
def testedV (c : Int) : Bool := isBinV c || c == 42
def failedV (pass : List UInt8) (c : Int) : Bool := isBinV c && !passedV pass c
theorem indexByte_pos {l : List UInt8} {c : UInt8} : 0 ≤ Lib.indexByte l c ↔ c ∈ l := by
  induction l with
  | nil => simp [Lib.indexByte]
  | cons b l ih =>
    have hg := Lib.indexByte_ge l c
    simp only [Lib.indexByte, List.mem_cons]
    by_cases h : b = c
    · simp [h]
    · have h1 : (b == c) = false := by simpa using h
      have h2 : ¬ c = b := fun e => h e.symm
      simp only [h1, Bool.false_eq_true, if_false, h2, false_or]
      split
      · rename_i h3
        have : Lib.indexByte l c = -1 := by simpa using h3
        rw [← ih]
        omega
      · rename_i h3
        have : Lib.indexByte l c ≠ -1 := by simpa using h3
        rw [← ih]
        omega
theorem WafOk.passed {W : Waf} (h : WafOk W) {n : Nat} (hn : n < 256) : decide (0 ≤ Lib.indexByte W.pass n.toUInt8) = passedV W.pass (n : Int) := by
  unfold passedV
  rw [Int.toNat_natCast]
  cases hb : isBinV (n : Int)
  · simp only [Bool.false_and, decide_eq_false_iff_not]
    intro hp
    have hm := h.bins _ (indexByte_pos.1 hp)
    unfold byteI at hm
    rw [show (n.toUInt8).toNat = n by simp [Nat.toUInt8]; omega] at hm
    rw [hb] at hm
    cases hm
  · simp
end Go.Proofs.YtmgfcjblclanmaaGreat
namespace Go.Proofs.YtmgfcjblclanmaaGreat
open Go.RowKit
theorem some_c (s nid : Nat) (nl nl' : Bool) (A : List Int) (p : Nat) (n : Nat) (g : Nat → List UInt8) (h : s < nid) (hp : p ≤ 1099511627775) (hA : A.length ≤ 17592186044416) (h1 : 0 < n) (hn : n ≤ 1099511627776) :
    ACall Tryz.prog 25 [.ptr s 0, .lit nl' n [.s g]] [(s, strmC nl A p)] nid (.str (g (pickI A p n))) [(s, strmC nl A (p + 1))] := by
  obtain ⟨e1, e2, e3, e4, e5, e6, e7, e8, e9⟩ := id_all h
  refine acall_run c25 (by simp [a25]) ?_
  simp -dsimp only [aqT, aqU, aqN, ↓seqK, ↓blkK, ↓loopK, step, stepBin, Nat.reduceBEq, Nat.reduceBeqDiff, Nat.add_assoc nid, Nat.reduceAdd, reduceCtorEq, ↓reduceIte, Nat.reduceLeDiff, Nat.reduceBneDiff, Option.toList, ← Int.ofNat_tmod, ← Int.ofNat_tdiv, Nat.reduceLT, e1, e2, e3, e4, e5, e6, e7, e8, e9, a25]
  refine CallO.on (next_c _ _ _ _ _ _ (by omega) hp hA (by omega)) (subH_hit _ _ _) ?_
  simp -dsimp only [aqT, aqU, aqN, ↓seqK, ↓blkK, ↓loopK, step, stepBin, Nat.reduceBEq, Nat.reduceBeqDiff, Nat.add_assoc nid, Nat.reduceAdd, reduceCtorEq, ↓reduceIte, Nat.reduceLeDiff, Nat.reduceBneDiff, Option.toList, ← Int.ofNat_tmod, ← Int.ofNat_tdiv, Nat.reduceLT, e1, e2, e3, e4, e5, e6, e7, e8, e9]
  have := nextV_bd A p (n := (n : Int)) (by omega)
  refine ⟨this, RetOK.same (.inl rfl) rfl (by simp [strmC, liveIds]; omega) ?_ ?_⟩
  · simp [cvT, step, res, strmC]
  · simp [cvT, step, res, pickI]
theorem CallX.some_go {s id nid : Nat} {nl : Bool} {A : List Int} {p : Nat} {n T : Nat} {g : Nat → List UInt8} {H : Heap} {K : PV → Heap → List Nat → Prop} (hs : getH H s = strmC nl A p) (hid : getH H id = some (.arr T n [.s g])) (hne : (s == id) = false) (h : s < nid) (hp : p ≤ 1099511627775) (hA : A.length ≤ 17592186044416) (h1 : 0 < n) (hn : n ≤ 1099511627776)
    (hK : K (.str (g (pickI A p n))) [(s, strmC nl A (p + 1)), (id, none)] [s, id]) : CallX Tryz.prog 25 [.ptr s 0, .sl id 0 n] H nid K := by
  refine CallX.given [id] (u := [(s, strmC nl A (p + 1))]) (fun nl' => ?_) (subH_get hs) (by simp [getH, hne]) hK
  have e : lends H [id] nl' [.ptr s 0, .sl id 0 n] = [.ptr s 0, .lit (nl' id) n [.s g]] := by simp [lends, lend, hid, noOs]
  rw [e]
  exact some_c s _ nl _ A p n _ h hp hA h1 hn
theorem CallO.some_go {s id nid : Nat} {nl : Bool} {A : List Int} {p : Nat} {n T : Nat} {g : Nat → List UInt8} {H : Heap} {K : PV → Heap → Prop} (hs : getH H s = strmC nl A p) (hid : getH H id = some (.arr T n [.s g])) (hne : (s == id) = false) (h : s < nid) (hp : p ≤ 1099511627775) (hA : A.length ≤ 17592186044416) (h1 : 0 < n) (hn : n ≤ 1099511627776)
    (hK : K (.str (g (pickI A p n))) [(s, strmC nl A (p + 1)), (id, none)]) : CallOK Tryz.prog 25 [.ptr s 0, .sl id 0 n] H nid K :=
  CallO.x (CallX.some_go hs hid hne h hp hA h1 hn hK)
theorem getD_all {α : Type} {P : α → Prop} {l : List α} {d : α} (h : ∀ x ∈ l, P x) {i : Nat} (hi : i < l.length) : P (l.getD i d) := by
  rw [List.getD_eq_getElem?_getD, List.getElem?_eq_getElem hi]
  exact h _ (List.getElem_mem _)
end Go.Proofs.YtmgfcjblclanmaaGreat
namespace Go.Proofs.YtmgfcjblclanmaaGreat
open Go.RowKit
theorem any_range {s : List UInt8} {F : UInt8 → Bool} : (List.range s.length).any (fun i => F (s.getD i 0)) = s.any F := by
  rw [Bool.eq_iff_iff, List.any_eq_true, List.any_eq_true]
  constructor
  · rintro ⟨i, hi, h⟩
    have hi' := List.mem_range.1 hi
    refine ⟨s[i], List.getElem_mem _, ?_⟩
    rwa [List.getD_eq_getElem?_getD, List.getElem?_eq_getElem hi'] at h
  · rintro ⟨x, hx, h⟩
    obtain ⟨i, hi, rfl⟩ := List.getElem_of_mem hx
    refine ⟨i, List.mem_range.2 hi, ?_⟩
    rw [List.getD_eq_getElem?_getD, List.getElem?_eq_getElem hi]
    exact h
theorem indexFB (f : Nat) (F : UInt8 → Bool) (hf : ∀ (b : UInt8) nid, ACall Tryz.prog f [.int .u8 ((b.toNat : Nat))] [] nid (.bool (F b)) []) (nl : Bool) (n : Nat) (g : Nat → UInt8) (nid : Nat) (hn : n ≤ 1000000000) :
    ∃ r : Int, (-1 ≤ r ∧ (0 ≤ r ↔ (List.range n).any (fun i => F (g i)) = true)) ∧ ACall Tryz.prog 68 [.lit nl n [.i .u8 fun i => ((g i).toNat : Nat)], .fn f []] [] nid (.int .i64 r) [] := by
  refine acall_ex c68 (by simp [a68]) ?_
  simp -dsimp only [aqT0, ROp0, aqT, aqU, aqN, aqS, ↓seqK, ↓blkK, ↓loopK, step, stepBin, Nat.add_assoc nid, ↓reduceIte, Option.toList, ← Int.ofNat_tmod, ← Int.ofNat_tdiv, simprocAttr, BEq.rfl, LN_succ, a68]
  refine LP0.mkP (fun k : Nat => k ≤ n ∧ ∀ j, j < k → F (g j) = false) (fun k : Nat => ⟨[(8, .int .i64 k), (7, .int .i64 n), (0, .lit nl n [.i .u8 fun i => ((g i).toNat : Nat)]), (1, .fn f [])], [], nid + 100, nid⟩) (fun k => n + 1 - k) 0 ⟨by omega, fun j hj => by omega⟩ (Cov.go [] [] ?_) (fun k hk => ?_)
  · simp [cvT, step, res]
  obtain ⟨hk, hall⟩ := hk
  simp -dsimp only [aqT0, ROp0, aqT, aqU, aqN, aqS, ↓seqK, ↓blkK, ↓loopK, step, stepBin, Nat.add_assoc nid, ↓reduceIte, Option.toList, ← Int.ofNat_tmod, ← Int.ofNat_tdiv, simprocAttr, BEq.rfl, LN_succ]
  refine S2.dec (fun h3 => ?_) (fun h3 => ?_) <;> simp -dsimp only [aqT0, ROp0, aqT, aqU, aqN, aqS, ↓seqK, ↓blkK, ↓loopK, step, stepBin, Nat.add_assoc nid, ↓reduceIte, Option.toList, ← Int.ofNat_tmod, ← Int.ofNat_tdiv, simprocAttr, BEq.rfl, LN_succ]
  · have hkl : k < n := by omega
    refine ⟨by omega, CallX.pure (hf _ _) ?_⟩
    simp -dsimp only [aqT0, ROp0, aqT, aqU, aqN, aqS, ↓seqK, ↓blkK, ↓loopK, step, stepBin, Nat.add_assoc nid, ↓reduceIte, Option.toList, ← Int.ofNat_tmod, ← Int.ofNat_tdiv, simprocAttr, BEq.rfl, LN_succ]
    refine S2.intro (fun h4 => ?_) (fun h4 => ?_) <;> simp -dsimp only [aqT0, ROp0, aqT, aqU, aqN, aqS, ↓seqK, ↓blkK, ↓loopK, step, stepBin, Nat.add_assoc nid, ↓reduceIte, Option.toList, ← Int.ofNat_tmod, ← Int.ofNat_tdiv, simprocAttr, BEq.rfl, LN_succ]
    · refine EndOK.mk (k : Int) ⟨by omega, ⟨fun _ => List.any_eq_true.2 ⟨k, List.mem_range.2 hkl, h4⟩, fun _ => by omega⟩⟩ ?_
      refine RetOK.pure (.inl rfl) rfl ?_
      simp [cvT, step, res]
    · refine ⟨by unfold inI64; omega, k + 1, ⟨⟨by omega, fun j hj => ?_⟩, by omega⟩, Cov.go [] [] ?_⟩
      · rcases (by omega : j < k ∨ j = k) with hj | hj
        · exact hall j hj
        · rw [hj]; exact h4
      · simp [cvT, step, res]
  · have hkn : k = n := by omega
    subst hkn
    refine EndOK.mk (-1 : Int) ⟨by omega, ⟨fun h => by omega, fun h => ?_⟩⟩ ?_
    · obtain ⟨i, hi, h⟩ := List.any_eq_true.1 h
      rw [hall i (List.mem_range.1 hi)] at h
      cases h
    · refine RetOK.pure (.inl rfl) rfl ?_
      simp [cvT, step, res]
theorem containsFB (f : Nat) (F : UInt8 → Bool) (hf : ∀ (b : UInt8) nid, ACall Tryz.prog f [.int .u8 ((b.toNat : Nat))] [] nid (.bool (F b)) []) (nl : Bool) (n : Nat) (g : Nat → UInt8) (nid : Nat) (hn : n ≤ 1000000000) :
    ACall Tryz.prog 28 [.lit nl n [.i .u8 fun i => ((g i).toNat : Nat)], .fn f []] [] nid (.bool ((List.range n).any (fun i => F (g i)))) [] := by
  refine acall_run c28 (by simp [a28]) ?_
  simp -dsimp only [aqT, aqU, aqN, ↓seqK, ↓blkK, ↓loopK, step, stepBin, Nat.reduceBEq, Nat.reduceBeqDiff, Nat.add_assoc nid, Nat.reduceAdd, reduceCtorEq, ↓reduceIte, Nat.reduceLeDiff, Nat.reduceBneDiff, Option.toList, ← Int.ofNat_tmod, ← Int.ofNat_tdiv, Nat.reduceLT, a28]
  refine CallO.onE (Hs := []) (indexFB f F hf nl n g _ hn) (subH_nil _) (fun r hr => ?_)
  simp -dsimp only [aqT, aqU, aqN, aqS, ↓seqK, ↓blkK, ↓loopK, step, stepBin, Nat.add_assoc nid, ↓reduceIte, Option.toList, ← Int.ofNat_tmod, ← Int.ofNat_tdiv, simprocAttr, BEq.rfl, LN_succ]
  have e : decide (0 ≤ r) = (List.range n).any (fun i => F (g i)) := by
    rw [Bool.eq_iff_iff, decide_eq_true_eq]; exact hr.2
  rw [e]
  refine RetOK.pure (.inl rfl) rfl ?_
  simp [cvT, step, res]
theorem isDie_c (n : Nat) (hn : n < 256) (nid : Nat) : ACall Tryz.prog 30 [.int .u8 (n : Nat)] [] nid (.bool (placeB (n : Nat))) [] := by
  refine acall_run c30 (by simp [a30]) ?_
  simp -dsimp only [aqT, aqU, aqN, ↓seqK, ↓blkK, ↓loopK, step, stepBin, Nat.reduceBEq, Nat.reduceBeqDiff, Nat.add_assoc nid, Nat.reduceAdd, reduceCtorEq, ↓reduceIte, Nat.reduceLeDiff, Nat.reduceBneDiff, Option.toList, ← Int.ofNat_tmod, ← Int.ofNat_tdiv, Nat.reduceLT, a30]
  refine CallO.pure (indexB_c binsL (n : Nat) _) ?_
  have hb := bins_ok n hn
  rw [Int.toNat_natCast]
  simp -dsimp only [aqT, aqU, aqN, ↓seqK, ↓blkK, ↓loopK, step, stepBin, Nat.reduceBEq, Nat.reduceBeqDiff, Nat.add_assoc nid, Nat.reduceAdd, reduceCtorEq, ↓reduceIte, Nat.reduceLeDiff, Nat.reduceBneDiff, Option.toList, ← Int.ofNat_tmod, ← Int.ofNat_tdiv, Nat.reduceLT, hb]
  unfold placeB
  cases h0 : isBinV (n : Nat) <;> simp -dsimp only [aqT, aqU, aqN, ↓seqK, ↓blkK, ↓loopK, step, stepBin, Nat.reduceBEq, Nat.reduceBeqDiff, Nat.add_assoc nid, Nat.reduceAdd, reduceCtorEq, ↓reduceIte, Nat.reduceLeDiff, Nat.reduceBneDiff, Option.toList, ← Int.ofNat_tmod, ← Int.ofNat_tdiv, Nat.reduceLT]
  · cases h1 : (((n : Nat) : Int) == 46) <;> simp -dsimp only [aqT, aqU, aqN, ↓seqK, ↓blkK, ↓loopK, step, stepBin, Nat.reduceBEq, Nat.reduceBeqDiff, Nat.add_assoc nid, Nat.reduceAdd, reduceCtorEq, ↓reduceIte, Nat.reduceLeDiff, Nat.reduceBneDiff, Option.toList, ← Int.ofNat_tmod, ← Int.ofNat_tdiv, Nat.reduceLT, h1]
    · cases h2 : (((n : Nat) : Int) == 63) <;> simp -dsimp only [aqT, aqU, aqN, ↓seqK, ↓blkK, ↓loopK, step, stepBin, Nat.reduceBEq, Nat.reduceBeqDiff, Nat.add_assoc nid, Nat.reduceAdd, reduceCtorEq, ↓reduceIte, Nat.reduceLeDiff, Nat.reduceBneDiff, Option.toList, ← Int.ofNat_tmod, ← Int.ofNat_tdiv, Nat.reduceLT, h2] <;> refine RetOK.pure (.inl rfl) rfl ?_ <;> simp [cvT, step, res, h1, h2]
    · refine RetOK.pure (.inl rfl) rfl ?_
      simp [cvT, step, res]
  · refine RetOK.pure (.inl rfl) rfl ?_
    simp [cvT, step, res]
def wafP (nl : Bool) (W : Waf) : PV := .agg [.lit nl W.rows.length [.s fun i => W.rows.getD i []], .str W.pass]
theorem odd_c2 (s : List UInt8) (nid : Nat) (hs : s.length ≤ 1000000000) : ACall Tryz.prog 70 [.str s] [] nid (.bool (oddB s)) [] := by
  refine acall_run c70 (by simp [a70]) ?_
  simp -dsimp only [aqT, aqU, aqN, ↓seqK, ↓blkK, ↓loopK, step, stepBin, Nat.reduceBEq, Nat.reduceBeqDiff, Nat.add_assoc nid, Nat.reduceAdd, reduceCtorEq, ↓reduceIte, Nat.reduceLeDiff, Nat.reduceBneDiff, Option.toList, ← Int.ofNat_tmod, ← Int.ofNat_tdiv, Nat.reduceLT, a70]
  refine CallO.pure (containsFB 88 (fun c => !placeB (byteI c)) (fun c nid => oddF_c _ nid) false s.length (fun i => s.getD i 0) _ hs) ?_
  have e : (List.range s.length).any (fun i => !placeB (byteI (s.getD i 0))) = oddB s := any_range (F := fun c => !placeB (byteI c))
  rw [e]
  simp -dsimp only [aqT, aqU, aqN, aqS, ↓seqK, ↓blkK, ↓loopK, step, stepBin, Nat.add_assoc nid, ↓reduceIte, Option.toList, ← Int.ofNat_tmod, ← Int.ofNat_tdiv, simprocAttr, BEq.rfl, LN_succ]
  refine RetOK.pure (.inl rfl) rfl ?_
  simp [cvT, step, res]
structure WafBd (W : Waf) : Prop where
  rows : W.rows.length ≤ 1000000
  row : ∀ r ∈ W.rows, r.length ≤ 1000000
  pass : W.pass.length ≤ 1000000
theorem WafBd.at {W : Waf} (h : WafBd W) (k : Nat) : (W.rows.getD k []).length ≤ 1000000 := by
  rw [List.getD_eq_getElem?_getD]
  cases hg : W.rows[k]? with
  | none => simp
  | some x => exact h.row x (List.mem_of_getElem? hg)
theorem waferV_row {W : Waf} (h0 : W.rows.length ≠ 0) (h1 : W.rows.length ≤ 60) {e : Int} (h : firstBad (rowBad (wideOf W)) W.rows = e) (he : e ≠ 0) : waferV W = e := by
  unfold waferV; rw [if_neg h0, if_neg (by omega), h, if_pos he]
theorem waferV_pass {W : Waf} (h0 : W.rows.length ≠ 0) (h1 : W.rows.length ≤ 60) (h : firstBad (rowBad (wideOf W)) W.rows = 0) : waferV W = passV W.pass := by
  unfold waferV; rw [if_neg h0, if_neg (by omega), h, if_neg (by simp)]
set_option maxHeartbeats 4000000 in
theorem checkWafer_all (nl : Bool) (W : Waf) (nid : Nat) (hW : WafBd W) : ACall Tryz.prog 32 [wafP nl W] [] nid (.int .i64 (waferV W)) [] := by
  have hR := hW.rows
  have hP := hW.pass
  refine acall_run c32 (by simp [a32]) ?_
  unfold wafP
  simp -dsimp only [a32, aqT, aqU, aqN, aqS, ↓seqK, ↓blkK, ↓loopK, step, stepBin, Nat.add_assoc nid, ↓reduceIte, Option.toList, ← Int.ofNat_tmod, ← Int.ofNat_tdiv, simprocAttr, BEq.rfl, LN_succ]
  refine S2.intro (fun h0 => ?_) (fun h0 => ?_) <;> simp -dsimp only [aqT, aqU, aqN, aqS, ↓seqK, ↓blkK, ↓loopK, step, stepBin, Nat.add_assoc nid, ↓reduceIte, Option.toList, ← Int.ofNat_tmod, ← Int.ofNat_tdiv, simprocAttr, BEq.rfl, LN_succ]
  · have e : waferV W = 8 := by unfold waferV; rw [if_pos (by simpa using h0)]
    rw [e]
    refine RetOK.pure (.inl rfl) rfl ?_
    simp [cvT, step, res]
  have h0' : W.rows.length ≠ 0 := by simpa using h0
  refine S2.dec (fun h1 => ?_) (fun h1 => ?_) <;> simp -dsimp only [aqT, aqU, aqN, aqS, ↓seqK, ↓blkK, ↓loopK, step, stepBin, Nat.add_assoc nid, ↓reduceIte, Option.toList, ← Int.ofNat_tmod, ← Int.ofNat_tdiv, simprocAttr, BEq.rfl, LN_succ]
  · have e : waferV W = 2 := by unfold waferV; rw [if_neg h0', if_pos (by omega)]
    rw [e]
    refine RetOK.pure (.inl rfl) rfl ?_
    simp [cvT, step, res]
  have h1' : W.rows.length ≤ 60 := by omega
  refine LP.mkP (fun k : Nat => k ≤ W.rows.length ∧ firstBad (rowBad (wideOf W)) (W.rows.take k) = 0) (fun k : Nat => ⟨[(19, .int .i64 k), (18, .int .i64 W.rows.length), (17, .lit nl W.rows.length [.s fun i => W.rows.getD i []]), (1, .ptr nid 0)], [(nid, some (.box 28 [.lit nl W.rows.length [.s fun i => W.rows.getD i []], .str W.pass]))], nid + 100, nid⟩) (fun k => W.rows.length + 1 - k) 0 ⟨by omega, rfl⟩ (Cov.go [] [] ?_) (fun k hk => ?_)
  · simp [cvT, step, res]
  obtain ⟨hk, hb⟩ := hk
  simp -dsimp only [aqT, aqU, aqN, aqS, ↓seqK, ↓blkK, ↓loopK, step, stepBin, Nat.add_assoc nid, ↓reduceIte, Option.toList, ← Int.ofNat_tmod, ← Int.ofNat_tdiv, simprocAttr, BEq.rfl, LN_succ]
  refine S2.dec (fun h2 => ?_) (fun h2 => ?_) <;> simp -dsimp only [aqT, aqU, aqN, aqS, ↓seqK, ↓blkK, ↓loopK, step, stepBin, Nat.add_assoc nid, ↓reduceIte, Option.toList, ← Int.ofNat_tmod, ← Int.ofNat_tdiv, simprocAttr, BEq.rfl, LN_succ]
  · have hkl : k < W.rows.length := by omega
    obtain ⟨bad, good⟩ := rowsFB (d := []) hkl hb
    have hrl := hW.at k
    have hw0 : wideOf W = (W.rows.getD 0 []).length := rfl
    generalize hr : W.rows.getD k [] = r at *
    rw [beq_nil]
    have bad' : ∀ e : Int, rowBad (wideOf W) r = e → e ≠ 0 → waferV W = e := fun e h3 he => waferV_row h0' h1' (by rw [bad (by rw [h3]; exact he), h3]) he
    refine ⟨by omega, S2.dec (fun h3 => ?_) (fun h3 => ?_)⟩ <;> simp -dsimp only [aqT, aqU, aqN, aqS, ↓seqK, ↓blkK, ↓loopK, step, stepBin, Nat.add_assoc nid, ↓reduceIte, Option.toList, ← Int.ofNat_tmod, ← Int.ofNat_tdiv, simprocAttr, BEq.rfl, LN_succ]
    · rw [bad' 8 (by unfold rowBad; rw [if_pos h3]) (by decide)]
      refine RetOK.pure (.inl rfl) rfl ?_
      simp [cvT, step, res]
    refine S2.dec (fun h4 => ?_) (fun h4 => ?_) <;> simp -dsimp only [aqT, aqU, aqN, aqS, ↓seqK, ↓blkK, ↓loopK, step, stepBin, Nat.add_assoc nid, ↓reduceIte, Option.toList, ← Int.ofNat_tmod, ← Int.ofNat_tdiv, simprocAttr, BEq.rfl, LN_succ]
    · rw [bad' 2 (by unfold rowBad; rw [if_neg h3, if_pos (by omega)]) (by decide)]
      refine RetOK.pure (.inl rfl) rfl ?_
      simp [cvT, step, res]
    refine ⟨by omega, S2.intro (fun h5 => ?_) (fun h5 => ?_)⟩ <;> simp -dsimp only [aqT, aqU, aqN, aqS, ↓seqK, ↓blkK, ↓loopK, step, stepBin, Nat.add_assoc nid, ↓reduceIte, Option.toList, ← Int.ofNat_tmod, ← Int.ofNat_tdiv, simprocAttr, BEq.rfl, LN_succ]
    · have h5' : r.length ≠ wideOf W := by rw [hw0]; intro e; rw [e] at h5; simp at h5
      rw [bad' 3 (by unfold rowBad; rw [if_neg h3, if_neg (by omega), if_pos h5']) (by decide)]
      refine RetOK.pure (.inl rfl) rfl ?_
      simp [cvT, step, res]
    have h5' : r.length = wideOf W := by
      have h5a : ((r.length : Nat) : Int) = ((W.rows.getD 0 []).length : Nat) := by simpa only [bne_eq_false_iff_eq] using h5
      rw [hw0]; omega
    refine CallO.pure (odd_c2 r _ (by omega)) ?_
    simp -dsimp only [aqT, aqU, aqN, aqS, ↓seqK, ↓blkK, ↓loopK, step, stepBin, Nat.add_assoc nid, ↓reduceIte, Option.toList, ← Int.ofNat_tmod, ← Int.ofNat_tdiv, simprocAttr, BEq.rfl, LN_succ]
    refine S2.intro (fun h6 => ?_) (fun h6 => ?_) <;> simp -dsimp only [aqT, aqU, aqN, aqS, ↓seqK, ↓blkK, ↓loopK, step, stepBin, Nat.add_assoc nid, ↓reduceIte, Option.toList, ← Int.ofNat_tmod, ← Int.ofNat_tdiv, simprocAttr, BEq.rfl, LN_succ]
    · rw [bad' 9 (by unfold rowBad; rw [if_neg h3, if_neg (by omega), if_neg (by omega), if_pos h6]) (by decide)]
      refine RetOK.pure (.inl rfl) rfl ?_
      simp [cvT, step, res]
    · refine ⟨by unfold inI64; omega, k + 1, ⟨⟨by omega, good (by unfold rowBad; rw [if_neg h3, if_neg (by omega), if_neg (by omega), if_neg (by simp [h6])])⟩, by omega⟩, Cov.go [] [] ?_⟩
      simp [cvT, step, res]
  have hkn : k = W.rows.length := by omega
  subst hkn
  rw [List.take_length] at hb
  rw [waferV_pass h0' h1' hb]
  refine LP.mkP (fun k : Nat => k ≤ W.pass.length ∧ firstBad (passBad W.pass) ((List.range W.pass.length).take k) = 0) (fun k : Nat => ⟨[(46, .int .i64 k), (45, .int .i64 W.pass.length), (1, .ptr nid 0)], [(nid, some (.box 28 [.lit nl W.rows.length [.s fun i => W.rows.getD i []], .str W.pass]))], nid + 300, nid⟩) (fun k => W.pass.length + 1 - k) 0 ⟨by omega, rfl⟩ (Cov.go [] [] ?_) (fun k hk => ?_)
  · simp [cvT, step, res]
  obtain ⟨hk, hb⟩ := hk
  simp -dsimp only [aqT, aqU, aqN, aqS, ↓seqK, ↓blkK, ↓loopK, step, stepBin, Nat.add_assoc nid, ↓reduceIte, Option.toList, ← Int.ofNat_tmod, ← Int.ofNat_tdiv, simprocAttr, BEq.rfl, LN_succ]
  refine S2.dec (fun h2 => ?_) (fun h2 => ?_) <;> simp -dsimp only [aqT, aqU, aqN, aqS, ↓seqK, ↓blkK, ↓loopK, step, stepBin, Nat.add_assoc nid, ↓reduceIte, Option.toList, ← Int.ofNat_tmod, ← Int.ofNat_tdiv, simprocAttr, BEq.rfl, LN_succ]
  · have hkl : k < W.pass.length := by omega
    obtain ⟨bad, good⟩ := rangeFB hkl hb
    refine ⟨by omega, CallO.pure (isBin_c _ _) ?_⟩
    simp -dsimp only [aqT, aqU, aqN, aqS, ↓seqK, ↓blkK, ↓loopK, step, stepBin, Nat.add_assoc nid, ↓reduceIte, Option.toList, ← Int.ofNat_tmod, ← Int.ofNat_tdiv, simprocAttr, BEq.rfl, LN_succ]
    have hdef : passBad W.pass k = if isBinV (byteI (W.pass.getD k 0)) = false then 9 else if 0 < k ∧ byteI (W.pass.getD k 0) ≤ byteI (W.pass.getD (k - 1) 0) then 7 else 0 := rfl
    unfold byteI at hdef
    cases h3 : isBinV (((W.pass.getD k 0).toNat : Nat) : Int) <;> simp -dsimp only [aqT, aqU, aqN, aqS, ↓seqK, ↓blkK, ↓loopK, step, stepBin, Nat.add_assoc nid, ↓reduceIte, Option.toList, ← Int.ofNat_tmod, ← Int.ofNat_tdiv, simprocAttr, BEq.rfl, LN_succ]
    · rw [h3, if_pos rfl] at hdef
      have : passV W.pass = 9 := by unfold passV; rw [bad (by rw [hdef]; decide), hdef]
      rw [this]
      refine RetOK.pure (.inl rfl) rfl ?_
      simp [cvT, step, res]
    rw [h3, if_neg (by simp)] at hdef
    refine S2.dec (fun h4 => ?_) (fun h4 => ?_) <;> simp -dsimp only [aqT, aqU, aqN, aqS, ↓seqK, ↓blkK, ↓loopK, step, stepBin, Nat.add_assoc nid, ↓reduceIte, Option.toList, ← Int.ofNat_tmod, ← Int.ofNat_tdiv, simprocAttr, BEq.rfl, LN_succ]
    · have hk1 : ((k : Int) - 1).toNat = k - 1 := by omega
      rw [hk1]
      refine ⟨by omega, by unfold inI64; omega, by omega, S2.dec (fun h5 => ?_) (fun h5 => ?_)⟩ <;> simp -dsimp only [aqT, aqU, aqN, aqS, ↓seqK, ↓blkK, ↓loopK, step, stepBin, Nat.add_assoc nid, ↓reduceIte, Option.toList, ← Int.ofNat_tmod, ← Int.ofNat_tdiv, simprocAttr, BEq.rfl, LN_succ]
      · rw [if_pos ⟨by omega, h5⟩] at hdef
        have : passV W.pass = 7 := by unfold passV; rw [bad (by rw [hdef]; decide), hdef]
        rw [this]
        refine RetOK.pure (.inl rfl) rfl ?_
        simp [cvT, step, res]
      · rw [if_neg (fun h => h5 h.2)] at hdef
        refine ⟨by unfold inI64; omega, k + 1, ⟨⟨by omega, good hdef⟩, by omega⟩, Cov.go [] [] ?_⟩
        simp [cvT, step, res]
    · rw [if_neg (fun h => h4 (by omega))] at hdef
      refine ⟨by unfold inI64; omega, k + 1, ⟨⟨by omega, good hdef⟩, by omega⟩, Cov.go [] [] ?_⟩
      simp [cvT, step, res]
  · have hkn : k = W.pass.length := by omega
    subst hkn
    have : passV W.pass = 0 := by unfold passV; rwa [List.take_of_length_le (by simp)] at hb
    rw [this]
    refine RetOK.pure (.inl rfl) rfl ?_
    simp [cvT, step, res]
theorem dieF_c (b : UInt8) (nid : Nat) : ACall Tryz.prog 29 [.int .u8 ((b.toNat : Nat))] [] nid (.bool (!placeB (byteI b))) [] := by
  refine acall_run c29 (by simp [a29]) ?_
  simp -dsimp only [aqT, aqU, aqN, ↓seqK, ↓blkK, ↓loopK, step, stepBin, Nat.reduceBEq, Nat.reduceBeqDiff, Nat.add_assoc nid, Nat.reduceAdd, reduceCtorEq, ↓reduceIte, Nat.reduceLeDiff, Nat.reduceBneDiff, Option.toList, ← Int.ofNat_tmod, ← Int.ofNat_tdiv, Nat.reduceLT, a29]
  refine CallO.pure (isDie_c b.toNat (UInt8.toNat_lt b) _) ?_
  simp -dsimp only [aqT, aqU, aqN, ↓seqK, ↓blkK, ↓loopK, step, stepBin, Nat.reduceBEq, Nat.reduceBeqDiff, Nat.add_assoc nid, Nat.reduceAdd, reduceCtorEq, ↓reduceIte, Nat.reduceLeDiff, Nat.reduceBneDiff, Option.toList, ← Int.ofNat_tmod, ← Int.ofNat_tdiv, Nat.reduceLT]
  refine RetOK.pure (.inl rfl) rfl ?_
  simp [cvT, step, res, byteI]
theorem bins_byte (b : UInt8) : decide (Lib.indexByte binsL b < 0) = !isBinV (byteI b) := by
  have h := bins_ok b.toNat (UInt8.toNat_lt b)
  have e : b.toNat.toUInt8 = b := by simp
  rw [e] at h
  unfold byteI
  rw [← h]
  by_cases h2 : 0 ≤ Lib.indexByte binsL b
  · simp [h2]
  · simp [h2]; omega
theorem passFault_c (P : List UInt8) (nid : Nat) (hP : P.length ≤ 1000000) : ACall Tryz.prog 31 [.str P] [] nid (.int .i64 (passV P)) [] := by
  refine acall_run c31 (by simp [a31]) ?_
  simp -dsimp only [a31, aqT, aqU, aqN, aqS, ↓seqK, ↓blkK, ↓loopK, step, stepBin, Nat.add_assoc nid, ↓reduceIte, Option.toList, ← Int.ofNat_tmod, ← Int.ofNat_tdiv, simprocAttr, BEq.rfl, LN_succ]
  refine LP.mkP (fun k : Nat => k ≤ P.length ∧ firstBad (passBad P) ((List.range P.length).take k) = 0) (fun k : Nat => ⟨[(6, .int .i64 k), (5, .int .i64 P.length), (0, .str P)], [], nid + 300, nid⟩) (fun k => P.length + 1 - k) 0 ⟨by omega, rfl⟩ (Cov.go [] [] ?_) (fun k hk => ?_)
  · simp [cvT, step, res]
  obtain ⟨hk, hb⟩ := hk
  simp -dsimp only [aqT, aqU, aqN, aqS, ↓seqK, ↓blkK, ↓loopK, step, stepBin, Nat.add_assoc nid, ↓reduceIte, Option.toList, ← Int.ofNat_tmod, ← Int.ofNat_tdiv, simprocAttr, BEq.rfl, LN_succ]
  refine S2.dec (fun h2 => ?_) (fun h2 => ?_) <;> simp -dsimp only [aqT, aqU, aqN, aqS, ↓seqK, ↓blkK, ↓loopK, step, stepBin, Nat.add_assoc nid, ↓reduceIte, Option.toList, ← Int.ofNat_tmod, ← Int.ofNat_tdiv, simprocAttr, BEq.rfl, LN_succ]
  · have hkl : k < P.length := by omega
    obtain ⟨bad, good⟩ := rangeFB hkl hb
    refine ⟨by omega, CallO.pure (indexB_c binsL _ _) ?_⟩
    have hbb := bins_byte (P.getD k 0)
    have e : ((((P.getD k 0).toNat : Nat) : Int).toNat).toUInt8 = P.getD k 0 := by rw [Int.toNat_natCast]; simp
    rw [e]
    simp -dsimp only [aqT, aqU, aqN, aqS, ↓seqK, ↓blkK, ↓loopK, step, stepBin, Nat.add_assoc nid, ↓reduceIte, Option.toList, ← Int.ofNat_tmod, ← Int.ofNat_tdiv, simprocAttr, BEq.rfl, LN_succ, hbb]
    have hdef : passBad P k = if isBinV (byteI (P.getD k 0)) = false then 9 else if 0 < k ∧ byteI (P.getD k 0) ≤ byteI (P.getD (k - 1) 0) then 7 else 0 := rfl
    unfold byteI at hdef ⊢
    cases h3 : isBinV (((P.getD k 0).toNat : Nat) : Int) <;> simp -dsimp only [aqT, aqU, aqN, aqS, ↓seqK, ↓blkK, ↓loopK, step, stepBin, Nat.add_assoc nid, ↓reduceIte, Option.toList, ← Int.ofNat_tmod, ← Int.ofNat_tdiv, simprocAttr, BEq.rfl, LN_succ]
    · rw [h3, if_pos rfl] at hdef
      have : passV P = 9 := by unfold passV; rw [bad (by rw [hdef]; decide), hdef]
      rw [this]
      refine RetOK.pure (.inl rfl) rfl ?_
      simp [cvT, step, res]
    rw [h3, if_neg (by simp)] at hdef
    refine S2.dec (fun h4 => ?_) (fun h4 => ?_) <;> simp -dsimp only [aqT, aqU, aqN, aqS, ↓seqK, ↓blkK, ↓loopK, step, stepBin, Nat.add_assoc nid, ↓reduceIte, Option.toList, ← Int.ofNat_tmod, ← Int.ofNat_tdiv, simprocAttr, BEq.rfl, LN_succ]
    · have hk1 : ((k : Int) - 1).toNat = k - 1 := by omega
      rw [hk1]
      refine ⟨by omega, by unfold inI64; omega, by omega, S2.dec (fun h5 => ?_) (fun h5 => ?_)⟩ <;> simp -dsimp only [aqT, aqU, aqN, aqS, ↓seqK, ↓blkK, ↓loopK, step, stepBin, Nat.add_assoc nid, ↓reduceIte, Option.toList, ← Int.ofNat_tmod, ← Int.ofNat_tdiv, simprocAttr, BEq.rfl, LN_succ]
      · rw [if_pos ⟨by omega, h5⟩] at hdef
        have : passV P = 7 := by unfold passV; rw [bad (by rw [hdef]; decide), hdef]
        rw [this]
        refine RetOK.pure (.inl rfl) rfl ?_
        simp [cvT, step, res]
      · rw [if_neg (fun h => h5 h.2)] at hdef
        refine ⟨by unfold inI64; omega, k + 1, ⟨⟨by omega, good hdef⟩, by omega⟩, Cov.go [] [] ?_⟩
        simp [cvT, step, res]
    · rw [if_neg (fun h => h4 (by omega))] at hdef
      refine ⟨by unfold inI64; omega, k + 1, ⟨⟨by omega, good hdef⟩, by omega⟩, Cov.go [] [] ?_⟩
      simp [cvT, step, res]
  · have hkn : k = P.length := by omega
    subst hkn
    have : passV P = 0 := by unfold passV; rwa [List.take_of_length_le (by simp)] at hb
    rw [this]
    refine RetOK.pure (.inl rfl) rfl ?_
    simp [cvT, step, res]
set_option maxHeartbeats 4000000 in
theorem waferFault_all (nl : Bool) (W : Waf) (nid : Nat) (hW : WafBd W) : ACall Tryz.prog 6 [wafP nl W] [] nid (.int .i64 (waferV W)) [] := by
  have hR := hW.rows
  have hP := hW.pass
  refine acall_run c6 (by simp [a6]) ?_
  unfold wafP
  simp -dsimp only [a6, aqT, aqU, aqN, aqS, ↓seqK, ↓blkK, ↓loopK, step, stepBin, Nat.add_assoc nid, ↓reduceIte, Option.toList, ← Int.ofNat_tmod, ← Int.ofNat_tdiv, simprocAttr, BEq.rfl, LN_succ]
  refine S2.intro (fun h0 => ?_) (fun h0 => ?_) <;> simp -dsimp only [aqT, aqU, aqN, aqS, ↓seqK, ↓blkK, ↓loopK, step, stepBin, Nat.add_assoc nid, ↓reduceIte, Option.toList, ← Int.ofNat_tmod, ← Int.ofNat_tdiv, simprocAttr, BEq.rfl, LN_succ]
  · have e : waferV W = 8 := by unfold waferV; rw [if_pos (by simpa using h0)]
    rw [e]
    refine RetOK.pure (.inl rfl) rfl ?_
    simp [cvT, step, res]
  have h0' : W.rows.length ≠ 0 := by simpa using h0
  refine S2.dec (fun h1 => ?_) (fun h1 => ?_) <;> simp -dsimp only [aqT, aqU, aqN, aqS, ↓seqK, ↓blkK, ↓loopK, step, stepBin, Nat.add_assoc nid, ↓reduceIte, Option.toList, ← Int.ofNat_tmod, ← Int.ofNat_tdiv, simprocAttr, BEq.rfl, LN_succ]
  · have e : waferV W = 2 := by unfold waferV; rw [if_neg h0', if_pos (by omega)]
    rw [e]
    refine RetOK.pure (.inl rfl) rfl ?_
    simp [cvT, step, res]
  have h1' : W.rows.length ≤ 60 := by omega
  refine LP.mkP (fun k : Nat => k ≤ W.rows.length ∧ firstBad (rowBad (wideOf W)) (W.rows.take k) = 0) (fun k : Nat => ⟨[(18, .int .i64 k), (17, .int .i64 W.rows.length), (16, .lit nl W.rows.length [.s fun i => W.rows.getD i []]), (1, .ptr nid 0)], [(nid, some (.box 28 [.lit nl W.rows.length [.s fun i => W.rows.getD i []], .str W.pass]))], nid + 100, nid⟩) (fun k => W.rows.length + 1 - k) 0 ⟨by omega, rfl⟩ (Cov.go [] [] ?_) (fun k hk => ?_)
  · simp [cvT, step, res]
  obtain ⟨hk, hb⟩ := hk
  simp -dsimp only [aqT, aqU, aqN, aqS, ↓seqK, ↓blkK, ↓loopK, step, stepBin, Nat.add_assoc nid, ↓reduceIte, Option.toList, ← Int.ofNat_tmod, ← Int.ofNat_tdiv, simprocAttr, BEq.rfl, LN_succ]
  refine S2.dec (fun h2 => ?_) (fun h2 => ?_) <;> simp -dsimp only [aqT, aqU, aqN, aqS, ↓seqK, ↓blkK, ↓loopK, step, stepBin, Nat.add_assoc nid, ↓reduceIte, Option.toList, ← Int.ofNat_tmod, ← Int.ofNat_tdiv, simprocAttr, BEq.rfl, LN_succ]
  · have hkl : k < W.rows.length := by omega
    obtain ⟨bad, good⟩ := rowsFB (d := []) hkl hb
    have hrl := hW.at k
    have hw0 : wideOf W = (W.rows.getD 0 []).length := rfl
    generalize hr : W.rows.getD k [] = r at *
    rw [beq_nil]
    have bad' : ∀ e : Int, rowBad (wideOf W) r = e → e ≠ 0 → waferV W = e := fun e h3 he => waferV_row h0' h1' (by rw [bad (by rw [h3]; exact he), h3]) he
    refine ⟨by omega, S2.dec (fun h3 => ?_) (fun h3 => ?_)⟩ <;> simp -dsimp only [aqT, aqU, aqN, aqS, ↓seqK, ↓blkK, ↓loopK, step, stepBin, Nat.add_assoc nid, ↓reduceIte, Option.toList, ← Int.ofNat_tmod, ← Int.ofNat_tdiv, simprocAttr, BEq.rfl, LN_succ]
    · rw [bad' 8 (by unfold rowBad; rw [if_pos h3]) (by decide)]
      refine RetOK.pure (.inl rfl) rfl ?_
      simp [cvT, step, res]
    refine S2.dec (fun h4 => ?_) (fun h4 => ?_) <;> simp -dsimp only [aqT, aqU, aqN, aqS, ↓seqK, ↓blkK, ↓loopK, step, stepBin, Nat.add_assoc nid, ↓reduceIte, Option.toList, ← Int.ofNat_tmod, ← Int.ofNat_tdiv, simprocAttr, BEq.rfl, LN_succ]
    · rw [bad' 2 (by unfold rowBad; rw [if_neg h3, if_pos (by omega)]) (by decide)]
      refine RetOK.pure (.inl rfl) rfl ?_
      simp [cvT, step, res]
    refine ⟨by omega, S2.intro (fun h5 => ?_) (fun h5 => ?_)⟩ <;> simp -dsimp only [aqT, aqU, aqN, aqS, ↓seqK, ↓blkK, ↓loopK, step, stepBin, Nat.add_assoc nid, ↓reduceIte, Option.toList, ← Int.ofNat_tmod, ← Int.ofNat_tdiv, simprocAttr, BEq.rfl, LN_succ]
    · have h5' : r.length ≠ wideOf W := by rw [hw0]; intro e; rw [e] at h5; simp at h5
      rw [bad' 3 (by unfold rowBad; rw [if_neg h3, if_neg (by omega), if_pos h5']) (by decide)]
      refine RetOK.pure (.inl rfl) rfl ?_
      simp [cvT, step, res]
    have h5' : r.length = wideOf W := by
      have h5a : ((r.length : Nat) : Int) = ((W.rows.getD 0 []).length : Nat) := by simpa only [bne_eq_false_iff_eq] using h5
      rw [hw0]; omega
    refine CallO.pure (containsFB 29 (fun c => !placeB (byteI c)) dieF_c false r.length (fun i => r.getD i 0) _ (by omega)) ?_
    rw [show (List.range r.length).any (fun i => !placeB (byteI (r.getD i 0))) = oddB r from any_range (F := fun c => !placeB (byteI c))]
    simp -dsimp only [aqT, aqU, aqN, aqS, ↓seqK, ↓blkK, ↓loopK, step, stepBin, Nat.add_assoc nid, ↓reduceIte, Option.toList, ← Int.ofNat_tmod, ← Int.ofNat_tdiv, simprocAttr, BEq.rfl, LN_succ]
    refine S2.intro (fun h6 => ?_) (fun h6 => ?_) <;> simp -dsimp only [aqT, aqU, aqN, aqS, ↓seqK, ↓blkK, ↓loopK, step, stepBin, Nat.add_assoc nid, ↓reduceIte, Option.toList, ← Int.ofNat_tmod, ← Int.ofNat_tdiv, simprocAttr, BEq.rfl, LN_succ]
    · rw [bad' 9 (by unfold rowBad; rw [if_neg h3, if_neg (by omega), if_neg (by omega), if_pos h6]) (by decide)]
      refine RetOK.pure (.inl rfl) rfl ?_
      simp [cvT, step, res]
    · refine ⟨by unfold inI64; omega, k + 1, ⟨⟨by omega, good (by unfold rowBad; rw [if_neg h3, if_neg (by omega), if_neg (by omega), if_neg (by simp [h6])])⟩, by omega⟩, Cov.go [] [] ?_⟩
      simp [cvT, step, res]
  have hkn : k = W.rows.length := by omega
  subst hkn
  rw [List.take_length] at hb
  rw [waferV_pass h0' h1' hb]
  refine CallO.pure (passFault_c W.pass _ hP) ?_
  simp -dsimp only [aqT, aqU, aqN, aqS, ↓seqK, ↓blkK, ↓loopK, step, stepBin, Nat.add_assoc nid, ↓reduceIte, Option.toList, ← Int.ofNat_tmod, ← Int.ofNat_tdiv, simprocAttr, BEq.rfl, LN_succ]
  refine RetOK.pure (.inl rfl) rfl ?_
  simp [cvT, step, res]
end Go.Proofs.YtmgfcjblclanmaaGreat
namespace Go.Proofs.YtmgfcjblclanmaaGreat
open Go.RowKit
def arrS (l : List (List UInt8)) : Option ABlk := some (.arr 9 l.length [.s fun i => l.getD i []])
theorem getD_app1 (l : List (List UInt8)) (x : List UInt8) {n : Nat} (hn : l.length = n) : (fun i => if i < n then l.getD i [] else [x].getD (i - n) []) = fun i => (l ++ [x]).getD i [] := by
  subst hn
  funext i
  simp only [List.getD_eq_getElem?_getD, List.getElem?_append]
  split <;> rfl
theorem getD_setS (l : List (List UInt8)) (x : List UInt8) {I : Nat} (hI : I < l.length) : (fun j => if j = I then x else l.getD j []) = fun j => (l.set I x).getD j [] := by
  funext j
  simp only [List.getD_eq_getElem?_getD, List.getElem?_set]
  by_cases h : j = I
  · subst h; simp [hI]
  · rw [if_neg h, if_neg (fun e => h e.symm)]
def ShortRows (m : Nat) (l : List (List UInt8)) : Prop := ∀ r ∈ l, r.length ≤ m
theorem ShortRows.at {m : Nat} {l : List (List UInt8)} (h : ShortRows m l) (i : Nat) : (l.getD i []).length ≤ m := by
  rw [List.getD_eq_getElem?_getD]
  cases hg : l[i]? with
  | none => simp
  | some x => exact h x (List.mem_of_getElem? hg)
theorem ShortRows.set {m : Nat} {l : List (List UInt8)} (h : ShortRows m l) (i : Nat) {x : List UInt8} (hx : x.length ≤ m) : ShortRows m (l.set i x) := fun r hr => by
  rcases List.mem_or_eq_of_mem_set hr with h1 | h1
  · exact h r h1
  · rw [h1]; exact hx
theorem ShortRows.snoc {m : Nat} {l : List (List UInt8)} (h : ShortRows m l) {x : List UInt8} (hx : x.length ≤ m) : ShortRows m (l ++ [x]) := fun r hr => by
  rcases List.mem_append.1 hr with h1 | h1
  · exact h r h1
  · rw [List.mem_singleton.1 h1]; exact hx
theorem ShortRows.mono {m n : Nat} {l : List (List UInt8)} (h : ShortRows m l) (hn : m ≤ n) : ShortRows n l := fun r hr => Nat.le_trans (h r hr) hn
def litS (nl : Bool) (l : List (List UInt8)) : PV := .lit nl l.length [.s fun i => l.getD i []]
theorem take_eqL {l m : List (List UInt8)} {k : Nat} (hl : k < l.length) (hm : k < m.length) (h : l.take k = m.take k) (hx : l.getD k [] = m.getD k []) : l.take (k + 1) = m.take (k + 1) := by
  rw [take_snoc (x := l.getD k []) (by rw [List.getD_eq_getElem?_getD, List.getElem?_eq_getElem hl]; rfl), take_snoc (x := m.getD k []) (by rw [List.getD_eq_getElem?_getD, List.getElem?_eq_getElem hm]; rfl), h, hx]
theorem equalS_c (nl nl' : Bool) (l m : List (List UInt8)) (nid : Nat) (hl : l.length ≤ 1000000000000) (hm : m.length ≤ 1000000000000) : ACall Tryz.prog 47 [litS nl l, litS nl' m] [] nid (.bool (l == m)) [] := by
  refine acall_run c47 (by simp [a47]) ?_
  unfold litS
  simp -dsimp only [aqT, aqU, aqN, ↓seqK, ↓blkK, ↓loopK, step, stepBin, Nat.reduceBEq, Nat.reduceBeqDiff, Nat.add_assoc nid, Nat.reduceAdd, reduceCtorEq, ↓reduceIte, Nat.reduceLeDiff, Nat.reduceBneDiff, Option.toList, ← Int.ofNat_tmod, ← Int.ofNat_tdiv, Nat.reduceLT, a47]
  refine S2.intro (fun h => ?_) (fun h => ?_) <;> simp -dsimp only [aqT, aqU, aqN, ↓seqK, ↓blkK, ↓loopK, step, stepBin, Nat.reduceBEq, Nat.reduceBeqDiff, Nat.add_assoc nid, Nat.reduceAdd, reduceCtorEq, ↓reduceIte, Nat.reduceLeDiff, Nat.reduceBneDiff, Option.toList, ← Int.ofNat_tmod, ← Int.ofNat_tdiv, Nat.reduceLT]
  · refine RetOK.pure (.inl rfl) rfl ?_
    have h1 : l ≠ m := fun e => by subst e; simp at h
    have h2 : (l == m) = false := by simpa using h1
    simp [cvT, step, res, h1]
  have hlm : l.length = m.length := by have : (l.length : Int) = m.length := by simpa using h
                                       omega
  refine LP.mkP (fun k : Nat => k ≤ l.length ∧ l.take k = m.take k) (fun k : Nat => ⟨[(13, .int .i64 k), (12, .int .i64 l.length), (0, litS nl l), (1, litS nl' m)], [], nid + 36, nid⟩) (fun k => l.length + 1 - k) 0 ⟨by omega, rfl⟩ (Cov.go [] [] ?_) (fun k hk => ?_)
  · simp [cvT, step, res, litS]
  unfold litS
  obtain ⟨hk, ht⟩ := hk
  simp -dsimp only [aqT, aqU, aqN, ↓seqK, ↓blkK, ↓loopK, step, stepBin, Nat.reduceBEq, Nat.reduceBeqDiff, Nat.add_assoc nid, Nat.reduceAdd, reduceCtorEq, ↓reduceIte, Nat.reduceLeDiff, Nat.reduceBneDiff, Option.toList, ← Int.ofNat_tmod, ← Int.ofNat_tdiv, Nat.reduceLT]
  refine S2.dec (fun h3 => ?_) (fun h3 => ?_) <;> simp -dsimp only [aqT, aqU, aqN, ↓seqK, ↓blkK, ↓loopK, step, stepBin, Nat.reduceBEq, Nat.reduceBeqDiff, Nat.add_assoc nid, Nat.reduceAdd, reduceCtorEq, ↓reduceIte, Nat.reduceLeDiff, Nat.reduceBneDiff, Option.toList, ← Int.ofNat_tmod, ← Int.ofNat_tdiv, Nat.reduceLT]
  · refine ⟨by omega, by omega, S2.intro (fun h4 => ?_) (fun h4 => ?_)⟩ <;> simp -dsimp only [aqT, aqU, aqN, ↓seqK, ↓blkK, ↓loopK, step, stepBin, Nat.reduceBEq, Nat.reduceBeqDiff, Nat.add_assoc nid, Nat.reduceAdd, reduceCtorEq, ↓reduceIte, Nat.reduceLeDiff, Nat.reduceBneDiff, Option.toList, ← Int.ofNat_tmod, ← Int.ofNat_tdiv, Nat.reduceLT]
    · refine RetOK.pure (.inl rfl) rfl ?_
      have h1 : l ≠ m := fun e => by subst e; simp at h4
      simp [cvT, step, res, h1]
    · have h5 : l.getD k [] = m.getD k [] := by simpa only [Bool.not_eq_false', beq_iff_eq] using h4
      refine ⟨by unfold inI64; omega, k + 1, ⟨⟨by omega, take_eqL (by omega) (by omega) ht h5⟩, by omega⟩, Cov.go [] [] ?_⟩
      simp [cvT, step, res, litS]
  · have hkl : k = l.length := by omega
    have h1 : l = m := by rw [hkl] at ht; rw [List.take_length, hlm, List.take_length] at ht; exact ht
    refine RetOK.pure (.inl rfl) rfl ?_
    simp [cvT, step, res, h1]
end Go.Proofs.YtmgfcjblclanmaaGreat
namespace Go.Proofs.YtmgfcjblclanmaaGreat
open Go.RowKit
structure WafSmall (W : Waf) : Prop where
  len : W.rows.length ≤ 6
  row : ShortRows 7 W.rows
  pass : W.pass.length ≤ 2
theorem WafSmall.bd {W : Waf} (h : WafSmall W) : WafBd W := ⟨by have := h.len; omega, fun r hr => by have := h.row r hr; omega, by have := h.pass; omega⟩
set_option maxHeartbeats 4000000 in
theorem waferOfX (s nid : Nat) (nl : Bool) (A : List Int) (p : Nat) (h : s < nid) (hp : p ≤ 1099510000000) (hA : A.length ≤ 17592186044416) :
    ∃ x : Waf × Nat, (WafSmall x.1 ∧ x.2 ≤ p + 60) ∧ ACall Tryz.prog 4 [.ptr s 0] [(s, strmC nl A p)] nid (.agg [.sl nid 0 x.1.rows.length, .str x.1.pass]) [(s, strmC nl A x.2), (nid, arrS x.1.rows)] := by
  obtain ⟨e1, e2, e3, e4, e5, e6, e7, e8, e9⟩ := id_all h
  refine acall_ex c4 (by simp [a4]) ?_
  simp -dsimp only [aqT0, ROp0, aqT, aqU, aqN, aqS, ↓seqK, ↓blkK, ↓loopK, step, stepBin, Nat.add_assoc nid, ↓reduceIte, Option.toList, ← Int.ofNat_tmod, ← Int.ofNat_tdiv, simprocAttr, BEq.rfl, LN_succ, e1, e2, e3, e4, e5, e6, e7, e8, e9, a4, strmC_low]
  refine CallX.on (range_c s _ nl A p 1 6 (by omega) (by omega) hA (by omega) (by omega) (by omega)) (subH_get (by simp only [aqT, aqU, aqN, ↓seqK, ↓blkK, ↓loopK, step, stepBin, Nat.reduceBEq, Nat.reduceBeqDiff, Nat.add_assoc nid, Nat.reduceAdd, reduceCtorEq, ↓reduceIte, Nat.reduceLeDiff, Nat.reduceBneDiff, Option.toList, ← Int.ofNat_tmod, ← Int.ofNat_tdiv, Nat.reduceLT, e1, e2, e3, e4, e5, e6, e7, e8, e9])) ?_
  simp -dsimp only [aqT0, ROp0, aqT, aqU, aqN, aqS, ↓seqK, ↓blkK, ↓loopK, step, stepBin, Nat.add_assoc nid, ↓reduceIte, Option.toList, ← Int.ofNat_tmod, ← Int.ofNat_tdiv, simprocAttr, BEq.rfl, LN_succ, e1, e2, e3, e4, e5, e6, e7, e8, e9, strmC_low]
  have hwd := rangeV_bd A p (lo := 1) (hi := 6) (by omega)
  obtain ⟨w, hw⟩ : ∃ w : Nat, rangeV A p 1 6 = w := ⟨_, (Int.toNat_of_nonneg (by omega)).symm⟩
  rw [hw] at hwd ⊢
  clear hw
  refine CallX.some_go (T := 9) (nl := nl) (A := A) (p := p + 1) (g := fun i => [[49], [49], [49, 50], [49, 97], []].getD i []) (by simp only [aqT, aqU, aqN, ↓seqK, ↓blkK, ↓loopK, step, stepBin, Nat.reduceBEq, Nat.reduceBeqDiff, Nat.add_assoc nid, Nat.reduceAdd, reduceCtorEq, ↓reduceIte, Nat.reduceLeDiff, Nat.reduceBneDiff, Option.toList, ← Int.ofNat_tmod, ← Int.ofNat_tdiv, Nat.reduceLT, e1, e2, e3, e4, e5, e6, e7, e8, e9]) (by simp only [aqT, aqU, aqN, ↓seqK, ↓blkK, ↓loopK, step, stepBin, Nat.reduceBEq, Nat.reduceBeqDiff, Nat.add_assoc nid, Nat.reduceAdd, reduceCtorEq, ↓reduceIte, Nat.reduceLeDiff, Nat.reduceBneDiff, Option.toList, ← Int.ofNat_tmod, ← Int.ofNat_tdiv, Nat.reduceLT, e1, e2, e3, e4, e5, e6, e7, e8, e9]) (by simp only [aqT, aqU, aqN, ↓seqK, ↓blkK, ↓loopK, step, stepBin, Nat.reduceBEq, Nat.reduceBeqDiff, Nat.add_assoc nid, Nat.reduceAdd, reduceCtorEq, ↓reduceIte, Nat.reduceLeDiff, Nat.reduceBneDiff, Option.toList, ← Int.ofNat_tmod, ← Int.ofNat_tdiv, Nat.reduceLT, e1, e2, e3, e4, e5, e6, e7, e8, e9]) (by omega) (by omega) hA (by omega) (by omega) ?_
  simp -dsimp only [aqT0, ROp0, aqT, aqU, aqN, aqS, ↓seqK, ↓blkK, ↓loopK, step, stepBin, Nat.add_assoc nid, ↓reduceIte, Option.toList, ← Int.ofNat_tmod, ← Int.ofNat_tdiv, simprocAttr, BEq.rfl, LN_succ, e1, e2, e3, e4, e5, e6, e7, e8, e9, strmC_low]
  have hps := getD_all (P := fun x : List UInt8 => x.length ≤ 2) (l := [[49], [49], [49, 50], [49, 97], []]) (d := []) (by simp) (pickI_lt A (p + 1) (n := 5) (by omega))
  generalize ([[49], [49], [49, 50], [49, 97], []].getD (pickI A (p + 1) 5) [] : List UInt8) = pass at hps ⊢
  refine CallX.on (range_c s _ nl A (p + 1 + 1) 1 6 (by omega) (by omega) hA (by omega) (by omega) (by omega)) (subH_get (by simp only [aqT, aqU, aqN, ↓seqK, ↓blkK, ↓loopK, step, stepBin, Nat.reduceBEq, Nat.reduceBeqDiff, Nat.add_assoc nid, Nat.reduceAdd, reduceCtorEq, ↓reduceIte, Nat.reduceLeDiff, Nat.reduceBneDiff, Option.toList, ← Int.ofNat_tmod, ← Int.ofNat_tdiv, Nat.reduceLT, e1, e2, e3, e4, e5, e6, e7, e8, e9])) ?_
  simp -dsimp only [aqT0, ROp0, aqT, aqU, aqN, aqS, ↓seqK, ↓blkK, ↓loopK, step, stepBin, Nat.add_assoc nid, ↓reduceIte, Option.toList, ← Int.ofNat_tmod, ← Int.ofNat_tdiv, simprocAttr, BEq.rfl, LN_succ, e1, e2, e3, e4, e5, e6, e7, e8, e9, strmC_low]
  have hmd := rangeV_bd A (p + 1 + 1) (lo := 1) (hi := 6) (by omega)
  obtain ⟨m, hm⟩ : ∃ w : Nat, rangeV A (p + 1 + 1) 1 6 = w := ⟨_, (Int.toNat_of_nonneg (by omega)).symm⟩
  rw [hm] at hmd ⊢
  clear hm
  refine LP0.mkP (fun x : List (List UInt8) × Nat => x.1.length ≤ m ∧ ShortRows 6 x.1 ∧ x.2 ≤ p + 3 + 6 * x.1.length) (fun x => ⟨[(14, .int .i64 x.1.length), (13, .int .i64 m), (4, .ptr (nid + 32) 0), (3, .int .i64 w), (2, .ptr nid 0), (0, .ptr s 0)],
    [(s, strmC nl A x.2), (nid, some (.box 28 [.lit true 0 [], .str []])), (nid + 32, some (.box 28 [.sl (nid + 36) 0 x.1.length, .str pass])), (nid + 36, arrS x.1)], nid + 200, nid⟩) (fun x => m + 1 - x.1.length) ([], p + 1 + 1 + 1) ⟨by simp, fun r hr => by simp at hr, by simp⟩ (Cov.go [] [(nid + 36, 1)] ?_) (fun x hx => ?_)
  · simp [cvT, step, res, e1, e2, e3, e4, e5, e6, e7, e8, e9, strmC, arrS]
  obtain ⟨R, q⟩ := x
  obtain ⟨hR1, hR2, hq⟩ := hx
  simp only at hR1 hR2 hq
  unfold arrS
  simp -dsimp only [aqT0, ROp0, aqT, aqU, aqN, aqS, ↓seqK, ↓blkK, ↓loopK, step, stepBin, Nat.add_assoc nid, ↓reduceIte, Option.toList, ← Int.ofNat_tmod, ← Int.ofNat_tdiv, simprocAttr, BEq.rfl, LN_succ, e1, e2, e3, e4, e5, e6, e7, e8, e9, strmC_low]
  refine S2.dec (fun h2 => ?_) (fun h2 => ?_) <;> simp -dsimp only [aqT0, ROp0, aqT, aqU, aqN, aqS, ↓seqK, ↓blkK, ↓loopK, step, stepBin, Nat.add_assoc nid, ↓reduceIte, Option.toList, ← Int.ofNat_tmod, ← Int.ofNat_tdiv, simprocAttr, BEq.rfl, LN_succ, e1, e2, e3, e4, e5, e6, e7, e8, e9, strmC_low]
  · refine LP0.mkP (fun x : List UInt8 × Nat => x.1.length ≤ w ∧ x.2 ≤ q + x.1.length) (fun x => ⟨[(17, .int .i64 x.1.length), (16, .int .i64 w), (5, .str x.1), (14, .int .i64 R.length), (13, .int .i64 m), (4, .ptr (nid + 32) 0), (3, .int .i64 w), (2, .ptr nid 0), (0, .ptr s 0)],
      [(s, strmC nl A x.2), (nid, some (.box 28 [.lit true 0 [], .str []])), (nid + 32, some (.box 28 [.sl (nid + 36) 0 R.length, .str pass])), (nid + 36, arrS R)], nid + 400, nid⟩) (fun x => w + 1 - x.1.length) ([], q) ⟨by simp, by simp⟩ (Cov.go [] [] ?_) (fun x hx => ?_)
    · simp [cvT, step, res, e1, e2, e3, e4, e5, e6, e7, e8, e9, strmC, arrS]
    obtain ⟨t, r⟩ := x
    obtain ⟨ht1, hr⟩ := hx
    simp only at ht1 hr
    unfold arrS
    simp -dsimp only [aqT0, ROp0, aqT, aqU, aqN, aqS, ↓seqK, ↓blkK, ↓loopK, step, stepBin, Nat.add_assoc nid, ↓reduceIte, Option.toList, ← Int.ofNat_tmod, ← Int.ofNat_tdiv, simprocAttr, BEq.rfl, LN_succ, e1, e2, e3, e4, e5, e6, e7, e8, e9, strmC_low]
    refine S2.dec (fun h3 => ?_) (fun h3 => ?_) <;> simp -dsimp only [aqT0, ROp0, aqT, aqU, aqN, aqS, ↓seqK, ↓blkK, ↓loopK, step, stepBin, Nat.add_assoc nid, ↓reduceIte, Option.toList, ← Int.ofNat_tmod, ← Int.ofNat_tdiv, simprocAttr, BEq.rfl, LN_succ, e1, e2, e3, e4, e5, e6, e7, e8, e9, strmC_low]
    · refine CallX.some_go (T := 9) (nl := nl) (A := A) (p := r) (g := fun i => [[49], [49], [49], [120], [120], [63], [46], [42], [50], [97]].getD i []) (by simp only [aqT, aqU, aqN, ↓seqK, ↓blkK, ↓loopK, step, stepBin, Nat.reduceBEq, Nat.reduceBeqDiff, Nat.add_assoc nid, Nat.reduceAdd, reduceCtorEq, ↓reduceIte, Nat.reduceLeDiff, Nat.reduceBneDiff, Option.toList, ← Int.ofNat_tmod, ← Int.ofNat_tdiv, Nat.reduceLT, e1, e2, e3, e4, e5, e6, e7, e8, e9]) (by simp only [aqT, aqU, aqN, ↓seqK, ↓blkK, ↓loopK, step, stepBin, Nat.reduceBEq, Nat.reduceBeqDiff, Nat.add_assoc nid, Nat.reduceAdd, reduceCtorEq, ↓reduceIte, Nat.reduceLeDiff, Nat.reduceBneDiff, Option.toList, ← Int.ofNat_tmod, ← Int.ofNat_tdiv, Nat.reduceLT, e1, e2, e3, e4, e5, e6, e7, e8, e9]) (by simp only [aqT, aqU, aqN, ↓seqK, ↓blkK, ↓loopK, step, stepBin, Nat.reduceBEq, Nat.reduceBeqDiff, Nat.add_assoc nid, Nat.reduceAdd, reduceCtorEq, ↓reduceIte, Nat.reduceLeDiff, Nat.reduceBneDiff, Option.toList, ← Int.ofNat_tmod, ← Int.ofNat_tdiv, Nat.reduceLT, e1, e2, e3, e4, e5, e6, e7, e8, e9]) (by omega) (by omega) hA (by omega) (by omega) ?_
      simp -dsimp only [aqT0, ROp0, aqT, aqU, aqN, aqS, ↓seqK, ↓blkK, ↓loopK, step, stepBin, Nat.add_assoc nid, ↓reduceIte, Option.toList, ← Int.ofNat_tmod, ← Int.ofNat_tdiv, simprocAttr, BEq.rfl, LN_succ, e1, e2, e3, e4, e5, e6, e7, e8, e9, strmC_low]
      have hb := getD_all (P := fun x : List UInt8 => x.length = 1) (l := [[49], [49], [49], [120], [120], [63], [46], [42], [50], [97]]) (d := []) (by simp) (pickI_lt A r (n := 10) (by omega))
      generalize ([[49], [49], [49], [120], [120], [63], [46], [42], [50], [97]].getD (pickI A r 10) [] : List UInt8) = b at hb ⊢
      have e : (t ++ b).length = t.length + 1 := by rw [List.length_append, hb]
      have e2 : ((t ++ b).length : Int) = (t.length : Int) + 1 := by omega
      refine ⟨by omega, by unfold inI64; omega, (t ++ b, r + 1), ⟨⟨by simp only; omega, by simp only; omega⟩, by simp only; omega⟩, Cov.go [] [] ?_⟩
      simp [cvT, step, res, e1, e2, e3, e4, e5, e6, e7, e8, e9, strmC, arrS, e, e2, -List.length_append]
    · have hl : (R ++ [t]).length = R.length + 1 := by simp
      rw [getD_app1 R t rfl]
      refine ⟨by omega, by unfold inI64; omega, (R ++ [t], r), ⟨⟨by simp only; omega, by simp only; exact hR2.snoc (by omega), by simp only; omega⟩, by simp only; omega⟩, Cov.go [(nid + 36, nid + 420)] [] ?_⟩
      simp [cvT, step, res, e1, e2, e3, e4, e5, e6, e7, e8, e9, strmC, arrS, hl]
  have hRm : R.length = m := by omega
  refine CallX.on (flip_c s _ nl A q 12 (by omega) (by omega) hA (by omega)) (subH_get (by simp only [aqT, aqU, aqN, ↓seqK, ↓blkK, ↓loopK, step, stepBin, Nat.reduceBEq, Nat.reduceBeqDiff, Nat.add_assoc nid, Nat.reduceAdd, reduceCtorEq, ↓reduceIte, Nat.reduceLeDiff, Nat.reduceBneDiff, Option.toList, ← Int.ofNat_tmod, ← Int.ofNat_tdiv, Nat.reduceLT, e1, e2, e3, e4, e5, e6, e7, e8, e9])) ?_
  simp -dsimp only [aqT0, ROp0, aqT, aqU, aqN, aqS, ↓seqK, ↓blkK, ↓loopK, step, stepBin, Nat.add_assoc nid, ↓reduceIte, Option.toList, ← Int.ofNat_tmod, ← Int.ofNat_tdiv, simprocAttr, BEq.rfl, LN_succ, e1, e2, e3, e4, e5, e6, e7, e8, e9, strmC_low]
  refine S2.intro (fun h3 => ?_) (fun h3 => ?_) <;> simp -dsimp only [aqT0, ROp0, aqT, aqU, aqN, aqS, ↓seqK, ↓blkK, ↓loopK, step, stepBin, Nat.add_assoc nid, ↓reduceIte, Option.toList, ← Int.ofNat_tmod, ← Int.ofNat_tdiv, simprocAttr, BEq.rfl, LN_succ, e1, e2, e3, e4, e5, e6, e7, e8, e9, strmC_low]
  · refine CallX.on (next_c s _ nl A (q + 1) 3 (by omega) (by omega) hA (by omega)) (subH_get (by simp only [aqT, aqU, aqN, ↓seqK, ↓blkK, ↓loopK, step, stepBin, Nat.reduceBEq, Nat.reduceBeqDiff, Nat.add_assoc nid, Nat.reduceAdd, reduceCtorEq, ↓reduceIte, Nat.reduceLeDiff, Nat.reduceBneDiff, Option.toList, ← Int.ofNat_tmod, ← Int.ofNat_tdiv, Nat.reduceLT, e1, e2, e3, e4, e5, e6, e7, e8, e9])) ?_
    simp -dsimp only [aqT0, ROp0, aqT, aqU, aqN, aqS, ↓seqK, ↓blkK, ↓loopK, step, stepBin, Nat.add_assoc nid, ↓reduceIte, Option.toList, ← Int.ofNat_tmod, ← Int.ofNat_tdiv, simprocAttr, BEq.rfl, LN_succ, e1, e2, e3, e4, e5, e6, e7, e8, e9, strmC_low]
    refine S2.intro (fun h4 => ?_) (fun h4 => ?_) <;> simp -dsimp only [aqT0, ROp0, aqT, aqU, aqN, aqS, ↓seqK, ↓blkK, ↓loopK, step, stepBin, Nat.add_assoc nid, ↓reduceIte, Option.toList, ← Int.ofNat_tmod, ← Int.ofNat_tdiv, simprocAttr, BEq.rfl, LN_succ, e1, e2, e3, e4, e5, e6, e7, e8, e9, strmC_low]
    · refine CallX.on (next_c s _ nl A (q + 1 + 1) _ (by omega) (by omega) hA (by omega)) (subH_get (by simp only [aqT, aqU, aqN, ↓seqK, ↓blkK, ↓loopK, step, stepBin, Nat.reduceBEq, Nat.reduceBeqDiff, Nat.add_assoc nid, Nat.reduceAdd, reduceCtorEq, ↓reduceIte, Nat.reduceLeDiff, Nat.reduceBneDiff, Option.toList, ← Int.ofNat_tmod, ← Int.ofNat_tdiv, Nat.reduceLT, e1, e2, e3, e4, e5, e6, e7, e8, e9])) ?_
      simp -dsimp only [aqT0, ROp0, aqT, aqU, aqN, aqS, ↓seqK, ↓blkK, ↓loopK, step, stepBin, Nat.add_assoc nid, ↓reduceIte, Option.toList, ← Int.ofNat_tmod, ← Int.ofNat_tdiv, simprocAttr, BEq.rfl, LN_succ, e1, e2, e3, e4, e5, e6, e7, e8, e9, strmC_low]
      have hI0 := nextV_bd A (q + 1 + 1) (n := (R.length : Int)) (by omega)
      obtain ⟨I, hI⟩ : ∃ I : Nat, nextV A (q + 1 + 1) (R.length : Int) = I := ⟨_, (Int.toNat_of_nonneg hI0.1).symm⟩
      rw [hI] at hI0 ⊢
      have hIR : I < R.length := by omega
      refine ⟨by omega, ?_⟩
      refine CallX.some_go (T := 9) (nl := nl) (A := A) (p := q + 1 + 1 + 1) (g := fun i => [[49], [65]].getD i []) (by simp only [aqT, aqU, aqN, ↓seqK, ↓blkK, ↓loopK, step, stepBin, Nat.reduceBEq, Nat.reduceBeqDiff, Nat.add_assoc nid, Nat.reduceAdd, reduceCtorEq, ↓reduceIte, Nat.reduceLeDiff, Nat.reduceBneDiff, Option.toList, ← Int.ofNat_tmod, ← Int.ofNat_tdiv, Nat.reduceLT, e1, e2, e3, e4, e5, e6, e7, e8, e9]) (by simp only [aqT, aqU, aqN, ↓seqK, ↓blkK, ↓loopK, step, stepBin, Nat.reduceBEq, Nat.reduceBeqDiff, Nat.add_assoc nid, Nat.reduceAdd, reduceCtorEq, ↓reduceIte, Nat.reduceLeDiff, Nat.reduceBneDiff, Option.toList, ← Int.ofNat_tmod, ← Int.ofNat_tdiv, Nat.reduceLT, e1, e2, e3, e4, e5, e6, e7, e8, e9]) (by simp only [aqT, aqU, aqN, ↓seqK, ↓blkK, ↓loopK, step, stepBin, Nat.reduceBEq, Nat.reduceBeqDiff, Nat.add_assoc nid, Nat.reduceAdd, reduceCtorEq, ↓reduceIte, Nat.reduceLeDiff, Nat.reduceBneDiff, Option.toList, ← Int.ofNat_tmod, ← Int.ofNat_tdiv, Nat.reduceLT, e1, e2, e3, e4, e5, e6, e7, e8, e9]) (by omega) (by omega) hA (by omega) (by omega) ?_
      simp -dsimp only [aqT0, ROp0, aqT, aqU, aqN, aqS, ↓seqK, ↓blkK, ↓loopK, step, stepBin, Nat.add_assoc nid, ↓reduceIte, Option.toList, ← Int.ofNat_tmod, ← Int.ofNat_tdiv, simprocAttr, BEq.rfl, LN_succ, e1, e2, e3, e4, e5, e6, e7, e8, e9, strmC_low]
      have hb := getD_all (P := fun x : List UInt8 => x.length ≤ 1) (l := [[49], [65]]) (d := []) (by simp) (pickI_lt A (q + 1 + 1 + 1) (n := 2) (by omega))
      generalize ([[49], [65]].getD (pickI A (q + 1 + 1 + 1) 2) [] : List UInt8) = b at hb ⊢
      have hRI := hR2.at I
      have hlb : (R.getD I [] ++ b).length ≤ 7 := by rw [List.length_append]; omega
      rw [getD_setS R _ hIR]
      refine ⟨by rw [← List.length_append]; omega, by omega, ?_⟩
      refine CallX.on (flip_c s _ nl A (q + 1 + 1 + 1 + 1) 60 (by omega) (by omega) hA (by omega)) (subH_get (by simp only [aqT, aqU, aqN, ↓seqK, ↓blkK, ↓loopK, step, stepBin, Nat.reduceBEq, Nat.reduceBeqDiff, Nat.add_assoc nid, Nat.reduceAdd, reduceCtorEq, ↓reduceIte, Nat.reduceLeDiff, Nat.reduceBneDiff, Option.toList, ← Int.ofNat_tmod, ← Int.ofNat_tdiv, Nat.reduceLT, e1, e2, e3, e4, e5, e6, e7, e8, e9])) ?_
      simp -dsimp only [aqT0, ROp0, aqT, aqU, aqN, aqS, ↓seqK, ↓blkK, ↓loopK, step, stepBin, Nat.add_assoc nid, ↓reduceIte, Option.toList, ← Int.ofNat_tmod, ← Int.ofNat_tdiv, simprocAttr, BEq.rfl, LN_succ, e1, e2, e3, e4, e5, e6, e7, e8, e9, strmC_low]
      refine S2.intro (fun h7 => ?_) (fun h7 => ?_) <;> simp -dsimp only [aqT0, ROp0, aqT, aqU, aqN, aqS, ↓seqK, ↓blkK, ↓loopK, step, stepBin, Nat.add_assoc nid, ↓reduceIte, Option.toList, ← Int.ofNat_tmod, ← Int.ofNat_tdiv, simprocAttr, BEq.rfl, LN_succ, e1, e2, e3, e4, e5, e6, e7, e8, e9, strmC_low]
      · refine EndOK.mk (⟨[], pass⟩, (q + 1 + 1 + 1 + 1) + 1) ⟨⟨by simp, fun r hr => by simp at hr, by simp only; omega⟩, by simp only; omega⟩ ?_
        refine RetOK.go [] [(nid, 1)] (.inl rfl) ?_
        simp [a4, cvT, step, res, e1, e2, e3, e4, e5, e6, e7, e8, e9, strmC, arrS]
      · refine EndOK.mk (⟨R.set I (R.getD I [] ++ b), pass⟩, (q + 1 + 1 + 1 + 1) + 1) ⟨⟨by simp only [List.length_set]; omega, (hR2.mono (by omega)).set I hlb, by simp only; omega⟩, by simp only; omega⟩ ?_
        refine RetOK.go [(nid, nid + 36)] [] (.inl rfl) ?_
        simp [a4, cvT, step, res, e1, e2, e3, e4, e5, e6, e7, e8, e9, strmC, arrS, -List.getD_eq_getElem?_getD]
    refine S2.intro (fun h5 => ?_) (fun h5 => ?_) <;> simp -dsimp only [aqT0, ROp0, aqT, aqU, aqN, aqS, ↓seqK, ↓blkK, ↓loopK, step, stepBin, Nat.add_assoc nid, ↓reduceIte, Option.toList, ← Int.ofNat_tmod, ← Int.ofNat_tdiv, simprocAttr, BEq.rfl, LN_succ, e1, e2, e3, e4, e5, e6, e7, e8, e9, strmC_low]
    · refine CallX.on (next_c s _ nl A (q + 1 + 1) _ (by omega) (by omega) hA (by omega)) (subH_get (by simp only [aqT, aqU, aqN, ↓seqK, ↓blkK, ↓loopK, step, stepBin, Nat.reduceBEq, Nat.reduceBeqDiff, Nat.add_assoc nid, Nat.reduceAdd, reduceCtorEq, ↓reduceIte, Nat.reduceLeDiff, Nat.reduceBneDiff, Option.toList, ← Int.ofNat_tmod, ← Int.ofNat_tdiv, Nat.reduceLT, e1, e2, e3, e4, e5, e6, e7, e8, e9])) ?_
      simp -dsimp only [aqT0, ROp0, aqT, aqU, aqN, aqS, ↓seqK, ↓blkK, ↓loopK, step, stepBin, Nat.add_assoc nid, ↓reduceIte, Option.toList, ← Int.ofNat_tmod, ← Int.ofNat_tdiv, simprocAttr, BEq.rfl, LN_succ, e1, e2, e3, e4, e5, e6, e7, e8, e9, strmC_low]
      have hI0 := nextV_bd A (q + 1 + 1) (n := (R.length : Int)) (by omega)
      obtain ⟨I, hI⟩ : ∃ I : Nat, nextV A (q + 1 + 1) (R.length : Int) = I := ⟨_, (Int.toNat_of_nonneg hI0.1).symm⟩
      rw [hI] at hI0 ⊢
      have hIR : I < R.length := by omega
      refine CallX.some_go (T := 9) (nl := nl) (A := A) (p := q + 1 + 1 + 1) (g := fun i => [[], [65], [32]].getD i []) (by simp only [aqT, aqU, aqN, ↓seqK, ↓blkK, ↓loopK, step, stepBin, Nat.reduceBEq, Nat.reduceBeqDiff, Nat.add_assoc nid, Nat.reduceAdd, reduceCtorEq, ↓reduceIte, Nat.reduceLeDiff, Nat.reduceBneDiff, Option.toList, ← Int.ofNat_tmod, ← Int.ofNat_tdiv, Nat.reduceLT, e1, e2, e3, e4, e5, e6, e7, e8, e9]) (by simp only [aqT, aqU, aqN, ↓seqK, ↓blkK, ↓loopK, step, stepBin, Nat.reduceBEq, Nat.reduceBeqDiff, Nat.add_assoc nid, Nat.reduceAdd, reduceCtorEq, ↓reduceIte, Nat.reduceLeDiff, Nat.reduceBneDiff, Option.toList, ← Int.ofNat_tmod, ← Int.ofNat_tdiv, Nat.reduceLT, e1, e2, e3, e4, e5, e6, e7, e8, e9]) (by simp only [aqT, aqU, aqN, ↓seqK, ↓blkK, ↓loopK, step, stepBin, Nat.reduceBEq, Nat.reduceBeqDiff, Nat.add_assoc nid, Nat.reduceAdd, reduceCtorEq, ↓reduceIte, Nat.reduceLeDiff, Nat.reduceBneDiff, Option.toList, ← Int.ofNat_tmod, ← Int.ofNat_tdiv, Nat.reduceLT, e1, e2, e3, e4, e5, e6, e7, e8, e9]) (by omega) (by omega) hA (by omega) (by omega) ?_
      simp -dsimp only [aqT0, ROp0, aqT, aqU, aqN, aqS, ↓seqK, ↓blkK, ↓loopK, step, stepBin, Nat.add_assoc nid, ↓reduceIte, Option.toList, ← Int.ofNat_tmod, ← Int.ofNat_tdiv, simprocAttr, BEq.rfl, LN_succ, e1, e2, e3, e4, e5, e6, e7, e8, e9, strmC_low]
      have hb := getD_all (P := fun x : List UInt8 => x.length ≤ 1) (l := [[], [65], [32]]) (d := []) (by simp) (pickI_lt A (q + 1 + 1 + 1) (n := 3) (by omega))
      generalize ([[], [65], [32]].getD (pickI A (q + 1 + 1 + 1) 3) [] : List UInt8) = b at hb ⊢
      rw [getD_setS R _ hIR]
      refine ⟨by omega, ?_⟩
      refine CallX.on (flip_c s _ nl A (q + 1 + 1 + 1 + 1) 60 (by omega) (by omega) hA (by omega)) (subH_get (by simp only [aqT, aqU, aqN, ↓seqK, ↓blkK, ↓loopK, step, stepBin, Nat.reduceBEq, Nat.reduceBeqDiff, Nat.add_assoc nid, Nat.reduceAdd, reduceCtorEq, ↓reduceIte, Nat.reduceLeDiff, Nat.reduceBneDiff, Option.toList, ← Int.ofNat_tmod, ← Int.ofNat_tdiv, Nat.reduceLT, e1, e2, e3, e4, e5, e6, e7, e8, e9])) ?_
      simp -dsimp only [aqT0, ROp0, aqT, aqU, aqN, aqS, ↓seqK, ↓blkK, ↓loopK, step, stepBin, Nat.add_assoc nid, ↓reduceIte, Option.toList, ← Int.ofNat_tmod, ← Int.ofNat_tdiv, simprocAttr, BEq.rfl, LN_succ, e1, e2, e3, e4, e5, e6, e7, e8, e9, strmC_low]
      refine S2.intro (fun h7 => ?_) (fun h7 => ?_) <;> simp -dsimp only [aqT0, ROp0, aqT, aqU, aqN, aqS, ↓seqK, ↓blkK, ↓loopK, step, stepBin, Nat.add_assoc nid, ↓reduceIte, Option.toList, ← Int.ofNat_tmod, ← Int.ofNat_tdiv, simprocAttr, BEq.rfl, LN_succ, e1, e2, e3, e4, e5, e6, e7, e8, e9, strmC_low]
      · refine EndOK.mk (⟨[], pass⟩, (q + 1 + 1 + 1 + 1) + 1) ⟨⟨by simp, fun r hr => by simp at hr, by simp only; omega⟩, by simp only; omega⟩ ?_
        refine RetOK.go [] [(nid, 1)] (.inl rfl) ?_
        simp [a4, cvT, step, res, e1, e2, e3, e4, e5, e6, e7, e8, e9, strmC, arrS]
      · refine EndOK.mk (⟨R.set I b, pass⟩, (q + 1 + 1 + 1 + 1) + 1) ⟨⟨by simp only [List.length_set]; omega, (hR2.mono (by omega)).set I (by omega), by simp only; omega⟩, by simp only; omega⟩ ?_
        refine RetOK.go [(nid, nid + 36)] [] (.inl rfl) ?_
        simp [a4, cvT, step, res, e1, e2, e3, e4, e5, e6, e7, e8, e9, strmC, arrS, -List.getD_eq_getElem?_getD]
    · refine CallX.some_go (T := 9) (nl := nl) (A := A) (p := q + 1 + 1) (g := fun i => [[50, 49], [49, 49], [65], [63]].getD i []) (by simp only [aqT, aqU, aqN, ↓seqK, ↓blkK, ↓loopK, step, stepBin, Nat.reduceBEq, Nat.reduceBeqDiff, Nat.add_assoc nid, Nat.reduceAdd, reduceCtorEq, ↓reduceIte, Nat.reduceLeDiff, Nat.reduceBneDiff, Option.toList, ← Int.ofNat_tmod, ← Int.ofNat_tdiv, Nat.reduceLT, e1, e2, e3, e4, e5, e6, e7, e8, e9]) (by simp only [aqT, aqU, aqN, ↓seqK, ↓blkK, ↓loopK, step, stepBin, Nat.reduceBEq, Nat.reduceBeqDiff, Nat.add_assoc nid, Nat.reduceAdd, reduceCtorEq, ↓reduceIte, Nat.reduceLeDiff, Nat.reduceBneDiff, Option.toList, ← Int.ofNat_tmod, ← Int.ofNat_tdiv, Nat.reduceLT, e1, e2, e3, e4, e5, e6, e7, e8, e9]) (by simp only [aqT, aqU, aqN, ↓seqK, ↓blkK, ↓loopK, step, stepBin, Nat.reduceBEq, Nat.reduceBeqDiff, Nat.add_assoc nid, Nat.reduceAdd, reduceCtorEq, ↓reduceIte, Nat.reduceLeDiff, Nat.reduceBneDiff, Option.toList, ← Int.ofNat_tmod, ← Int.ofNat_tdiv, Nat.reduceLT, e1, e2, e3, e4, e5, e6, e7, e8, e9]) (by omega) (by omega) hA (by omega) (by omega) ?_
      simp -dsimp only [aqT0, ROp0, aqT, aqU, aqN, aqS, ↓seqK, ↓blkK, ↓loopK, step, stepBin, Nat.add_assoc nid, ↓reduceIte, Option.toList, ← Int.ofNat_tmod, ← Int.ofNat_tdiv, simprocAttr, BEq.rfl, LN_succ, e1, e2, e3, e4, e5, e6, e7, e8, e9, strmC_low]
      have hb := getD_all (P := fun x : List UInt8 => x.length ≤ 2) (l := [[50, 49], [49, 49], [65], [63]]) (d := []) (by simp) (pickI_lt A (q + 1 + 1) (n := 4) (by omega))
      generalize ([[50, 49], [49, 49], [65], [63]].getD (pickI A (q + 1 + 1) 4) [] : List UInt8) = b at hb ⊢
      refine CallX.on (flip_c s _ nl A (q + 1 + 1 + 1) 60 (by omega) (by omega) hA (by omega)) (subH_get (by simp only [aqT, aqU, aqN, ↓seqK, ↓blkK, ↓loopK, step, stepBin, Nat.reduceBEq, Nat.reduceBeqDiff, Nat.add_assoc nid, Nat.reduceAdd, reduceCtorEq, ↓reduceIte, Nat.reduceLeDiff, Nat.reduceBneDiff, Option.toList, ← Int.ofNat_tmod, ← Int.ofNat_tdiv, Nat.reduceLT, e1, e2, e3, e4, e5, e6, e7, e8, e9])) ?_
      simp -dsimp only [aqT0, ROp0, aqT, aqU, aqN, aqS, ↓seqK, ↓blkK, ↓loopK, step, stepBin, Nat.add_assoc nid, ↓reduceIte, Option.toList, ← Int.ofNat_tmod, ← Int.ofNat_tdiv, simprocAttr, BEq.rfl, LN_succ, e1, e2, e3, e4, e5, e6, e7, e8, e9, strmC_low]
      refine S2.intro (fun h7 => ?_) (fun h7 => ?_) <;> simp -dsimp only [aqT0, ROp0, aqT, aqU, aqN, aqS, ↓seqK, ↓blkK, ↓loopK, step, stepBin, Nat.add_assoc nid, ↓reduceIte, Option.toList, ← Int.ofNat_tmod, ← Int.ofNat_tdiv, simprocAttr, BEq.rfl, LN_succ, e1, e2, e3, e4, e5, e6, e7, e8, e9, strmC_low]
      · refine EndOK.mk (⟨[], b⟩, (q + 1 + 1 + 1) + 1) ⟨⟨by simp, fun r hr => by simp at hr, by simp only; omega⟩, by simp only; omega⟩ ?_
        refine RetOK.go [] [(nid, 1)] (.inl rfl) ?_
        simp [a4, cvT, step, res, e1, e2, e3, e4, e5, e6, e7, e8, e9, strmC, arrS]
      · refine EndOK.mk (⟨R, b⟩, (q + 1 + 1 + 1) + 1) ⟨⟨by simp only [List.length_set]; omega, hR2.mono (by omega), by simp only; omega⟩, by simp only; omega⟩ ?_
        refine RetOK.go [(nid, nid + 36)] [] (.inl rfl) ?_
        simp [a4, cvT, step, res, e1, e2, e3, e4, e5, e6, e7, e8, e9, strmC, arrS, -List.getD_eq_getElem?_getD]
  · refine CallX.on (flip_c s _ nl A (q + 1) 60 (by omega) (by omega) hA (by omega)) (subH_get (by simp only [aqT, aqU, aqN, ↓seqK, ↓blkK, ↓loopK, step, stepBin, Nat.reduceBEq, Nat.reduceBeqDiff, Nat.add_assoc nid, Nat.reduceAdd, reduceCtorEq, ↓reduceIte, Nat.reduceLeDiff, Nat.reduceBneDiff, Option.toList, ← Int.ofNat_tmod, ← Int.ofNat_tdiv, Nat.reduceLT, e1, e2, e3, e4, e5, e6, e7, e8, e9])) ?_
    simp -dsimp only [aqT0, ROp0, aqT, aqU, aqN, aqS, ↓seqK, ↓blkK, ↓loopK, step, stepBin, Nat.add_assoc nid, ↓reduceIte, Option.toList, ← Int.ofNat_tmod, ← Int.ofNat_tdiv, simprocAttr, BEq.rfl, LN_succ, e1, e2, e3, e4, e5, e6, e7, e8, e9, strmC_low]
    refine S2.intro (fun h7 => ?_) (fun h7 => ?_) <;> simp -dsimp only [aqT0, ROp0, aqT, aqU, aqN, aqS, ↓seqK, ↓blkK, ↓loopK, step, stepBin, Nat.add_assoc nid, ↓reduceIte, Option.toList, ← Int.ofNat_tmod, ← Int.ofNat_tdiv, simprocAttr, BEq.rfl, LN_succ, e1, e2, e3, e4, e5, e6, e7, e8, e9, strmC_low]
    · refine EndOK.mk (⟨[], pass⟩, (q + 1) + 1) ⟨⟨by simp, fun r hr => by simp at hr, by simp only; omega⟩, by simp only; omega⟩ ?_
      refine RetOK.go [] [(nid, 1)] (.inl rfl) ?_
      simp [a4, cvT, step, res, e1, e2, e3, e4, e5, e6, e7, e8, e9, strmC, arrS]
    · refine EndOK.mk (⟨R, pass⟩, (q + 1) + 1) ⟨⟨by simp only [List.length_set]; omega, hR2.mono (by omega), by simp only; omega⟩, by simp only; omega⟩ ?_
      refine RetOK.go [(nid, nid + 36)] [] (.inl rfl) ?_
      simp [a4, cvT, step, res, e1, e2, e3, e4, e5, e6, e7, e8, e9, strmC, arrS, -List.getD_eq_getElem?_getD]
end Go.Proofs.YtmgfcjblclanmaaGreat
namespace Go.Proofs.YtmgfcjblclanmaaGreat
open Go.RowKit
theorem cloneS_c (nl : Bool) (l : List (List UInt8)) (nid : Nat) (hl : l.length ≤ 1000000000) (hnl : nl = true → l = []) : ACall Tryz.prog 83 [litS nl l] [] nid (.sl nid 0 l.length) [(nid, arrS l)] := by
  refine acall_run c83 (by simp [a83]) ?_
  unfold litS
  simp -dsimp only [aqT, aqU, aqN, ↓seqK, ↓blkK, ↓loopK, step, stepBin, Nat.reduceBEq, Nat.reduceBeqDiff, Nat.add_assoc nid, Nat.reduceAdd, reduceCtorEq, ↓reduceIte, Nat.reduceLeDiff, Nat.reduceBneDiff, Option.toList, ← Int.ofNat_tmod, ← Int.ofNat_tdiv, Nat.reduceLT, a83]
  refine S2.intro (fun h => ?_) (fun h => ?_) <;> simp -dsimp only [aqT, aqU, aqN, ↓seqK, ↓blkK, ↓loopK, step, stepBin, Nat.reduceBEq, Nat.reduceBeqDiff, Nat.add_assoc nid, Nat.reduceAdd, reduceCtorEq, ↓reduceIte, Nat.reduceLeDiff, Nat.reduceBneDiff, Option.toList, ← Int.ofNat_tmod, ← Int.ofNat_tdiv, Nat.reduceLT]
  · refine RetOK.go [] [(nid, 1)] (.inl rfl) ?_
    have := hnl h
    subst this
    simp [a83, cvT, step, res, arrS]
  · refine ⟨⟨by omega, by omega⟩, RetOK.go [(nid, nid + 20)] [] (.inl rfl) ?_⟩
    simp [a83, cvT, step, res, arrS]
theorem sameWafer_c (nl nl' : Bool) (V W : Waf) (nid : Nat) (hV : V.rows.length ≤ 1000000) (hW : W.rows.length ≤ 1000000) : ACall Tryz.prog 12 [wafP nl V, wafP nl' W] [] nid (.bool (V.rows == W.rows && V.pass == W.pass)) [] := by
  refine acall_run c12 (by simp [a12]) ?_
  unfold wafP
  simp -dsimp only [a12, aqT, aqU, aqN, aqS, ↓seqK, ↓blkK, ↓loopK, step, stepBin, Nat.add_assoc nid, ↓reduceIte, Option.toList, ← Int.ofNat_tmod, ← Int.ofNat_tdiv, simprocAttr, BEq.rfl, LN_succ]
  refine CallO.pure (equalS_c nl nl' _ _ _ (by omega) (by omega)) ?_
  simp -dsimp only [aqT, aqU, aqN, aqS, ↓seqK, ↓blkK, ↓loopK, step, stepBin, Nat.add_assoc nid, ↓reduceIte, Option.toList, ← Int.ofNat_tmod, ← Int.ofNat_tdiv, simprocAttr, BEq.rfl, LN_succ]
  refine S2.intro (fun h => ?_) (fun h => ?_) <;> simp -dsimp only [aqT, aqU, aqN, aqS, ↓seqK, ↓blkK, ↓loopK, step, stepBin, Nat.add_assoc nid, ↓reduceIte, Option.toList, ← Int.ofNat_tmod, ← Int.ofNat_tdiv, simprocAttr, BEq.rfl, LN_succ]
  · refine RetOK.pure (.inl rfl) rfl ?_
    simp [cvT, step, res, h]
  · refine RetOK.pure (.inl rfl) rfl ?_
    simp [cvT, step, res, h]
theorem at_all (nl : Bool) (W : Waf) (x y : Int) (nid : Nat) (hW : WafOk W) (hx : inI64 x) (hy : inI64 y) : ACall Tryz.prog 36 [wafP nl W, .agg [.int .i64 x, .int .i64 y]] [] nid (.int .u8 (dieV W x y)) [] := by
  have hp := hW.pos
  have hl := hW.len
  obtain ⟨hw1, hw2⟩ := hW.wide
  have hw0 : wideOf W = (W.rows.getD 0 []).length := rfl
  refine acall_run c36 (by simp [a36]) ?_
  unfold wafP
  simp -dsimp only [a36, aqT, aqU, aqN, aqS, ↓seqK, ↓blkK, ↓loopK, step, stepBin, Nat.add_assoc nid, ↓reduceIte, Option.toList, ← Int.ofNat_tmod, ← Int.ofNat_tdiv, simprocAttr, BEq.rfl, LN_succ]
  refine ⟨by unfold inI64; omega, CallX.pure (out_c _ _ _ _) ?_⟩
  simp -dsimp only [aqT, aqU, aqN, aqS, ↓seqK, ↓blkK, ↓loopK, step, stepBin, Nat.add_assoc nid, ↓reduceIte, Option.toList, ← Int.ofNat_tmod, ← Int.ofNat_tdiv, simprocAttr, BEq.rfl, LN_succ]
  cases h1 : outB y 0 ((W.rows.length : Int) - 1) <;> simp -dsimp only [aqT, aqU, aqN, aqS, ↓seqK, ↓blkK, ↓loopK, step, stepBin, Nat.add_assoc nid, ↓reduceIte, Option.toList, ← Int.ofNat_tmod, ← Int.ofNat_tdiv, simprocAttr, BEq.rfl, LN_succ]
  · refine ⟨by omega, by unfold inI64; omega, CallX.pure (out_c _ _ _ _) ?_⟩
    simp -dsimp only [aqT, aqU, aqN, aqS, ↓seqK, ↓blkK, ↓loopK, step, stepBin, Nat.add_assoc nid, ↓reduceIte, Option.toList, ← Int.ofNat_tmod, ← Int.ofNat_tdiv, simprocAttr, BEq.rfl, LN_succ]
    rw [← hw0]
    cases h2 : outB x 0 ((wideOf W : Int) - 1) <;> simp -dsimp only [aqT, aqU, aqN, aqS, ↓seqK, ↓blkK, ↓loopK, step, stepBin, Nat.add_assoc nid, ↓reduceIte, Option.toList, ← Int.ofNat_tmod, ← Int.ofNat_tdiv, simprocAttr, BEq.rfl, LN_succ]
    · have hy1 : 0 ≤ y ∧ y < W.rows.length := by unfold outB at h1; simp at h1; omega
      have hx1 : 0 ≤ x ∧ x < wideOf W := by unfold outB at h2; simp at h2; omega
      have hr := (hW.at (y := y.toNat) (by omega)).1
      have e : dieV W x y = byteI ((W.rows.getD y.toNat []).getD x.toNat 0) := by unfold dieV; rw [h1, h2, if_neg (by simp), if_neg (by simp)]
      rw [e]
      refine ⟨by omega, by omega, ?_⟩
      refine RetOK.pure (.inl rfl) rfl ?_
      simp [cvT, step, res, byteI]
    · have e : dieV W x y = 46 := by unfold dieV; rw [h1, h2, if_neg (by simp), if_pos rfl]
      rw [e]
      refine RetOK.pure (.inl rfl) rfl ?_
      simp [cvT, step, res]
  · have e : dieV W x y = 46 := by unfold dieV; rw [h1, if_pos rfl]
    rw [e]
    refine RetOK.pure (.inl rfl) rfl ?_
    simp [cvT, step, res]
def arrPl (l : List Pt) : Option ABlk := some (.arr 54 l.length [.i .i64 fun i => (l.getD i p0).1, .i .i64 fun i => (l.getD i p0).2])
def litPl (nl : Bool) (l : List Pt) : PV := .lit nl l.length [.i .i64 fun i => (l.getD i p0).1, .i .i64 fun i => (l.getD i p0).2]
theorem getD_appP (l : List Pt) (x : Pt) {n : Nat} (hn : l.length = n) (f : Pt → Int) (h0 : f p0 = 0) {v : Int} (hv : v = f x) : (fun i => if i < n then f (l.getD i p0) else [v].getD (i - n) 0) = fun i => f ((l ++ [x]).getD i p0) := by
  subst hn
  subst hv
  funext i
  simp only [List.getD_eq_getElem?_getD, List.getElem?_append]
  split
  · rfl
  · cases h : i - l.length with
    | zero => rfl
    | succ k => simp [h0]
end Go.Proofs.YtmgfcjblclanmaaGreat
namespace Go.Proofs.YtmgfcjblclanmaaGreat
open Go.RowKit
theorem plTo_bd {W : Waf} (hW : WafOk W) {y : Nat} (hy : y ≤ W.rows.length) : (plTo W y).length ≤ 60000 := by
  have h := plTo_len (W := W) (fun r hr => by have := (hW.row r hr).2.1; omega) y hy
  have := hW.len
  omega
set_option maxHeartbeats 4000000 in
theorem places_all (nl : Bool) (W : Waf) (nid : Nat) (hW : WafOk W) : ACall Tryz.prog 34 [wafP nl W] [] nid (.sl nid 0 (plV W).length) [(nid, arrPl (plV W))] := by
  have hl := hW.len
  refine acall_run c34 (by simp [a34]) ?_
  unfold wafP
  simp -dsimp only [a34, aqT, aqU, aqN, aqS, ↓seqK, ↓blkK, ↓loopK, step, stepBin, Nat.add_assoc nid, ↓reduceIte, Option.toList, ← Int.ofNat_tmod, ← Int.ofNat_tdiv, simprocAttr, BEq.rfl, LN_succ]
  refine LP.mkP (fun y : Nat => y ≤ W.rows.length) (fun y : Nat => ⟨[(10, .int .i64 y), (9, .int .i64 W.rows.length), (8, .lit nl W.rows.length [.s fun i => W.rows.getD i []]), (3, .sl (nid + 8) 0 (plTo W y).length)], [(nid + 8, arrPl (plTo W y))], nid + 100, nid⟩) (fun y => W.rows.length + 1 - y) 0 (by omega) (Cov.go [] [(nid + 8, 2)] ?_) (fun y hy => ?_)
  · simp [cvT, step, res, arrPl, plTo]
  unfold arrPl
  simp -dsimp only [aqT, aqU, aqN, aqS, ↓seqK, ↓blkK, ↓loopK, step, stepBin, Nat.add_assoc nid, ↓reduceIte, Option.toList, ← Int.ofNat_tmod, ← Int.ofNat_tdiv, simprocAttr, BEq.rfl, LN_succ]
  refine S2.dec (fun h1 => ?_) (fun h1 => ?_) <;> simp -dsimp only [aqT, aqU, aqN, aqS, ↓seqK, ↓blkK, ↓loopK, step, stepBin, Nat.add_assoc nid, ↓reduceIte, Option.toList, ← Int.ofNat_tmod, ← Int.ofNat_tdiv, simprocAttr, BEq.rfl, LN_succ]
  · have hyl : y < W.rows.length := by omega
    have hrl := (hW.at hyl).1
    have hw2 := hW.wide.2
    have hts := plTo_succ W y
    have htb := plTo_bd hW (y := y) (by omega)
    generalize hr : W.rows.getD y [] = r at *
    generalize plTo W y = T at *
    refine ⟨by omega, LP.mkP (fun x : Nat => x ≤ r.length) (fun x : Nat => ⟨[(17, .int .i64 x), (16, .int .i64 r.length), (4, .int .i64 y), (10, .int .i64 y), (9, .int .i64 W.rows.length), (8, .lit nl W.rows.length [.s fun i => W.rows.getD i []]), (3, .sl (nid + 8) 0 (T ++ rowPl y x).length)], [(nid + 8, arrPl (T ++ rowPl y x))], nid + 300, nid⟩) (fun x => r.length + 1 - x) 0 (by omega) (Cov.go [] [] ?_) (fun x hx => ?_)⟩
    · simp [cvT, step, res, arrPl, rowPl]
    have hrs := rowPl_succ y x
    have hrx := rowPl_len y x
    have hTl : (T ++ rowPl y x).length = T.length + x := by rw [List.length_append, hrx]
    have hTs : T ++ rowPl y (x + 1) = (T ++ rowPl y x) ++ [((x : Int), (y : Int))] := by rw [hrs, List.append_assoc]
    generalize hLd : T ++ rowPl y x = L at *
    unfold arrPl
    simp -dsimp only [aqT, aqU, aqN, aqS, ↓seqK, ↓blkK, ↓loopK, step, stepBin, Nat.add_assoc nid, ↓reduceIte, Option.toList, ← Int.ofNat_tmod, ← Int.ofNat_tdiv, simprocAttr, BEq.rfl, LN_succ]
    refine S2.dec (fun h2 => ?_) (fun h2 => ?_) <;> simp -dsimp only [aqT, aqU, aqN, aqS, ↓seqK, ↓blkK, ↓loopK, step, stepBin, Nat.add_assoc nid, ↓reduceIte, Option.toList, ← Int.ofNat_tmod, ← Int.ofNat_tdiv, simprocAttr, BEq.rfl, LN_succ]
    · rw [getD_appP L ((x : Int), (y : Int)) rfl (fun q => q.1) rfl rfl, getD_appP L ((x : Int), (y : Int)) rfl (fun q => q.2) rfl rfl, ← hTs]
      have hl3 : (T ++ rowPl y (x + 1)).length = L.length + 1 := by rw [hTs]; simp
      refine ⟨⟨by omega, by omega⟩, by unfold inI64; omega, x + 1, ⟨by omega, by omega⟩, Cov.go [(nid + 8, nid + 332)] [] ?_⟩
      simp [cvT, step, res, hl3, -List.getD_eq_getElem?_getD, -List.length_append]
    · have hxr : x = r.length := by omega
      subst hxr
      have e : plTo W (y + 1) = L := by rw [hts, hLd]
      refine ⟨by unfold inI64; omega, y + 1, ⟨by omega, by omega⟩, Cov.go [] [] ?_⟩
      rw [e]
      simp [cvT, step, res, -List.getD_eq_getElem?_getD]
  · have hyn : y = W.rows.length := by omega
    subst hyn
    refine RetOK.go [(nid, nid + 8)] [] (.inl rfl) ?_
    simp [cvT, step, res, a34, arrPl, plV, -List.getD_eq_getElem?_getD]
def boxW (nl : Bool) (W : Waf) : Option ABlk := some (.box 28 [.lit nl W.rows.length [.s fun i => W.rows.getD i []], .str W.pass])
theorem zip_take {α β γ : Type} (f : α → β → γ) (da : α) (db : β) {l : List α} {m : List β} {k : Nat} (hl : k < l.length) (hm : k < m.length) : (List.zipWith f l m).take (k + 1) = (List.zipWith f l m).take k ++ [f (l.getD k da) (m.getD k db)] := by
  rw [List.take_add_one]
  congr 1
  rw [List.getElem?_zipWith, List.getElem?_eq_getElem hl, List.getElem?_eq_getElem hm, List.getD_eq_getElem?_getD, List.getD_eq_getElem?_getD, List.getElem?_eq_getElem hl, List.getElem?_eq_getElem hm]
  rfl
end Go.Proofs.YtmgfcjblclanmaaGreat
namespace Go.Proofs.YtmgfcjblclanmaaGreat
open Go.RowKit
def goodP (W : Waf) (p : Pt) : Bool := passedV W.pass (dieV W p.1 p.2)
def allP (W : Waf) (p : Pt) : Bool := testedV (dieV W p.1 p.2)
def cntTo (F : Pt → Bool) (l : List Pt) (k : Nat) : Nat := (l.take k).countP F
def cntN (F : Pt → Bool) (l : List Pt) : Nat := l.countP F
theorem cntTo_succ (F : Pt → Bool) {l : List Pt} {k : Nat} (h : k < l.length) : cntTo F l (k + 1) = cntTo F l k + (if F (l.getD k p0) = true then 1 else 0) := by
  unfold cntTo
  rw [take_snoc (x := l.getD k p0) (by rw [List.getD_eq_getElem?_getD, List.getElem?_eq_getElem h]; rfl), List.countP_append, List.countP_cons, List.countP_nil, Nat.zero_add]
theorem cntTo_le (F : Pt → Bool) (l : List Pt) (k : Nat) : cntTo F l k ≤ l.length := by
  unfold cntTo
  have h1 := List.countP_le_length (p := F) (l := l.take k)
  rw [List.length_take] at h1
  omega
theorem cntTo_all (F : Pt → Bool) (l : List Pt) : cntTo F l l.length = cntN F l := by unfold cntTo cntN; rw [List.take_length]
theorem cntTo_zero (F : Pt → Bool) (l : List Pt) : cntTo F l 0 = 0 := by simp [cntTo]
theorem cntN_le (F : Pt → Bool) (l : List Pt) : cntN F l ≤ l.length := List.countP_le_length
theorem ptMem' {l : List Pt} {k : Nat} (h : k < l.length) : l.getD k p0 ∈ l := by
  rw [List.getD_eq_getElem?_getD, List.getElem?_eq_getElem h]; exact List.getElem_mem _
def litTk (nl : Bool) (l : List Pt) (r : Nat) : PV := .lit nl r [.i .i64 fun i => (l.getD i p0).1, .i .i64 fun i => (l.getD i p0).2]
set_option maxHeartbeats 4000000 in
theorem share_take (nl nlp : Bool) (W : Waf) (l : List Pt) (r : Nat) (nid : Nat) (hW : WafOk W) (hl : l.length ≤ 1000000) (hr : r ≤ l.length) (hp : ∀ i, i < r → inI64 (l.getD i p0).1 ∧ inI64 (l.getD i p0).2) : ACall Tryz.prog 45 [wafP nl W, litTk nlp l r] [] nid (.tup [.int .i64 (cntTo (goodP W) l r : Nat), .int .i64 (cntTo (allP W) l r : Nat)]) [] := by
  refine acall_run c45 (by simp [a45]) ?_
  unfold wafP litTk
  simp -dsimp only [a45, aqT, aqU, aqN, aqS, ↓seqK, ↓blkK, ↓loopK, step, stepBin, Nat.add_assoc nid, ↓reduceIte, Option.toList, ← Int.ofNat_tmod, ← Int.ofNat_tdiv, simprocAttr, BEq.rfl, LN_succ]
  refine LP.mkP (fun k : Nat => k ≤ r) (fun k : Nat => ⟨[(11, .int .i64 k), (10, .int .i64 r), (9, litTk nlp l r), (4, .int .i64 (cntTo (goodP W) l k : Nat)), (5, .int .i64 (cntTo (allP W) l k : Nat)), (2, .ptr nid 0)], [(nid, boxW nl W)], nid + 100, nid⟩) (fun k => r + 1 - k) 0 (by omega) (Cov.go [] [] ?_) (fun k hk => ?_)
  · simp [cvT, step, res, litTk, boxW, cntTo_zero]
  unfold litTk boxW
  simp -dsimp only [aqT, aqU, aqN, aqS, ↓seqK, ↓blkK, ↓loopK, step, stepBin, Nat.add_assoc nid, ↓reduceIte, Option.toList, ← Int.ofNat_tmod, ← Int.ofNat_tdiv, simprocAttr, BEq.rfl, LN_succ]
  refine S2.dec (fun h1 => ?_) (fun h1 => ?_) <;> simp -dsimp only [aqT, aqU, aqN, aqS, ↓seqK, ↓blkK, ↓loopK, step, stepBin, Nat.add_assoc nid, ↓reduceIte, Option.toList, ← Int.ofNat_tmod, ← Int.ofNat_tdiv, simprocAttr, BEq.rfl, LN_succ]
  · have hkr : k < r := by omega
    have hkl : k < l.length := by omega
    have e1 := cntTo_succ (goodP W) hkl
    have e2 := cntTo_succ (allP W) hkl
    have b1 := cntTo_le (goodP W) l k
    have b2 := cntTo_le (allP W) l k
    obtain ⟨i1, i2⟩ := hp _ hkr
    refine ⟨by omega, CallO.pure (at_all nl W _ _ _ hW i1 i2) ?_⟩
    simp -dsimp only [aqT, aqU, aqN, aqS, ↓seqK, ↓blkK, ↓loopK, step, stepBin, Nat.add_assoc nid, ↓reduceIte, Option.toList, ← Int.ofNat_tmod, ← Int.ofNat_tdiv, simprocAttr, BEq.rfl, LN_succ]
    refine CallO.pure (tested_c _ _) ?_
    have g1 : (isBinV (dieV W (l.getD k p0).1 (l.getD k p0).2) || dieV W (l.getD k p0).1 (l.getD k p0).2 == 42) = allP W (l.getD k p0) := rfl
    have g2 : passedV W.pass (dieV W (l.getD k p0).1 (l.getD k p0).2) = goodP W (l.getD k p0) := rfl
    rw [g1]
    cases hA : allP W (l.getD k p0) <;> rw [hA] at e2 <;> simp -dsimp only [aqT, aqU, aqN, aqS, ↓seqK, ↓blkK, ↓loopK, step, stepBin, Nat.add_assoc nid, ↓reduceIte, Option.toList, ← Int.ofNat_tmod, ← Int.ofNat_tdiv, simprocAttr, BEq.rfl, LN_succ]
    · refine CallO.pure (passed_c _ _ _ _ _ _ _ rfl) ?_
      rw [g2]
      cases hG : goodP W (l.getD k p0) <;> rw [hG] at e1 <;> simp -dsimp only [aqT, aqU, aqN, aqS, ↓seqK, ↓blkK, ↓loopK, step, stepBin, Nat.add_assoc nid, ↓reduceIte, Option.toList, ← Int.ofNat_tmod, ← Int.ofNat_tdiv, simprocAttr, BEq.rfl, LN_succ]
      · simp only [Bool.false_eq_true, if_false, Nat.add_zero] at e1 e2
        refine ⟨by unfold inI64; omega, k + 1, ⟨by omega, by omega⟩, Cov.go [] [] ?_⟩
        simp [cvT, step, res, litTk, boxW, e1, e2]
      · simp only [Bool.false_eq_true, if_false, if_true, Nat.add_zero] at e1 e2
        refine ⟨by unfold inI64; omega, by unfold inI64; omega, k + 1, ⟨by omega, by omega⟩, Cov.go [] [] ?_⟩
        simp [cvT, step, res, litTk, boxW, e1, e2]
    · refine ⟨by unfold inI64; omega, CallO.pure (passed_c _ _ _ _ _ _ _ rfl) ?_⟩
      rw [g2]
      cases hG : goodP W (l.getD k p0) <;> rw [hG] at e1 <;> simp -dsimp only [aqT, aqU, aqN, aqS, ↓seqK, ↓blkK, ↓loopK, step, stepBin, Nat.add_assoc nid, ↓reduceIte, Option.toList, ← Int.ofNat_tmod, ← Int.ofNat_tdiv, simprocAttr, BEq.rfl, LN_succ]
      · simp only [Bool.false_eq_true, if_false, if_true, Nat.add_zero] at e1 e2
        refine ⟨by unfold inI64; omega, k + 1, ⟨by omega, by omega⟩, Cov.go [] [] ?_⟩
        simp [cvT, step, res, litTk, boxW, e1, e2]
      · simp only [Bool.false_eq_true, if_false, if_true, Nat.add_zero] at e1 e2
        refine ⟨by unfold inI64; omega, by unfold inI64; omega, k + 1, ⟨by omega, by omega⟩, Cov.go [] [] ?_⟩
        simp [cvT, step, res, litTk, boxW, e1, e2]
  · have hkn : k = r := by omega
    subst hkn
    refine RetOK.pure (.inl rfl) rfl ?_
    simp [cvT, step, res]
theorem gcd_c (a b nid : Nat) (ha : a ≤ 1000000000000) (hb : b ≤ 1000000000000) : ACall Tryz.prog 80 [.int .i64 (a : Nat), .int .i64 (b : Nat)] [] nid (.int .i64 (Nat.gcd a b : Nat)) [] := by
  refine acall_run c80 (by simp [a80]) ?_
  simp -dsimp only [a80, aqT, aqU, aqN, aqS, ↓seqK, ↓blkK, ↓loopK, step, stepBin, Nat.add_assoc nid, ↓reduceIte, Option.toList, ← Int.ofNat_tmod, ← Int.ofNat_tdiv, simprocAttr, BEq.rfl, LN_succ]
  refine LP.mkP (fun x : Nat × Nat => Nat.gcd x.1 x.2 = Nat.gcd a b ∧ x.1 ≤ 1000000000000 ∧ x.2 ≤ 1000000000000) (fun x : Nat × Nat => ⟨[(0, .int .i64 (x.1 : Nat)), (1, .int .i64 (x.2 : Nat))], [], nid + 100, nid⟩) (fun x => x.2) (a, b) ⟨rfl, ha, hb⟩ (Cov.go [] [] ?_) (fun x hx => ?_)
  · simp [cvT, step, res]
  obtain ⟨x, y⟩ := x
  obtain ⟨hg, h1, h2⟩ := hx
  simp only at hg h1 h2
  simp -dsimp only [aqT, aqU, aqN, aqS, ↓seqK, ↓blkK, ↓loopK, step, stepBin, Nat.add_assoc nid, ↓reduceIte, Option.toList, ← Int.ofNat_tmod, ← Int.ofNat_tdiv, simprocAttr, BEq.rfl, LN_succ]
  refine S2.intro (fun h => ?_) (fun h => ?_) <;> simp -dsimp only [aqT, aqU, aqN, aqS, ↓seqK, ↓blkK, ↓loopK, step, stepBin, Nat.add_assoc nid, ↓reduceIte, Option.toList, ← Int.ofNat_tmod, ← Int.ofNat_tdiv, simprocAttr, BEq.rfl, LN_succ]
  · have hy : 0 < y := by
      rcases Nat.eq_zero_or_pos y with h0 | h0
      · subst h0; simp at h
      · exact h0
    have hm := Nat.mod_lt x hy
    refine ⟨by omega, (y, x % y), ⟨⟨?_, by omega, by simp only; omega⟩, by simp only; omega⟩, Cov.go [] [] ?_⟩
    · simp only
      rw [← hg, Nat.gcd_comm x y, Nat.gcd_rec y x, Nat.gcd_comm]
    · simp [cvT, step, res]
  · have hy : y = 0 := by
      rcases Nat.eq_zero_or_pos y with h0 | h0
      · exact h0
      · exfalso
        have : ((y : Int) != 0) = true := by simp; omega
        rw [this] at h
        cases h
    subst hy
    rw [Nat.gcd_zero_right] at hg
    rw [← hg]
    refine RetOK.pure (.inl rfl) rfl ?_
    simp [cvT, step, res]
theorem frac_c (a b nid : Nat) (ha : a ≤ 1000000000000) (hb : b ≤ 1000000000000) (hb0 : 0 < b) : ACall Tryz.prog 46 [.int .i64 (a : Nat), .int .i64 (b : Nat)] [] nid (.agg [.int .i64 (a / Nat.gcd a b : Nat), .int .i64 (b / Nat.gcd a b : Nat)]) [] := by
  have hg := Nat.gcd_pos_of_pos_right a hb0
  refine acall_run c46 (by simp [a46]) ?_
  simp -dsimp only [a46, aqT, aqU, aqN, aqS, ↓seqK, ↓blkK, ↓loopK, step, stepBin, Nat.add_assoc nid, ↓reduceIte, Option.toList, ← Int.ofNat_tmod, ← Int.ofNat_tdiv, simprocAttr, BEq.rfl, LN_succ]
  have hm : max (a : Int) (0 - (a : Int)) = a := by omega
  rw [hm]
  refine ⟨by unfold inI64; omega, CallO.pure (gcd_c a b _ ha hb) ?_⟩
  simp -dsimp only [aqT, aqU, aqN, aqS, ↓seqK, ↓blkK, ↓loopK, step, stepBin, Nat.add_assoc nid, ↓reduceIte, Option.toList, ← Int.ofNat_tmod, ← Int.ofNat_tdiv, simprocAttr, BEq.rfl, LN_succ]
  have q1 : a / Nat.gcd a b ≤ a := Nat.div_le_self _ _
  have q2 : b / Nat.gcd a b ≤ b := Nat.div_le_self _ _
  have wN : ∀ q : Nat, q ≤ 1000000000000 → IntKind.i64.wrap (q : Int) = q := fun q hq => IntWalk.i64_in _ (by omega)
  have w1 : IntKind.i64.wrap ((a / Nat.gcd a b : Nat) : Int) = ((a / Nat.gcd a b : Nat) : Int) := wN _ (Nat.le_trans q1 ha)
  have w2 : IntKind.i64.wrap ((b / Nat.gcd a b : Nat) : Int) = ((b / Nat.gcd a b : Nat) : Int) := wN _ (Nat.le_trans q2 hb)
  rw [w1, w2]
  refine ⟨by omega, by omega, RetOK.go [] [] (.inl rfl) ?_⟩
  generalize a / Nat.gcd a b = q at *
  generalize b / Nat.gcd a b = r at *
  simp [a46, cvT, step, res]
theorem plV_in' {W : Waf} (hW : WafOk W) {p : Pt} (h : p ∈ plV W) : inI64 p.1 ∧ inI64 p.2 := by
  obtain ⟨x, y, rfl, h1, h2⟩ := plV_mem h
  have := (hW.at h1).1
  have := hW.wide.2
  have := hW.len
  unfold inI64
  simp only
  omega
theorem WafOk.bd {W : Waf} (h : WafOk W) (hp : W.pass.length ≤ 1000000) : WafBd W := ⟨by have := h.len; omega, fun r hr => by have := (h.row r hr).2.1; omega, hp⟩
end Go.Proofs.YtmgfcjblclanmaaGreat
