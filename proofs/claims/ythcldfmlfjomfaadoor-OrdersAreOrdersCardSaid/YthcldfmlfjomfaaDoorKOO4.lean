/-
  The functions' forms for the abstract machine, each checked against the program's form.
-/
import Derived.Test.YthcldfmlfjomfaaDoorKOO1
import Derived.Test.YthcldfmlfjomfaaDoorProg
import Derived.Test.YthcldfmlfjomfaaDoorKOO3
import Derived.Ground.NamesProg
import Derived.Shelf.Strings.SlTrimAscii
import Derived.Shelf.Strings.Repeat
import Derived.Shelf.Strings.Split
import Derived.Shelf.Strings.Cut
import Derived.Shelf.Sort.Plain
import Derived.WalkKit
import Derived.Lib.Agree
set_option linter.unusedVariables false
set_option linter.unusedSimpArgs false
set_option maxRecDepth 100000
namespace Go.Proofs.YthcldfmlfjomfaaDoor
def a11 : AFn := ⟨71, [.t 2], .seq (.ops [⟨(some 2), none, .mv (.c (.bool false))⟩])
 (.seq (.ops [⟨(some 12), none, .mv (.t 0)⟩, ⟨(some 13), none, .build [(.lit true 0 []), (.int .i64 0)] [(0, 1, (.t 12))]⟩, ⟨(some 14), none, .box 25 (.t 13)⟩, ⟨(some 3), none, .mv (.t 14)⟩])
 (.seq (.ops [⟨(some 16), none, .mv (.t 3)⟩, ⟨(some 17), none, .call 12 [(.t 16), (.c (.int .i64 6))]⟩, ⟨(some 15), none, .mv (.t 17)⟩, ⟨(some 18), none, .ext (.t 15) 0⟩, ⟨(some 19), none, .ext (.t 15) 1⟩, ⟨(some 4), none, .alloc 3 [(.int .i64 0)]⟩, ⟨none, none, .store 1 (.t 4) (.t 18)⟩, ⟨(some 5), none, .mv (.t 19)⟩])
 (.seq (.ops [⟨(some 21), none, .load none (.t 4)⟩, ⟨(some 22), none, .mv (.t 5)⟩, ⟨(some 23), none, .call 49 [(.t 21), (.t 22)]⟩, ⟨(some 20), none, .mv (.t 23)⟩, ⟨(some 24), none, .ext (.t 20) 0⟩, ⟨(some 25), none, .ext (.t 20) 1⟩, ⟨(some 26), none, .ext (.t 20) 2⟩, ⟨(some 6), none, .mv (.t 24)⟩, ⟨(some 7), none, .mv (.t 25)⟩, ⟨(some 8), none, .mv (.t 26)⟩])
 (.seq (.seq (.ops [⟨(some 27), none, .mv (.t 8)⟩, ⟨(some 28), none, .bin 0 .neq (.t 27) (.c (.int .i64 0))⟩, ⟨(some 29), none, .mv (.t 28)⟩, ⟨(some 30), (some (29, false)), .mv (.t 6)⟩, ⟨(some 31), (some (29, false)), .len false (.t 30)⟩, ⟨(some 32), (some (29, false)), .mv (.t 5)⟩, ⟨(some 33), (some (29, false)), .len false (.t 32)⟩, ⟨(some 34), (some (29, false)), .bin 0 .neq (.t 31) (.t 33)⟩, ⟨(some 35), none, .pick (.t 29) (.c (.bool true)) (.t 34)⟩])
 (.cond (.t 35) (.seq (.ops [⟨(some 2), none, .mv (.c (.bool false))⟩])
 (.ret)) (.skip)))
 (.seq (.ops [⟨(some 36), none, .mkfn 69 [(.t 4)]⟩, ⟨(some 9), none, .mv (.t 36)⟩])
 (.seq (.ops [⟨(some 38), none, .mv (.t 5)⟩, ⟨(some 39), none, .mv (.t 6)⟩, ⟨(some 40), none, .call 52 [(.t 38), (.t 39)]⟩, ⟨(some 37), none, .mv (.t 40)⟩, ⟨(some 41), none, .ext (.t 37) 0⟩, ⟨(some 42), none, .ext (.t 37) 1⟩, ⟨(some 10), none, .mv (.t 41)⟩, ⟨(some 11), none, .mv (.t 42)⟩])
 (.seq (.ops [⟨(some 43), none, .mv (.t 11)⟩, ⟨(some 44), none, .mv (.t 43)⟩, ⟨(some 45), (some (44, true)), .mv (.t 6)⟩, ⟨(some 46), (some (44, true)), .call 72 [(.t 45)]⟩, ⟨(some 47), (some (44, true)), .call 71 [(.t 46)]⟩, ⟨(some 48), (some (44, true)), .call 70 [(.t 47)]⟩, ⟨(some 49), (some (44, true)), .len false (.t 48)⟩, ⟨(some 50), (some (44, true)), .mv (.t 5)⟩, ⟨(some 51), (some (44, true)), .len false (.t 50)⟩, ⟨(some 52), (some (44, true)), .bin 0 .eql (.t 49) (.t 51)⟩, ⟨(some 53), none, .pick (.t 44) (.t 52) (.c (.bool false))⟩, ⟨(some 54), none, .mv (.t 53)⟩, ⟨(some 55), (some (54, true)), .mv (.t 9)⟩, ⟨(some 56), (some (54, true)), .mv (.t 10)⟩, ⟨(some 57), (some (54, true)), .callv (.t 55) [(.t 56)]⟩, ⟨(some 58), (some (54, true)), .mv (.t 7)⟩, ⟨(some 59), (some (54, true)), .bin 0 .eql (.t 57) (.t 58)⟩, ⟨(some 60), none, .pick (.t 54) (.t 59) (.c (.bool false))⟩, ⟨(some 61), none, .mv (.t 60)⟩, ⟨(some 62), (some (61, true)), .mv (.t 7)⟩, ⟨(some 63), (some (61, true)), .mv (.t 9)⟩, ⟨(some 64), (some (61, true)), .mv (.t 5)⟩, ⟨(some 65), (some (61, true)), .callv (.t 63) [(.t 64)]⟩, ⟨(some 66), (some (61, true)), .bin 0 .leq (.t 62) (.t 65)⟩, ⟨(some 67), none, .pick (.t 61) (.t 66) (.c (.bool false))⟩, ⟨(some 68), none, .mv (.t 67)⟩, ⟨(some 69), (some (68, true)), .call 21 []⟩, ⟨(some 70), none, .pick (.t 68) (.t 69) (.c (.bool false))⟩, ⟨(some 2), none, .mv (.t 70)⟩])
 (.ret))))))))⟩
theorem c11 : compF Go.Proofs.Tryd.prog 11 = some a11 := by kernel_rfl
def a12 : AFn := ⟨23, [.t 4, .t 5], .seq (.ops [⟨(some 4), none, .mv (.c (.int .i64 0))⟩, ⟨(some 5), none, .mv (.c (.lit true 0 []))⟩])
 (.seq (.seq (.ops [⟨(some 8), none, .mv (.c (.int .i64 0))⟩])
 (.block 0 (.loop (.seq (.ops [⟨(some 9), none, .bin 0 .lss (.t 8) (.c (.int .i64 6))⟩])
 (.seq (.cond (.t 9) (.skip) (.exit 0))
 (.seq (.block 1 (.seq (.ops [⟨(some 11), none, .mv (.t 0)⟩, ⟨(some 12), none, .mv (.t 1)⟩, ⟨(some 13), none, .call 22 [(.t 11), (.t 12)]⟩, ⟨(some 10), none, .mv (.t 13)⟩, ⟨(some 14), none, .ext (.t 10) 0⟩, ⟨(some 15), none, .ext (.t 10) 1⟩, ⟨(some 6), none, .mv (.t 14)⟩, ⟨(some 7), none, .mv (.t 15)⟩])
 (.seq (.ops [⟨(some 16), none, .mv (.t 6)⟩, ⟨(some 17), none, .mv (.t 7)⟩, ⟨(some 18), none, .call 24 [(.t 16), (.t 17)]⟩, ⟨(some 19), none, .bin 0 .eql (.t 18) (.c (.int .i64 0))⟩])
 (.cond (.t 19) (.seq (.ops [⟨(some 20), none, .mv (.t 6)⟩, ⟨(some 21), none, .mv (.t 7)⟩, ⟨(some 4), none, .mv (.t 20)⟩, ⟨(some 5), none, .mv (.t 21)⟩])
 (.ret)) (.skip)))))
 (.ops [⟨(some 22), none, .bin 0 .add (.t 8) (.c (.int .i64 1))⟩, ⟨(some 8), none, .mv (.t 22)⟩])))))))
 (.seq (.ops [⟨(some 4), none, .mv (.c (.int .i64 1))⟩, ⟨(some 5), none, .mv (.c (.lit true 0 []))⟩])
 (.ret)))⟩
theorem c12 : compF Go.Proofs.Tryd.prog 12 = some a12 := by kernel_rfl
def a16 : AFn := ⟨30, [.t 2, .t 3], .seq (.ops [⟨(some 1), none, .box 3 (.t 0)⟩, ⟨(some 2), none, .mv (.c (.lit true 0 []))⟩, ⟨(some 3), none, .mv (.c (.int .i64 0))⟩])
 (.seq (.seq (.ops [⟨(some 8), none, .load none (.t 1)⟩, ⟨(some 9), none, .call 78 [(.t 8)]⟩, ⟨(some 4), none, .mv (.t 9)⟩])
 (.seq (.ops [⟨(some 10), none, .mv (.t 4)⟩, ⟨(some 11), none, .bin 0 .neq (.t 10) (.c (.int .i64 0))⟩])
 (.cond (.t 11) (.seq (.ops [⟨(some 12), none, .mv (.t 4)⟩, ⟨(some 2), none, .mv (.c (.lit true 0 []))⟩, ⟨(some 3), none, .mv (.t 12)⟩])
 (.ret)) (.skip))))
 (.seq (.ops [⟨(some 13), none, .mkfn 80 [(.t 1)]⟩, ⟨(some 14), none, .call 79 [(.c (.int .i64 0)), (.t 13)]⟩, ⟨(some 5), none, .mv (.t 14)⟩])
 (.seq (.ops [⟨(some 6), none, .mv (.c (.lit true 0 []))⟩])
 (.seq (.seq (.ops [⟨(some 15), none, .load none (.t 1)⟩, ⟨(some 16), none, .mv (.c (.int .i64 0))⟩])
 (.block 0 (.loop (.seq (.ops [⟨(some 17), none, .bin 0 .lss (.t 16) (.t 15)⟩])
 (.seq (.cond (.t 17) (.skip) (.exit 0))
 (.seq (.block 1 (.seq (.ops [⟨(some 18), none, .mv (.t 16)⟩, ⟨(some 7), none, .mv (.t 18)⟩])
 (.ops [⟨(some 19), none, .mv (.t 6)⟩, ⟨(some 20), none, .mv (.t 7)⟩, ⟨(some 21), none, .bin 0 .add (.t 20) (.c (.int .i64 1))⟩, ⟨(some 22), none, .mv (.t 5)⟩, ⟨(some 23), none, .call 81 [(.t 21), (.t 22)]⟩, ⟨(some 24), none, .bslice 9 1 1 [(.str [])] [(0, 1, (.t 23))]⟩, ⟨(some 25), none, .app 9 1 16 (.t 19) (.t 24)⟩, ⟨(some 6), none, .mv (.t 25)⟩])))
 (.ops [⟨(some 26), none, .bin 0 .add (.t 16) (.c (.int .i64 1))⟩, ⟨(some 16), none, .mv (.t 26)⟩])))))))
 (.seq (.ops [⟨(some 27), none, .mv (.t 6)⟩, ⟨(some 28), none, .mv (.t 5)⟩, ⟨(some 29), none, .call 73 [(.t 27), (.t 28)]⟩, ⟨(some 2), none, .mv (.t 29)⟩, ⟨(some 3), none, .mv (.c (.int .i64 0))⟩])
 (.ret))))))⟩
theorem c16 : compF Go.Proofs.Tryd.prog 16 = some a16 := by kernel_rfl
def a21 : AFn := ⟨50, [.t 0], .seq (.ops [⟨(some 0), none, .mv (.c (.bool false))⟩])
 (.seq (.ops [⟨(some 9), none, .call 82 [(.c (.int .i64 4)), (.c (.int .i64 1))]⟩, ⟨(some 8), none, .mv (.t 9)⟩, ⟨(some 10), none, .ext (.t 8) 0⟩, ⟨(some 11), none, .ext (.t 8) 1⟩, ⟨(some 1), none, .mv (.t 10)⟩, ⟨(some 2), none, .mv (.t 11)⟩])
 (.seq (.ops [⟨(some 13), none, .call 16 [(.c (.int .i64 3))]⟩, ⟨(some 12), none, .mv (.t 13)⟩, ⟨(some 14), none, .ext (.t 12) 0⟩, ⟨(some 15), none, .ext (.t 12) 1⟩, ⟨(some 3), none, .mv (.t 14)⟩, ⟨(some 4), none, .mv (.t 15)⟩])
 (.seq (.ops [⟨(some 17), none, .bslice 9 1 1 [(.str [])] [(0, 1, (.c (.str [49, 120])))]⟩, ⟨(some 18), none, .build [(.lit true 0 []), (.str [])] [(0, 1, (.t 17)), (1, 1, (.c (.str [49])))]⟩, ⟨(some 19), none, .call 83 [(.t 18)]⟩, ⟨(some 16), none, .mv (.t 19)⟩, ⟨(some 20), none, .ext (.t 16) 0⟩, ⟨(some 21), none, .ext (.t 16) 1⟩, ⟨(some 22), none, .ext (.t 16) 2⟩, ⟨(some 5), none, .alloc 61 [(.int .i64 0), (.int .i64 0)]⟩, ⟨none, none, .store 2 (.t 5) (.t 20)⟩, ⟨(some 6), none, .mv (.t 21)⟩, ⟨(some 7), none, .mv (.t 22)⟩])
 (.seq (.ops [⟨(some 23), none, .mv (.t 2)⟩, ⟨(some 24), none, .bin 0 .eql (.t 23) (.c (.int .i64 0))⟩, ⟨(some 25), none, .mv (.t 24)⟩, ⟨(some 26), (some (25, true)), .mv (.t 1)⟩, ⟨(some 27), (some (25, true)), .bin 1 .eql (.t 26) (.c (.str [49, 49, 48]))⟩, ⟨(some 28), none, .pick (.t 25) (.t 27) (.c (.bool false))⟩, ⟨(some 29), none, .mv (.t 28)⟩, ⟨(some 30), (some (29, true)), .mv (.t 4)⟩, ⟨(some 31), (some (29, true)), .bin 0 .eql (.t 30) (.c (.int .i64 0))⟩, ⟨(some 32), none, .pick (.t 29) (.t 31) (.c (.bool false))⟩, ⟨(some 33), none, .mv (.t 32)⟩, ⟨(some 34), (some (33, true)), .mv (.t 3)⟩, ⟨(some 35), (some (33, true)), .len false (.t 34)⟩, ⟨(some 36), (some (33, true)), .bin 0 .eql (.t 35) (.c (.int .i64 3))⟩, ⟨(some 37), none, .pick (.t 33) (.t 36) (.c (.bool false))⟩, ⟨(some 38), none, .mv (.t 37)⟩, ⟨(some 39), (some (38, true)), .mv (.t 7)⟩, ⟨(some 40), (some (38, true)), .bin 0 .eql (.t 39) (.c (.int .i64 0))⟩, ⟨(some 41), none, .pick (.t 38) (.t 40) (.c (.bool false))⟩, ⟨(some 42), none, .mv (.t 41)⟩, ⟨(some 43), (some (42, true)), .mv (.t 6)⟩, ⟨(some 44), none, .pick (.t 42) (.t 43) (.c (.bool false))⟩, ⟨(some 45), none, .mv (.t 44)⟩, ⟨(some 46), (some (45, true)), .load (some 2) (.t 5)⟩, ⟨(some 47), (some (45, true)), .build [(.int .i64 0), (.int .i64 0)] [(0, 1, (.c (.int .i64 1))), (1, 1, (.c (.int .i64 2)))]⟩, ⟨(some 48), (some (45, true)), .eqs false [0, 0] (.t 46) (.t 47)⟩, ⟨(some 49), none, .pick (.t 45) (.t 48) (.c (.bool false))⟩, ⟨(some 0), none, .mv (.t 49)⟩])
 (.ret)))))⟩
theorem c21 : compF Go.Proofs.Tryd.prog 21 = some a21 := by kernel_rfl
def a22 : AFn := ⟨73, [.t 4, .t 5], .seq (.ops [⟨(some 4), none, .mv (.c (.int .i64 0))⟩, ⟨(some 5), none, .mv (.c (.lit true 0 []))⟩])
 (.seq (.ops [⟨(some 9), none, .mv (.t 0)⟩, ⟨(some 10), none, .call 37 [(.t 9), (.c (.int .i64 1)), (.c (.int .i64 6))]⟩, ⟨(some 6), none, .mv (.t 10)⟩])
 (.seq (.ops [⟨(some 7), none, .mv (.c (.lit true 0 []))⟩])
 (.seq (.seq (.ops [⟨(some 11), none, .mv (.t 0)⟩, ⟨(some 12), none, .mv (.t 1)⟩, ⟨(some 13), none, .call 37 [(.t 11), (.c (.int .i64 0)), (.t 12)]⟩, ⟨(some 14), none, .mv (.c (.int .i64 0))⟩])
 (.block 0 (.loop (.seq (.ops [⟨(some 15), none, .bin 0 .lss (.t 14) (.t 13)⟩])
 (.seq (.cond (.t 15) (.skip) (.exit 0))
 (.seq (.block 1 (.ops [⟨(some 16), none, .mv (.t 7)⟩, ⟨(some 17), none, .mv (.t 0)⟩, ⟨(some 18), none, .mv (.t 6)⟩, ⟨(some 19), none, .call 84 [(.t 17), (.t 18)]⟩, ⟨(some 20), none, .bslice 9 1 1 [(.str [])] [(0, 1, (.t 19))]⟩, ⟨(some 21), none, .app 9 1 16 (.t 16) (.t 20)⟩, ⟨(some 7), none, .mv (.t 21)⟩]))
 (.ops [⟨(some 22), none, .bin 0 .add (.t 14) (.c (.int .i64 1))⟩, ⟨(some 14), none, .mv (.t 22)⟩])))))))
 (.seq (.seq (.ops [⟨(some 23), none, .mv (.t 7)⟩, ⟨(some 24), none, .len false (.t 23)⟩, ⟨(some 25), none, .bin 0 .gtr (.t 24) (.c (.int .i64 0))⟩, ⟨(some 26), none, .mv (.t 25)⟩, ⟨(some 27), (some (26, true)), .mv (.t 0)⟩, ⟨(some 28), (some (26, true)), .call 43 [(.t 27), (.c (.int .i64 4))]⟩, ⟨(some 29), none, .pick (.t 26) (.t 28) (.c (.bool false))⟩])
 (.cond (.t 29) (.ops [⟨(some 30), none, .mv (.t 7)⟩, ⟨(some 31), none, .mv (.t 7)⟩, ⟨(some 32), none, .iadr 1 (.t 31) (.c (.int .i64 0))⟩, ⟨(some 33), none, .load none (.t 32)⟩, ⟨(some 34), none, .bslice 9 1 1 [(.str [])] [(0, 1, (.t 33))]⟩, ⟨(some 35), none, .app 9 1 16 (.t 30) (.t 34)⟩, ⟨(some 7), none, .mv (.t 35)⟩]) (.skip)))
 (.seq (.seq (.ops [⟨(some 36), none, .mv (.t 7)⟩, ⟨(some 37), none, .len false (.t 36)⟩, ⟨(some 38), none, .bin 0 .gtr (.t 37) (.c (.int .i64 0))⟩, ⟨(some 39), none, .mv (.t 38)⟩, ⟨(some 40), (some (39, true)), .mv (.t 0)⟩, ⟨(some 41), (some (39, true)), .call 43 [(.t 40), (.c (.int .i64 12))]⟩, ⟨(some 42), none, .pick (.t 39) (.t 41) (.c (.bool false))⟩])
 (.cond (.t 42) (.seq (.ops [⟨(some 43), none, .mv (.t 0)⟩, ⟨(some 44), none, .mv (.t 7)⟩, ⟨(some 45), none, .len false (.t 44)⟩, ⟨(some 46), none, .call 85 [(.t 43), (.t 45)]⟩, ⟨(some 8), none, .mv (.t 46)⟩])
 (.any [(⟨(some 47), none, .mv (.t 7)⟩, []), (⟨(some 48), none, .mv (.t 8)⟩, [0]), (⟨(some 49), none, .mv (.t 0)⟩, [0, 1]), (⟨(some 50), none, .mv (.t 7)⟩, [0, 1, 2]), (⟨(some 51), none, .mv (.t 8)⟩, [0, 1, 2, 3]), (⟨(some 52), none, .iadr 1 (.t 50) (.t 51)⟩, [0, 1, 2]), (⟨(some 53), none, .load none (.t 52)⟩, [0, 1, 2]), (⟨(some 54), none, .mv (.t 0)⟩, [0, 1, 2, 3, 4, 5, 6]), (⟨(some 55), none, .mv (.t 6)⟩, [0, 1, 2, 3, 4, 5, 6, 7]), (⟨(some 56), none, .bin 0 .add (.t 55) (.c (.int .i64 1))⟩, [0, 1, 2, 3, 4, 5, 6, 7]), (⟨(some 57), none, .call 84 [(.t 54), (.t 56)]⟩, [0, 1, 2, 3, 4, 5, 6]), (⟨(some 58), none, .mv (.t 0)⟩, [0, 1, 2, 3, 4, 5, 6, 7, 8, 9, 10]), (⟨(some 59), none, .mv (.t 7)⟩, [0, 1, 2, 3, 4, 5, 6, 7, 8, 9, 10, 11]), (⟨(some 60), none, .mv (.t 8)⟩, [0, 1, 2, 3, 4, 5, 6, 7, 8, 9, 10, 11, 12]), (⟨(some 61), none, .iadr 1 (.t 59) (.t 60)⟩, [0, 1, 2, 3, 4, 5, 6, 7, 8, 9, 10, 11]), (⟨(some 62), none, .load none (.t 61)⟩, [0, 1, 2, 3, 4, 5, 6, 7, 8, 9, 10, 11]), (⟨(some 63), none, .call 87 [(.t 58), (.t 62), (.c (.str [50]))]⟩, [0, 1, 2, 3, 4, 5, 6]), (⟨(some 64), none, .bslice 9 1 4 [(.str [])] [(0, 1, (.t 53)), (1, 1, (.c (.str []))), (2, 1, (.t 57)), (3, 1, (.t 63))]⟩, [0, 1, 2]), (⟨(some 65), none, .call 86 [(.t 49), (.t 64)]⟩, [0, 1]), (⟨(some 66), none, .iadr 1 (.t 47) (.t 48)⟩, []), (⟨none, none, .store 1 (.t 66) (.t 65)⟩, [])])) (.skip)))
 (.seq (.seq (.ops [⟨(some 67), none, .mv (.t 0)⟩, ⟨(some 68), none, .call 43 [(.t 67), (.c (.int .i64 20))]⟩])
 (.cond (.t 68) (.ops [⟨(some 69), none, .mv (.t 0)⟩, ⟨(some 70), none, .call 57 [(.t 69), (.c (.int .i64 1)), (.c (.int .i64 100))]⟩, ⟨(some 6), none, .mv (.t 70)⟩]) (.skip)))
 (.seq (.ops [⟨(some 71), none, .mv (.t 6)⟩, ⟨(some 72), none, .mv (.t 7)⟩, ⟨(some 4), none, .mv (.t 71)⟩, ⟨(some 5), none, .mv (.t 72)⟩])
 (.ret))))))))⟩
theorem c22 : compF Go.Proofs.Tryd.prog 22 = some a22 := by kernel_rfl
def a24 : AFn := ⟨32, [.t 4], .seq (.ops [⟨(some 4), none, .mv (.c (.int .i64 0))⟩])
 (.seq (.block 0 (.seq (.ops [⟨(some 9), none, .mv (.t 0)⟩, ⟨(some 10), none, .call 89 [(.t 9), (.c (.int .i64 1)), (.c (.int .i64 100))]⟩, ⟨(some 11), none, .un .not (.t 10)⟩, ⟨(some 8), none, .mv (.t 11)⟩])
 (.cond (.t 8) (.seq (.ops [⟨(some 4), none, .mv (.c (.int .i64 1))⟩])
 (.ret)) (.seq (.ops [⟨(some 13), none, .mv (.t 1)⟩, ⟨(some 14), none, .len false (.t 13)⟩, ⟨(some 15), none, .bin 0 .gtr (.t 14) (.c (.int .i64 200))⟩, ⟨(some 12), none, .mv (.t 15)⟩])
 (.cond (.t 12) (.seq (.ops [⟨(some 4), none, .mv (.c (.int .i64 2))⟩])
 (.ret)) (.skip))))))
 (.seq (.seq (.ops [⟨(some 16), none, .mv (.t 1)⟩, ⟨(some 17), none, .len false (.t 16)⟩, ⟨(some 18), none, .mv (.c (.int .i64 0))⟩])
 (.block 1 (.loop (.seq (.ops [⟨(some 19), none, .bin 0 .lss (.t 18) (.t 17)⟩])
 (.seq (.cond (.t 19) (.skip) (.exit 1))
 (.seq (.block 2 (.seq (.ops [⟨(some 20), none, .iadr 1 (.t 16) (.t 18)⟩, ⟨(some 21), none, .load none (.t 20)⟩, ⟨(some 6), none, .mv (.t 21)⟩])
 (.seq (.seq (.ops [⟨(some 22), none, .mv (.t 6)⟩, ⟨(some 23), none, .len true (.t 22)⟩, ⟨(some 24), none, .mv (.t 0)⟩, ⟨(some 25), none, .bin 0 .neq (.t 23) (.t 24)⟩])
 (.cond (.t 25) (.seq (.ops [⟨(some 4), none, .mv (.c (.int .i64 3))⟩])
 (.ret)) (.skip)))
 (.seq (.ops [⟨(some 26), none, .mv (.t 6)⟩, ⟨(some 27), none, .call 90 [(.t 26)]⟩, ⟨(some 7), none, .mv (.t 27)⟩])
 (.seq (.ops [⟨(some 28), none, .mv (.t 7)⟩, ⟨(some 29), none, .bin 0 .neq (.t 28) (.c (.int .i64 0))⟩])
 (.cond (.t 29) (.seq (.ops [⟨(some 30), none, .mv (.t 7)⟩, ⟨(some 4), none, .mv (.t 30)⟩])
 (.ret)) (.skip)))))))
 (.ops [⟨(some 31), none, .bin 0 .add (.t 18) (.c (.int .i64 1))⟩, ⟨(some 18), none, .mv (.t 31)⟩])))))))
 (.seq (.ops [⟨(some 4), none, .mv (.c (.int .i64 0))⟩])
 (.ret))))⟩
theorem c24 : compF Go.Proofs.Tryd.prog 24 = some a24 := by kernel_rfl
def a26 : AFn := ⟨30, [.t 4], .seq (.ops [⟨(some 4), none, .mv (.c (.int .i64 0))⟩])
 (.seq (.block 0 (.seq (.ops [⟨(some 8), none, .mv (.t 0)⟩, ⟨(some 9), none, .call 91 [(.t 8), (.c (.int .i64 1)), (.c (.int .i64 100))]⟩, ⟨(some 7), none, .mv (.t 9)⟩])
 (.cond (.t 7) (.seq (.ops [⟨(some 4), none, .mv (.c (.int .i64 1))⟩])
 (.ret)) (.seq (.ops [⟨(some 11), none, .mv (.t 1)⟩, ⟨(some 12), none, .len false (.t 11)⟩, ⟨(some 13), none, .bin 0 .gtr (.t 12) (.c (.int .i64 200))⟩, ⟨(some 10), none, .mv (.t 13)⟩])
 (.cond (.t 10) (.seq (.ops [⟨(some 4), none, .mv (.c (.int .i64 2))⟩])
 (.ret)) (.skip))))))
 (.seq (.seq (.ops [⟨(some 14), none, .mv (.t 1)⟩, ⟨(some 15), none, .len false (.t 14)⟩, ⟨(some 16), none, .mv (.c (.int .i64 0))⟩])
 (.block 1 (.loop (.seq (.ops [⟨(some 17), none, .bin 0 .lss (.t 16) (.t 15)⟩])
 (.seq (.cond (.t 17) (.skip) (.exit 1))
 (.seq (.block 2 (.seq (.ops [⟨(some 18), none, .iadr 1 (.t 14) (.t 16)⟩, ⟨(some 19), none, .load none (.t 18)⟩, ⟨(some 6), none, .mv (.t 19)⟩])
 (.block 3 (.seq (.ops [⟨(some 21), none, .mv (.t 6)⟩, ⟨(some 22), none, .len true (.t 21)⟩, ⟨(some 23), none, .mv (.t 0)⟩, ⟨(some 24), none, .bin 0 .neq (.t 22) (.t 23)⟩, ⟨(some 20), none, .mv (.t 24)⟩])
 (.cond (.t 20) (.seq (.ops [⟨(some 4), none, .mv (.c (.int .i64 3))⟩])
 (.ret)) (.seq (.ops [⟨(some 26), none, .mv (.t 6)⟩, ⟨(some 27), none, .call 92 [(.t 26)]⟩, ⟨(some 28), none, .un .not (.t 27)⟩, ⟨(some 25), none, .mv (.t 28)⟩])
 (.cond (.t 25) (.seq (.ops [⟨(some 4), none, .mv (.c (.int .i64 9))⟩])
 (.ret)) (.skip))))))))
 (.ops [⟨(some 29), none, .bin 0 .add (.t 16) (.c (.int .i64 1))⟩, ⟨(some 16), none, .mv (.t 29)⟩])))))))
 (.seq (.ops [⟨(some 4), none, .mv (.c (.int .i64 0))⟩])
 (.ret))))⟩
theorem c26 : compF Go.Proofs.Tryd.prog 26 = some a26 := by kernel_rfl
def a37 : AFn := ⟨19, [.t 6], .seq (.ops [⟨(some 6), none, .mv (.c (.int .i64 0))⟩])
 (.seq (.seq (.ops [⟨(some 7), none, .mv (.t 2)⟩, ⟨(some 8), none, .mv (.t 1)⟩, ⟨(some 9), none, .bin 0 .lss (.t 7) (.t 8)⟩])
 (.cond (.t 9) (.seq (.ops [⟨(some 10), none, .mv (.t 1)⟩, ⟨(some 6), none, .mv (.t 10)⟩])
 (.ret)) (.skip)))
 (.seq (.ops [⟨(some 11), none, .mv (.t 1)⟩, ⟨(some 12), none, .mv (.t 0)⟩, ⟨(some 13), none, .mv (.t 2)⟩, ⟨(some 14), none, .mv (.t 1)⟩, ⟨(some 15), none, .bin 0 .sub (.t 13) (.t 14)⟩, ⟨(some 16), none, .bin 0 .add (.t 15) (.c (.int .i64 1))⟩, ⟨(some 17), none, .call 85 [(.t 12), (.t 16)]⟩, ⟨(some 18), none, .bin 0 .add (.t 11) (.t 17)⟩, ⟨(some 6), none, .mv (.t 18)⟩])
 (.ret)))⟩
theorem c37 : compF Go.Proofs.Tryd.prog 37 = some a37 := by kernel_rfl
def a43 : AFn := ⟨9, [.t 4], .seq (.ops [⟨(some 4), none, .mv (.c (.bool false))⟩])
 (.seq (.ops [⟨(some 5), none, .mv (.t 0)⟩, ⟨(some 6), none, .mv (.t 1)⟩, ⟨(some 7), none, .call 85 [(.t 5), (.t 6)]⟩, ⟨(some 8), none, .bin 0 .eql (.t 7) (.c (.int .i64 0))⟩, ⟨(some 4), none, .mv (.t 8)⟩])
 (.ret))⟩
theorem c43 : compF Go.Proofs.Tryd.prog 43 = some a43 := by kernel_rfl
def a49 : AFn := ⟨108, [.t 4, .t 5, .t 6], .seq (.ops [⟨(some 3), none, .box 26 (.t 1)⟩, ⟨(some 4), none, .mv (.c (.lit true 0 []))⟩, ⟨(some 5), none, .mv (.c (.int .i64 0))⟩, ⟨(some 6), none, .mv (.c (.int .i64 0))⟩])
 (.seq (.seq (.ops [⟨(some 17), none, .mv (.t 0)⟩, ⟨(some 18), none, .load none (.t 3)⟩, ⟨(some 19), none, .call 26 [(.t 17), (.t 18)]⟩, ⟨(some 7), none, .mv (.t 19)⟩])
 (.seq (.ops [⟨(some 20), none, .mv (.t 7)⟩, ⟨(some 21), none, .bin 0 .neq (.t 20) (.c (.int .i64 0))⟩])
 (.cond (.t 21) (.seq (.ops [⟨(some 22), none, .mv (.t 7)⟩, ⟨(some 4), none, .mv (.c (.lit true 0 []))⟩, ⟨(some 5), none, .mv (.c (.int .i64 0))⟩, ⟨(some 6), none, .mv (.t 22)⟩])
 (.ret)) (.skip))))
 (.seq (.ops [⟨(some 23), none, .load none (.t 3)⟩, ⟨(some 24), none, .len false (.t 23)⟩, ⟨(some 8), none, .alloc 3 [(.int .i64 0)]⟩, ⟨none, none, .store 1 (.t 8) (.t 24)⟩])
 (.seq (.block 0 (.seq (.ops [⟨(some 26), none, .load none (.t 8)⟩, ⟨(some 27), none, .bin 0 .gtr (.t 26) (.c (.int .i64 10))⟩, ⟨(some 25), none, .mv (.t 27)⟩])
 (.cond (.t 25) (.seq (.ops [⟨(some 4), none, .mv (.c (.lit true 0 []))⟩, ⟨(some 5), none, .mv (.c (.int .i64 0))⟩, ⟨(some 6), none, .mv (.c (.int .i64 2))⟩])
 (.ret)) (.seq (.ops [⟨(some 29), none, .load none (.t 8)⟩, ⟨(some 30), none, .bin 0 .eql (.t 29) (.c (.int .i64 0))⟩, ⟨(some 28), none, .mv (.t 30)⟩])
 (.cond (.t 28) (.seq (.ops [⟨(some 4), none, .mv (.c (.lit true 0 []))⟩, ⟨(some 5), none, .mv (.c (.int .i64 0))⟩, ⟨(some 6), none, .mv (.c (.int .i64 0))⟩])
 (.ret)) (.skip))))))
 (.seq (.ops [⟨(some 31), none, .mmk .p (.int .i64 0)⟩, ⟨(some 9), none, .alloc 140 [.any]⟩, ⟨none, none, .store 1 (.t 9) (.t 31)⟩])
 (.seq (.ops [⟨(some 10), none, .alloc 55 [.any]⟩])
 (.seq (.ops [⟨(some 32), none, .mkfn 113 [(.t 8), (.t 9), (.t 3), (.t 10)]⟩, ⟨none, none, .store 1 (.t 10) (.t 32)⟩])
 (.seq (.ops [⟨(some 11), none, .mv (.c (.int .i64 0))⟩])
 (.seq (.seq (.ops [⟨(some 33), none, .load none (.t 8)⟩, ⟨(some 34), none, .mv (.c (.int .i64 0))⟩])
 (.block 1 (.loop (.seq (.ops [⟨(some 35), none, .bin 0 .lss (.t 34) (.t 33)⟩])
 (.seq (.cond (.t 35) (.skip) (.exit 1))
 (.seq (.block 2 (.seq (.ops [⟨(some 36), none, .mv (.t 34)⟩, ⟨(some 12), none, .mv (.t 36)⟩])
 (.seq (.any [(⟨(some 37), none, .load none (.t 10)⟩, []), (⟨(some 38), none, .mv (.t 12)⟩, [0]), (⟨(some 39), none, .bin 0 .shl (.c (.int .i64 1)) (.t 38)⟩, [0]), (⟨(some 40), none, .mv (.t 12)⟩, [0, 1, 2]), (⟨(some 41), none, .callv (.t 37) [(.t 39), (.t 40)]⟩, []), (⟨(some 42), none, .load none (.t 10)⟩, [0, 1, 2, 3, 4]), (⟨(some 43), none, .mv (.t 11)⟩, [0, 1, 2, 3, 4, 5]), (⟨(some 44), none, .bin 0 .shl (.c (.int .i64 1)) (.t 43)⟩, [0, 1, 2, 3, 4, 5]), (⟨(some 45), none, .mv (.t 11)⟩, [0, 1, 2, 3, 4, 5, 6, 7]), (⟨(some 46), none, .callv (.t 42) [(.t 44), (.t 45)]⟩, []), (⟨(some 47), none, .bin 0 .lss (.t 41) (.t 46)⟩, [])])
 (.cond (.t 47) (.ops [⟨(some 48), none, .mv (.t 12)⟩, ⟨(some 11), none, .mv (.t 48)⟩]) (.skip)))))
 (.ops [⟨(some 49), none, .bin 0 .add (.t 34) (.c (.int .i64 1))⟩, ⟨(some 34), none, .mv (.t 49)⟩])))))))
 (.seq (.any [(⟨(some 50), none, .mv (.t 11)⟩, []), (⟨(some 51), none, .bslice 3 1 1 [(.int .i64 0)] [(0, 1, (.t 50))]⟩, []), (⟨(some 52), none, .mv (.t 11)⟩, [0, 1]), (⟨(some 53), none, .bin 0 .shl (.c (.int .i64 1)) (.t 52)⟩, [0, 1]), (⟨(some 54), none, .mv (.t 11)⟩, [0, 1, 2, 3]), (⟨(some 13), none, .mv (.t 51)⟩, [2, 3, 4]), (⟨(some 14), none, .mv (.t 53)⟩, [4]), (⟨(some 15), none, .mv (.t 54)⟩, [])])
 (.seq (.block 3 (.loop (.seq (.seq (.ops [⟨(some 55), none, .mv (.t 13)⟩, ⟨(some 56), none, .len false (.t 55)⟩, ⟨(some 57), none, .load none (.t 8)⟩, ⟨(some 58), none, .bin 0 .lss (.t 56) (.t 57)⟩])
 (.cond (.t 58) (.skip) (.exit 3)))
 (.block 4 (.seq (.ops [⟨(some 59), none, .load none (.t 8)⟩, ⟨(some 60), none, .mv (.c (.int .i64 0))⟩])
 (.block 5 (.loop (.seq (.ops [⟨(some 61), none, .bin 0 .lss (.t 60) (.t 59)⟩])
 (.seq (.cond (.t 61) (.skip) (.exit 5))
 (.seq (.block 6 (.seq (.ops [⟨(some 62), none, .mv (.t 60)⟩, ⟨(some 16), none, .mv (.t 62)⟩])
 (.seq (.any [(⟨(some 63), none, .mv (.t 14)⟩, []), (⟨(some 64), none, .mv (.t 16)⟩, [0]), (⟨(some 65), none, .bin 0 .shr (.t 63) (.t 64)⟩, []), (⟨(some 66), none, .bin 0 .and (.t 65) (.c (.int .i64 1))⟩, []), (⟨(some 67), none, .bin 0 .eql (.t 66) (.c (.int .i64 0))⟩, []), (⟨(some 68), none, .mv (.t 67)⟩, []), (⟨(some 69), (some (68, true)), .load none (.t 3)⟩, []), (⟨(some 70), (some (68, true)), .mv (.t 15)⟩, [6]), (⟨(some 71), (some (68, true)), .iadr 1 (.t 69) (.t 70)⟩, []), (⟨(some 72), (some (68, true)), .load none (.t 71)⟩, []), (⟨(some 73), (some (68, true)), .load none (.t 3)⟩, [6, 7, 8, 9]), (⟨(some 74), (some (68, true)), .mv (.t 16)⟩, [6, 7, 8, 9, 10]), (⟨(some 75), (some (68, true)), .iadr 1 (.t 73) (.t 74)⟩, [6, 7, 8, 9]), (⟨(some 76), (some (68, true)), .load none (.t 75)⟩, [6, 7, 8, 9]), (⟨(some 77), (some (68, true)), .call 114 [(.t 72), (.t 76)]⟩, []), (⟨(some 78), (some (68, true)), .load none (.t 10)⟩, [6, 7, 8, 9, 10, 11, 12, 13, 14]), (⟨(some 79), (some (68, true)), .mv (.t 14)⟩, [6, 7, 8, 9, 10, 11, 12, 13, 14, 15]), (⟨(some 80), (some (68, true)), .mv (.t 16)⟩, [6, 7, 8, 9, 10, 11, 12, 13, 14, 15, 16]), (⟨(some 81), (some (68, true)), .bin 0 .shl (.c (.int .i64 1)) (.t 80)⟩, [6, 7, 8, 9, 10, 11, 12, 13, 14, 15, 16]), (⟨(some 82), (some (68, true)), .bin 0 .or (.t 79) (.t 81)⟩, [6, 7, 8, 9, 10, 11, 12, 13, 14, 15]), (⟨(some 83), (some (68, true)), .mv (.t 16)⟩, [6, 7, 8, 9, 10, 11, 12, 13, 14, 15, 16, 17, 18, 19]), (⟨(some 84), (some (68, true)), .callv (.t 78) [(.t 82), (.t 83)]⟩, []), (⟨(some 85), (some (68, true)), .bin 0 .add (.t 77) (.t 84)⟩, []), (⟨(some 86), (some (68, true)), .load none (.t 10)⟩, [6, 7, 8, 9, 10, 11, 12, 13, 14, 15, 16, 17, 18, 19, 20, 21, 22]), (⟨(some 87), (some (68, true)), .mv (.t 14)⟩, [6, 7, 8, 9, 10, 11, 12, 13, 14, 15, 16, 17, 18, 19, 20, 21, 22, 23]), (⟨(some 88), (some (68, true)), .mv (.t 15)⟩, [6, 7, 8, 9, 10, 11, 12, 13, 14, 15, 16, 17, 18, 19, 20, 21, 22, 23, 24]), (⟨(some 89), (some (68, true)), .callv (.t 86) [(.t 87), (.t 88)]⟩, [22]), (⟨(some 90), (some (68, true)), .bin 0 .eql (.t 85) (.t 89)⟩, []), (⟨(some 91), none, .pick (.t 68) (.t 90) (.c (.bool false))⟩, [])])
 (.cond (.t 91) (.seq (.any [(⟨(some 92), none, .mv (.t 13)⟩, []), (⟨(some 93), none, .mv (.t 16)⟩, [0]), (⟨(some 94), none, .bslice 3 1 1 [(.int .i64 0)] [(0, 1, (.t 93))]⟩, [0]), (⟨(some 95), none, .app 3 1 8 (.t 92) (.t 94)⟩, []), (⟨(some 96), none, .mv (.t 14)⟩, [0, 1, 2, 3]), (⟨(some 97), none, .mv (.t 16)⟩, [0, 1, 2, 3, 4]), (⟨(some 98), none, .bin 0 .shl (.c (.int .i64 1)) (.t 97)⟩, [0, 1, 2, 3, 4]), (⟨(some 99), none, .bin 0 .or (.t 96) (.t 98)⟩, [0, 1, 2, 3]), (⟨(some 100), none, .mv (.t 16)⟩, [0, 1, 2, 3, 4, 5, 6, 7]), (⟨(some 13), none, .mv (.t 95)⟩, [4, 5, 6, 7, 8]), (⟨(some 14), none, .mv (.t 99)⟩, [8]), (⟨(some 15), none, .mv (.t 100)⟩, [])])
 (.exit 5)) (.skip)))))
 (.ops [⟨(some 101), none, .bin 0 .add (.t 60) (.c (.int .i64 1))⟩, ⟨(some 60), none, .mv (.t 101)⟩])))))))))))
 (.seq (.any [(⟨(some 102), none, .mv (.t 13)⟩, []), (⟨(some 103), none, .load none (.t 10)⟩, [0]), (⟨(some 104), none, .mv (.t 11)⟩, [0, 1]), (⟨(some 105), none, .bin 0 .shl (.c (.int .i64 1)) (.t 104)⟩, [0, 1]), (⟨(some 106), none, .mv (.t 11)⟩, [0, 1, 2, 3]), (⟨(some 107), none, .callv (.t 103) [(.t 105), (.t 106)]⟩, [0]), (⟨(some 4), none, .mv (.t 102)⟩, []), (⟨(some 5), none, .mv (.t 107)⟩, []), (⟨(some 6), none, .mv (.c (.int .i64 0))⟩, [])])
 (.ret))))))))))))⟩
theorem c49 : compF Go.Proofs.Tryd.prog 49 = some a49 := by kernel_rfl
def a52 : AFn := ⟨32, [.t 4, .t 5], .seq (.ops [⟨(some 4), none, .mv (.c (.lit true 0 []))⟩, ⟨(some 5), none, .mv (.c (.bool false))⟩])
 (.seq (.ops [⟨(some 6), none, .mv (.c (.lit true 0 []))⟩])
 (.seq (.seq (.ops [⟨(some 9), none, .mv (.t 1)⟩, ⟨(some 10), none, .len false (.t 9)⟩, ⟨(some 11), none, .mv (.c (.int .i64 0))⟩])
 (.block 0 (.loop (.seq (.ops [⟨(some 12), none, .bin 0 .lss (.t 11) (.t 10)⟩])
 (.seq (.cond (.t 12) (.skip) (.exit 0))
 (.seq (.block 1 (.seq (.ops [⟨(some 13), none, .iadr 1 (.t 9) (.t 11)⟩, ⟨(some 14), none, .load none (.t 13)⟩, ⟨(some 8), none, .mv (.t 14)⟩])
 (.seq (.seq (.ops [⟨(some 15), none, .mv (.t 8)⟩, ⟨(some 16), none, .bin 0 .lss (.t 15) (.c (.int .i64 0))⟩, ⟨(some 17), none, .mv (.t 16)⟩, ⟨(some 18), (some (17, false)), .mv (.t 8)⟩, ⟨(some 19), (some (17, false)), .mv (.t 0)⟩, ⟨(some 20), (some (17, false)), .len false (.t 19)⟩, ⟨(some 21), (some (17, false)), .bin 0 .geq (.t 18) (.t 20)⟩, ⟨(some 22), none, .pick (.t 17) (.c (.bool true)) (.t 21)⟩])
 (.cond (.t 22) (.seq (.ops [⟨(some 4), none, .mv (.c (.lit true 0 []))⟩, ⟨(some 5), none, .mv (.c (.bool false))⟩])
 (.ret)) (.skip)))
 (.ops [⟨(some 23), none, .mv (.t 6)⟩, ⟨(some 24), none, .mv (.t 0)⟩, ⟨(some 25), none, .mv (.t 8)⟩, ⟨(some 26), none, .iadr 1 (.t 24) (.t 25)⟩, ⟨(some 27), none, .load none (.t 26)⟩, ⟨(some 28), none, .bslice 9 1 1 [(.str [])] [(0, 1, (.t 27))]⟩, ⟨(some 29), none, .app 9 1 16 (.t 23) (.t 28)⟩, ⟨(some 6), none, .mv (.t 29)⟩]))))
 (.ops [⟨(some 30), none, .bin 0 .add (.t 11) (.c (.int .i64 1))⟩, ⟨(some 11), none, .mv (.t 30)⟩])))))))
 (.seq (.ops [⟨(some 31), none, .mv (.t 6)⟩, ⟨(some 4), none, .mv (.t 31)⟩, ⟨(some 5), none, .mv (.c (.bool true))⟩])
 (.ret))))⟩
theorem c52 : compF Go.Proofs.Tryd.prog 52 = some a52 := by kernel_rfl
def a57 : AFn := ⟨22, [.t 6], .seq (.ops [⟨(some 6), none, .mv (.c (.int .i64 0))⟩])
 (.seq (.seq (.ops [⟨(some 7), none, .mv (.t 0)⟩, ⟨(some 8), none, .call 43 [(.t 7), (.c (.int .i64 12))]⟩])
 (.cond (.t 8) (.seq (.ops [⟨(some 9), none, .mv (.t 0)⟩, ⟨(some 10), none, .mv (.t 1)⟩, ⟨(some 11), none, .bin 0 .sub (.t 10) (.c (.int .i64 1))⟩, ⟨(some 12), none, .mv (.t 2)⟩, ⟨(some 13), none, .bin 0 .add (.t 12) (.c (.int .i64 1))⟩, ⟨(some 14), none, .mv (.t 1)⟩, ⟨(some 15), none, .mv (.t 2)⟩, ⟨(some 16), none, .bslice 3 1 6 [(.int .i64 0)] [(0, 1, (.t 11)), (1, 1, (.t 13)), (2, 1, (.t 14)), (3, 1, (.t 15)), (4, 1, (.c (.int .i64 (-1099511627776)))), (5, 1, (.c (.int .i64 1099511627776)))]⟩, ⟨(some 17), none, .call 58 [(.t 9), (.t 16)]⟩, ⟨(some 6), none, .mv (.t 17)⟩])
 (.ret)) (.skip)))
 (.seq (.ops [⟨(some 18), none, .mv (.t 0)⟩, ⟨(some 19), none, .mv (.t 1)⟩, ⟨(some 20), none, .mv (.t 2)⟩, ⟨(some 21), none, .call 37 [(.t 18), (.t 19), (.t 20)]⟩, ⟨(some 6), none, .mv (.t 21)⟩])
 (.ret)))⟩
theorem c57 : compF Go.Proofs.Tryd.prog 57 = some a57 := by kernel_rfl
def a58 : AFn := ⟨12, [.t 4], .seq (.ops [⟨(some 4), none, .mv (.c (.int .i64 0))⟩])
 (.seq (.ops [⟨(some 5), none, .mv (.t 1)⟩, ⟨(some 6), none, .mv (.t 0)⟩, ⟨(some 7), none, .mv (.t 1)⟩, ⟨(some 8), none, .len false (.t 7)⟩, ⟨(some 9), none, .call 85 [(.t 6), (.t 8)]⟩, ⟨(some 10), none, .iadr 1 (.t 5) (.t 9)⟩, ⟨(some 11), none, .load none (.t 10)⟩, ⟨(some 4), none, .mv (.t 11)⟩])
 (.ret))⟩
theorem c58 : compF Go.Proofs.Tryd.prog 58 = some a58 := by kernel_rfl
def a69 : AFn := ⟨35, [.t 3], .seq (.ops [⟨(some 3), none, .mv (.c (.int .i64 0))⟩])
 (.seq (.ops [⟨(some 4), none, .mv (.c (.int .i64 0))⟩])
 (.seq (.seq (.ops [⟨(some 5), none, .mv (.c (.int .i64 1))⟩])
 (.block 0 (.loop (.seq (.seq (.ops [⟨(some 7), none, .mv (.t 5)⟩, ⟨(some 8), none, .mv (.t 0)⟩, ⟨(some 9), none, .len false (.t 8)⟩, ⟨(some 10), none, .bin 0 .lss (.t 7) (.t 9)⟩])
 (.cond (.t 10) (.skip) (.exit 0)))
 (.seq (.block 1 (.seq (.ops [⟨(some 13), none, .load none (.t 1)⟩, ⟨(some 14), none, .mv (.c (.int .i64 0))⟩])
 (.block 2 (.loop (.seq (.ops [⟨(some 15), none, .bin 0 .lss (.t 14) (.t 13)⟩])
 (.seq (.cond (.t 15) (.skip) (.exit 2))
 (.seq (.block 3 (.seq (.ops [⟨(some 16), none, .mv (.t 14)⟩, ⟨(some 6), none, .mv (.t 16)⟩])
 (.seq (.any [(⟨(some 17), none, .mv (.t 0)⟩, []), (⟨(some 18), none, .mv (.t 5)⟩, [0]), (⟨(some 19), none, .iadr 1 (.t 17) (.t 18)⟩, []), (⟨(some 20), none, .load none (.t 19)⟩, []), (⟨(some 21), none, .mv (.t 6)⟩, [0, 1, 2, 3]), (⟨(some 22), none, .idxs (.t 20) (.t 21)⟩, []), (⟨(some 23), none, .mv (.t 0)⟩, [0, 1, 2, 3, 4, 5]), (⟨(some 24), none, .mv (.t 5)⟩, [0, 1, 2, 3, 4, 5, 6]), (⟨(some 25), none, .bin 0 .sub (.t 24) (.c (.int .i64 1))⟩, [0, 1, 2, 3, 4, 5, 6]), (⟨(some 26), none, .iadr 1 (.t 23) (.t 25)⟩, [0, 1, 2, 3, 4, 5]), (⟨(some 27), none, .load none (.t 26)⟩, [0, 1, 2, 3, 4, 5]), (⟨(some 28), none, .mv (.t 6)⟩, [0, 1, 2, 3, 4, 5, 6, 7, 8, 9, 10]), (⟨(some 29), none, .idxs (.t 27) (.t 28)⟩, [0, 1, 2, 3, 4, 5]), (⟨(some 30), none, .bin 0 .neq (.t 22) (.t 29)⟩, [])])
 (.cond (.t 30) (.ops [⟨(some 31), none, .mv (.t 4)⟩, ⟨(some 32), none, .bin 0 .add (.t 31) (.c (.int .i64 1))⟩, ⟨(some 4), none, .mv (.t 32)⟩]) (.skip)))))
 (.ops [⟨(some 33), none, .bin 0 .add (.t 14) (.c (.int .i64 1))⟩, ⟨(some 14), none, .mv (.t 33)⟩]))))))))
 (.ops [⟨(some 11), none, .mv (.t 5)⟩, ⟨(some 12), none, .bin 0 .add (.t 11) (.c (.int .i64 1))⟩, ⟨(some 5), none, .mv (.t 12)⟩]))))))
 (.seq (.ops [⟨(some 34), none, .mv (.t 4)⟩, ⟨(some 3), none, .mv (.t 34)⟩])
 (.ret))))⟩
theorem c69 : compF Go.Proofs.Tryd.prog 69 = some a69 := by kernel_rfl
def a70 : AFn := ⟨61, [.t 2], .seq (.ops [⟨(some 2), none, .mv (.c (.lit true 0 []))⟩])
 (.seq (.seq (.ops [⟨(some 6), none, .mv (.t 0)⟩, ⟨(some 7), none, .len false (.t 6)⟩, ⟨(some 8), none, .bin 0 .lss (.t 7) (.c (.int .i64 2))⟩])
 (.cond (.t 8) (.seq (.ops [⟨(some 9), none, .mv (.t 0)⟩, ⟨(some 2), none, .mv (.t 9)⟩])
 (.ret)) (.skip)))
 (.seq (.seq (.ops [⟨(some 3), none, .mv (.c (.int .i64 1))⟩])
 (.block 0 (.loop (.seq (.seq (.ops [⟨(some 10), none, .mv (.t 3)⟩, ⟨(some 11), none, .mv (.t 0)⟩, ⟨(some 12), none, .len false (.t 11)⟩, ⟨(some 13), none, .bin 0 .lss (.t 10) (.t 12)⟩])
 (.cond (.t 13) (.skip) (.exit 0)))
 (.seq (.block 1 (.seq (.any [(⟨(some 16), none, .mv (.t 0)⟩, []), (⟨(some 17), none, .mv (.t 3)⟩, [0]), (⟨(some 18), none, .iadr 1 (.t 16) (.t 17)⟩, []), (⟨(some 19), none, .load none (.t 18)⟩, []), (⟨(some 20), none, .mv (.t 0)⟩, [0, 1, 2, 3]), (⟨(some 21), none, .mv (.t 3)⟩, [0, 1, 2, 3, 4]), (⟨(some 22), none, .bin 0 .sub (.t 21) (.c (.int .i64 1))⟩, [0, 1, 2, 3, 4]), (⟨(some 23), none, .iadr 1 (.t 20) (.t 22)⟩, [0, 1, 2, 3]), (⟨(some 24), none, .load none (.t 23)⟩, [0, 1, 2, 3]), (⟨(some 25), none, .bin 0 .eql (.t 19) (.t 24)⟩, [])])
 (.cond (.t 25) (.seq (.ops [⟨(some 26), none, .mv (.t 0)⟩, ⟨(some 27), none, .mv (.t 3)⟩, ⟨(some 28), none, .slc 1 (.t 26) (some (.t 27)) none⟩, ⟨(some 4), none, .mv (.t 28)⟩])
 (.seq (.seq (.ops [⟨(some 5), none, .mv (.c (.int .i64 1))⟩])
 (.block 2 (.loop (.seq (.seq (.ops [⟨(some 29), none, .mv (.t 5)⟩, ⟨(some 30), none, .mv (.t 4)⟩, ⟨(some 31), none, .len false (.t 30)⟩, ⟨(some 32), none, .bin 0 .lss (.t 29) (.t 31)⟩])
 (.cond (.t 32) (.skip) (.exit 2)))
 (.seq (.block 3 (.seq (.any [(⟨(some 35), none, .mv (.t 4)⟩, []), (⟨(some 36), none, .mv (.t 5)⟩, [0]), (⟨(some 37), none, .iadr 1 (.t 35) (.t 36)⟩, []), (⟨(some 38), none, .load none (.t 37)⟩, []), (⟨(some 39), none, .mv (.t 4)⟩, [0, 1, 2, 3]), (⟨(some 40), none, .mv (.t 5)⟩, [0, 1, 2, 3, 4]), (⟨(some 41), none, .bin 0 .sub (.t 40) (.c (.int .i64 1))⟩, [0, 1, 2, 3, 4]), (⟨(some 42), none, .iadr 1 (.t 39) (.t 41)⟩, [0, 1, 2, 3]), (⟨(some 43), none, .load none (.t 42)⟩, [0, 1, 2, 3]), (⟨(some 44), none, .bin 0 .neq (.t 38) (.t 43)⟩, [])])
 (.cond (.t 44) (.seq (.ops [⟨(some 45), none, .mv (.t 0)⟩, ⟨(some 46), none, .mv (.t 3)⟩, ⟨(some 47), none, .mv (.t 4)⟩, ⟨(some 48), none, .mv (.t 5)⟩, ⟨(some 49), none, .iadr 1 (.t 47) (.t 48)⟩, ⟨(some 50), none, .load none (.t 49)⟩, ⟨(some 51), none, .iadr 1 (.t 45) (.t 46)⟩, ⟨none, none, .store 1 (.t 51) (.t 50)⟩])
 (.ops [⟨(some 52), none, .mv (.t 3)⟩, ⟨(some 53), none, .bin 0 .add (.t 52) (.c (.int .i64 1))⟩, ⟨(some 3), none, .mv (.t 53)⟩])) (.skip))))
 (.ops [⟨(some 33), none, .mv (.t 5)⟩, ⟨(some 34), none, .bin 0 .add (.t 33) (.c (.int .i64 1))⟩, ⟨(some 5), none, .mv (.t 34)⟩]))))))
 (.seq (.ops [⟨(some 54), none, .mv (.t 0)⟩, ⟨(some 55), none, .mv (.t 3)⟩, ⟨(some 56), none, .slc 1 (.t 54) (some (.t 55)) none⟩, ⟨none, none, .clr [(.int .i64 0)] (.t 56)⟩])
 (.seq (.ops [⟨(some 57), none, .mv (.t 0)⟩, ⟨(some 58), none, .mv (.t 3)⟩, ⟨(some 59), none, .slc 1 (.t 57) none (some (.t 58))⟩, ⟨(some 2), none, .mv (.t 59)⟩])
 (.ret))))) (.skip))))
 (.ops [⟨(some 14), none, .mv (.t 3)⟩, ⟨(some 15), none, .bin 0 .add (.t 14) (.c (.int .i64 1))⟩, ⟨(some 3), none, .mv (.t 15)⟩]))))))
 (.seq (.ops [⟨(some 60), none, .mv (.t 0)⟩, ⟨(some 2), none, .mv (.t 60)⟩])
 (.ret))))⟩
theorem c70 : compF Go.Proofs.Tryd.prog 70 = some a70 := by kernel_rfl
def a71 : AFn := ⟨9, [.t 2], .seq (.ops [⟨(some 2), none, .mv (.c (.lit true 0 []))⟩])
 (.seq (.ops [⟨(some 4), none, .mv (.t 0)⟩, ⟨(some 5), none, .call 127 [(.t 4)]⟩, ⟨(some 3), none, .mv (.t 5)⟩])
 (.seq (.ops [⟨(some 6), none, .mv (.t 3)⟩, ⟨(some 7), none, .call 128 [(.t 6)]⟩])
 (.seq (.ops [⟨(some 8), none, .mv (.t 3)⟩, ⟨(some 2), none, .mv (.t 8)⟩])
 (.ret))))⟩
theorem c71 : compF Go.Proofs.Tryd.prog 71 = some a71 := by kernel_rfl
def a73 : AFn := ⟨38, [.t 4], .seq (.ops [⟨(some 4), none, .mv (.c (.lit true 0 []))⟩])
 (.seq (.ops [⟨(some 5), none, .mv (.c (.lit true 0 []))⟩])
 (.seq (.seq (.ops [⟨(some 10), none, .mv (.t 1)⟩, ⟨(some 11), none, .mv (.c (.int .i64 0))⟩])
 (.block 0 (.loop (.seq (.ops [⟨(some 12), none, .bin 0 .lss (.t 11) (.t 10)⟩])
 (.seq (.cond (.t 12) (.skip) (.exit 0))
 (.seq (.block 1 (.seq (.ops [⟨(some 13), none, .mv (.t 11)⟩, ⟨(some 6), none, .mv (.t 13)⟩])
 (.seq (.ops [⟨(some 14), none, .mv (.t 0)⟩, ⟨(some 15), none, .len false (.t 14)⟩, ⟨(some 16), none, .mks 5 1 1 [(.int .u8 0)] (.t 15)⟩, ⟨(some 7), none, .mv (.t 16)⟩])
 (.seq (.seq (.ops [⟨(some 17), none, .mv (.t 0)⟩, ⟨(some 18), none, .len false (.t 17)⟩, ⟨(some 19), none, .mv (.c (.int .i64 0))⟩])
 (.block 2 (.loop (.seq (.ops [⟨(some 20), none, .bin 0 .lss (.t 19) (.t 18)⟩])
 (.seq (.cond (.t 20) (.skip) (.exit 2))
 (.seq (.block 3 (.seq (.ops [⟨(some 21), none, .mv (.t 19)⟩, ⟨(some 22), none, .iadr 1 (.t 17) (.t 19)⟩, ⟨(some 23), none, .load none (.t 22)⟩, ⟨(some 8), none, .mv (.t 21)⟩, ⟨(some 9), none, .mv (.t 23)⟩])
 (.ops [⟨(some 24), none, .mv (.t 7)⟩, ⟨(some 25), none, .mv (.t 8)⟩, ⟨(some 26), none, .mv (.t 9)⟩, ⟨(some 27), none, .mv (.t 6)⟩, ⟨(some 28), none, .idxs (.t 26) (.t 27)⟩, ⟨(some 29), none, .iadr 1 (.t 24) (.t 25)⟩, ⟨none, none, .store 1 (.t 29) (.t 28)⟩])))
 (.ops [⟨(some 30), none, .bin 0 .add (.t 19) (.c (.int .i64 1))⟩, ⟨(some 19), none, .mv (.t 30)⟩])))))))
 (.ops [⟨(some 31), none, .mv (.t 5)⟩, ⟨(some 32), none, .mv (.t 7)⟩, ⟨(some 33), none, .b2s (.t 32)⟩, ⟨(some 34), none, .bslice 9 1 1 [(.str [])] [(0, 1, (.t 33))]⟩, ⟨(some 35), none, .app 9 1 16 (.t 31) (.t 34)⟩, ⟨(some 5), none, .mv (.t 35)⟩])))))
 (.ops [⟨(some 36), none, .bin 0 .add (.t 11) (.c (.int .i64 1))⟩, ⟨(some 11), none, .mv (.t 36)⟩])))))))
 (.seq (.ops [⟨(some 37), none, .mv (.t 5)⟩, ⟨(some 4), none, .mv (.t 37)⟩])
 (.ret))))⟩
theorem c73 : compF Go.Proofs.Tryd.prog 73 = some a73 := by kernel_rfl
def a78 : AFn := ⟨5, [.t 2], .seq (.ops [⟨(some 2), none, .mv (.c (.int .i64 0))⟩])
 (.seq (.seq (.ops [⟨(some 3), none, .mv (.t 0)⟩, ⟨(some 4), none, .call 91 [(.t 3), (.c (.int .i64 1)), (.c (.int .i64 100))]⟩])
 (.cond (.t 4) (.seq (.ops [⟨(some 2), none, .mv (.c (.int .i64 1))⟩])
 (.ret)) (.skip)))
 (.seq (.ops [⟨(some 2), none, .mv (.c (.int .i64 0))⟩])
 (.ret)))⟩
theorem c78 : compF Go.Proofs.Tryd.prog 78 = some a78 := by kernel_rfl
def a79 : AFn := ⟨12, [.t 4], .seq (.ops [⟨(some 4), none, .mv (.c (.int .i64 0))⟩])
 (.seq (.block 0 (.loop (.seq (.seq (.ops [⟨(some 5), none, .mv (.t 1)⟩, ⟨(some 6), none, .mv (.t 0)⟩, ⟨(some 7), none, .callv (.t 5) [(.t 6)]⟩, ⟨(some 8), none, .un .not (.t 7)⟩])
 (.cond (.t 8) (.skip) (.exit 0)))
 (.block 1 (.ops [⟨(some 9), none, .mv (.t 0)⟩, ⟨(some 10), none, .bin 0 .add (.t 9) (.c (.int .i64 1))⟩, ⟨(some 0), none, .mv (.t 10)⟩])))))
 (.seq (.ops [⟨(some 11), none, .mv (.t 0)⟩, ⟨(some 4), none, .mv (.t 11)⟩])
 (.ret)))⟩
theorem c79 : compF Go.Proofs.Tryd.prog 79 = some a79 := by kernel_rfl
def a80 : AFn := ⟨9, [.t 3], .seq (.ops [⟨(some 3), none, .mv (.c (.bool false))⟩])
 (.seq (.any [(⟨(some 4), none, .mv (.t 0)⟩, []), (⟨(some 5), none, .bin 0 .shl (.c (.int .i64 1)) (.t 4)⟩, []), (⟨(some 6), none, .bin 0 .sub (.t 5) (.c (.int .i64 2))⟩, []), (⟨(some 7), none, .load none (.t 1)⟩, [0, 1, 2]), (⟨(some 8), none, .bin 0 .geq (.t 6) (.t 7)⟩, []), (⟨(some 3), none, .mv (.t 8)⟩, [])])
 (.ret))⟩
theorem c80 : compF Go.Proofs.Tryd.prog 80 = some a80 := by kernel_rfl
def a81 : AFn := ⟨24, [.t 4], .seq (.ops [⟨(some 4), none, .mv (.c (.str []))⟩])
 (.seq (.ops [⟨(some 5), none, .mv (.c (.lit true 0 []))⟩])
 (.seq (.seq (.ops [⟨(some 7), none, .mv (.t 1)⟩, ⟨(some 8), none, .bin 0 .sub (.t 7) (.c (.int .i64 1))⟩, ⟨(some 6), none, .mv (.t 8)⟩])
 (.block 0 (.loop (.seq (.seq (.ops [⟨(some 9), none, .mv (.t 6)⟩, ⟨(some 10), none, .bin 0 .geq (.t 9) (.c (.int .i64 0))⟩])
 (.cond (.t 10) (.skip) (.exit 0)))
 (.seq (.block 1 (.ops [⟨(some 13), none, .mv (.t 5)⟩, ⟨(some 14), none, .mv (.t 0)⟩, ⟨(some 15), none, .mv (.t 6)⟩, ⟨(some 16), none, .bin 0 .shr (.t 14) (.t 15)⟩, ⟨(some 17), none, .bin 0 .and (.t 16) (.c (.int .i64 1))⟩, ⟨(some 18), none, .bin 0 .add (.c (.int .i64 48)) (.t 17)⟩, ⟨(some 19), none, .conv .u8 (.t 18)⟩, ⟨(some 20), none, .bslice 5 1 1 [(.int .u8 0)] [(0, 1, (.t 19))]⟩, ⟨(some 21), none, .app 5 1 1 (.t 13) (.t 20)⟩, ⟨(some 5), none, .mv (.t 21)⟩]))
 (.ops [⟨(some 11), none, .mv (.t 6)⟩, ⟨(some 12), none, .bin 0 .sub (.t 11) (.c (.int .i64 1))⟩, ⟨(some 6), none, .mv (.t 12)⟩]))))))
 (.seq (.ops [⟨(some 22), none, .mv (.t 5)⟩, ⟨(some 23), none, .b2s (.t 22)⟩, ⟨(some 4), none, .mv (.t 23)⟩])
 (.ret))))⟩
theorem c81 : compF Go.Proofs.Tryd.prog 81 = some a81 := by kernel_rfl
def a82 : AFn := ⟨17, [.t 4, .t 5], .seq (.ops [⟨(some 4), none, .mv (.c (.str []))⟩, ⟨(some 5), none, .mv (.c (.int .i64 0))⟩])
 (.seq (.seq (.ops [⟨(some 6), none, .mv (.t 0)⟩, ⟨(some 7), none, .call 132 [(.t 6)]⟩, ⟨(some 8), none, .un .not (.t 7)⟩, ⟨(some 9), none, .mv (.t 8)⟩, ⟨(some 10), (some (9, false)), .mv (.t 1)⟩, ⟨(some 11), (some (9, false)), .call 132 [(.t 10)]⟩, ⟨(some 12), (some (9, false)), .un .not (.t 11)⟩, ⟨(some 13), none, .pick (.t 9) (.c (.bool true)) (.t 12)⟩])
 (.cond (.t 13) (.seq (.ops [⟨(some 4), none, .mv (.c (.str []))⟩, ⟨(some 5), none, .mv (.c (.int .i64 1))⟩])
 (.ret)) (.skip)))
 (.seq (.ops [⟨(some 14), none, .mv (.t 0)⟩, ⟨(some 15), none, .mv (.t 1)⟩, ⟨(some 16), none, .call 133 [(.t 14), (.t 15)]⟩, ⟨(some 4), none, .mv (.t 16)⟩, ⟨(some 5), none, .mv (.c (.int .i64 0))⟩])
 (.ret)))⟩
theorem c82 : compF Go.Proofs.Tryd.prog 82 = some a82 := by kernel_rfl
def a83 : AFn := ⟨27, [.c 2 (some 2), .t 3, .t 4], .seq (.ops [⟨(some 1), none, .box 107 (.t 0)⟩, ⟨(some 2), none, .alloc 61 [(.int .i64 0), (.int .i64 0)]⟩, ⟨(some 3), none, .mv (.c (.bool false))⟩, ⟨(some 4), none, .mv (.c (.int .i64 0))⟩])
 (.seq (.seq (.ops [⟨(some 8), none, .load (some 2) (.t 1)⟩, ⟨(some 9), none, .call 134 [(.t 8)]⟩, ⟨(some 5), none, .mv (.t 9)⟩])
 (.seq (.ops [⟨(some 10), none, .mv (.t 5)⟩, ⟨(some 11), none, .bin 0 .neq (.t 10) (.c (.int .i64 0))⟩])
 (.cond (.t 11) (.seq (.ops [⟨(some 12), none, .build [(.int .i64 0), (.int .i64 0)] []⟩, ⟨(some 13), none, .mv (.t 5)⟩, ⟨none, none, .store 2 (.t 2) (.t 12)⟩, ⟨(some 3), none, .mv (.c (.bool false))⟩, ⟨(some 4), none, .mv (.t 13)⟩])
 (.ret)) (.skip))))
 (.seq (.any [(⟨(some 15), none, .load (some 2) (.t 1)⟩, []), (⟨(some 16), none, .load (some 2) (.t 1)⟩, [0]), (⟨(some 17), none, .call 136 [(.t 16)]⟩, [0]), (⟨(some 18), none, .call 135 [(.t 15), (.t 17)]⟩, []), (⟨(some 14), none, .mv (.t 18)⟩, []), (⟨(some 19), none, .ext (.t 14) 0⟩, []), (⟨(some 20), none, .ext (.t 14) 1⟩, [5]), (⟨(some 6), none, .mv (.t 19)⟩, [6]), (⟨(some 7), none, .mv (.t 20)⟩, [])])
 (.seq (.seq (.ops [⟨(some 21), none, .mv (.t 7)⟩, ⟨(some 22), none, .bin 0 .eql (.t 21) (.c (.int .i64 0))⟩])
 (.cond (.t 22) (.seq (.ops [⟨(some 23), none, .build [(.int .i64 0), (.int .i64 0)] []⟩, ⟨none, none, .store 2 (.t 2) (.t 23)⟩, ⟨(some 3), none, .mv (.c (.bool false))⟩, ⟨(some 4), none, .mv (.c (.int .i64 0))⟩])
 (.ret)) (.skip)))
 (.seq (.ops [⟨(some 24), none, .mv (.t 6)⟩, ⟨(some 25), none, .mv (.t 7)⟩, ⟨(some 26), none, .call 106 [(.t 24), (.t 25)]⟩, ⟨none, none, .store 2 (.t 2) (.t 26)⟩, ⟨(some 3), none, .mv (.c (.bool true))⟩, ⟨(some 4), none, .mv (.c (.int .i64 0))⟩])
 (.ret)))))⟩
theorem c83 : compF Go.Proofs.Tryd.prog 83 = some a83 := by kernel_rfl
def a84 : AFn := ⟨16, [.t 4], .seq (.ops [⟨(some 4), none, .mv (.c (.str []))⟩])
 (.seq (.ops [⟨(some 5), none, .mv (.c (.str []))⟩])
 (.seq (.seq (.ops [⟨(some 6), none, .mv (.t 1)⟩, ⟨(some 7), none, .mv (.c (.int .i64 0))⟩])
 (.block 0 (.loop (.seq (.ops [⟨(some 8), none, .bin 0 .lss (.t 7) (.t 6)⟩])
 (.seq (.cond (.t 8) (.skip) (.exit 0))
 (.seq (.block 1 (.ops [⟨(some 9), none, .mv (.t 5)⟩, ⟨(some 10), none, .mv (.t 0)⟩, ⟨(some 11), none, .bslice 9 1 2 [(.str [])] [(0, 1, (.c (.str [48]))), (1, 1, (.c (.str [49])))]⟩, ⟨(some 12), none, .call 86 [(.t 10), (.t 11)]⟩, ⟨(some 13), none, .bin 1 .add (.t 9) (.t 12)⟩, ⟨(some 5), none, .mv (.t 13)⟩]))
 (.ops [⟨(some 14), none, .bin 0 .add (.t 7) (.c (.int .i64 1))⟩, ⟨(some 7), none, .mv (.t 14)⟩])))))))
 (.seq (.ops [⟨(some 15), none, .mv (.t 5)⟩, ⟨(some 4), none, .mv (.t 15)⟩])
 (.ret))))⟩
theorem c84 : compF Go.Proofs.Tryd.prog 84 = some a84 := by kernel_rfl
def a85 : AFn := ⟨64, [.t 4], .seq (.ops [⟨(some 4), none, .mv (.c (.int .i64 0))⟩])
 (.seq (.ops [⟨(some 7), none, .mv (.t 0)⟩, ⟨(some 8), none, .nilchk (.t 7)⟩, ⟨(some 9), none, .fadr 1 (.t 8)⟩, ⟨(some 10), none, .load none (.t 9)⟩, ⟨(some 11), none, .bin 0 .add (.t 10) (.c (.int .i64 1))⟩, ⟨(some 12), none, .nilchk (.t 7)⟩, ⟨(some 13), none, .fadr 1 (.t 12)⟩, ⟨none, none, .store 1 (.t 13) (.t 11)⟩])
 (.seq (.seq (.ops [⟨(some 14), none, .mv (.t 0)⟩, ⟨(some 15), none, .nilchk (.t 14)⟩, ⟨(some 16), none, .fadr 0 (.t 15)⟩, ⟨(some 17), none, .load none (.t 16)⟩, ⟨(some 18), none, .len false (.t 17)⟩, ⟨(some 19), none, .bin 0 .eql (.t 18) (.c (.int .i64 0))⟩])
 (.cond (.t 19) (.seq (.ops [⟨(some 20), none, .mv (.t 0)⟩, ⟨(some 21), none, .nilchk (.t 20)⟩, ⟨(some 22), none, .fadr 1 (.t 21)⟩, ⟨(some 23), none, .load none (.t 22)⟩, ⟨(some 24), none, .bin 0 .mul (.t 23) (.c (.int .i64 7919))⟩, ⟨(some 25), none, .mv (.t 1)⟩, ⟨(some 26), none, .call 137 [(.t 24), (.t 25)]⟩, ⟨(some 4), none, .mv (.t 26)⟩])
 (.ret)) (.skip)))
 (.seq (.any [(⟨(some 27), none, .mv (.t 0)⟩, []), (⟨(some 28), none, .nilchk (.t 27)⟩, []), (⟨(some 29), none, .fadr 1 (.t 28)⟩, []), (⟨(some 30), none, .load none (.t 29)⟩, []), (⟨(some 31), none, .bin 0 .sub (.t 30) (.c (.int .i64 1))⟩, []), (⟨(some 32), none, .mv (.t 0)⟩, [0, 1, 2, 3, 4]), (⟨(some 33), none, .nilchk (.t 32)⟩, [0, 1, 2, 3, 4]), (⟨(some 34), none, .fadr 0 (.t 33)⟩, [0, 1, 2, 3, 4]), (⟨(some 35), none, .load none (.t 34)⟩, [0, 1, 2, 3, 4]), (⟨(some 36), none, .len false (.t 35)⟩, [0, 1, 2, 3, 4]), (⟨(some 37), none, .bin 0 .rem (.t 31) (.t 36)⟩, []), (⟨(some 5), none, .mv (.t 37)⟩, [])])
 (.seq (.any [(⟨(some 38), none, .mv (.t 0)⟩, []), (⟨(some 39), none, .nilchk (.t 38)⟩, []), (⟨(some 40), none, .fadr 1 (.t 39)⟩, []), (⟨(some 41), none, .load none (.t 40)⟩, []), (⟨(some 42), none, .bin 0 .sub (.t 41) (.c (.int .i64 1))⟩, []), (⟨(some 43), none, .mv (.t 0)⟩, [0, 1, 2, 3, 4]), (⟨(some 44), none, .nilchk (.t 43)⟩, [0, 1, 2, 3, 4]), (⟨(some 45), none, .fadr 0 (.t 44)⟩, [0, 1, 2, 3, 4]), (⟨(some 46), none, .load none (.t 45)⟩, [0, 1, 2, 3, 4]), (⟨(some 47), none, .len false (.t 46)⟩, [0, 1, 2, 3, 4]), (⟨(some 48), none, .bin 0 .quo (.t 42) (.t 47)⟩, []), (⟨(some 6), none, .mv (.t 48)⟩, [])])
 (.seq (.ops [⟨(some 49), none, .mv (.t 0)⟩, ⟨(some 50), none, .nilchk (.t 49)⟩, ⟨(some 51), none, .fadr 0 (.t 50)⟩, ⟨(some 52), none, .load none (.t 51)⟩, ⟨(some 53), none, .mv (.t 5)⟩, ⟨(some 54), none, .iadr 1 (.t 52) (.t 53)⟩, ⟨(some 55), none, .load none (.t 54)⟩, ⟨(some 56), none, .call 137 [(.t 55), (.c (.int .i64 1073741824))]⟩, ⟨(some 57), none, .mv (.t 6)⟩, ⟨(some 58), none, .mv (.t 5)⟩, ⟨(some 59), none, .bin 0 .add (.c (.int .i64 7919)) (.t 58)⟩, ⟨(some 60), none, .bin 0 .mul (.t 57) (.t 59)⟩, ⟨(some 61), none, .bin 0 .add (.t 56) (.t 60)⟩, ⟨(some 62), none, .mv (.t 1)⟩, ⟨(some 63), none, .call 137 [(.t 61), (.t 62)]⟩, ⟨(some 4), none, .mv (.t 63)⟩])
 (.ret))))))⟩
theorem c85 : compF Go.Proofs.Tryd.prog 85 = some a85 := by kernel_rfl
def a86 : AFn := ⟨12, [.t 4], .seq (.ops [⟨(some 4), none, .mv (.c (.str []))⟩])
 (.seq (.ops [⟨(some 5), none, .mv (.t 1)⟩, ⟨(some 6), none, .mv (.t 0)⟩, ⟨(some 7), none, .mv (.t 1)⟩, ⟨(some 8), none, .len false (.t 7)⟩, ⟨(some 9), none, .call 85 [(.t 6), (.t 8)]⟩, ⟨(some 10), none, .iadr 1 (.t 5) (.t 9)⟩, ⟨(some 11), none, .load none (.t 10)⟩, ⟨(some 4), none, .mv (.t 11)⟩])
 (.ret))⟩
theorem c86 : compF Go.Proofs.Tryd.prog 86 = some a86 := by kernel_rfl
def a87 : AFn := ⟨63, [.t 6], .seq (.ops [⟨(some 6), none, .mv (.c (.str []))⟩])
 (.seq (.seq (.ops [⟨(some 9), none, .mv (.t 1)⟩, ⟨(some 10), none, .bin 1 .eql (.t 9) (.c (.str []))⟩, ⟨(some 11), none, .mv (.t 10)⟩, ⟨(some 12), (some (11, false)), .mv (.t 2)⟩, ⟨(some 13), (some (11, false)), .bin 1 .eql (.t 12) (.c (.str []))⟩, ⟨(some 14), none, .pick (.t 11) (.c (.bool true)) (.t 13)⟩])
 (.cond (.t 14) (.seq (.ops [⟨(some 15), none, .mv (.t 2)⟩, ⟨(some 6), none, .mv (.t 15)⟩])
 (.ret)) (.skip)))
 (.seq (.ops [⟨(some 16), none, .mv (.t 0)⟩, ⟨(some 17), none, .mv (.t 1)⟩, ⟨(some 18), none, .len true (.t 17)⟩, ⟨(some 19), none, .call 85 [(.t 16), (.t 18)]⟩, ⟨(some 7), none, .mv (.t 19)⟩])
 (.seq (.ops [⟨(some 20), none, .mv (.t 2)⟩, ⟨(some 21), none, .mv (.t 0)⟩, ⟨(some 22), none, .mv (.t 2)⟩, ⟨(some 23), none, .len true (.t 22)⟩, ⟨(some 24), none, .call 85 [(.t 21), (.t 23)]⟩, ⟨(some 25), none, .idxs (.t 20) (.t 24)⟩, ⟨(some 8), none, .mv (.t 25)⟩])
 (.seq (.seq (.ops [⟨(some 26), none, .mv (.t 0)⟩, ⟨(some 27), none, .call 85 [(.t 26), (.c (.int .i64 3))]⟩])
 (.block 0 (.seq (.ops [⟨(some 29), none, .bin 0 .eql (.t 27) (.c (.int .i64 0))⟩, ⟨(some 28), none, .mv (.t 29)⟩])
 (.cond (.t 28) (.seq (.any [(⟨(some 30), none, .mv (.t 1)⟩, []), (⟨(some 31), none, .mv (.t 7)⟩, [0]), (⟨(some 32), none, .sls (.t 30) none (some (.t 31))⟩, []), (⟨(some 33), none, .mv (.t 8)⟩, [0, 1, 2]), (⟨(some 34), none, .conv .i32 (.t 33)⟩, [0, 1, 2]), (⟨(some 35), none, .i2s (.t 34)⟩, [0, 1, 2]), (⟨(some 36), none, .bin 1 .add (.t 32) (.t 35)⟩, []), (⟨(some 37), none, .mv (.t 1)⟩, [0, 1, 2, 3, 4, 5, 6]), (⟨(some 38), none, .mv (.t 7)⟩, [0, 1, 2, 3, 4, 5, 6, 7]), (⟨(some 39), none, .bin 0 .add (.t 38) (.c (.int .i64 1))⟩, [0, 1, 2, 3, 4, 5, 6, 7]), (⟨(some 40), none, .sls (.t 37) (some (.t 39)) none⟩, [0, 1, 2, 3, 4, 5, 6]), (⟨(some 41), none, .bin 1 .add (.t 36) (.t 40)⟩, []), (⟨(some 6), none, .mv (.t 41)⟩, [])])
 (.ret)) (.seq (.ops [⟨(some 43), none, .bin 0 .eql (.t 27) (.c (.int .i64 1))⟩, ⟨(some 42), none, .mv (.t 43)⟩])
 (.cond (.t 42) (.seq (.any [(⟨(some 44), none, .mv (.t 1)⟩, []), (⟨(some 45), none, .mv (.t 7)⟩, [0]), (⟨(some 46), none, .sls (.t 44) none (some (.t 45))⟩, []), (⟨(some 47), none, .mv (.t 8)⟩, [0, 1, 2]), (⟨(some 48), none, .conv .i32 (.t 47)⟩, [0, 1, 2]), (⟨(some 49), none, .i2s (.t 48)⟩, [0, 1, 2]), (⟨(some 50), none, .bin 1 .add (.t 46) (.t 49)⟩, []), (⟨(some 51), none, .mv (.t 1)⟩, [0, 1, 2, 3, 4, 5, 6]), (⟨(some 52), none, .mv (.t 7)⟩, [0, 1, 2, 3, 4, 5, 6, 7]), (⟨(some 53), none, .sls (.t 51) (some (.t 52)) none⟩, [0, 1, 2, 3, 4, 5, 6]), (⟨(some 54), none, .bin 1 .add (.t 50) (.t 53)⟩, []), (⟨(some 6), none, .mv (.t 54)⟩, [])])
 (.ret)) (.skip)))))))
 (.seq (.any [(⟨(some 55), none, .mv (.t 1)⟩, []), (⟨(some 56), none, .mv (.t 7)⟩, [0]), (⟨(some 57), none, .sls (.t 55) none (some (.t 56))⟩, []), (⟨(some 58), none, .mv (.t 1)⟩, [0, 1, 2]), (⟨(some 59), none, .mv (.t 7)⟩, [0, 1, 2, 3]), (⟨(some 60), none, .bin 0 .add (.t 59) (.c (.int .i64 1))⟩, [0, 1, 2, 3]), (⟨(some 61), none, .sls (.t 58) (some (.t 60)) none⟩, [0, 1, 2]), (⟨(some 62), none, .bin 1 .add (.t 57) (.t 61)⟩, []), (⟨(some 6), none, .mv (.t 62)⟩, [])])
 (.ret))))))⟩
theorem c87 : compF Go.Proofs.Tryd.prog 87 = some a87 := by kernel_rfl
def a89 : AFn := ⟨15, [.t 6], .seq (.ops [⟨(some 6), none, .mv (.c (.bool false))⟩])
 (.seq (.ops [⟨(some 7), none, .mv (.t 1)⟩, ⟨(some 8), none, .mv (.t 0)⟩, ⟨(some 9), none, .bin 0 .leq (.t 7) (.t 8)⟩, ⟨(some 10), none, .mv (.t 9)⟩, ⟨(some 11), (some (10, true)), .mv (.t 0)⟩, ⟨(some 12), (some (10, true)), .mv (.t 2)⟩, ⟨(some 13), (some (10, true)), .bin 0 .leq (.t 11) (.t 12)⟩, ⟨(some 14), none, .pick (.t 10) (.t 13) (.c (.bool false))⟩, ⟨(some 6), none, .mv (.t 14)⟩])
 (.ret))⟩
theorem c89 : compF Go.Proofs.Tryd.prog 89 = some a89 := by kernel_rfl
def a90 : AFn := ⟨6, [.t 2], .seq (.ops [⟨(some 2), none, .mv (.c (.int .i64 0))⟩])
 (.seq (.seq (.ops [⟨(some 3), none, .mv (.t 0)⟩, ⟨(some 4), none, .call 138 [(.t 3), (.c (.str [48, 49]))]⟩, ⟨(some 5), none, .bin 1 .neq (.t 4) (.c (.str []))⟩])
 (.cond (.t 5) (.seq (.ops [⟨(some 2), none, .mv (.c (.int .i64 9))⟩])
 (.ret)) (.skip)))
 (.seq (.ops [⟨(some 2), none, .mv (.c (.int .i64 0))⟩])
 (.ret)))⟩
theorem c90 : compF Go.Proofs.Tryd.prog 90 = some a90 := by kernel_rfl
def a91 : AFn := ⟨15, [.t 6], .seq (.ops [⟨(some 6), none, .mv (.c (.bool false))⟩])
 (.seq (.ops [⟨(some 7), none, .mv (.t 0)⟩, ⟨(some 8), none, .mv (.t 1)⟩, ⟨(some 9), none, .bin 0 .lss (.t 7) (.t 8)⟩, ⟨(some 10), none, .mv (.t 9)⟩, ⟨(some 11), (some (10, false)), .mv (.t 0)⟩, ⟨(some 12), (some (10, false)), .mv (.t 2)⟩, ⟨(some 13), (some (10, false)), .bin 0 .gtr (.t 11) (.t 12)⟩, ⟨(some 14), none, .pick (.t 10) (.c (.bool true)) (.t 13)⟩, ⟨(some 6), none, .mv (.t 14)⟩])
 (.ret))⟩
theorem c91 : compF Go.Proofs.Tryd.prog 91 = some a91 := by kernel_rfl
def a92 : AFn := ⟨6, [.t 2], .seq (.ops [⟨(some 2), none, .mv (.c (.bool false))⟩])
 (.seq (.ops [⟨(some 3), none, .mv (.t 0)⟩, ⟨(some 4), none, .call 138 [(.t 3), (.c (.str [48, 49]))]⟩, ⟨(some 5), none, .bin 1 .eql (.t 4) (.c (.str []))⟩, ⟨(some 2), none, .mv (.t 5)⟩])
 (.ret))⟩
theorem c92 : compF Go.Proofs.Tryd.prog 92 = some a92 := by kernel_rfl
def a106 : AFn := ⟨19, [.c 4 (some 2)], .seq (.ops [⟨(some 4), none, .alloc 61 [(.int .i64 0), (.int .i64 0)]⟩])
 (.seq (.ops [⟨(some 6), none, .mv (.t 0)⟩, ⟨(some 7), none, .mv (.t 0)⟩, ⟨(some 8), none, .un .neg (.t 7)⟩, ⟨(some 9), none, .mm true (.t 6) [(.t 8)]⟩, ⟨(some 10), none, .mv (.t 1)⟩, ⟨(some 11), none, .call 146 [(.t 9), (.t 10)]⟩, ⟨(some 5), none, .mv (.t 11)⟩])
 (.seq (.any [(⟨(some 12), none, .mv (.t 0)⟩, []), (⟨(some 13), none, .mv (.t 5)⟩, [0]), (⟨(some 14), none, .bin 0 .quo (.t 12) (.t 13)⟩, []), (⟨(some 15), none, .mv (.t 1)⟩, [0, 1, 2]), (⟨(some 16), none, .mv (.t 5)⟩, [0, 1, 2, 3]), (⟨(some 17), none, .bin 0 .quo (.t 15) (.t 16)⟩, [0, 1, 2]), (⟨(some 18), none, .build [(.int .i64 0), (.int .i64 0)] [(0, 1, (.t 14)), (1, 1, (.t 17))]⟩, []), (⟨none, none, .store 2 (.t 4) (.t 18)⟩, [])])
 (.ret)))⟩
theorem c106 : compF Go.Proofs.Tryd.prog 106 = some a106 := by kernel_rfl
def a113 : AFn := ⟨70, [.t 8], .seq (.ops [⟨(some 8), none, .mv (.c (.int .i64 0))⟩])
 (.seq (.seq (.ops [⟨(some 15), none, .mv (.t 0)⟩, ⟨(some 16), none, .load none (.t 2)⟩, ⟨(some 17), none, .bin 0 .shl (.c (.int .i64 1)) (.t 16)⟩, ⟨(some 18), none, .bin 0 .sub (.t 17) (.c (.int .i64 1))⟩, ⟨(some 19), none, .bin 0 .eql (.t 15) (.t 18)⟩])
 (.cond (.t 19) (.seq (.ops [⟨(some 8), none, .mv (.c (.int .i64 0))⟩])
 (.ret)) (.skip)))
 (.seq (.ops [⟨(some 20), none, .mv (.t 0)⟩, ⟨(some 21), none, .mv (.t 1)⟩, ⟨(some 22), none, .build [(.int .i64 0), (.int .i64 0)] [(0, 1, (.t 20)), (1, 1, (.t 21))]⟩, ⟨(some 9), none, .alloc 141 [(.int .i64 0), (.int .i64 0)]⟩, ⟨none, none, .store 2 (.t 9) (.t 22)⟩])
 (.seq (.seq (.ops [⟨(some 24), none, .load none (.t 3)⟩, ⟨(some 25), none, .load (some 2) (.t 9)⟩, ⟨(some 26), none, .mlk true .p (.int .i64 0) (.t 24) (.t 25)⟩, ⟨(some 23), none, .mv (.t 26)⟩, ⟨(some 27), none, .ext (.t 23) 0⟩, ⟨(some 28), none, .ext (.t 23) 1⟩, ⟨(some 10), none, .mv (.t 27)⟩, ⟨(some 11), none, .mv (.t 28)⟩])
 (.seq (.ops [⟨(some 29), none, .mv (.t 11)⟩])
 (.cond (.t 29) (.seq (.ops [⟨(some 30), none, .mv (.t 10)⟩, ⟨(some 8), none, .mv (.t 30)⟩])
 (.ret)) (.skip))))
 (.seq (.ops [⟨(some 12), none, .mv (.c (.int .i64 (-1)))⟩])
 (.seq (.seq (.ops [⟨(some 31), none, .load none (.t 2)⟩, ⟨(some 32), none, .mv (.c (.int .i64 0))⟩])
 (.block 0 (.loop (.seq (.ops [⟨(some 33), none, .bin 0 .lss (.t 32) (.t 31)⟩])
 (.seq (.cond (.t 33) (.skip) (.exit 0))
 (.seq (.block 1 (.seq (.ops [⟨(some 34), none, .mv (.t 32)⟩, ⟨(some 13), none, .mv (.t 34)⟩])
 (.seq (.ops [⟨(some 35), none, .mv (.t 0)⟩, ⟨(some 36), none, .mv (.t 13)⟩, ⟨(some 37), none, .bin 0 .shr (.t 35) (.t 36)⟩, ⟨(some 38), none, .bin 0 .and (.t 37) (.c (.int .i64 1))⟩, ⟨(some 39), none, .bin 0 .eql (.t 38) (.c (.int .i64 0))⟩])
 (.cond (.t 39) (.seq (.any [(⟨(some 40), none, .load none (.t 4)⟩, []), (⟨(some 41), none, .mv (.t 1)⟩, [0]), (⟨(some 42), none, .iadr 1 (.t 40) (.t 41)⟩, []), (⟨(some 43), none, .load none (.t 42)⟩, []), (⟨(some 44), none, .load none (.t 4)⟩, [0, 1, 2, 3]), (⟨(some 45), none, .mv (.t 13)⟩, [0, 1, 2, 3, 4]), (⟨(some 46), none, .iadr 1 (.t 44) (.t 45)⟩, [0, 1, 2, 3]), (⟨(some 47), none, .load none (.t 46)⟩, [0, 1, 2, 3]), (⟨(some 48), none, .call 114 [(.t 43), (.t 47)]⟩, []), (⟨(some 49), none, .load none (.t 5)⟩, [0, 1, 2, 3, 4, 5, 6, 7, 8]), (⟨(some 50), none, .mv (.t 0)⟩, [0, 1, 2, 3, 4, 5, 6, 7, 8, 9]), (⟨(some 51), none, .mv (.t 13)⟩, [0, 1, 2, 3, 4, 5, 6, 7, 8, 9, 10]), (⟨(some 52), none, .bin 0 .shl (.c (.int .i64 1)) (.t 51)⟩, [0, 1, 2, 3, 4, 5, 6, 7, 8, 9, 10]), (⟨(some 53), none, .bin 0 .or (.t 50) (.t 52)⟩, [0, 1, 2, 3, 4, 5, 6, 7, 8, 9]), (⟨(some 54), none, .mv (.t 13)⟩, [0, 1, 2, 3, 4, 5, 6, 7, 8, 9, 10, 11, 12, 13]), (⟨(some 55), none, .callv (.t 49) [(.t 53), (.t 54)]⟩, []), (⟨(some 56), none, .bin 0 .add (.t 48) (.t 55)⟩, []), (⟨(some 14), none, .mv (.t 56)⟩, [])])
 (.seq (.ops [⟨(some 57), none, .mv (.t 12)⟩, ⟨(some 58), none, .bin 0 .lss (.t 57) (.c (.int .i64 0))⟩, ⟨(some 59), none, .mv (.t 58)⟩, ⟨(some 60), (some (59, false)), .mv (.t 14)⟩, ⟨(some 61), (some (59, false)), .mv (.t 12)⟩, ⟨(some 62), (some (59, false)), .bin 0 .lss (.t 60) (.t 61)⟩, ⟨(some 63), none, .pick (.t 59) (.c (.bool true)) (.t 62)⟩])
 (.cond (.t 63) (.ops [⟨(some 64), none, .mv (.t 14)⟩, ⟨(some 12), none, .mv (.t 64)⟩]) (.skip)))) (.skip)))))
 (.ops [⟨(some 65), none, .bin 0 .add (.t 32) (.c (.int .i64 1))⟩, ⟨(some 32), none, .mv (.t 65)⟩])))))))
 (.seq (.ops [⟨(some 66), none, .load none (.t 3)⟩, ⟨(some 67), none, .load (some 2) (.t 9)⟩, ⟨(some 68), none, .mv (.t 12)⟩, ⟨none, none, .mup .p (.t 66) (.t 67) (.t 68)⟩])
 (.seq (.ops [⟨(some 69), none, .mv (.t 12)⟩, ⟨(some 8), none, .mv (.t 69)⟩])
 (.ret))))))))⟩
theorem c113 : compF Go.Proofs.Tryd.prog 113 = some a113 := by kernel_rfl
def a114 : AFn := ⟨23, [.t 4], .seq (.ops [⟨(some 4), none, .mv (.c (.int .i64 0))⟩])
 (.seq (.ops [⟨(some 5), none, .mv (.c (.int .i64 0))⟩])
 (.seq (.seq (.ops [⟨(some 7), none, .mv (.t 0)⟩, ⟨(some 8), none, .len true (.t 7)⟩, ⟨(some 9), none, .mv (.c (.int .i64 0))⟩])
 (.block 0 (.loop (.seq (.ops [⟨(some 10), none, .bin 0 .lss (.t 9) (.t 8)⟩])
 (.seq (.cond (.t 10) (.skip) (.exit 0))
 (.seq (.block 1 (.seq (.ops [⟨(some 11), none, .mv (.t 9)⟩, ⟨(some 6), none, .mv (.t 11)⟩])
 (.seq (.any [(⟨(some 12), none, .mv (.t 0)⟩, []), (⟨(some 13), none, .mv (.t 6)⟩, [0]), (⟨(some 14), none, .idxs (.t 12) (.t 13)⟩, []), (⟨(some 15), none, .mv (.t 1)⟩, [0, 1, 2]), (⟨(some 16), none, .mv (.t 6)⟩, [0, 1, 2, 3]), (⟨(some 17), none, .idxs (.t 15) (.t 16)⟩, [0, 1, 2]), (⟨(some 18), none, .bin 0 .neq (.t 14) (.t 17)⟩, [])])
 (.cond (.t 18) (.ops [⟨(some 19), none, .mv (.t 5)⟩, ⟨(some 20), none, .bin 0 .add (.t 19) (.c (.int .i64 1))⟩, ⟨(some 5), none, .mv (.t 20)⟩]) (.skip)))))
 (.ops [⟨(some 21), none, .bin 0 .add (.t 9) (.c (.int .i64 1))⟩, ⟨(some 9), none, .mv (.t 21)⟩])))))))
 (.seq (.ops [⟨(some 22), none, .mv (.t 5)⟩, ⟨(some 4), none, .mv (.t 22)⟩])
 (.ret))))⟩
theorem c114 : compF Go.Proofs.Tryd.prog 114 = some a114 := by kernel_rfl
def a116 : AFn := ⟨9, [.t 4], .seq (.ops [⟨(some 4), none, .mv (.c (.bool false))⟩])
 (.seq (.ops [⟨(some 5), none, .mv (.t 0)⟩, ⟨(some 6), none, .mv (.t 1)⟩, ⟨(some 7), none, .call 155 [(.t 5), (.t 6)]⟩, ⟨(some 8), none, .bin 0 .geq (.t 7) (.c (.int .i64 0))⟩, ⟨(some 4), none, .mv (.t 8)⟩])
 (.ret))⟩
def a128 : AFn := ⟨11, [], .seq (.ops [⟨(some 3), none, .mv (.t 0)⟩, ⟨(some 4), none, .len false (.t 3)⟩, ⟨(some 2), none, .mv (.t 4)⟩])
 (.ops [⟨(some 5), none, .mv (.t 0)⟩, ⟨(some 6), none, .mv (.t 2)⟩, ⟨(some 7), none, .mv (.t 2)⟩, ⟨(some 8), none, .conv .u64 (.t 7)⟩, ⟨(some 9), none, .call 169 [(.t 8)]⟩, ⟨(some 10), none, .call 168 [(.t 5), (.c (.int .i64 0)), (.t 6), (.t 9)]⟩])⟩
theorem c128 : compF Go.Proofs.Tryd.prog 128 = some a128 := by kernel_rfl
def a132 : AFn := ⟨6, [.t 2], .seq (.ops [⟨(some 2), none, .mv (.c (.bool false))⟩])
 (.seq (.ops [⟨(some 3), none, .mv (.t 0)⟩, ⟨(some 4), none, .call 91 [(.t 3), (.c (.int .i64 0)), (.c (.int .i64 15))]⟩, ⟨(some 5), none, .un .not (.t 4)⟩, ⟨(some 2), none, .mv (.t 5)⟩])
 (.ret))⟩
theorem c132 : compF Go.Proofs.Tryd.prog 132 = some a132 := by kernel_rfl
def a133 : AFn := ⟨57, [.t 4], .seq (.ops [⟨(some 4), none, .mv (.c (.str []))⟩])
 (.seq (.ops [⟨(some 12), none, .mmk (.i .i64) (.str [])⟩, ⟨(some 13), none, .mv (.t 0)⟩, ⟨none, none, .mup (.i .i64) (.t 12) (.t 13) (.c (.str []))⟩, ⟨(some 14), none, .mv (.t 12)⟩, ⟨(some 5), none, .mv (.t 14)⟩])
 (.seq (.ops [⟨(some 15), none, .mv (.t 0)⟩, ⟨(some 16), none, .bslice 3 1 1 [(.int .i64 0)] [(0, 1, (.t 15))]⟩, ⟨(some 6), none, .mv (.t 16)⟩])
 (.seq (.block 0 (.loop (.seq (.seq (.ops [⟨(some 17), none, .mv (.t 6)⟩, ⟨(some 18), none, .len false (.t 17)⟩, ⟨(some 19), none, .bin 0 .gtr (.t 18) (.c (.int .i64 0))⟩])
 (.cond (.t 19) (.skip) (.exit 0)))
 (.block 1 (.seq (.ops [⟨(some 20), none, .mv (.t 6)⟩, ⟨(some 21), none, .iadr 1 (.t 20) (.c (.int .i64 0))⟩, ⟨(some 22), none, .load none (.t 21)⟩, ⟨(some 7), none, .mv (.t 22)⟩])
 (.seq (.ops [⟨(some 23), none, .mv (.t 6)⟩, ⟨(some 24), none, .slc 1 (.t 23) (some (.c (.int .i64 1))) none⟩, ⟨(some 6), none, .mv (.t 24)⟩])
 (.seq (.ops [⟨(some 25), none, .mv (.c (.int .i64 0))⟩])
 (.block 2 (.loop (.seq (.ops [⟨(some 26), none, .bin 0 .lss (.t 25) (.c (.int .i64 2))⟩])
 (.seq (.cond (.t 26) (.skip) (.exit 2))
 (.seq (.block 3 (.seq (.ops [⟨(some 27), none, .mv (.t 25)⟩, ⟨(some 8), none, .mv (.t 27)⟩])
 (.seq (.ops [⟨(some 28), none, .mv (.t 7)⟩, ⟨(some 29), none, .mv (.t 8)⟩, ⟨(some 30), none, .call 170 [(.t 28), (.t 29)]⟩, ⟨(some 9), none, .mv (.t 30)⟩])
 (.seq (.ops [⟨(some 32), none, .mv (.t 5)⟩, ⟨(some 33), none, .mv (.t 9)⟩, ⟨(some 34), none, .mlk true (.i .i64) (.str []) (.t 32) (.t 33)⟩, ⟨(some 31), none, .mv (.t 34)⟩, ⟨(some 35), none, .ext (.t 31) 0⟩, ⟨(some 36), none, .ext (.t 31) 1⟩, ⟨(some 10), none, .mv (.t 35)⟩, ⟨(some 11), none, .mv (.t 36)⟩])
 (.seq (.ops [⟨(some 37), none, .mv (.t 11)⟩, ⟨(some 38), none, .un .not (.t 37)⟩])
 (.cond (.t 38) (.seq (.ops [⟨(some 39), none, .mv (.t 5)⟩, ⟨(some 40), none, .mv (.t 9)⟩, ⟨(some 41), none, .mv (.t 5)⟩, ⟨(some 42), none, .mv (.t 7)⟩, ⟨(some 43), none, .mlk false (.i .i64) (.str []) (.t 41) (.t 42)⟩, ⟨(some 44), none, .mv (.t 8)⟩, ⟨(some 45), none, .bin 0 .add (.c (.int .i64 48)) (.t 44)⟩, ⟨(some 46), none, .conv .i32 (.t 45)⟩, ⟨(some 47), none, .i2s (.t 46)⟩, ⟨(some 48), none, .bin 1 .add (.t 43) (.t 47)⟩, ⟨none, none, .mup (.i .i64) (.t 39) (.t 40) (.t 48)⟩])
 (.ops [⟨(some 49), none, .mv (.t 6)⟩, ⟨(some 50), none, .mv (.t 9)⟩, ⟨(some 51), none, .bslice 3 1 1 [(.int .i64 0)] [(0, 1, (.t 50))]⟩, ⟨(some 52), none, .app 3 1 8 (.t 49) (.t 51)⟩, ⟨(some 6), none, .mv (.t 52)⟩])) (.skip)))))))
 (.ops [⟨(some 53), none, .bin 0 .add (.t 25) (.c (.int .i64 1))⟩, ⟨(some 25), none, .mv (.t 53)⟩])))))))))))))
 (.seq (.ops [⟨(some 54), none, .mv (.t 5)⟩, ⟨(some 55), none, .mv (.t 1)⟩, ⟨(some 56), none, .mlk false (.i .i64) (.str []) (.t 54) (.t 55)⟩, ⟨(some 4), none, .mv (.t 56)⟩])
 (.ret)))))⟩
theorem c133 : compF Go.Proofs.Tryd.prog 133 = some a133 := by kernel_rfl
def a134 : AFn := ⟨72, [.t 2], .seq (.ops [⟨(some 1), none, .box 107 (.t 0)⟩, ⟨(some 2), none, .mv (.c (.int .i64 0))⟩])
 (.seq (.block 0 (.seq (.ops [⟨(some 7), none, .fadr 0 (.t 1)⟩, ⟨(some 8), none, .load none (.t 7)⟩, ⟨(some 9), none, .len false (.t 8)⟩, ⟨(some 10), none, .bin 0 .eql (.t 9) (.c (.int .i64 0))⟩, ⟨(some 6), none, .mv (.t 10)⟩])
 (.cond (.t 6) (.seq (.ops [⟨(some 2), none, .mv (.c (.int .i64 8))⟩])
 (.ret)) (.seq (.ops [⟨(some 12), none, .fadr 0 (.t 1)⟩, ⟨(some 13), none, .load none (.t 12)⟩, ⟨(some 14), none, .len false (.t 13)⟩, ⟨(some 15), none, .bin 0 .gtr (.t 14) (.c (.int .i64 60))⟩, ⟨(some 11), none, .mv (.t 15)⟩])
 (.cond (.t 11) (.seq (.ops [⟨(some 2), none, .mv (.c (.int .i64 2))⟩])
 (.ret)) (.skip))))))
 (.seq (.seq (.ops [⟨(some 16), none, .fadr 0 (.t 1)⟩, ⟨(some 17), none, .load none (.t 16)⟩, ⟨(some 18), none, .len false (.t 17)⟩, ⟨(some 19), none, .mv (.c (.int .i64 0))⟩])
 (.block 1 (.loop (.seq (.ops [⟨(some 20), none, .bin 0 .lss (.t 19) (.t 18)⟩])
 (.seq (.cond (.t 20) (.skip) (.exit 1))
 (.seq (.block 2 (.seq (.ops [⟨(some 21), none, .iadr 1 (.t 17) (.t 19)⟩, ⟨(some 22), none, .load none (.t 21)⟩, ⟨(some 4), none, .mv (.t 22)⟩])
 (.block 3 (.seq (.ops [⟨(some 24), none, .mv (.t 4)⟩, ⟨(some 25), none, .bin 1 .eql (.t 24) (.c (.str []))⟩, ⟨(some 23), none, .mv (.t 25)⟩])
 (.cond (.t 23) (.seq (.ops [⟨(some 2), none, .mv (.c (.int .i64 8))⟩])
 (.ret)) (.seq (.ops [⟨(some 27), none, .mv (.t 4)⟩, ⟨(some 28), none, .len true (.t 27)⟩, ⟨(some 29), none, .bin 0 .gtr (.t 28) (.c (.int .i64 60))⟩, ⟨(some 26), none, .mv (.t 29)⟩])
 (.cond (.t 26) (.seq (.ops [⟨(some 2), none, .mv (.c (.int .i64 2))⟩])
 (.ret)) (.seq (.ops [⟨(some 31), none, .mv (.t 4)⟩, ⟨(some 32), none, .len true (.t 31)⟩, ⟨(some 33), none, .fadr 0 (.t 1)⟩, ⟨(some 34), none, .load none (.t 33)⟩, ⟨(some 35), none, .iadr 1 (.t 34) (.c (.int .i64 0))⟩, ⟨(some 36), none, .load none (.t 35)⟩, ⟨(some 37), none, .len true (.t 36)⟩, ⟨(some 38), none, .bin 0 .neq (.t 32) (.t 37)⟩, ⟨(some 30), none, .mv (.t 38)⟩])
 (.cond (.t 30) (.seq (.ops [⟨(some 2), none, .mv (.c (.int .i64 3))⟩])
 (.ret)) (.seq (.ops [⟨(some 40), none, .mv (.t 4)⟩, ⟨(some 41), none, .call 171 [(.t 40)]⟩, ⟨(some 39), none, .mv (.t 41)⟩])
 (.cond (.t 39) (.seq (.ops [⟨(some 2), none, .mv (.c (.int .i64 9))⟩])
 (.ret)) (.skip))))))))))))
 (.ops [⟨(some 42), none, .bin 0 .add (.t 19) (.c (.int .i64 1))⟩, ⟨(some 19), none, .mv (.t 42)⟩])))))))
 (.seq (.seq (.ops [⟨(some 43), none, .fadr 1 (.t 1)⟩, ⟨(some 44), none, .load none (.t 43)⟩, ⟨(some 45), none, .len true (.t 44)⟩, ⟨(some 46), none, .mv (.c (.int .i64 0))⟩])
 (.block 4 (.loop (.seq (.ops [⟨(some 47), none, .bin 0 .lss (.t 46) (.t 45)⟩])
 (.seq (.cond (.t 47) (.skip) (.exit 4))
 (.seq (.block 5 (.seq (.ops [⟨(some 48), none, .mv (.t 46)⟩, ⟨(some 5), none, .mv (.t 48)⟩])
 (.block 6 (.seq (.ops [⟨(some 50), none, .fadr 1 (.t 1)⟩, ⟨(some 51), none, .load none (.t 50)⟩, ⟨(some 52), none, .mv (.t 5)⟩, ⟨(some 53), none, .idxs (.t 51) (.t 52)⟩, ⟨(some 54), none, .call 172 [(.t 53)]⟩, ⟨(some 55), none, .un .not (.t 54)⟩, ⟨(some 49), none, .mv (.t 55)⟩])
 (.cond (.t 49) (.seq (.ops [⟨(some 2), none, .mv (.c (.int .i64 9))⟩])
 (.ret)) (.seq (.any [(⟨(some 57), none, .mv (.t 5)⟩, []), (⟨(some 58), none, .bin 0 .gtr (.t 57) (.c (.int .i64 0))⟩, []), (⟨(some 59), none, .mv (.t 58)⟩, []), (⟨(some 60), (some (59, true)), .fadr 1 (.t 1)⟩, []), (⟨(some 61), (some (59, true)), .load none (.t 60)⟩, []), (⟨(some 62), (some (59, true)), .mv (.t 5)⟩, [3, 4]), (⟨(some 63), (some (59, true)), .idxs (.t 61) (.t 62)⟩, []), (⟨(some 64), (some (59, true)), .fadr 1 (.t 1)⟩, [3, 4, 5, 6]), (⟨(some 65), (some (59, true)), .load none (.t 64)⟩, [3, 4, 5, 6]), (⟨(some 66), (some (59, true)), .mv (.t 5)⟩, [3, 4, 5, 6, 7, 8]), (⟨(some 67), (some (59, true)), .bin 0 .sub (.t 66) (.c (.int .i64 1))⟩, [3, 4, 5, 6, 7, 8]), (⟨(some 68), (some (59, true)), .idxs (.t 65) (.t 67)⟩, [3, 4, 5, 6]), (⟨(some 69), (some (59, true)), .bin 0 .leq (.t 63) (.t 68)⟩, []), (⟨(some 70), none, .pick (.t 59) (.t 69) (.c (.bool false))⟩, []), (⟨(some 56), none, .mv (.t 70)⟩, [])])
 (.cond (.t 56) (.seq (.ops [⟨(some 2), none, .mv (.c (.int .i64 7))⟩])
 (.ret)) (.skip))))))))
 (.ops [⟨(some 71), none, .bin 0 .add (.t 46) (.c (.int .i64 1))⟩, ⟨(some 46), none, .mv (.t 71)⟩])))))))
 (.seq (.ops [⟨(some 2), none, .mv (.c (.int .i64 0))⟩])
 (.ret)))))⟩
theorem c134 : compF Go.Proofs.Tryd.prog 134 = some a134 := by kernel_rfl
def a135 : AFn := ⟨30, [.t 4, .t 5], .seq (.ops [⟨(some 2), none, .box 107 (.t 0)⟩, ⟨(some 4), none, .mv (.c (.int .i64 0))⟩, ⟨(some 5), none, .mv (.c (.int .i64 0))⟩])
 (.seq (.seq (.ops [⟨(some 9), none, .mv (.t 1)⟩, ⟨(some 10), none, .len false (.t 9)⟩, ⟨(some 11), none, .mv (.c (.int .i64 0))⟩])
 (.block 0 (.loop (.seq (.ops [⟨(some 12), none, .bin 0 .lss (.t 11) (.t 10)⟩])
 (.seq (.cond (.t 12) (.skip) (.exit 0))
 (.seq (.block 1 (.seq (.ops [⟨(some 13), none, .iadr 2 (.t 9) (.t 11)⟩, ⟨(some 14), none, .load (some 2) (.t 13)⟩, ⟨(some 7), none, .alloc 183 [(.int .i64 0), (.int .i64 0)]⟩, ⟨none, none, .store 2 (.t 7) (.t 14)⟩])
 (.seq (.ops [⟨(some 15), none, .load (some 2) (.t 2)⟩, ⟨(some 16), none, .load (some 2) (.t 7)⟩, ⟨(some 17), none, .call 173 [(.t 15), (.t 16)]⟩, ⟨(some 8), none, .mv (.t 17)⟩])
 (.seq (.seq (.ops [⟨(some 18), none, .mv (.t 8)⟩, ⟨(some 19), none, .call 174 [(.t 18)]⟩])
 (.cond (.t 19) (.ops [⟨(some 20), none, .mv (.t 5)⟩, ⟨(some 21), none, .bin 0 .add (.t 20) (.c (.int .i64 1))⟩, ⟨(some 5), none, .mv (.t 21)⟩]) (.skip)))
 (.seq (.ops [⟨(some 22), none, .load (some 2) (.t 2)⟩, ⟨(some 23), none, .mv (.t 8)⟩, ⟨(some 24), none, .call 175 [(.t 22), (.t 23)]⟩])
 (.cond (.t 24) (.ops [⟨(some 25), none, .mv (.t 4)⟩, ⟨(some 26), none, .bin 0 .add (.t 25) (.c (.int .i64 1))⟩, ⟨(some 4), none, .mv (.t 26)⟩]) (.skip)))))))
 (.ops [⟨(some 27), none, .bin 0 .add (.t 11) (.c (.int .i64 1))⟩, ⟨(some 11), none, .mv (.t 27)⟩])))))))
 (.seq (.ops [⟨(some 28), none, .mv (.t 4)⟩, ⟨(some 29), none, .mv (.t 5)⟩, ⟨(some 4), none, .mv (.t 28)⟩, ⟨(some 5), none, .mv (.t 29)⟩])
 (.ret)))⟩
theorem c135 : compF Go.Proofs.Tryd.prog 135 = some a135 := by kernel_rfl
def a136 : AFn := ⟨29, [.t 2], .seq (.ops [⟨(some 1), none, .box 107 (.t 0)⟩, ⟨(some 2), none, .mv (.c (.lit true 0 []))⟩])
 (.seq (.ops [⟨(some 3), none, .mv (.c (.lit true 0 []))⟩])
 (.seq (.seq (.ops [⟨(some 7), none, .fadr 0 (.t 1)⟩, ⟨(some 8), none, .load none (.t 7)⟩, ⟨(some 9), none, .len false (.t 8)⟩, ⟨(some 10), none, .mv (.c (.int .i64 0))⟩])
 (.block 0 (.loop (.seq (.ops [⟨(some 11), none, .bin 0 .lss (.t 10) (.t 9)⟩])
 (.seq (.cond (.t 11) (.skip) (.exit 0))
 (.seq (.block 1 (.seq (.ops [⟨(some 12), none, .mv (.t 10)⟩, ⟨(some 13), none, .iadr 1 (.t 8) (.t 10)⟩, ⟨(some 14), none, .load none (.t 13)⟩, ⟨(some 4), none, .mv (.t 12)⟩, ⟨(some 5), none, .mv (.t 14)⟩])
 (.seq (.ops [⟨(some 15), none, .mv (.t 5)⟩, ⟨(some 16), none, .len true (.t 15)⟩, ⟨(some 17), none, .mv (.c (.int .i64 0))⟩])
 (.block 2 (.loop (.seq (.ops [⟨(some 18), none, .bin 0 .lss (.t 17) (.t 16)⟩])
 (.seq (.cond (.t 18) (.skip) (.exit 2))
 (.seq (.block 3 (.seq (.ops [⟨(some 19), none, .mv (.t 17)⟩, ⟨(some 6), none, .mv (.t 19)⟩])
 (.ops [⟨(some 20), none, .mv (.t 3)⟩, ⟨(some 21), none, .mv (.t 6)⟩, ⟨(some 22), none, .mv (.t 4)⟩, ⟨(some 23), none, .build [(.int .i64 0), (.int .i64 0)] [(0, 1, (.t 21)), (1, 1, (.t 22))]⟩, ⟨(some 24), none, .bslice 183 2 1 [(.int .i64 0), (.int .i64 0)] [(0, 2, (.t 23))]⟩, ⟨(some 25), none, .app 183 2 16 (.t 20) (.t 24)⟩, ⟨(some 3), none, .mv (.t 25)⟩])))
 (.ops [⟨(some 26), none, .bin 0 .add (.t 17) (.c (.int .i64 1))⟩, ⟨(some 17), none, .mv (.t 26)⟩])))))))))
 (.ops [⟨(some 27), none, .bin 0 .add (.t 10) (.c (.int .i64 1))⟩, ⟨(some 10), none, .mv (.t 27)⟩])))))))
 (.seq (.ops [⟨(some 28), none, .mv (.t 3)⟩, ⟨(some 2), none, .mv (.t 28)⟩])
 (.ret))))⟩
theorem c136 : compF Go.Proofs.Tryd.prog 136 = some a136 := by kernel_rfl
def a137 : AFn := ⟨16, [.t 4], .seq (.ops [⟨(some 4), none, .mv (.c (.int .i64 0))⟩])
 (.seq (.seq (.ops [⟨(some 5), none, .mv (.t 1)⟩, ⟨(some 6), none, .bin 0 .lss (.t 5) (.c (.int .i64 1))⟩])
 (.cond (.t 6) (.seq (.ops [⟨(some 4), none, .mv (.c (.int .i64 0))⟩])
 (.ret)) (.skip)))
 (.seq (.ops [⟨(some 7), none, .mv (.t 0)⟩, ⟨(some 8), none, .mv (.t 1)⟩, ⟨(some 9), none, .bin 0 .rem (.t 7) (.t 8)⟩, ⟨(some 0), none, .mv (.t 9)⟩])
 (.seq (.seq (.ops [⟨(some 10), none, .mv (.t 0)⟩, ⟨(some 11), none, .bin 0 .lss (.t 10) (.c (.int .i64 0))⟩])
 (.cond (.t 11) (.ops [⟨(some 12), none, .mv (.t 0)⟩, ⟨(some 13), none, .mv (.t 1)⟩, ⟨(some 14), none, .bin 0 .add (.t 12) (.t 13)⟩, ⟨(some 0), none, .mv (.t 14)⟩]) (.skip)))
 (.seq (.ops [⟨(some 15), none, .mv (.t 0)⟩, ⟨(some 4), none, .mv (.t 15)⟩])
 (.ret)))))⟩
theorem c137 : compF Go.Proofs.Tryd.prog 137 = some a137 := by kernel_rfl
def a146 : AFn := ⟨12, [.t 4], .seq (.ops [⟨(some 4), none, .mv (.c (.int .i64 0))⟩])
 (.seq (.block 0 (.loop (.seq (.seq (.ops [⟨(some 5), none, .mv (.t 1)⟩, ⟨(some 6), none, .bin 0 .neq (.t 5) (.c (.int .i64 0))⟩])
 (.cond (.t 6) (.skip) (.exit 0)))
 (.block 1 (.any [(⟨(some 7), none, .mv (.t 1)⟩, []), (⟨(some 8), none, .mv (.t 0)⟩, [0]), (⟨(some 9), none, .mv (.t 1)⟩, [0, 1]), (⟨(some 10), none, .bin 0 .rem (.t 8) (.t 9)⟩, [0]), (⟨(some 0), none, .mv (.t 7)⟩, [2, 3]), (⟨(some 1), none, .mv (.t 10)⟩, [])])))))
 (.seq (.ops [⟨(some 11), none, .mv (.t 0)⟩, ⟨(some 4), none, .mv (.t 11)⟩])
 (.ret)))⟩
theorem c146 : compF Go.Proofs.Tryd.prog 146 = some a146 := by kernel_rfl
def a168 : AFn := ⟨134, [], .seq (.ops [⟨(some 8), none, .mv (.c (.bool true))⟩])
 (.seq (.ops [⟨(some 9), none, .mv (.c (.bool true))⟩])
 (.block 0 (.loop (.block 1 (.seq (.ops [⟨(some 19), none, .mv (.t 2)⟩, ⟨(some 20), none, .mv (.t 1)⟩, ⟨(some 21), none, .bin 0 .sub (.t 19) (.t 20)⟩, ⟨(some 10), none, .mv (.t 21)⟩])
 (.seq (.seq (.ops [⟨(some 22), none, .mv (.t 10)⟩, ⟨(some 23), none, .bin 0 .leq (.t 22) (.c (.int .i64 12))⟩])
 (.cond (.t 23) (.seq (.ops [⟨(some 24), none, .mv (.t 0)⟩, ⟨(some 25), none, .mv (.t 1)⟩, ⟨(some 26), none, .mv (.t 2)⟩, ⟨(some 27), none, .call 202 [(.t 24), (.t 25), (.t 26)]⟩])
 (.ret)) (.skip)))
 (.seq (.seq (.ops [⟨(some 28), none, .mv (.t 3)⟩, ⟨(some 29), none, .bin 0 .eql (.t 28) (.c (.int .i64 0))⟩])
 (.cond (.t 29) (.seq (.ops [⟨(some 30), none, .mv (.t 0)⟩, ⟨(some 31), none, .mv (.t 1)⟩, ⟨(some 32), none, .mv (.t 2)⟩, ⟨(some 33), none, .call 203 [(.t 30), (.t 31), (.t 32)]⟩])
 (.ret)) (.skip)))
 (.seq (.seq (.ops [⟨(some 34), none, .mv (.t 8)⟩, ⟨(some 35), none, .un .not (.t 34)⟩])
 (.cond (.t 35) (.seq (.ops [⟨(some 36), none, .mv (.t 0)⟩, ⟨(some 37), none, .mv (.t 1)⟩, ⟨(some 38), none, .mv (.t 2)⟩, ⟨(some 39), none, .call 204 [(.t 36), (.t 37), (.t 38)]⟩])
 (.ops [⟨(some 40), none, .mv (.t 3)⟩, ⟨(some 41), none, .bin 0 .sub (.t 40) (.c (.int .i64 1))⟩, ⟨(some 3), none, .mv (.t 41)⟩])) (.skip)))
 (.seq (.ops [⟨(some 43), none, .mv (.t 0)⟩, ⟨(some 44), none, .mv (.t 1)⟩, ⟨(some 45), none, .mv (.t 2)⟩, ⟨(some 46), none, .call 205 [(.t 43), (.t 44), (.t 45)]⟩, ⟨(some 42), none, .mv (.t 46)⟩, ⟨(some 47), none, .ext (.t 42) 0⟩, ⟨(some 48), none, .ext (.t 42) 1⟩, ⟨(some 11), none, .mv (.t 47)⟩, ⟨(some 12), none, .mv (.t 48)⟩])
 (.seq (.seq (.ops [⟨(some 49), none, .mv (.t 12)⟩, ⟨(some 50), none, .bin 0 .eql (.t 49) (.c (.int .i64 2))⟩])
 (.cond (.t 50) (.seq (.ops [⟨(some 51), none, .mv (.t 0)⟩, ⟨(some 52), none, .mv (.t 1)⟩, ⟨(some 53), none, .mv (.t 2)⟩, ⟨(some 54), none, .call 206 [(.t 51), (.t 52), (.t 53)]⟩])
 (.seq (.ops [⟨(some 55), none, .mv (.t 2)⟩, ⟨(some 56), none, .bin 0 .sub (.t 55) (.c (.int .i64 1))⟩, ⟨(some 57), none, .mv (.t 11)⟩, ⟨(some 58), none, .mv (.t 1)⟩, ⟨(some 59), none, .bin 0 .sub (.t 57) (.t 58)⟩, ⟨(some 60), none, .bin 0 .sub (.t 56) (.t 59)⟩, ⟨(some 11), none, .mv (.t 60)⟩])
 (.ops [⟨(some 12), none, .mv (.c (.int .i64 1))⟩]))) (.skip)))
 (.seq (.seq (.ops [⟨(some 61), none, .mv (.t 8)⟩, ⟨(some 62), none, .mv (.t 61)⟩, ⟨(some 63), (some (62, true)), .mv (.t 9)⟩, ⟨(some 64), none, .pick (.t 62) (.t 63) (.c (.bool false))⟩, ⟨(some 65), none, .mv (.t 64)⟩, ⟨(some 66), (some (65, true)), .mv (.t 12)⟩, ⟨(some 67), (some (65, true)), .bin 0 .eql (.t 66) (.c (.int .i64 1))⟩, ⟨(some 68), none, .pick (.t 65) (.t 67) (.c (.bool false))⟩])
 (.cond (.t 68) (.seq (.ops [⟨(some 69), none, .mv (.t 0)⟩, ⟨(some 70), none, .mv (.t 1)⟩, ⟨(some 71), none, .mv (.t 2)⟩, ⟨(some 72), none, .call 207 [(.t 69), (.t 70), (.t 71)]⟩])
 (.cond (.t 72) (.ret) (.skip))) (.skip)))
 (.seq (.seq (.any [(⟨(some 73), none, .mv (.t 1)⟩, []), (⟨(some 74), none, .bin 0 .gtr (.t 73) (.c (.int .i64 0))⟩, []), (⟨(some 75), none, .mv (.t 74)⟩, []), (⟨(some 76), (some (75, true)), .mv (.t 0)⟩, []), (⟨(some 77), (some (75, true)), .mv (.t 1)⟩, [3]), (⟨(some 78), (some (75, true)), .bin 0 .sub (.t 77) (.c (.int .i64 1))⟩, [3]), (⟨(some 79), (some (75, true)), .iadr 1 (.t 76) (.t 78)⟩, []), (⟨(some 80), (some (75, true)), .load none (.t 79)⟩, []), (⟨(some 81), (some (75, true)), .mv (.t 0)⟩, [3, 4, 5, 6, 7]), (⟨(some 82), (some (75, true)), .mv (.t 11)⟩, [3, 4, 5, 6, 7, 8]), (⟨(some 83), (some (75, true)), .iadr 1 (.t 81) (.t 82)⟩, [3, 4, 5, 6, 7]), (⟨(some 84), (some (75, true)), .load none (.t 83)⟩, [3, 4, 5, 6, 7]), (⟨(some 85), (some (75, true)), .call 208 [(.t 80), (.t 84)]⟩, []), (⟨(some 86), (some (75, true)), .un .not (.t 85)⟩, []), (⟨(some 87), none, .pick (.t 75) (.t 86) (.c (.bool false))⟩, [])])
 (.cond (.t 87) (.seq (.ops [⟨(some 88), none, .mv (.t 0)⟩, ⟨(some 89), none, .mv (.t 1)⟩, ⟨(some 90), none, .mv (.t 2)⟩, ⟨(some 91), none, .mv (.t 11)⟩, ⟨(some 92), none, .call 209 [(.t 88), (.t 89), (.t 90), (.t 91)]⟩, ⟨(some 13), none, .mv (.t 92)⟩])
 (.seq (.ops [⟨(some 93), none, .mv (.t 13)⟩, ⟨(some 1), none, .mv (.t 93)⟩])
 (.exit 1))) (.skip)))
 (.seq (.ops [⟨(some 95), none, .mv (.t 0)⟩, ⟨(some 96), none, .mv (.t 1)⟩, ⟨(some 97), none, .mv (.t 2)⟩, ⟨(some 98), none, .mv (.t 11)⟩, ⟨(some 99), none, .call 210 [(.t 95), (.t 96), (.t 97), (.t 98)]⟩, ⟨(some 94), none, .mv (.t 99)⟩, ⟨(some 100), none, .ext (.t 94) 0⟩, ⟨(some 101), none, .ext (.t 94) 1⟩, ⟨(some 14), none, .mv (.t 100)⟩, ⟨(some 15), none, .mv (.t 101)⟩])
 (.seq (.ops [⟨(some 102), none, .mv (.t 15)⟩, ⟨(some 9), none, .mv (.t 102)⟩])
 (.seq (.ops [⟨(some 103), none, .mv (.t 14)⟩, ⟨(some 104), none, .mv (.t 1)⟩, ⟨(some 105), none, .bin 0 .sub (.t 103) (.t 104)⟩, ⟨(some 106), none, .mv (.t 2)⟩, ⟨(some 107), none, .mv (.t 14)⟩, ⟨(some 108), none, .bin 0 .sub (.t 106) (.t 107)⟩, ⟨(some 16), none, .mv (.t 105)⟩, ⟨(some 17), none, .mv (.t 108)⟩])
 (.seq (.ops [⟨(some 109), none, .mv (.t 10)⟩, ⟨(some 110), none, .bin 0 .quo (.t 109) (.c (.int .i64 8))⟩, ⟨(some 18), none, .mv (.t 110)⟩])
 (.seq (.ops [⟨(some 111), none, .mv (.t 16)⟩, ⟨(some 112), none, .mv (.t 17)⟩, ⟨(some 113), none, .bin 0 .lss (.t 111) (.t 112)⟩])
 (.cond (.t 113) (.seq (.ops [⟨(some 114), none, .mv (.t 16)⟩, ⟨(some 115), none, .mv (.t 18)⟩, ⟨(some 116), none, .bin 0 .geq (.t 114) (.t 115)⟩, ⟨(some 8), none, .mv (.t 116)⟩])
 (.seq (.ops [⟨(some 117), none, .mv (.t 0)⟩, ⟨(some 118), none, .mv (.t 1)⟩, ⟨(some 119), none, .mv (.t 14)⟩, ⟨(some 120), none, .mv (.t 3)⟩, ⟨(some 121), none, .call 168 [(.t 117), (.t 118), (.t 119), (.t 120)]⟩])
 (.ops [⟨(some 122), none, .mv (.t 14)⟩, ⟨(some 123), none, .bin 0 .add (.t 122) (.c (.int .i64 1))⟩, ⟨(some 1), none, .mv (.t 123)⟩]))) (.seq (.ops [⟨(some 124), none, .mv (.t 17)⟩, ⟨(some 125), none, .mv (.t 18)⟩, ⟨(some 126), none, .bin 0 .geq (.t 124) (.t 125)⟩, ⟨(some 8), none, .mv (.t 126)⟩])
 (.seq (.ops [⟨(some 127), none, .mv (.t 0)⟩, ⟨(some 128), none, .mv (.t 14)⟩, ⟨(some 129), none, .bin 0 .add (.t 128) (.c (.int .i64 1))⟩, ⟨(some 130), none, .mv (.t 2)⟩, ⟨(some 131), none, .mv (.t 3)⟩, ⟨(some 132), none, .call 168 [(.t 127), (.t 129), (.t 130), (.t 131)]⟩])
 (.ops [⟨(some 133), none, .mv (.t 14)⟩, ⟨(some 2), none, .mv (.t 133)⟩])))))))))))))))))))))⟩
theorem c168 : compF Go.Proofs.Tryd.prog 168 = some a168 := by kernel_rfl
def a169 : AFn := ⟨8, [.t 2], .seq (.ops [⟨(some 2), none, .mv (.c (.int .i64 0))⟩])
 (.seq (.cond (.c (.bool false)) (.seq (.ops [⟨(some 3), none, .mv (.t 0)⟩, ⟨(some 4), none, .conv .u32 (.t 3)⟩, ⟨(some 5), none, .call 211 [(.t 4)]⟩, ⟨(some 2), none, .mv (.t 5)⟩])
 (.ret)) (.skip))
 (.seq (.ops [⟨(some 6), none, .mv (.t 0)⟩, ⟨(some 7), none, .call 212 [(.t 6)]⟩, ⟨(some 2), none, .mv (.t 7)⟩])
 (.ret)))⟩
theorem c169 : compF Go.Proofs.Tryd.prog 169 = some a169 := by kernel_rfl
def a170 : AFn := ⟨28, [.t 4], .seq (.ops [⟨(some 4), none, .mv (.c (.int .i64 0))⟩])
 (.seq (.ops [⟨(some 6), none, .build [(.int .i64 0), (.int .i64 0)] [(0, 1, (.c (.int .i64 1))), (1, 1, (.c (.int .i64 0)))]⟩, ⟨(some 7), none, .build [(.int .i64 0), (.int .i64 0)] [(0, 1, (.c (.int .i64 1))), (1, 1, (.c (.int .i64 2)))]⟩, ⟨(some 8), none, .build [(.int .i64 0), (.int .i64 0)] [(0, 1, (.c (.int .i64 3))), (1, 1, (.c (.int .i64 9)))]⟩, ⟨(some 9), none, .build [(.int .i64 0), (.int .i64 0)] [(0, 1, (.c (.int .i64 4))), (1, 1, (.c (.int .i64 5)))]⟩, ⟨(some 10), none, .build [(.int .i64 0), (.int .i64 0)] [(0, 1, (.c (.int .i64 4))), (1, 1, (.c (.int .i64 5)))]⟩, ⟨(some 11), none, .build [(.int .i64 0), (.int .i64 0)] [(0, 1, (.c (.int .i64 6))), (1, 1, (.c (.int .i64 8)))]⟩, ⟨(some 12), none, .build [(.int .i64 0), (.int .i64 0)] [(0, 1, (.c (.int .i64 6))), (1, 1, (.c (.int .i64 7)))]⟩, ⟨(some 13), none, .build [(.int .i64 0), (.int .i64 0)] [(0, 1, (.c (.int .i64 4))), (1, 1, (.c (.int .i64 8)))]⟩, ⟨(some 14), none, .build [(.int .i64 0), (.int .i64 0)] [(0, 1, (.c (.int .i64 1))), (1, 1, (.c (.int .i64 2)))]⟩, ⟨(some 15), none, .build [(.int .i64 0), (.int .i64 0)] [(0, 1, (.c (.int .i64 10))), (1, 1, (.c (.int .i64 0)))]⟩, ⟨(some 16), none, .build [(.int .i64 0), (.int .i64 0)] [(0, 1, (.c (.int .i64 11))), (1, 1, (.c (.int .i64 12)))]⟩, ⟨(some 17), none, .build [(.int .i64 0), (.int .i64 0)] [(0, 1, (.c (.int .i64 11))), (1, 1, (.c (.int .i64 12)))]⟩, ⟨(some 18), none, .build [(.int .i64 0), (.int .i64 0)] [(0, 1, (.c (.int .i64 13))), (1, 1, (.c (.int .i64 15)))]⟩, ⟨(some 19), none, .build [(.int .i64 0), (.int .i64 0)] [(0, 1, (.c (.int .i64 13))), (1, 1, (.c (.int .i64 14)))]⟩, ⟨(some 20), none, .build [(.int .i64 0), (.int .i64 0)] [(0, 1, (.c (.int .i64 11))), (1, 1, (.c (.int .i64 15)))]⟩, ⟨(some 21), none, .build [(.int .i64 0), (.int .i64 0)] [(0, 1, (.c (.int .i64 1))), (1, 1, (.c (.int .i64 2)))]⟩, ⟨(some 22), none, .build [(.int .i64 0), (.int .i64 0), (.int .i64 0), (.int .i64 0), (.int .i64 0), (.int .i64 0), (.int .i64 0), (.int .i64 0), (.int .i64 0), (.int .i64 0), (.int .i64 0), (.int .i64 0), (.int .i64 0), (.int .i64 0), (.int .i64 0), (.int .i64 0), (.int .i64 0), (.int .i64 0), (.int .i64 0), (.int .i64 0), (.int .i64 0), (.int .i64 0), (.int .i64 0), (.int .i64 0), (.int .i64 0), (.int .i64 0), (.int .i64 0), (.int .i64 0), (.int .i64 0), (.int .i64 0), (.int .i64 0), (.int .i64 0)] [(0, 2, (.t 6)), (2, 2, (.t 7)), (4, 2, (.t 8)), (6, 2, (.t 9)), (8, 2, (.t 10)), (10, 2, (.t 11)), (12, 2, (.t 12)), (14, 2, (.t 13)), (16, 2, (.t 14)), (18, 2, (.t 15)), (20, 2, (.t 16)), (22, 2, (.t 17)), (24, 2, (.t 18)), (26, 2, (.t 19)), (28, 2, (.t 20)), (30, 2, (.t 21))]⟩, ⟨(some 5), none, .alloc 215 [(.int .i64 0), (.int .i64 0), (.int .i64 0), (.int .i64 0), (.int .i64 0), (.int .i64 0), (.int .i64 0), (.int .i64 0), (.int .i64 0), (.int .i64 0), (.int .i64 0), (.int .i64 0), (.int .i64 0), (.int .i64 0), (.int .i64 0), (.int .i64 0), (.int .i64 0), (.int .i64 0), (.int .i64 0), (.int .i64 0), (.int .i64 0), (.int .i64 0), (.int .i64 0), (.int .i64 0), (.int .i64 0), (.int .i64 0), (.int .i64 0), (.int .i64 0), (.int .i64 0), (.int .i64 0), (.int .i64 0), (.int .i64 0)]⟩, ⟨none, none, .store 32 (.t 5) (.t 22)⟩])
 (.seq (.ops [⟨(some 23), none, .mv (.t 0)⟩, ⟨(some 24), none, .mv (.t 1)⟩, ⟨(some 25), none, .aadr 16 2 (.t 5) (.t 23)⟩, ⟨(some 26), none, .aadr 2 1 (.t 25) (.t 24)⟩, ⟨(some 27), none, .load none (.t 26)⟩, ⟨(some 4), none, .mv (.t 27)⟩])
 (.ret)))⟩
theorem c170 : compF Go.Proofs.Tryd.prog 170 = some a170 := by kernel_rfl
def a171 : AFn := ⟨6, [.t 2], .seq (.ops [⟨(some 2), none, .mv (.c (.bool false))⟩])
 (.seq (.ops [⟨(some 3), none, .mv (.t 0)⟩, ⟨(some 4), none, .s2b (.t 3)⟩, ⟨(some 5), none, .call 213 [(.t 4), (.c (.fn 214 []))]⟩, ⟨(some 2), none, .mv (.t 5)⟩])
 (.ret))⟩
theorem c171 : compF Go.Proofs.Tryd.prog 171 = some a171 := by kernel_rfl
def a172 : AFn := ⟨17, [.t 2], .seq (.ops [⟨(some 2), none, .mv (.c (.bool false))⟩])
 (.seq (.ops [⟨(some 3), none, .mv (.t 0)⟩, ⟨(some 4), none, .bin 0 .geq (.t 3) (.c (.int .u8 48))⟩, ⟨(some 5), none, .mv (.t 4)⟩, ⟨(some 6), (some (5, true)), .mv (.t 0)⟩, ⟨(some 7), (some (5, true)), .bin 0 .leq (.t 6) (.c (.int .u8 57))⟩, ⟨(some 8), none, .pick (.t 5) (.t 7) (.c (.bool false))⟩, ⟨(some 9), none, .mv (.t 8)⟩, ⟨(some 10), (some (9, false)), .mv (.t 0)⟩, ⟨(some 11), (some (9, false)), .bin 0 .geq (.t 10) (.c (.int .u8 97))⟩, ⟨(some 12), (some (9, false)), .mv (.t 11)⟩, ⟨(some 13), (some (12, true)), .mv (.t 0)⟩, ⟨(some 14), (some (12, true)), .bin 0 .leq (.t 13) (.c (.int .u8 122))⟩, ⟨(some 15), (some (9, false)), .pick (.t 12) (.t 14) (.c (.bool false))⟩, ⟨(some 16), none, .pick (.t 9) (.c (.bool true)) (.t 15)⟩, ⟨(some 2), none, .mv (.t 16)⟩])
 (.ret))⟩
theorem c172 : compF Go.Proofs.Tryd.prog 172 = some a172 := by kernel_rfl
def a173 : AFn := ⟨32, [.t 4], .seq (.ops [⟨(some 2), none, .box 107 (.t 0)⟩, ⟨(some 3), none, .box 183 (.t 1)⟩, ⟨(some 4), none, .mv (.c (.int .u8 0))⟩])
 (.seq (.seq (.any [(⟨(some 5), none, .fadr 1 (.t 3)⟩, []), (⟨(some 6), none, .load none (.t 5)⟩, []), (⟨(some 7), none, .fadr 0 (.t 2)⟩, [0, 1]), (⟨(some 8), none, .load none (.t 7)⟩, [0, 1]), (⟨(some 9), none, .len false (.t 8)⟩, [0, 1]), (⟨(some 10), none, .bin 0 .sub (.t 9) (.c (.int .i64 1))⟩, [0, 1]), (⟨(some 11), none, .call 91 [(.t 6), (.c (.int .i64 0)), (.t 10)]⟩, []), (⟨(some 12), none, .mv (.t 11)⟩, []), (⟨(some 13), (some (12, false)), .fadr 0 (.t 3)⟩, []), (⟨(some 14), (some (12, false)), .load none (.t 13)⟩, []), (⟨(some 15), (some (12, false)), .fadr 0 (.t 2)⟩, [8, 9]), (⟨(some 16), (some (12, false)), .load none (.t 15)⟩, [8, 9]), (⟨(some 17), (some (12, false)), .iadr 1 (.t 16) (.c (.int .i64 0))⟩, [8, 9]), (⟨(some 18), (some (12, false)), .load none (.t 17)⟩, [8, 9]), (⟨(some 19), (some (12, false)), .len true (.t 18)⟩, [8, 9]), (⟨(some 20), (some (12, false)), .bin 0 .sub (.t 19) (.c (.int .i64 1))⟩, [8, 9]), (⟨(some 21), (some (12, false)), .call 91 [(.t 14), (.c (.int .i64 0)), (.t 20)]⟩, []), (⟨(some 22), none, .pick (.t 12) (.c (.bool true)) (.t 21)⟩, [])])
 (.cond (.t 22) (.seq (.ops [⟨(some 4), none, .mv (.c (.int .u8 46))⟩])
 (.ret)) (.skip)))
 (.seq (.any [(⟨(some 23), none, .fadr 0 (.t 2)⟩, []), (⟨(some 24), none, .load none (.t 23)⟩, []), (⟨(some 25), none, .fadr 1 (.t 3)⟩, [0, 1]), (⟨(some 26), none, .load none (.t 25)⟩, [0, 1]), (⟨(some 27), none, .iadr 1 (.t 24) (.t 26)⟩, []), (⟨(some 28), none, .load none (.t 27)⟩, []), (⟨(some 29), none, .fadr 0 (.t 3)⟩, [0, 1, 2, 3, 4, 5]), (⟨(some 30), none, .load none (.t 29)⟩, [0, 1, 2, 3, 4, 5]), (⟨(some 31), none, .idxs (.t 28) (.t 30)⟩, []), (⟨(some 4), none, .mv (.t 31)⟩, [])])
 (.ret)))⟩
theorem c173 : compF Go.Proofs.Tryd.prog 173 = some a173 := by kernel_rfl
def a174 : AFn := ⟨9, [.t 2], .seq (.ops [⟨(some 2), none, .mv (.c (.bool false))⟩])
 (.seq (.ops [⟨(some 3), none, .mv (.t 0)⟩, ⟨(some 4), none, .call 172 [(.t 3)]⟩, ⟨(some 5), none, .mv (.t 4)⟩, ⟨(some 6), (some (5, false)), .mv (.t 0)⟩, ⟨(some 7), (some (5, false)), .bin 0 .eql (.t 6) (.c (.int .u8 42))⟩, ⟨(some 8), none, .pick (.t 5) (.c (.bool true)) (.t 7)⟩, ⟨(some 2), none, .mv (.t 8)⟩])
 (.ret))⟩
theorem c174 : compF Go.Proofs.Tryd.prog 174 = some a174 := by kernel_rfl
def a175 : AFn := ⟨14, [.t 4], .seq (.ops [⟨(some 2), none, .box 107 (.t 0)⟩, ⟨(some 4), none, .mv (.c (.bool false))⟩])
 (.seq (.ops [⟨(some 5), none, .mv (.t 1)⟩, ⟨(some 6), none, .call 172 [(.t 5)]⟩, ⟨(some 7), none, .mv (.t 6)⟩, ⟨(some 8), (some (7, true)), .fadr 1 (.t 2)⟩, ⟨(some 9), (some (7, true)), .load none (.t 8)⟩, ⟨(some 10), (some (7, true)), .mv (.t 1)⟩, ⟨(some 11), (some (7, true)), .call 216 [(.t 9), (.t 10)]⟩, ⟨(some 12), (some (7, true)), .bin 0 .geq (.t 11) (.c (.int .i64 0))⟩, ⟨(some 13), none, .pick (.t 7) (.t 12) (.c (.bool false))⟩, ⟨(some 4), none, .mv (.t 13)⟩])
 (.ret))⟩
theorem c175 : compF Go.Proofs.Tryd.prog 175 = some a175 := by kernel_rfl
def a202 : AFn := ⟨49, [], .seq (.ops [⟨(some 8), none, .mv (.t 1)⟩, ⟨(some 9), none, .bin 0 .add (.t 8) (.c (.int .i64 1))⟩, ⟨(some 6), none, .mv (.t 9)⟩])
 (.block 0 (.loop (.seq (.seq (.ops [⟨(some 10), none, .mv (.t 6)⟩, ⟨(some 11), none, .mv (.t 2)⟩, ⟨(some 12), none, .bin 0 .lss (.t 10) (.t 11)⟩])
 (.cond (.t 12) (.skip) (.exit 0)))
 (.seq (.block 1 (.seq (.ops [⟨(some 15), none, .mv (.t 6)⟩, ⟨(some 7), none, .mv (.t 15)⟩])
 (.block 2 (.loop (.seq (.seq (.any [(⟨(some 16), none, .mv (.t 7)⟩, []), (⟨(some 17), none, .mv (.t 1)⟩, [0]), (⟨(some 18), none, .bin 0 .gtr (.t 16) (.t 17)⟩, []), (⟨(some 19), none, .mv (.t 18)⟩, []), (⟨(some 20), (some (19, true)), .mv (.t 0)⟩, []), (⟨(some 21), (some (19, true)), .mv (.t 7)⟩, [4]), (⟨(some 22), (some (19, true)), .iadr 1 (.t 20) (.t 21)⟩, []), (⟨(some 23), (some (19, true)), .load none (.t 22)⟩, []), (⟨(some 24), (some (19, true)), .mv (.t 0)⟩, [4, 5, 6, 7]), (⟨(some 25), (some (19, true)), .mv (.t 7)⟩, [4, 5, 6, 7, 8]), (⟨(some 26), (some (19, true)), .bin 0 .sub (.t 25) (.c (.int .i64 1))⟩, [4, 5, 6, 7, 8]), (⟨(some 27), (some (19, true)), .iadr 1 (.t 24) (.t 26)⟩, [4, 5, 6, 7]), (⟨(some 28), (some (19, true)), .load none (.t 27)⟩, [4, 5, 6, 7]), (⟨(some 29), (some (19, true)), .call 208 [(.t 23), (.t 28)]⟩, []), (⟨(some 30), none, .pick (.t 19) (.t 29) (.c (.bool false))⟩, [])])
 (.cond (.t 30) (.skip) (.exit 2)))
 (.seq (.block 3 (.any [(⟨(some 33), none, .mv (.t 0)⟩, []), (⟨(some 34), none, .mv (.t 7)⟩, [0]), (⟨(some 35), none, .mv (.t 0)⟩, [0, 1]), (⟨(some 36), none, .mv (.t 7)⟩, [0, 1, 2]), (⟨(some 37), none, .bin 0 .sub (.t 36) (.c (.int .i64 1))⟩, [0, 1, 2]), (⟨(some 38), none, .mv (.t 0)⟩, [0, 1, 2, 3, 4]), (⟨(some 39), none, .mv (.t 7)⟩, [0, 1, 2, 3, 4, 5]), (⟨(some 40), none, .bin 0 .sub (.t 39) (.c (.int .i64 1))⟩, [0, 1, 2, 3, 4, 5]), (⟨(some 41), none, .iadr 1 (.t 38) (.t 40)⟩, [0, 1, 2, 3, 4]), (⟨(some 42), none, .load none (.t 41)⟩, [0, 1, 2, 3, 4]), (⟨(some 43), none, .mv (.t 0)⟩, [0, 1, 2, 3, 4, 5, 6, 7, 8, 9]), (⟨(some 44), none, .mv (.t 7)⟩, [0, 1, 2, 3, 4, 5, 6, 7, 8, 9, 10]), (⟨(some 45), none, .iadr 1 (.t 43) (.t 44)⟩, [0, 1, 2, 3, 4, 5, 6, 7, 8, 9]), (⟨(some 46), none, .load none (.t 45)⟩, [0, 1, 2, 3, 4, 5, 6, 7, 8, 9]), (⟨(some 47), none, .iadr 1 (.t 33) (.t 34)⟩, [2, 3, 4]), (⟨none, none, .store 1 (.t 47) (.t 42)⟩, [2, 3, 4]), (⟨(some 48), none, .iadr 1 (.t 35) (.t 37)⟩, []), (⟨none, none, .store 1 (.t 48) (.t 46)⟩, [])]))
 (.ops [⟨(some 31), none, .mv (.t 7)⟩, ⟨(some 32), none, .bin 0 .sub (.t 31) (.c (.int .i64 1))⟩, ⟨(some 7), none, .mv (.t 32)⟩])))))))
 (.ops [⟨(some 13), none, .mv (.t 6)⟩, ⟨(some 14), none, .bin 0 .add (.t 13) (.c (.int .i64 1))⟩, ⟨(some 6), none, .mv (.t 14)⟩])))))⟩
theorem c202 : compF Go.Proofs.Tryd.prog 202 = some a202 := by kernel_rfl
def a212 : AFn := ⟨25, [.t 2], .seq (.ops [⟨(some 2), none, .mv (.c (.int .i64 0))⟩])
 (.seq (.seq (.ops [⟨(some 3), none, .mv (.t 0)⟩, ⟨(some 4), none, .bin 0 .geq (.t 3) (.c (.int .u64 4294967296))⟩])
 (.cond (.t 4) (.seq (.ops [⟨(some 5), none, .mv (.t 0)⟩, ⟨(some 6), none, .bin 0 .shr (.t 5) (.c (.int .u64 32))⟩, ⟨(some 0), none, .mv (.t 6)⟩])
 (.ops [⟨(some 2), none, .mv (.c (.int .i64 32))⟩])) (.skip)))
 (.seq (.seq (.ops [⟨(some 7), none, .mv (.t 0)⟩, ⟨(some 8), none, .bin 0 .geq (.t 7) (.c (.int .u64 65536))⟩])
 (.cond (.t 8) (.seq (.ops [⟨(some 9), none, .mv (.t 0)⟩, ⟨(some 10), none, .bin 0 .shr (.t 9) (.c (.int .u64 16))⟩, ⟨(some 0), none, .mv (.t 10)⟩])
 (.ops [⟨(some 11), none, .mv (.t 2)⟩, ⟨(some 12), none, .bin 0 .add (.t 11) (.c (.int .i64 16))⟩, ⟨(some 2), none, .mv (.t 12)⟩])) (.skip)))
 (.seq (.seq (.ops [⟨(some 13), none, .mv (.t 0)⟩, ⟨(some 14), none, .bin 0 .geq (.t 13) (.c (.int .u64 256))⟩])
 (.cond (.t 14) (.seq (.ops [⟨(some 15), none, .mv (.t 0)⟩, ⟨(some 16), none, .bin 0 .shr (.t 15) (.c (.int .u64 8))⟩, ⟨(some 0), none, .mv (.t 16)⟩])
 (.ops [⟨(some 17), none, .mv (.t 2)⟩, ⟨(some 18), none, .bin 0 .add (.t 17) (.c (.int .i64 8))⟩, ⟨(some 2), none, .mv (.t 18)⟩])) (.skip)))
 (.seq (.ops [⟨(some 19), none, .mv (.t 2)⟩, ⟨(some 20), none, .mv (.t 0)⟩, ⟨(some 21), none, .conv .u8 (.t 20)⟩, ⟨(some 22), none, .idxs (.c (.str [0, 1, 2, 2, 3, 3, 3, 3, 4, 4, 4, 4, 4, 4, 4, 4, 5, 5, 5, 5, 5, 5, 5, 5, 5, 5, 5, 5, 5, 5, 5, 5, 6, 6, 6, 6, 6, 6, 6, 6, 6, 6, 6, 6, 6, 6, 6, 6, 6, 6, 6, 6, 6, 6, 6, 6, 6, 6, 6, 6, 6, 6, 6, 6, 7, 7, 7, 7, 7, 7, 7, 7, 7, 7, 7, 7, 7, 7, 7, 7, 7, 7, 7, 7, 7, 7, 7, 7, 7, 7, 7, 7, 7, 7, 7, 7, 7, 7, 7, 7, 7, 7, 7, 7, 7, 7, 7, 7, 7, 7, 7, 7, 7, 7, 7, 7, 7, 7, 7, 7, 7, 7, 7, 7, 7, 7, 7, 7, 8, 8, 8, 8, 8, 8, 8, 8, 8, 8, 8, 8, 8, 8, 8, 8, 8, 8, 8, 8, 8, 8, 8, 8, 8, 8, 8, 8, 8, 8, 8, 8, 8, 8, 8, 8, 8, 8, 8, 8, 8, 8, 8, 8, 8, 8, 8, 8, 8, 8, 8, 8, 8, 8, 8, 8, 8, 8, 8, 8, 8, 8, 8, 8, 8, 8, 8, 8, 8, 8, 8, 8, 8, 8, 8, 8, 8, 8, 8, 8, 8, 8, 8, 8, 8, 8, 8, 8, 8, 8, 8, 8, 8, 8, 8, 8, 8, 8, 8, 8, 8, 8, 8, 8, 8, 8, 8, 8, 8, 8, 8, 8, 8, 8, 8, 8, 8, 8, 8, 8, 8, 8, 8, 8, 8, 8, 8, 8])) (.t 21)⟩, ⟨(some 23), none, .conv .i64 (.t 22)⟩, ⟨(some 24), none, .bin 0 .add (.t 19) (.t 23)⟩, ⟨(some 2), none, .mv (.t 24)⟩])
 (.ret)))))⟩
theorem c212 : compF Go.Proofs.Tryd.prog 212 = some a212 := by kernel_rfl
def a213 : AFn := ⟨9, [.t 4], .seq (.ops [⟨(some 4), none, .mv (.c (.bool false))⟩])
 (.seq (.ops [⟨(some 5), none, .mv (.t 0)⟩, ⟨(some 6), none, .mv (.t 1)⟩, ⟨(some 7), none, .call 238 [(.t 5), (.t 6)]⟩, ⟨(some 8), none, .bin 0 .geq (.t 7) (.c (.int .i64 0))⟩, ⟨(some 4), none, .mv (.t 8)⟩])
 (.ret))⟩
theorem c213 : compF Go.Proofs.Tryd.prog 213 = some a213 := by kernel_rfl
def a214 : AFn := ⟨6, [.t 2], .seq (.ops [⟨(some 2), none, .mv (.c (.bool false))⟩])
 (.seq (.ops [⟨(some 3), none, .mv (.t 0)⟩, ⟨(some 4), none, .call 215 [(.t 3)]⟩, ⟨(some 5), none, .un .not (.t 4)⟩, ⟨(some 2), none, .mv (.t 5)⟩])
 (.ret))⟩
theorem c214 : compF Go.Proofs.Tryd.prog 214 = some a214 := by kernel_rfl
def a215 : AFn := ⟨17, [.t 2], .seq (.ops [⟨(some 2), none, .mv (.c (.bool false))⟩])
 (.seq (.ops [⟨(some 3), none, .mv (.t 0)⟩, ⟨(some 4), none, .call 172 [(.t 3)]⟩, ⟨(some 5), none, .mv (.t 4)⟩, ⟨(some 6), (some (5, false)), .mv (.t 0)⟩, ⟨(some 7), (some (5, false)), .bin 0 .eql (.t 6) (.c (.int .u8 46))⟩, ⟨(some 8), none, .pick (.t 5) (.c (.bool true)) (.t 7)⟩, ⟨(some 9), none, .mv (.t 8)⟩, ⟨(some 10), (some (9, false)), .mv (.t 0)⟩, ⟨(some 11), (some (9, false)), .bin 0 .eql (.t 10) (.c (.int .u8 63))⟩, ⟨(some 12), none, .pick (.t 9) (.c (.bool true)) (.t 11)⟩, ⟨(some 13), none, .mv (.t 12)⟩, ⟨(some 14), (some (13, false)), .mv (.t 0)⟩, ⟨(some 15), (some (13, false)), .bin 0 .eql (.t 14) (.c (.int .u8 42))⟩, ⟨(some 16), none, .pick (.t 13) (.c (.bool true)) (.t 15)⟩, ⟨(some 2), none, .mv (.t 16)⟩])
 (.ret))⟩
theorem c215 : compF Go.Proofs.Tryd.prog 215 = some a215 := by kernel_rfl
def a216 : AFn := ⟨8, [.t 4], .seq (.ops [⟨(some 4), none, .mv (.c (.int .i64 0))⟩])
 (.seq (.ops [⟨(some 5), none, .mv (.t 0)⟩, ⟨(some 6), none, .mv (.t 1)⟩, ⟨(some 7), none, .call 239 [(.t 5), (.t 6)]⟩, ⟨(some 4), none, .mv (.t 7)⟩])
 (.ret))⟩
theorem c216 : compF Go.Proofs.Tryd.prog 216 = some a216 := by kernel_rfl
def a238 : AFn := ⟨19, [.t 4], .seq (.ops [⟨(some 4), none, .mv (.c (.int .i64 0))⟩])
 (.seq (.seq (.ops [⟨(some 6), none, .mv (.t 0)⟩, ⟨(some 7), none, .len false (.t 6)⟩, ⟨(some 8), none, .mv (.c (.int .i64 0))⟩])
 (.block 0 (.loop (.seq (.ops [⟨(some 9), none, .bin 0 .lss (.t 8) (.t 7)⟩])
 (.seq (.cond (.t 9) (.skip) (.exit 0))
 (.seq (.block 1 (.seq (.ops [⟨(some 10), none, .mv (.t 8)⟩, ⟨(some 5), none, .mv (.t 10)⟩])
 (.seq (.ops [⟨(some 11), none, .mv (.t 1)⟩, ⟨(some 12), none, .mv (.t 0)⟩, ⟨(some 13), none, .mv (.t 5)⟩, ⟨(some 14), none, .iadr 1 (.t 12) (.t 13)⟩, ⟨(some 15), none, .load none (.t 14)⟩, ⟨(some 16), none, .callv (.t 11) [(.t 15)]⟩])
 (.cond (.t 16) (.seq (.ops [⟨(some 17), none, .mv (.t 5)⟩, ⟨(some 4), none, .mv (.t 17)⟩])
 (.ret)) (.skip)))))
 (.ops [⟨(some 18), none, .bin 0 .add (.t 8) (.c (.int .i64 1))⟩, ⟨(some 8), none, .mv (.t 18)⟩])))))))
 (.seq (.ops [⟨(some 4), none, .mv (.c (.int .i64 (-1)))⟩])
 (.ret)))⟩
theorem c238 : compF Go.Proofs.Tryd.prog 238 = some a238 := by kernel_rfl
def a239 : AFn := ⟨8, [.t 4], .seq (.ops [⟨(some 4), none, .mv (.c (.int .i64 0))⟩])
 (.seq (.ops [⟨(some 5), none, .mv (.t 0)⟩, ⟨(some 6), none, .mv (.t 1)⟩, ⟨(some 7), none, .call 253 [(.t 5), (.t 6)]⟩, ⟨(some 4), none, .mv (.t 7)⟩])
 (.ret))⟩
theorem c239 : compF Go.Proofs.Tryd.prog 239 = some a239 := by kernel_rfl
end Go.Proofs.YthcldfmlfjomfaaDoor
namespace Go.Proofs.YthcldfmlfjomfaaDoor
open Go.RowKit
theorem below_c (x n : Int) (nid : Nat) (hn : n ≤ 9223372036854775807) : ACall Tryd.prog 137 [.int .i64 x, .int .i64 n] [] nid (.int .i64 (below x n)) [] := by
  refine acall_run c137 (by simp [a137]) ?_
  simp -dsimp only [a137, aqT, aqU, aqN, ↓seqK, ↓blkK, ↓loopK, step, stepBin, Nat.reduceBEq, Nat.reduceBeqDiff, Nat.add_assoc nid, Nat.reduceAdd, reduceCtorEq, ↓reduceIte, Nat.reduceLeDiff, Nat.reduceBneDiff, Option.toList, ← Int.ofNat_tmod, ← Int.ofNat_tdiv, Nat.reduceLT]
  refine S2.dec (fun h => ?_) (fun h => ?_)
  · simp -dsimp only [aqT, aqU, aqN, ↓seqK, ↓blkK, ↓loopK, step, stepBin, Nat.reduceBEq, Nat.reduceBeqDiff, Nat.add_assoc nid, Nat.reduceAdd, reduceCtorEq, ↓reduceIte, Nat.reduceLeDiff, Nat.reduceBneDiff, Option.toList, ← Int.ofNat_tmod, ← Int.ofNat_tdiv, Nat.reduceLT]
    refine RetOK.pure (.inl rfl) rfl ?_
    simp [retPV, PVCov, getS, below, h]
  simp -dsimp only [aqT, aqU, aqN, ↓seqK, ↓blkK, ↓loopK, step, stepBin, Nat.reduceBEq, Nat.reduceBeqDiff, Nat.add_assoc nid, Nat.reduceAdd, reduceCtorEq, ↓reduceIte, Nat.reduceLeDiff, Nat.reduceBneDiff, Option.toList, ← Int.ofNat_tmod, ← Int.ofNat_tdiv, Nat.reduceLT]
  refine ⟨by omega, S2.dec (fun h2 => ?_) (fun h2 => ?_)⟩
  · simp -dsimp only [aqT, aqU, aqN, ↓seqK, ↓blkK, ↓loopK, step, stepBin, Nat.reduceBEq, Nat.reduceBeqDiff, Nat.add_assoc nid, Nat.reduceAdd, reduceCtorEq, ↓reduceIte, Nat.reduceLeDiff, Nat.reduceBneDiff, Option.toList, ← Int.ofNat_tmod, ← Int.ofNat_tdiv, Nat.reduceLT]
    have := Int.lt_tmod_of_pos x (show 0 < n by omega)
    refine ⟨by unfold inI64; omega, RetOK.pure (.inl rfl) rfl ?_⟩
    have h3 : x.tmod n + n = x % n := by rw [Int.tmod_eq_emod]; split <;> rw [Int.tmod_eq_emod] at h2 <;> rename_i h6 <;> simp only [h6, if_true, if_false, not_false_eq_true] at h2 <;> have := Int.emod_nonneg x (show n ≠ 0 by omega) <;> omega
    simp [cvT, step, res, below, h, h3]
  · simp -dsimp only [aqT, aqU, aqN, ↓seqK, ↓blkK, ↓loopK, step, stepBin, Nat.reduceBEq, Nat.reduceBeqDiff, Nat.add_assoc nid, Nat.reduceAdd, reduceCtorEq, ↓reduceIte, Nat.reduceLeDiff, Nat.reduceBneDiff, Option.toList, ← Int.ofNat_tmod, ← Int.ofNat_tdiv, Nat.reduceLT]
    refine RetOK.pure (.inl rfl) rfl ?_
    have h3 : x.tmod n = x % n := by rw [Int.tmod_eq_emod]; split <;> rw [Int.tmod_eq_emod] at h2 <;> rename_i h6 <;> simp only [h6, if_true, if_false, not_false_eq_true] at h2 <;> have := Int.emod_lt_of_pos x (show 0 < n by omega) <;> omega
    simp [cvT, step, res, below, h, h3]
def strmC (nl : Bool) (A : List Int) (p : Nat) : Option ABlk := some (.box 25 [.lit nl A.length [.i .i64 fun i => A.getD i 0], .int .i64 p])
theorem strmC_low (n : Nat) (nl : Bool) (A : List Int) (p : Nat) : lowBlk n (strmC nl A p) = true := rfl
theorem next_c (s nid : Nat) (nl : Bool) (A : List Int) (p : Nat) (n : Int) (h : s < nid) (hp : p ≤ 1099511627775) (hA : A.length ≤ 17592186044416) (hn : n ≤ 9223372036854775807) :
    ACall Tryd.prog 85 [.ptr s 0, .int .i64 n] [(s, strmC nl A p)] nid (.int .i64 (nextV A p n)) [(s, strmC nl A (p + 1))] := by
  obtain ⟨e1, e2, e3, e4, e5, e6, e7, e8, e9⟩ := id_all h
  refine acall_run c85 (by simp [a85]) ?_
  simp -dsimp only [a85, strmC, aqT, aqU, aqN, ↓seqK, ↓blkK, ↓loopK, step, stepBin, Nat.reduceBEq, Nat.reduceBeqDiff, Nat.add_assoc nid, Nat.reduceAdd, reduceCtorEq, ↓reduceIte, Nat.reduceLeDiff, Nat.reduceBneDiff, Option.toList, ← Int.ofNat_tmod, ← Int.ofNat_tdiv, Nat.reduceLT, e1, e2, e3, e4, e5, e6, e7, e8, e9]
  refine ⟨by unfold inI64; omega, S2.intro (fun h2 => ?_) (fun h2 => ?_)⟩
  · simp -dsimp only [aqT, aqU, aqN, ↓seqK, ↓blkK, ↓loopK, step, stepBin, Nat.reduceBEq, Nat.reduceBeqDiff, Nat.add_assoc nid, Nat.reduceAdd, reduceCtorEq, ↓reduceIte, Nat.reduceLeDiff, Nat.reduceBneDiff, Option.toList, ← Int.ofNat_tmod, ← Int.ofNat_tdiv, Nat.reduceLT, e1, e2, e3, e4, e5, e6, e7, e8, e9]
    refine ⟨by unfold inI64; omega, CallO.pure (below_c _ _ _ hn) ?_⟩
    simp -dsimp only [aqT, aqU, aqN, ↓seqK, ↓blkK, ↓loopK, step, stepBin, Nat.reduceBEq, Nat.reduceBeqDiff, Nat.add_assoc nid, Nat.reduceAdd, reduceCtorEq, ↓reduceIte, Nat.reduceLeDiff, Nat.reduceBneDiff, Option.toList, ← Int.ofNat_tmod, ← Int.ofNat_tdiv, Nat.reduceLT, e1, e2, e3, e4, e5, e6, e7, e8, e9]
    have h3 : A.length = 0 := by simpa using h2
    refine RetOK.same (.inl rfl) rfl (by simp [strmC, liveIds]; omega) ?_ ?_
    · simp [cvT, step, res, strmC]
    · simp [cvT, step, res, nextV, h3]
  · simp -dsimp only [aqT, aqU, aqN, ↓seqK, ↓blkK, ↓loopK, step, stepBin, Nat.reduceBEq, Nat.reduceBeqDiff, Nat.add_assoc nid, Nat.reduceAdd, reduceCtorEq, ↓reduceIte, Nat.reduceLeDiff, Nat.reduceBneDiff, Option.toList, ← Int.ofNat_tmod, ← Int.ofNat_tdiv, Nat.reduceLT, e1, e2, e3, e4, e5, e6, e7, e8, e9]
    have h3 : 0 < A.length := by have : ¬ A.length = 0 := by simpa using h2
                                 omega
    have h4 : ∀ z : Nat, z ≤ 1099511627776 → IntKind.i64.wrap (z : Int) = z := fun z hz => IntWalk.i64_in _ (by omega)
    have h5 : p / A.length ≤ p := Nat.div_le_self _ _
    have h6 : p % A.length < A.length := Nat.mod_lt _ h3
    have h11 := h4 _ (show p / A.length ≤ 1099511627776 by omega)
    refine ⟨by unfold inI64; omega, by omega, by unfold inI64; omega, by omega, by omega, CallO.pure (below_c _ _ _ (by omega)) ?_⟩
    simp -dsimp only [aqT, aqU, aqN, ↓seqK, ↓blkK, ↓loopK, step, stepBin, Nat.reduceBEq, Nat.reduceBeqDiff, Nat.add_assoc nid, Nat.reduceAdd, reduceCtorEq, ↓reduceIte, Nat.reduceLeDiff, Nat.reduceBneDiff, Option.toList, ← Int.ofNat_tmod, ← Int.ofNat_tdiv, Nat.reduceLT, h11, e1, e2, e3, e4, e5, e6, e7, e8, e9]
    have h7 := round_bd p A.length h3 (by omega)
    have h8 := below_bd (A.getD (p % A.length) 0) (n := 1073741824) (by omega)
    rw [← Int.natCast_emod, ← Int.natCast_ediv] at h7
    generalize h9 : ((p / A.length : Nat) : Int) * (7919 + ((p % A.length : Nat) : Int)) = z at h7 ⊢
    refine ⟨by unfold inI64; omega, by unfold inI64; omega, by unfold inI64; omega, CallO.pure (below_c _ _ _ hn) ?_⟩
    simp -dsimp only [aqT, aqU, aqN, ↓seqK, ↓blkK, ↓loopK, step, stepBin, Nat.reduceBEq, Nat.reduceBeqDiff, Nat.add_assoc nid, Nat.reduceAdd, reduceCtorEq, ↓reduceIte, Nat.reduceLeDiff, Nat.reduceBneDiff, Option.toList, ← Int.ofNat_tmod, ← Int.ofNat_tdiv, Nat.reduceLT, e1, e2, e3, e4, e5, e6, e7, e8, e9]
    refine RetOK.same (.inl rfl) rfl (by simp [strmC, liveIds]; omega) ?_ ?_
    · simp [cvT, step, res, strmC]
    · have h10 : A.length ≠ 0 := by omega
      simp [cvT, step, res, nextV, h10, ← h9]
theorem range_c (s nid : Nat) (nl : Bool) (A : List Int) (p : Nat) (lo hi : Int) (h : s < nid) (hp : p ≤ 1099511627775) (hA : A.length ≤ 17592186044416) (h1 : lo ≤ hi) (hl : -1099511627776 ≤ lo) (hh : hi ≤ 1099511627776) :
    ACall Tryd.prog 37 [.ptr s 0, .int .i64 lo, .int .i64 hi] [(s, strmC nl A p)] nid (.int .i64 (rangeV A p lo hi)) [(s, strmC nl A (p + 1))] := by
  obtain ⟨e1, e2, e3, e4, e5, e6, e7, e8, e9⟩ := id_all h
  refine acall_run c37 (by simp [a37]) ?_
  simp -dsimp only [a37, aqT, aqU, aqN, ↓seqK, ↓blkK, ↓loopK, step, stepBin, Nat.reduceBEq, Nat.reduceBeqDiff, Nat.add_assoc nid, Nat.reduceAdd, reduceCtorEq, ↓reduceIte, Nat.reduceLeDiff, Nat.reduceBneDiff, Option.toList, ← Int.ofNat_tmod, ← Int.ofNat_tdiv, Nat.reduceLT, e1, e2, e3, e4, e5, e6, e7, e8, e9]
  refine S2.dec (fun h => absurd h (by omega)) (fun h => ?_)
  simp -dsimp only [aqT, aqU, aqN, ↓seqK, ↓blkK, ↓loopK, step, stepBin, Nat.reduceBEq, Nat.reduceBeqDiff, Nat.add_assoc nid, Nat.reduceAdd, reduceCtorEq, ↓reduceIte, Nat.reduceLeDiff, Nat.reduceBneDiff, Option.toList, ← Int.ofNat_tmod, ← Int.ofNat_tdiv, Nat.reduceLT, e1, e2, e3, e4, e5, e6, e7, e8, e9]
  refine ⟨by unfold inI64; omega, by unfold inI64; omega, CallO.on (next_c _ _ _ _ _ _ (by omega) hp hA (by omega)) (subH_hit _ _ _) ?_⟩
  simp -dsimp only [aqT, aqU, aqN, ↓seqK, ↓blkK, ↓loopK, step, stepBin, Nat.reduceBEq, Nat.reduceBeqDiff, Nat.add_assoc nid, Nat.reduceAdd, reduceCtorEq, ↓reduceIte, Nat.reduceLeDiff, Nat.reduceBneDiff, Option.toList, ← Int.ofNat_tmod, ← Int.ofNat_tdiv, Nat.reduceLT, e1, e2, e3, e4, e5, e6, e7, e8, e9]
  have := nextV_bd A p (n := hi - lo + 1) (by omega)
  refine ⟨by unfold inI64; omega, RetOK.same (.inl rfl) rfl (by simp [strmC, liveIds]; omega) ?_ ?_⟩
  · simp [cvT, step, res, strmC]
  · simp [cvT, step, res, rangeV]
theorem flip_c (s nid : Nat) (nl : Bool) (A : List Int) (p : Nat) (n : Int) (h : s < nid) (hp : p ≤ 1099511627775) (hA : A.length ≤ 17592186044416) (hn : n ≤ 9223372036854775807) :
    ACall Tryd.prog 43 [.ptr s 0, .int .i64 n] [(s, strmC nl A p)] nid (.bool (flipV A p n)) [(s, strmC nl A (p + 1))] := by
  obtain ⟨e1, e2, e3, e4, e5, e6, e7, e8, e9⟩ := id_all h
  refine acall_run c43 (by simp [a43]) ?_
  simp -dsimp only [a43, aqT, aqU, aqN, ↓seqK, ↓blkK, ↓loopK, step, stepBin, Nat.reduceBEq, Nat.reduceBeqDiff, Nat.add_assoc nid, Nat.reduceAdd, reduceCtorEq, ↓reduceIte, Nat.reduceLeDiff, Nat.reduceBneDiff, Option.toList, ← Int.ofNat_tmod, ← Int.ofNat_tdiv, Nat.reduceLT, e1, e2, e3, e4, e5, e6, e7, e8, e9]
  refine CallO.on (next_c _ _ _ _ _ _ (by omega) hp hA hn) (subH_hit _ _ _) ?_
  simp -dsimp only [aqT, aqU, aqN, ↓seqK, ↓blkK, ↓loopK, step, stepBin, Nat.reduceBEq, Nat.reduceBeqDiff, Nat.add_assoc nid, Nat.reduceAdd, reduceCtorEq, ↓reduceIte, Nat.reduceLeDiff, Nat.reduceBneDiff, Option.toList, ← Int.ofNat_tmod, ← Int.ofNat_tdiv, Nat.reduceLT, e1, e2, e3, e4, e5, e6, e7, e8, e9]
  refine RetOK.same (.inl rfl) rfl (by simp [strmC, liveIds]; omega) ?_ ?_
  · simp [cvT, step, res, strmC]
  · simp [cvT, step, res, flipV]
theorem pick_c (s nid : Nat) (nl nl' : Bool) (A : List Int) (p : Nat) (n : Nat) (g : Nat → Int) (h : s < nid) (hp : p ≤ 1099511627775) (hA : A.length ≤ 17592186044416) (h1 : 0 < n) (hn : n ≤ 1099511627776) :
    ACall Tryd.prog 58 [.ptr s 0, .lit nl' n [.i .i64 g]] [(s, strmC nl A p)] nid (.int .i64 (g (pickI A p n))) [(s, strmC nl A (p + 1))] := by
  obtain ⟨e1, e2, e3, e4, e5, e6, e7, e8, e9⟩ := id_all h
  refine acall_run c58 (by simp [a58]) ?_
  simp -dsimp only [a58, aqT, aqU, aqN, ↓seqK, ↓blkK, ↓loopK, step, stepBin, Nat.reduceBEq, Nat.reduceBeqDiff, Nat.add_assoc nid, Nat.reduceAdd, reduceCtorEq, ↓reduceIte, Nat.reduceLeDiff, Nat.reduceBneDiff, Option.toList, ← Int.ofNat_tmod, ← Int.ofNat_tdiv, Nat.reduceLT, e1, e2, e3, e4, e5, e6, e7, e8, e9]
  refine CallO.on (next_c _ _ _ _ _ _ (by omega) hp hA (by omega)) (subH_hit _ _ _) ?_
  simp -dsimp only [aqT, aqU, aqN, ↓seqK, ↓blkK, ↓loopK, step, stepBin, Nat.reduceBEq, Nat.reduceBeqDiff, Nat.add_assoc nid, Nat.reduceAdd, reduceCtorEq, ↓reduceIte, Nat.reduceLeDiff, Nat.reduceBneDiff, Option.toList, ← Int.ofNat_tmod, ← Int.ofNat_tdiv, Nat.reduceLT, e1, e2, e3, e4, e5, e6, e7, e8, e9]
  have := nextV_bd A p (n := (n : Int)) (by omega)
  refine ⟨this, RetOK.same (.inl rfl) rfl (by simp [strmC, liveIds]; omega) ?_ ?_⟩
  · simp [cvT, step, res, strmC]
  · simp [cvT, step, res, pickI]
theorem CallX.pick_go {s id nid : Nat} {nl : Bool} {A : List Int} {p : Nat} {n T : Nat} {g : Nat → Int} {H : Heap} {K : PV → Heap → List Nat → Prop} (hs : getH H s = strmC nl A p) (hid : getH H id = some (.arr T n [.i .i64 g])) (hne : (s == id) = false) (h : s < nid) (hp : p ≤ 1099511627775) (hA : A.length ≤ 17592186044416) (h1 : 0 < n) (hn : n ≤ 1099511627776)
    (hK : K (.int .i64 (g (pickI A p n))) [(s, strmC nl A (p + 1)), (id, none)] [s, id]) : CallX Tryd.prog 58 [.ptr s 0, .sl id 0 n] H nid K := by
  refine CallX.given [id] (u := [(s, strmC nl A (p + 1))]) (fun nl' => ?_) (subH_get hs) (by simp [getH, hne]) hK
  have e : lends H [id] nl' [.ptr s 0, .sl id 0 n] = [.ptr s 0, .lit (nl' id) n [.i .i64 g]] := by simp [lends, lend, hid, noOs]
  rw [e]
  exact pick_c s _ nl _ A p n _ h hp hA h1 hn
theorem CallO.pick_go {s id nid : Nat} {nl : Bool} {A : List Int} {p : Nat} {n T : Nat} {g : Nat → Int} {H : Heap} {K : PV → Heap → Prop} (hs : getH H s = strmC nl A p) (hid : getH H id = some (.arr T n [.i .i64 g])) (hne : (s == id) = false) (h : s < nid) (hp : p ≤ 1099511627775) (hA : A.length ≤ 17592186044416) (h1 : 0 < n) (hn : n ≤ 1099511627776)
    (hK : K (.int .i64 (g (pickI A p n))) [(s, strmC nl A (p + 1)), (id, none)]) : CallOK Tryd.prog 58 [.ptr s 0, .sl id 0 n] H nid K :=
  CallO.x (CallX.pick_go hs hid hne h hp hA h1 hn hK)
end Go.Proofs.YthcldfmlfjomfaaDoor
namespace Go.Proofs.YthcldfmlfjomfaaDoor
open Go.RowKit
def arrI (l : List Int) : Option ABlk := some (.arr 3 l.length [.i .i64 fun i => l.getD i 0])
def litI (nl : Bool) (l : List Int) : PV := .lit nl l.length [.i .i64 fun i => l.getD i 0]
theorem out_c (x lo hi : Int) (nid : Nat) : ACall Tryd.prog 91 [.int .i64 x, .int .i64 lo, .int .i64 hi] [] nid (.bool (outB x lo hi)) [] := by
  refine acall_run c91 (by simp [a91]) ?_
  simp -dsimp only [a91, aqT, aqU, aqN, ↓seqK, ↓blkK, ↓loopK, step, stepBin, Nat.reduceBEq, Nat.reduceBeqDiff, Nat.add_assoc nid, Nat.reduceAdd, reduceCtorEq, ↓reduceIte, Nat.reduceLeDiff, Nat.reduceBneDiff, Option.toList, ← Int.ofNat_tmod, ← Int.ofNat_tdiv, Nat.reduceLT]
  refine S2.dec (fun h => ?_) (fun h => ?_) <;> simp -dsimp only [aqT, aqU, aqN, ↓seqK, ↓blkK, ↓loopK, step, stepBin, Nat.reduceBEq, Nat.reduceBeqDiff, Nat.add_assoc nid, Nat.reduceAdd, reduceCtorEq, ↓reduceIte, Nat.reduceLeDiff, Nat.reduceBneDiff, Option.toList, ← Int.ofNat_tmod, ← Int.ofNat_tdiv, Nat.reduceLT] <;> refine RetOK.pure (.inl rfl) rfl ?_ <;> simp [cvT, step, res, outB] <;> omega
theorem in_c (x lo hi : Int) (nid : Nat) : ACall Tryd.prog 89 [.int .i64 x, .int .i64 lo, .int .i64 hi] [] nid (.bool (!outB x lo hi)) [] := by
  refine acall_run c89 (by simp [a89]) ?_
  simp -dsimp only [a89, aqT, aqU, aqN, ↓seqK, ↓blkK, ↓loopK, step, stepBin, Nat.reduceBEq, Nat.reduceBeqDiff, Nat.add_assoc nid, Nat.reduceAdd, reduceCtorEq, ↓reduceIte, Nat.reduceLeDiff, Nat.reduceBneDiff, Option.toList, ← Int.ofNat_tmod, ← Int.ofNat_tdiv, Nat.reduceLT]
  refine S2.dec (fun h => ?_) (fun h => ?_) <;> simp -dsimp only [aqT, aqU, aqN, ↓seqK, ↓blkK, ↓loopK, step, stepBin, Nat.reduceBEq, Nat.reduceBeqDiff, Nat.add_assoc nid, Nat.reduceAdd, reduceCtorEq, ↓reduceIte, Nat.reduceLeDiff, Nat.reduceBneDiff, Option.toList, ← Int.ofNat_tmod, ← Int.ofNat_tdiv, Nat.reduceLT] <;> refine RetOK.pure (.inl rfl) rfl ?_ <;> simp [cvT, step, res, outB] <;> first | omega | (rw [Bool.eq_iff_iff]; simp; omega)
end Go.Proofs.YthcldfmlfjomfaaDoor
namespace Go.Proofs.YthcldfmlfjomfaaDoor
open Go.RowKit
theorem oddI_c (s nid : Nat) (nl : Bool) (A : List Int) (p : Nat) (lo hi : Int) (h : s < nid) (hp : p ≤ 1099511627000) (hA : A.length ≤ 17592186044416) (h1 : lo ≤ hi) (hl : -1000000 ≤ lo) (hh : hi ≤ 1000000) :
    ∃ x : Int, (-1099511627776 ≤ x ∧ x ≤ 1099511627776) ∧ ACall Tryd.prog 57 [.ptr s 0, .int .i64 lo, .int .i64 hi] [(s, strmC nl A p)] nid (.int .i64 x) [(s, strmC nl A (p + 2))] := by
  obtain ⟨e1, e2, e3, e4, e5, e6, e7, e8, e9⟩ := id_all h
  refine acall_ex c57 (by simp [a57]) ?_
  simp -dsimp only [aqT0, ROp0, aqT, aqU, aqN, ↓seqK, ↓blkK, ↓loopK, step, stepBin, Nat.reduceBEq, Nat.reduceBeqDiff, Nat.add_assoc nid, Nat.reduceAdd, reduceCtorEq, ↓reduceIte, Nat.reduceLeDiff, Nat.reduceBneDiff, Option.toList, ← Int.ofNat_tmod, ← Int.ofNat_tdiv, Nat.reduceLT, Int.cast_ofNat_Int, Int.reduceBEq, Int.reduceBNe, Int.reduceLT, Int.reduceLE, Int.reduceAdd, Int.reduceSub, Int.reduceMul, Int.reduceToNat, Int.reduceNeg, Int.reduceTMod, Int.reduceEq, not_false_eq_true, Int.reducePow, Int.reduceFDiv, Nat.reducePow, Nat.reduceSub, Nat.reduceMul, Nat.min_eq_left, Nat.reduceEqDiff, BEq.rfl, Int.tdiv_one, LN_succ, e1, e2, e3, e4, e5, e6, e7, e8, e9, a57, strmC_low]
  refine CallX.on (flip_c s _ nl A p _ (by omega) (by omega) hA (by omega)) (subH_get (by simp only [aqT, aqU, aqN, ↓seqK, ↓blkK, ↓loopK, step, stepBin, Nat.reduceBEq, Nat.reduceBeqDiff, Nat.add_assoc nid, Nat.reduceAdd, reduceCtorEq, ↓reduceIte, Nat.reduceLeDiff, Nat.reduceBneDiff, Option.toList, ← Int.ofNat_tmod, ← Int.ofNat_tdiv, Nat.reduceLT, e1, e2, e3, e4, e5, e6, e7, e8, e9])) ?_
  simp -dsimp only [aqT0, ROp0, aqT, aqU, aqN, ↓seqK, ↓blkK, ↓loopK, step, stepBin, Nat.reduceBEq, Nat.reduceBeqDiff, Nat.add_assoc nid, Nat.reduceAdd, reduceCtorEq, ↓reduceIte, Nat.reduceLeDiff, Nat.reduceBneDiff, Option.toList, ← Int.ofNat_tmod, ← Int.ofNat_tdiv, Nat.reduceLT, Int.cast_ofNat_Int, Int.reduceBEq, Int.reduceBNe, Int.reduceLT, Int.reduceLE, Int.reduceAdd, Int.reduceSub, Int.reduceMul, Int.reduceToNat, Int.reduceNeg, Int.reduceTMod, Int.reduceEq, not_false_eq_true, Int.reducePow, Int.reduceFDiv, Nat.reducePow, Nat.reduceSub, Nat.reduceMul, Nat.min_eq_left, Nat.reduceEqDiff, BEq.rfl, Int.tdiv_one, LN_succ, e1, e2, e3, e4, e5, e6, e7, e8, e9, strmC_low]
  refine S2.intro (fun h2 => ?_) (fun h2 => ?_) <;> simp -dsimp only [aqT0, ROp0, aqT, aqU, aqN, ↓seqK, ↓blkK, ↓loopK, step, stepBin, Nat.reduceBEq, Nat.reduceBeqDiff, Nat.add_assoc nid, Nat.reduceAdd, reduceCtorEq, ↓reduceIte, Nat.reduceLeDiff, Nat.reduceBneDiff, Option.toList, ← Int.ofNat_tmod, ← Int.ofNat_tdiv, Nat.reduceLT, Int.cast_ofNat_Int, Int.reduceBEq, Int.reduceBNe, Int.reduceLT, Int.reduceLE, Int.reduceAdd, Int.reduceSub, Int.reduceMul, Int.reduceToNat, Int.reduceNeg, Int.reduceTMod, Int.reduceEq, not_false_eq_true, Int.reducePow, Int.reduceFDiv, Nat.reducePow, Nat.reduceSub, Nat.reduceMul, Nat.min_eq_left, Nat.reduceEqDiff, BEq.rfl, Int.tdiv_one, LN_succ, e1, e2, e3, e4, e5, e6, e7, e8, e9, strmC_low]
  · refine ⟨by unfold inI64; omega, by unfold inI64; omega, CallX.pick_go (T := 3) (nl := nl) (A := A) (p := p + 1) (g := fun i => [lo - 1, hi + 1, lo, hi, -1099511627776, 1099511627776].getD i 0) (by simp only [aqT, aqU, aqN, ↓seqK, ↓blkK, ↓loopK, step, stepBin, Nat.reduceBEq, Nat.reduceBeqDiff, Nat.add_assoc nid, Nat.reduceAdd, reduceCtorEq, ↓reduceIte, Nat.reduceLeDiff, Nat.reduceBneDiff, Option.toList, ← Int.ofNat_tmod, ← Int.ofNat_tdiv, Nat.reduceLT, e1, e2, e3, e4, e5, e6, e7, e8, e9]) (by simp only [aqT, aqU, aqN, ↓seqK, ↓blkK, ↓loopK, step, stepBin, Nat.reduceBEq, Nat.reduceBeqDiff, Nat.add_assoc nid, Nat.reduceAdd, reduceCtorEq, ↓reduceIte, Nat.reduceLeDiff, Nat.reduceBneDiff, Option.toList, ← Int.ofNat_tmod, ← Int.ofNat_tdiv, Nat.reduceLT, e1, e2, e3, e4, e5, e6, e7, e8, e9]) (by simp only [aqT, aqU, aqN, ↓seqK, ↓blkK, ↓loopK, step, stepBin, Nat.reduceBEq, Nat.reduceBeqDiff, Nat.add_assoc nid, Nat.reduceAdd, reduceCtorEq, ↓reduceIte, Nat.reduceLeDiff, Nat.reduceBneDiff, Option.toList, ← Int.ofNat_tmod, ← Int.ofNat_tdiv, Nat.reduceLT, e1, e2, e3, e4, e5, e6, e7, e8, e9]) (by omega) (by omega) hA (by omega) (by omega) ?_⟩
    simp -dsimp only [aqT0, ROp0, aqT, aqU, aqN, ↓seqK, ↓blkK, ↓loopK, step, stepBin, Nat.reduceBEq, Nat.reduceBeqDiff, Nat.add_assoc nid, Nat.reduceAdd, reduceCtorEq, ↓reduceIte, Nat.reduceLeDiff, Nat.reduceBneDiff, Option.toList, ← Int.ofNat_tmod, ← Int.ofNat_tdiv, Nat.reduceLT, Int.cast_ofNat_Int, Int.reduceBEq, Int.reduceBNe, Int.reduceLT, Int.reduceLE, Int.reduceAdd, Int.reduceSub, Int.reduceMul, Int.reduceToNat, Int.reduceNeg, Int.reduceTMod, Int.reduceEq, not_false_eq_true, Int.reducePow, Int.reduceFDiv, Nat.reducePow, Nat.reduceSub, Nat.reduceMul, Nat.min_eq_left, Nat.reduceEqDiff, BEq.rfl, Int.tdiv_one, LN_succ, e1, e2, e3, e4, e5, e6, e7, e8, e9, strmC_low]
    have hb := pickV_bd A (p + 1) (l := [lo - 1, hi + 1, lo, hi, -1099511627776, 1099511627776]) (lo := -1099511627776) (hi := 1099511627776) (by simp) (by simp; omega)
    refine EndOK.mk _ hb ?_
    refine RetOK.go [] [] (.inl rfl) ?_
    simp [a57, cvT, step, res, e1, e2, e3, e4, e5, e6, e7, e8, e9, strmC, pickV]
    omega
  · refine CallX.on (range_c s _ nl A (p + 1) _ _ (by omega) (by omega) hA h1 (by omega) (by omega)) (subH_get (by simp only [aqT, aqU, aqN, ↓seqK, ↓blkK, ↓loopK, step, stepBin, Nat.reduceBEq, Nat.reduceBeqDiff, Nat.add_assoc nid, Nat.reduceAdd, reduceCtorEq, ↓reduceIte, Nat.reduceLeDiff, Nat.reduceBneDiff, Option.toList, ← Int.ofNat_tmod, ← Int.ofNat_tdiv, Nat.reduceLT, e1, e2, e3, e4, e5, e6, e7, e8, e9])) ?_
    simp -dsimp only [aqT0, ROp0, aqT, aqU, aqN, ↓seqK, ↓blkK, ↓loopK, step, stepBin, Nat.reduceBEq, Nat.reduceBeqDiff, Nat.add_assoc nid, Nat.reduceAdd, reduceCtorEq, ↓reduceIte, Nat.reduceLeDiff, Nat.reduceBneDiff, Option.toList, ← Int.ofNat_tmod, ← Int.ofNat_tdiv, Nat.reduceLT, Int.cast_ofNat_Int, Int.reduceBEq, Int.reduceBNe, Int.reduceLT, Int.reduceLE, Int.reduceAdd, Int.reduceSub, Int.reduceMul, Int.reduceToNat, Int.reduceNeg, Int.reduceTMod, Int.reduceEq, not_false_eq_true, Int.reducePow, Int.reduceFDiv, Nat.reducePow, Nat.reduceSub, Nat.reduceMul, Nat.min_eq_left, Nat.reduceEqDiff, BEq.rfl, Int.tdiv_one, LN_succ, e1, e2, e3, e4, e5, e6, e7, e8, e9, strmC_low]
    have hb := rangeV_bd A (p + 1) h1
    refine EndOK.mk (rangeV A (p + 1) lo hi) (by omega) ?_
    refine RetOK.go [] [] (.inl rfl) ?_
    simp [a57, cvT, step, res, e1, e2, e3, e4, e5, e6, e7, e8, e9, strmC]
    omega
theorem some_c (s nid : Nat) (nl nl' : Bool) (A : List Int) (p : Nat) (n : Nat) (g : Nat → List UInt8) (h : s < nid) (hp : p ≤ 1099511627775) (hA : A.length ≤ 17592186044416) (h1 : 0 < n) (hn : n ≤ 1099511627776) :
    ACall Tryd.prog 86 [.ptr s 0, .lit nl' n [.s g]] [(s, strmC nl A p)] nid (.str (g (pickI A p n))) [(s, strmC nl A (p + 1))] := by
  obtain ⟨e1, e2, e3, e4, e5, e6, e7, e8, e9⟩ := id_all h
  refine acall_run c86 (by simp [a86]) ?_
  simp -dsimp only [aqT, aqU, aqN, ↓seqK, ↓blkK, ↓loopK, step, stepBin, Nat.reduceBEq, Nat.reduceBeqDiff, Nat.add_assoc nid, Nat.reduceAdd, reduceCtorEq, ↓reduceIte, Nat.reduceLeDiff, Nat.reduceBneDiff, Option.toList, ← Int.ofNat_tmod, ← Int.ofNat_tdiv, Nat.reduceLT, e1, e2, e3, e4, e5, e6, e7, e8, e9, a86]
  refine CallO.on (next_c _ _ _ _ _ _ (by omega) hp hA (by omega)) (subH_hit _ _ _) ?_
  simp -dsimp only [aqT, aqU, aqN, ↓seqK, ↓blkK, ↓loopK, step, stepBin, Nat.reduceBEq, Nat.reduceBeqDiff, Nat.add_assoc nid, Nat.reduceAdd, reduceCtorEq, ↓reduceIte, Nat.reduceLeDiff, Nat.reduceBneDiff, Option.toList, ← Int.ofNat_tmod, ← Int.ofNat_tdiv, Nat.reduceLT, e1, e2, e3, e4, e5, e6, e7, e8, e9]
  have := nextV_bd A p (n := (n : Int)) (by omega)
  refine ⟨this, RetOK.same (.inl rfl) rfl (by simp [strmC, liveIds]; omega) ?_ ?_⟩
  · simp [cvT, step, res, strmC]
  · simp [cvT, step, res, pickI]
theorem CallX.some_go {s id nid : Nat} {nl : Bool} {A : List Int} {p : Nat} {n T : Nat} {g : Nat → List UInt8} {H : Heap} {K : PV → Heap → List Nat → Prop} (hs : getH H s = strmC nl A p) (hid : getH H id = some (.arr T n [.s g])) (hne : (s == id) = false) (h : s < nid) (hp : p ≤ 1099511627775) (hA : A.length ≤ 17592186044416) (h1 : 0 < n) (hn : n ≤ 1099511627776)
    (hK : K (.str (g (pickI A p n))) [(s, strmC nl A (p + 1)), (id, none)] [s, id]) : CallX Tryd.prog 86 [.ptr s 0, .sl id 0 n] H nid K := by
  refine CallX.given [id] (u := [(s, strmC nl A (p + 1))]) (fun nl' => ?_) (subH_get hs) (by simp [getH, hne]) hK
  have e : lends H [id] nl' [.ptr s 0, .sl id 0 n] = [.ptr s 0, .lit (nl' id) n [.s g]] := by simp [lends, lend, hid, noOs]
  rw [e]
  exact some_c s _ nl _ A p n _ h hp hA h1 hn
theorem CallO.some_go {s id nid : Nat} {nl : Bool} {A : List Int} {p : Nat} {n T : Nat} {g : Nat → List UInt8} {H : Heap} {K : PV → Heap → Prop} (hs : getH H s = strmC nl A p) (hid : getH H id = some (.arr T n [.s g])) (hne : (s == id) = false) (h : s < nid) (hp : p ≤ 1099511627775) (hA : A.length ≤ 17592186044416) (h1 : 0 < n) (hn : n ≤ 1099511627776)
    (hK : K (.str (g (pickI A p n))) [(s, strmC nl A (p + 1)), (id, none)]) : CallOK Tryd.prog 86 [.ptr s 0, .sl id 0 n] H nid K :=
  CallO.x (CallX.some_go hs hid hne h hp hA h1 hn hK)
theorem getD_all {α : Type} {P : α → Prop} {l : List α} {d : α} (h : ∀ x ∈ l, P x) {i : Nat} (hi : i < l.length) : P (l.getD i d) := by
  rw [List.getD_eq_getElem?_getD, List.getElem?_eq_getElem hi]
  exact h _ (List.getElem_mem _)
def bit01 (b : UInt8) : Bool := b == 48 || b == 49
theorem bitsX (s nid : Nat) (nl : Bool) (A : List Int) (p n : Nat) (h : s < nid) (hn : n ≤ 1000000) (hp : p ≤ 1099510000000) (hA : A.length ≤ 17592186044416) :
    ∃ t : List UInt8, (t.length = n ∧ t.all bit01 = true) ∧ ACall Tryd.prog 84 [.ptr s 0, .int .i64 n] [(s, strmC nl A p)] nid (.str t) [(s, strmC nl A (p + n))] := by
  obtain ⟨e1, e2, e3, e4, e5, e6, e7, e8, e9⟩ := id_all h
  refine acall_ex c84 (by simp [a84]) ?_
  simp -dsimp only [aqT0, ROp0, aqT, aqU, aqN, ↓seqK, ↓blkK, ↓loopK, step, stepBin, Nat.reduceBEq, Nat.reduceBeqDiff, Nat.add_assoc nid, Nat.reduceAdd, reduceCtorEq, ↓reduceIte, Nat.reduceLeDiff, Nat.reduceBneDiff, Option.toList, ← Int.ofNat_tmod, ← Int.ofNat_tdiv, Nat.reduceLT, Int.cast_ofNat_Int, Int.reduceBEq, Int.reduceBNe, Int.reduceLT, Int.reduceLE, Int.reduceAdd, Int.reduceSub, Int.reduceMul, Int.reduceToNat, Int.reduceNeg, Int.reduceTMod, Int.reduceEq, not_false_eq_true, Int.reducePow, Int.reduceFDiv, Nat.reducePow, Nat.reduceSub, Nat.reduceMul, Nat.min_eq_left, Nat.reduceEqDiff, BEq.rfl, Int.tdiv_one, LN_succ, e1, e2, e3, e4, e5, e6, e7, e8, e9, a84, strmC_low]
  refine LP0.mkP (fun x : List UInt8 => x.length ≤ n ∧ x.all bit01 = true) (fun x => ⟨[(7, .int .i64 x.length), (6, .int .i64 n), (5, .str x), (0, .ptr s 0)], [(s, strmC nl A (p + x.length))], nid + 100, nid⟩) (fun x => n - x.length) [] (by simp) (Cov.go [] [] ?_) (fun x hx => ?_)
  · simp [cvT, step, res, e1, e2, e3, e4, e5, e6, e7, e8, e9, strmC]
  obtain ⟨hx1, hx2⟩ := hx
  simp -dsimp only [aqT0, ROp0, aqT, aqU, aqN, ↓seqK, ↓blkK, ↓loopK, step, stepBin, Nat.reduceBEq, Nat.reduceBeqDiff, Nat.add_assoc nid, Nat.reduceAdd, reduceCtorEq, ↓reduceIte, Nat.reduceLeDiff, Nat.reduceBneDiff, Option.toList, ← Int.ofNat_tmod, ← Int.ofNat_tdiv, Nat.reduceLT, Int.cast_ofNat_Int, Int.reduceBEq, Int.reduceBNe, Int.reduceLT, Int.reduceLE, Int.reduceAdd, Int.reduceSub, Int.reduceMul, Int.reduceToNat, Int.reduceNeg, Int.reduceTMod, Int.reduceEq, not_false_eq_true, Int.reducePow, Int.reduceFDiv, Nat.reducePow, Nat.reduceSub, Nat.reduceMul, Nat.min_eq_left, Nat.reduceEqDiff, BEq.rfl, Int.tdiv_one, LN_succ, e1, e2, e3, e4, e5, e6, e7, e8, e9, strmC_low]
  refine S2.dec (fun h2 => ?_) (fun h2 => ?_) <;> simp -dsimp only [aqT0, ROp0, aqT, aqU, aqN, ↓seqK, ↓blkK, ↓loopK, step, stepBin, Nat.reduceBEq, Nat.reduceBeqDiff, Nat.add_assoc nid, Nat.reduceAdd, reduceCtorEq, ↓reduceIte, Nat.reduceLeDiff, Nat.reduceBneDiff, Option.toList, ← Int.ofNat_tmod, ← Int.ofNat_tdiv, Nat.reduceLT, Int.cast_ofNat_Int, Int.reduceBEq, Int.reduceBNe, Int.reduceLT, Int.reduceLE, Int.reduceAdd, Int.reduceSub, Int.reduceMul, Int.reduceToNat, Int.reduceNeg, Int.reduceTMod, Int.reduceEq, not_false_eq_true, Int.reducePow, Int.reduceFDiv, Nat.reducePow, Nat.reduceSub, Nat.reduceMul, Nat.min_eq_left, Nat.reduceEqDiff, BEq.rfl, Int.tdiv_one, LN_succ, e1, e2, e3, e4, e5, e6, e7, e8, e9, strmC_low]
  · refine CallX.some_go (T := 9) (nl := nl) (A := A) (p := p + x.length) (g := fun i => [[48], [49]].getD i []) (by simp only [aqT, aqU, aqN, ↓seqK, ↓blkK, ↓loopK, step, stepBin, Nat.reduceBEq, Nat.reduceBeqDiff, Nat.add_assoc nid, Nat.reduceAdd, reduceCtorEq, ↓reduceIte, Nat.reduceLeDiff, Nat.reduceBneDiff, Option.toList, ← Int.ofNat_tmod, ← Int.ofNat_tdiv, Nat.reduceLT, e1, e2, e3, e4, e5, e6, e7, e8, e9]) (by simp only [aqT, aqU, aqN, ↓seqK, ↓blkK, ↓loopK, step, stepBin, Nat.reduceBEq, Nat.reduceBeqDiff, Nat.add_assoc nid, Nat.reduceAdd, reduceCtorEq, ↓reduceIte, Nat.reduceLeDiff, Nat.reduceBneDiff, Option.toList, ← Int.ofNat_tmod, ← Int.ofNat_tdiv, Nat.reduceLT, e1, e2, e3, e4, e5, e6, e7, e8, e9]) (by simp only [aqT, aqU, aqN, ↓seqK, ↓blkK, ↓loopK, step, stepBin, Nat.reduceBEq, Nat.reduceBeqDiff, Nat.add_assoc nid, Nat.reduceAdd, reduceCtorEq, ↓reduceIte, Nat.reduceLeDiff, Nat.reduceBneDiff, Option.toList, ← Int.ofNat_tmod, ← Int.ofNat_tdiv, Nat.reduceLT, e1, e2, e3, e4, e5, e6, e7, e8, e9]) (by omega) (by omega) hA (by omega) (by omega) ?_
    simp -dsimp only [aqT0, ROp0, aqT, aqU, aqN, ↓seqK, ↓blkK, ↓loopK, step, stepBin, Nat.reduceBEq, Nat.reduceBeqDiff, Nat.add_assoc nid, Nat.reduceAdd, reduceCtorEq, ↓reduceIte, Nat.reduceLeDiff, Nat.reduceBneDiff, Option.toList, ← Int.ofNat_tmod, ← Int.ofNat_tdiv, Nat.reduceLT, Int.cast_ofNat_Int, Int.reduceBEq, Int.reduceBNe, Int.reduceLT, Int.reduceLE, Int.reduceAdd, Int.reduceSub, Int.reduceMul, Int.reduceToNat, Int.reduceNeg, Int.reduceTMod, Int.reduceEq, not_false_eq_true, Int.reducePow, Int.reduceFDiv, Nat.reducePow, Nat.reduceSub, Nat.reduceMul, Nat.min_eq_left, Nat.reduceEqDiff, BEq.rfl, Int.tdiv_one, LN_succ, e1, e2, e3, e4, e5, e6, e7, e8, e9, strmC_low]
    have hb : ([[48], [49]].getD (pickI A (p + x.length) 2) [] : List UInt8) = [48] ∨ ([[48], [49]].getD (pickI A (p + x.length) 2) [] : List UInt8) = [49] := by
      have := pickI_lt A (p + x.length) (n := 2) (by omega)
      rcases (by omega : pickI A (p + x.length) 2 = 0 ∨ pickI A (p + x.length) 2 = 1) with e | e <;> rw [e] <;> simp
    generalize ([[48], [49]].getD (pickI A (p + x.length) 2) [] : List UInt8) = b at hb ⊢
    have hbl : b.length = 1 ∧ b.all bit01 = true := by rcases hb with rfl | rfl <;> exact ⟨rfl, rfl⟩
    refine ⟨by omega, by unfold inI64; omega, x ++ b, ⟨⟨by rw [List.length_append]; omega, by rw [List.all_append, hx2, hbl.2]; rfl⟩, by rw [List.length_append]; omega⟩, Cov.go [] [] ?_⟩
    have e : (x ++ b).length = x.length + 1 := by rw [List.length_append, hbl.1]
    have e2 : ((x ++ b).length : Int) = (x.length : Int) + 1 := by omega
    simp [cvT, step, res, e1, e2, e3, e4, e5, e6, e7, e8, e9, strmC, e, e2, -List.length_append]
    omega
  · have e : x.length = n := by omega
    refine EndOK.mk x ⟨e, hx2⟩ ?_
    refine RetOK.go [] [] (.inl rfl) ?_
    simp [a84, cvT, step, res, e1, e2, e3, e4, e5, e6, e7, e8, e9, strmC, e]
theorem enc_all : ((List.range 256).all fun n => decide ((Utf8.encode (IntKind.i32.wrap (n : Int))).data.toList.length ≤ 2)) = true := by kernel_rfl
theorem enc_len (b : UInt8) : (Utf8.encode (IntKind.i32.wrap ((b.toNat : Nat) : Int))).data.toList.length ≤ 2 := by
  have := List.all_eq_true.1 enc_all b.toNat (List.mem_range.2 (UInt8.toNat_lt b))
  simpa using this
theorem changedX (s nid : Nat) (nl : Bool) (A : List Int) (p : Nat) (t w : List UInt8) (h : s < nid) (ht : t.length ≤ 1000000000) (hw : w.length ≤ 1000) (hp : p ≤ 1099511627000) (hA : A.length ≤ 17592186044416) :
    ∃ x : List UInt8 × Nat, (x.1.length ≤ t.length + w.length + 2 ∧ x.2 ≤ p + 3) ∧ ACall Tryd.prog 87 [.ptr s 0, .str t, .str w] [(s, strmC nl A p)] nid (.str x.1) [(s, strmC nl A x.2)] := by
  obtain ⟨e1, e2, e3, e4, e5, e6, e7, e8, e9⟩ := id_all h
  refine acall_ex c87 (by simp [a87]) ?_
  simp -dsimp only [aqT0, ROp0, aqT, aqU, aqN, ↓seqK, ↓blkK, ↓loopK, step, stepBin, Nat.reduceBEq, Nat.reduceBeqDiff, Nat.add_assoc nid, Nat.reduceAdd, reduceCtorEq, ↓reduceIte, Nat.reduceLeDiff, Nat.reduceBneDiff, Option.toList, ← Int.ofNat_tmod, ← Int.ofNat_tdiv, Nat.reduceLT, Int.cast_ofNat_Int, Int.reduceBEq, Int.reduceBNe, Int.reduceLT, Int.reduceLE, Int.reduceAdd, Int.reduceSub, Int.reduceMul, Int.reduceToNat, Int.reduceNeg, Int.reduceTMod, Int.reduceEq, not_false_eq_true, Int.reducePow, Int.reduceFDiv, Nat.reducePow, Nat.reduceSub, Nat.reduceMul, Nat.min_eq_left, Nat.reduceEqDiff, BEq.rfl, Int.tdiv_one, LN_succ, e1, e2, e3, e4, e5, e6, e7, e8, e9, a87, strmC_low]
  have fin : ∀ st : ST, getS st.slots 6 = .str w → st.heap = [(s, strmC nl A p)] → EndOK (fun x : List UInt8 × Nat => x.1.length ≤ t.length + w.length + 2 ∧ x.2 ≤ p + 3) (a87).res [(s, strmC nl A p)] nid (fun x => .str x.1) (fun x => [(s, strmC nl A x.2)]) .ret st := fun st hs hh => by
    refine EndOK.mk (w, p) ⟨by show w.length ≤ _; omega, by show p ≤ _; omega⟩ ?_
    refine RetOK.go [] [] (.inl rfl) ?_
    rw [hh]
    simp [a87, cvT, step, res, e1, e2, e3, e4, e5, e6, e7, e8, e9, strmC, hs]
  refine S2.intro (fun h1 => ?_) (fun h1 => ?_) <;> simp -dsimp only [aqT0, ROp0, aqT, aqU, aqN, ↓seqK, ↓blkK, ↓loopK, step, stepBin, Nat.reduceBEq, Nat.reduceBeqDiff, Nat.add_assoc nid, Nat.reduceAdd, reduceCtorEq, ↓reduceIte, Nat.reduceLeDiff, Nat.reduceBneDiff, Option.toList, ← Int.ofNat_tmod, ← Int.ofNat_tdiv, Nat.reduceLT, Int.cast_ofNat_Int, Int.reduceBEq, Int.reduceBNe, Int.reduceLT, Int.reduceLE, Int.reduceAdd, Int.reduceSub, Int.reduceMul, Int.reduceToNat, Int.reduceNeg, Int.reduceTMod, Int.reduceEq, not_false_eq_true, Int.reducePow, Int.reduceFDiv, Nat.reducePow, Nat.reduceSub, Nat.reduceMul, Nat.min_eq_left, Nat.reduceEqDiff, BEq.rfl, Int.tdiv_one, LN_succ, e1, e2, e3, e4, e5, e6, e7, e8, e9, strmC_low]
  · exact fin _ rfl rfl
  refine S2.intro (fun h2 => ?_) (fun h2 => ?_) <;> simp -dsimp only [aqT0, ROp0, aqT, aqU, aqN, ↓seqK, ↓blkK, ↓loopK, step, stepBin, Nat.reduceBEq, Nat.reduceBeqDiff, Nat.add_assoc nid, Nat.reduceAdd, reduceCtorEq, ↓reduceIte, Nat.reduceLeDiff, Nat.reduceBneDiff, Option.toList, ← Int.ofNat_tmod, ← Int.ofNat_tdiv, Nat.reduceLT, Int.cast_ofNat_Int, Int.reduceBEq, Int.reduceBNe, Int.reduceLT, Int.reduceLE, Int.reduceAdd, Int.reduceSub, Int.reduceMul, Int.reduceToNat, Int.reduceNeg, Int.reduceTMod, Int.reduceEq, not_false_eq_true, Int.reducePow, Int.reduceFDiv, Nat.reducePow, Nat.reduceSub, Nat.reduceMul, Nat.min_eq_left, Nat.reduceEqDiff, BEq.rfl, Int.tdiv_one, LN_succ, e1, e2, e3, e4, e5, e6, e7, e8, e9, strmC_low]
  · exact fin _ rfl rfl
  clear fin
  have ht0 : 0 < t.length := by
    cases t with
    | nil => simp at h1
    | cons b t => simp
  have hw0 : 0 < w.length := by
    cases w with
    | nil => simp at h2
    | cons b w => simp
  refine CallX.on (next_c s _ nl A p _ (by omega) (by omega) hA (by omega)) (subH_get (by simp only [aqT, aqU, aqN, ↓seqK, ↓blkK, ↓loopK, step, stepBin, Nat.reduceBEq, Nat.reduceBeqDiff, Nat.add_assoc nid, Nat.reduceAdd, reduceCtorEq, ↓reduceIte, Nat.reduceLeDiff, Nat.reduceBneDiff, Option.toList, ← Int.ofNat_tmod, ← Int.ofNat_tdiv, Nat.reduceLT, e1, e2, e3, e4, e5, e6, e7, e8, e9])) ?_
  simp -dsimp only [aqT0, ROp0, aqT, aqU, aqN, ↓seqK, ↓blkK, ↓loopK, step, stepBin, Nat.reduceBEq, Nat.reduceBeqDiff, Nat.add_assoc nid, Nat.reduceAdd, reduceCtorEq, ↓reduceIte, Nat.reduceLeDiff, Nat.reduceBneDiff, Option.toList, ← Int.ofNat_tmod, ← Int.ofNat_tdiv, Nat.reduceLT, Int.cast_ofNat_Int, Int.reduceBEq, Int.reduceBNe, Int.reduceLT, Int.reduceLE, Int.reduceAdd, Int.reduceSub, Int.reduceMul, Int.reduceToNat, Int.reduceNeg, Int.reduceTMod, Int.reduceEq, not_false_eq_true, Int.reducePow, Int.reduceFDiv, Nat.reducePow, Nat.reduceSub, Nat.reduceMul, Nat.min_eq_left, Nat.reduceEqDiff, BEq.rfl, Int.tdiv_one, LN_succ, e1, e2, e3, e4, e5, e6, e7, e8, e9, strmC_low]
  have hb := nextV_bd A p (n := (t.length : Int)) (by omega)
  obtain ⟨I, hI⟩ : ∃ I : Nat, nextV A p (t.length : Int) = I := ⟨_, (Int.toNat_of_nonneg hb.1).symm⟩
  rw [hI] at hb ⊢
  refine CallX.on (next_c s _ nl A (p + 1) _ (by omega) (by omega) hA (by omega)) (subH_get (by simp only [aqT, aqU, aqN, ↓seqK, ↓blkK, ↓loopK, step, stepBin, Nat.reduceBEq, Nat.reduceBeqDiff, Nat.add_assoc nid, Nat.reduceAdd, reduceCtorEq, ↓reduceIte, Nat.reduceLeDiff, Nat.reduceBneDiff, Option.toList, ← Int.ofNat_tmod, ← Int.ofNat_tdiv, Nat.reduceLT, e1, e2, e3, e4, e5, e6, e7, e8, e9])) ?_
  simp -dsimp only [aqT0, ROp0, aqT, aqU, aqN, ↓seqK, ↓blkK, ↓loopK, step, stepBin, Nat.reduceBEq, Nat.reduceBeqDiff, Nat.add_assoc nid, Nat.reduceAdd, reduceCtorEq, ↓reduceIte, Nat.reduceLeDiff, Nat.reduceBneDiff, Option.toList, ← Int.ofNat_tmod, ← Int.ofNat_tdiv, Nat.reduceLT, Int.cast_ofNat_Int, Int.reduceBEq, Int.reduceBNe, Int.reduceLT, Int.reduceLE, Int.reduceAdd, Int.reduceSub, Int.reduceMul, Int.reduceToNat, Int.reduceNeg, Int.reduceTMod, Int.reduceEq, not_false_eq_true, Int.reducePow, Int.reduceFDiv, Nat.reducePow, Nat.reduceSub, Nat.reduceMul, Nat.min_eq_left, Nat.reduceEqDiff, BEq.rfl, Int.tdiv_one, LN_succ, e1, e2, e3, e4, e5, e6, e7, e8, e9, strmC_low]
  have hb2 := nextV_bd A (p + 1) (n := (w.length : Int)) (by omega)
  obtain ⟨J, hJ⟩ : ∃ J : Nat, nextV A (p + 1) (w.length : Int) = J := ⟨_, (Int.toNat_of_nonneg hb2.1).symm⟩
  rw [hJ] at hb2 ⊢
  refine ⟨by omega, ?_⟩
  refine CallX.on (next_c s _ nl A (p + 1 + 1) _ (by omega) (by omega) hA (by omega)) (subH_get (by simp only [aqT, aqU, aqN, ↓seqK, ↓blkK, ↓loopK, step, stepBin, Nat.reduceBEq, Nat.reduceBeqDiff, Nat.add_assoc nid, Nat.reduceAdd, reduceCtorEq, ↓reduceIte, Nat.reduceLeDiff, Nat.reduceBneDiff, Option.toList, ← Int.ofNat_tmod, ← Int.ofNat_tdiv, Nat.reduceLT, e1, e2, e3, e4, e5, e6, e7, e8, e9])) ?_
  simp -dsimp only [aqT0, ROp0, aqT, aqU, aqN, ↓seqK, ↓blkK, ↓loopK, step, stepBin, Nat.reduceBEq, Nat.reduceBeqDiff, Nat.add_assoc nid, Nat.reduceAdd, reduceCtorEq, ↓reduceIte, Nat.reduceLeDiff, Nat.reduceBneDiff, Option.toList, ← Int.ofNat_tmod, ← Int.ofNat_tdiv, Nat.reduceLT, Int.cast_ofNat_Int, Int.reduceBEq, Int.reduceBNe, Int.reduceLT, Int.reduceLE, Int.reduceAdd, Int.reduceSub, Int.reduceMul, Int.reduceToNat, Int.reduceNeg, Int.reduceTMod, Int.reduceEq, not_false_eq_true, Int.reducePow, Int.reduceFDiv, Nat.reducePow, Nat.reduceSub, Nat.reduceMul, Nat.min_eq_left, Nat.reduceEqDiff, BEq.rfl, Int.tdiv_one, LN_succ, e1, e2, e3, e4, e5, e6, e7, e8, e9, strmC_low]
  have henc := enc_len (w.getD J 0)
  have fin : ∀ (x : List UInt8) (st : ST), x.length ≤ t.length + w.length + 2 → getS st.slots 6 = .str x → st.heap = [(s, strmC nl A (p + 1 + 1 + 1)), (s, strmC nl A (p + 1 + 1)), (s, strmC nl A (p + 1)), (s, strmC nl A p)] → EndOK (fun x : List UInt8 × Nat => x.1.length ≤ t.length + w.length + 2 ∧ x.2 ≤ p + 3) (a87).res [(s, strmC nl A p)] nid (fun x => .str x.1) (fun x => [(s, strmC nl A x.2)]) .ret st := fun x st hx hs hh => by
    refine EndOK.mk (x, p + 3) ⟨hx, Nat.le_refl _⟩ ?_
    refine RetOK.go [] [] (.inl rfl) ?_
    rw [hh]
    simp [a87, cvT, step, res, e1, e2, e3, e4, e5, e6, e7, e8, e9, strmC, hs]
    omega
  refine S2.intro (fun h3 => ?_) (fun h3 => ?_) <;> simp -dsimp only [aqT0, ROp0, aqT, aqU, aqN, ↓seqK, ↓blkK, ↓loopK, step, stepBin, Nat.reduceBEq, Nat.reduceBeqDiff, Nat.add_assoc nid, Nat.reduceAdd, reduceCtorEq, ↓reduceIte, Nat.reduceLeDiff, Nat.reduceBneDiff, Option.toList, ← Int.ofNat_tmod, ← Int.ofNat_tdiv, Nat.reduceLT, Int.cast_ofNat_Int, Int.reduceBEq, Int.reduceBNe, Int.reduceLT, Int.reduceLE, Int.reduceAdd, Int.reduceSub, Int.reduceMul, Int.reduceToNat, Int.reduceNeg, Int.reduceTMod, Int.reduceEq, not_false_eq_true, Int.reducePow, Int.reduceFDiv, Nat.reducePow, Nat.reduceSub, Nat.reduceMul, Nat.min_eq_left, Nat.reduceEqDiff, BEq.rfl, Int.tdiv_one, LN_succ, e1, e2, e3, e4, e5, e6, e7, e8, e9, strmC_low]
  · refine ⟨⟨by omega, by omega⟩, by simp only [List.length_take]; omega, by unfold inI64; omega, ⟨by omega, by omega⟩, by simp only [List.length_append, List.length_take, List.length_drop]; omega, ?_⟩
    exact fin _ _ (by simp only [List.length_append, List.length_take, List.length_drop]; omega) rfl rfl
  refine S2.intro (fun h4 => ?_) (fun h4 => ?_) <;> simp -dsimp only [aqT0, ROp0, aqT, aqU, aqN, ↓seqK, ↓blkK, ↓loopK, step, stepBin, Nat.reduceBEq, Nat.reduceBeqDiff, Nat.add_assoc nid, Nat.reduceAdd, reduceCtorEq, ↓reduceIte, Nat.reduceLeDiff, Nat.reduceBneDiff, Option.toList, ← Int.ofNat_tmod, ← Int.ofNat_tdiv, Nat.reduceLT, Int.cast_ofNat_Int, Int.reduceBEq, Int.reduceBNe, Int.reduceLT, Int.reduceLE, Int.reduceAdd, Int.reduceSub, Int.reduceMul, Int.reduceToNat, Int.reduceNeg, Int.reduceTMod, Int.reduceEq, not_false_eq_true, Int.reducePow, Int.reduceFDiv, Nat.reducePow, Nat.reduceSub, Nat.reduceMul, Nat.min_eq_left, Nat.reduceEqDiff, BEq.rfl, Int.tdiv_one, LN_succ, e1, e2, e3, e4, e5, e6, e7, e8, e9, strmC_low]
  · refine ⟨⟨by omega, by omega⟩, by simp only [List.length_take]; omega, ⟨by omega, by omega⟩, by simp only [List.length_append, List.length_take, List.length_drop]; omega, ?_⟩
    exact fin _ _ (by simp only [List.length_append, List.length_take, List.length_drop]; omega) rfl rfl
  · refine ⟨⟨by omega, by omega⟩, by unfold inI64; omega, ⟨by omega, by omega⟩, by simp only [List.length_take, List.length_drop]; omega, ?_⟩
    exact fin _ _ (by simp only [List.length_append, List.length_take, List.length_drop]; omega) rfl rfl
end Go.Proofs.YthcldfmlfjomfaaDoor
namespace Go.Proofs.YthcldfmlfjomfaaDoor
open Go.RowKit
def arrS (l : List (List UInt8)) : Option ABlk := some (.arr 9 l.length [.s fun i => l.getD i []])
theorem getD_app1 (l : List (List UInt8)) (x : List UInt8) {n : Nat} (hn : l.length = n) : (fun i => if i < n then l.getD i [] else [x].getD (i - n) []) = fun i => (l ++ [x]).getD i [] := by
  subst hn
  funext i
  simp only [List.getD_eq_getElem?_getD, List.getElem?_append]
  split <;> rfl
theorem getD_setS (l : List (List UInt8)) (x : List UInt8) {I : Nat} (hI : I < l.length) : (fun j => if j = I then x else l.getD j []) = fun j => (l.set I x).getD j [] := by
  funext j
  simp only [List.getD_eq_getElem?_getD, List.getElem?_set]
  by_cases h : j = I
  · subst h; simp [hI]
  · rw [if_neg h, if_neg (fun e => h e.symm)]
def ShortRows (m : Nat) (l : List (List UInt8)) : Prop := ∀ r ∈ l, r.length ≤ m
theorem ShortRows.at {m : Nat} {l : List (List UInt8)} (h : ShortRows m l) (i : Nat) : (l.getD i []).length ≤ m := by
  rw [List.getD_eq_getElem?_getD]
  cases hg : l[i]? with
  | none => simp
  | some x => exact h x (List.mem_of_getElem? hg)
theorem ShortRows.set {m : Nat} {l : List (List UInt8)} (h : ShortRows m l) (i : Nat) {x : List UInt8} (hx : x.length ≤ m) : ShortRows m (l.set i x) := fun r hr => by
  rcases List.mem_or_eq_of_mem_set hr with h1 | h1
  · exact h r h1
  · rw [h1]; exact hx
theorem ShortRows.snoc {m : Nat} {l : List (List UInt8)} (h : ShortRows m l) {x : List UInt8} (hx : x.length ≤ m) : ShortRows m (l ++ [x]) := fun r hr => by
  rcases List.mem_append.1 hr with h1 | h1
  · exact h r h1
  · rw [List.mem_singleton.1 h1]; exact hx
theorem ShortRows.mono {m n : Nat} {l : List (List UInt8)} (h : ShortRows m l) (hn : m ≤ n) : ShortRows n l := fun r hr => Nat.le_trans (h r hr) hn
def litS (nl : Bool) (l : List (List UInt8)) : PV := .lit nl l.length [.s fun i => l.getD i []]
end Go.Proofs.YthcldfmlfjomfaaDoor
namespace Go.Proofs.YthcldfmlfjomfaaDoor
open Go.RowKit Go.Lib
theorem apart_cc (a b : List UInt8) (nid : Nat) (hl : a.length = b.length) (ha : a.length ≤ 1000000) : ACall Tryd.prog 114 [.str a, .str b] [] nid (.int .i64 (hamK a b a.length : Nat)) [] := by
  refine acall_run c114 (by simp [a114]) ?_
  simp -dsimp only [aqT, aqU, aqN, ↓seqK, ↓blkK, ↓loopK, step, stepBin, Nat.reduceBEq, Nat.reduceBeqDiff, Nat.add_assoc nid, Nat.reduceAdd, reduceCtorEq, ↓reduceIte, Nat.reduceLeDiff, Nat.reduceBneDiff, Option.toList, ← Int.ofNat_tmod, ← Int.ofNat_tdiv, Nat.reduceLT, Int.cast_ofNat_Int, Int.reduceBEq, Int.reduceBNe, Int.reduceLT, Int.reduceLE, Int.reduceAdd, Int.reduceSub, Int.reduceMul, Int.reduceToNat, Int.reduceNeg, Int.reduceTMod, Int.reduceEq, not_false_eq_true, Int.reducePow, Int.reduceFDiv, Nat.reducePow, Nat.reduceSub, Nat.reduceMul, Nat.min_eq_left, Nat.reduceEqDiff, BEq.rfl, Int.tdiv_one, LN_succ, a114]
  refine LP.mkP (fun k : Nat => k ≤ a.length) (fun k : Nat => ⟨[(9, .int .i64 k), (8, .int .i64 a.length), (5, .int .i64 (hamK a b k : Nat)), (0, .str a), (1, .str b)], [], nid + 100, nid⟩) (fun k => a.length + 1 - k) 0 (by omega) (Cov.go [] [] ?_) (fun k hk => ?_)
  · simp [cvT, step, res, hamK]
  have hs := hamK_succ a b k
  have hle := hamK_le a b k
  simp -dsimp only [aqT, aqU, aqN, ↓seqK, ↓blkK, ↓loopK, step, stepBin, Nat.reduceBEq, Nat.reduceBeqDiff, Nat.add_assoc nid, Nat.reduceAdd, reduceCtorEq, ↓reduceIte, Nat.reduceLeDiff, Nat.reduceBneDiff, Option.toList, ← Int.ofNat_tmod, ← Int.ofNat_tdiv, Nat.reduceLT, Int.cast_ofNat_Int, Int.reduceBEq, Int.reduceBNe, Int.reduceLT, Int.reduceLE, Int.reduceAdd, Int.reduceSub, Int.reduceMul, Int.reduceToNat, Int.reduceNeg, Int.reduceTMod, Int.reduceEq, not_false_eq_true, Int.reducePow, Int.reduceFDiv, Nat.reducePow, Nat.reduceSub, Nat.reduceMul, Nat.min_eq_left, Nat.reduceEqDiff, BEq.rfl, Int.tdiv_one, LN_succ]
  refine S2.dec (fun h3 => ?_) (fun h3 => ?_) <;> simp -dsimp only [aqT, aqU, aqN, ↓seqK, ↓blkK, ↓loopK, step, stepBin, Nat.reduceBEq, Nat.reduceBeqDiff, Nat.add_assoc nid, Nat.reduceAdd, reduceCtorEq, ↓reduceIte, Nat.reduceLeDiff, Nat.reduceBneDiff, Option.toList, ← Int.ofNat_tmod, ← Int.ofNat_tdiv, Nat.reduceLT, Int.cast_ofNat_Int, Int.reduceBEq, Int.reduceBNe, Int.reduceLT, Int.reduceLE, Int.reduceAdd, Int.reduceSub, Int.reduceMul, Int.reduceToNat, Int.reduceNeg, Int.reduceTMod, Int.reduceEq, not_false_eq_true, Int.reducePow, Int.reduceFDiv, Nat.reducePow, Nat.reduceSub, Nat.reduceMul, Nat.min_eq_left, Nat.reduceEqDiff, BEq.rfl, Int.tdiv_one, LN_succ]
  · have hkl : k < a.length := by omega
    have eb : ∀ x y : UInt8, (((x.toNat : Nat) : Int) != ((y.toNat : Nat) : Int)) = !(x == y) := fun x y => by
      rw [Bool.eq_iff_iff]
      simp only [bne_iff_ne, ne_eq, Int.natCast_inj, UInt8.toNat_inj, Bool.not_eq_true', beq_eq_false_iff_ne]
    refine ⟨by omega, by omega, ?_⟩
    rw [eb]
    cases h4 : (a.getD k 0 == b.getD k 0) <;> rw [h4] at hs <;> simp -dsimp only [aqT, aqU, aqN, ↓seqK, ↓blkK, ↓loopK, step, stepBin, Nat.reduceBEq, Nat.reduceBeqDiff, Nat.add_assoc nid, Nat.reduceAdd, reduceCtorEq, ↓reduceIte, Nat.reduceLeDiff, Nat.reduceBneDiff, Option.toList, ← Int.ofNat_tmod, ← Int.ofNat_tdiv, Nat.reduceLT, Int.cast_ofNat_Int, Int.reduceBEq, Int.reduceBNe, Int.reduceLT, Int.reduceLE, Int.reduceAdd, Int.reduceSub, Int.reduceMul, Int.reduceToNat, Int.reduceNeg, Int.reduceTMod, Int.reduceEq, not_false_eq_true, Int.reducePow, Int.reduceFDiv, Nat.reducePow, Nat.reduceSub, Nat.reduceMul, Nat.min_eq_left, Nat.reduceEqDiff, BEq.rfl, Int.tdiv_one, LN_succ, Bool.not_true, Bool.not_false]
    · rw [if_neg (by simp)] at hs
      refine ⟨by unfold inI64; omega, by unfold inI64; omega, k + 1, ⟨by omega, by omega⟩, Cov.go [] [] ?_⟩
      simp [cvT, step, res, hs]
    · rw [if_pos rfl] at hs
      refine ⟨by unfold inI64; omega, k + 1, ⟨by omega, by omega⟩, Cov.go [] [] ?_⟩
      simp [cvT, step, res, hs]
  · obtain rfl : k = a.length := by omega
    refine RetOK.pure (.inl rfl) rfl ?_
    simp [cvT, step, res]
def boxNn (n : Nat) : Option ABlk := some (.box 3 [.int .i64 (n : Nat)])
def boxRm (im : Nat) : Option ABlk := some (.box 140 [.mp im])
def boxVs (nl : Bool) (v : List (List UInt8)) : Option ABlk := some (.box 26 [litS nl v])
def capO (b : Nat) : List PV := [.ptr (b + 4) 0, .ptr (b + 8) 0, .ptr (b + 12) 0, .ptr (b + 16) 0]
def boxCf (b : Nat) : Option ABlk := some (.box 55 [.fn 113 (capO b)])
def valO (v : List (List UInt8)) : MK → Int
  | .p a b => costV (dV v) v.length a.toNat b.toNat
  | _ => 0
def mapO (v : List (List UInt8)) (d : MK → Bool) : Option ABlk := some (.map .p d (.i .i64 (valO v)))
def hsO (b : Nat) (nl : Bool) (v : List (List UInt8)) (d : MK → Bool) : Heap := [(b + 4, boxNn v.length), (b + 8, boxRm (b + 20)), (b + 12, boxVs nl v), (b + 16, boxCf b), (b + 20, mapO v d)]
def domO (n : Nat) : Nat → Nat → Nat → (MK → Bool) → (MK → Bool)
  | 0, _, _, d => d
  | f + 1, was, last, d => if d (.p was last) = true then d else
    fun q => if q = .p was last then true else ((List.range n).foldl (fun d i => if was.testBit i = true then d else domO n f (was ||| 1 <<< i) i d) d) q
def domTo (n f was : Nat) (d : MK → Bool) (k : Nat) : MK → Bool := (List.range k).foldl (fun d i => if was.testBit i = true then d else domO n f (was ||| 1 <<< i) i d) d
theorem domTo_succ (n f was : Nat) (d : MK → Bool) (k : Nat) : domTo n f was d (k + 1) = if was.testBit k = true then domTo n f was d k else domO n f (was ||| 1 <<< k) k (domTo n f was d k) := by
  simp [domTo, List.range_succ]
theorem domO_hit {n f was last : Nat} {d : MK → Bool} (h : d (.p was last) = true) : domO n f was last d = d := by
  cases f with
  | zero => rfl
  | succ f => unfold domO; rw [if_pos h]
theorem domO_miss {n f was last : Nat} {d : MK → Bool} (h : d (.p was last) = false) : domO n (f + 1) was last d = fun q => if q = .p was last then true else domTo n f was d n q := by
  show (if d (.p was last) = true then d else _) = _
  rw [if_neg (by simp [h])]
  rfl
theorem two_lt {n : Nat} (h : n ≤ 10) : (2 : Nat) ^ n ≤ 1024 := Nat.le_trans (Nat.pow_le_pow_right (by omega) h) (by decide)
set_option maxHeartbeats 8000000 in
theorem count_c (b : Nat) (nl : Bool) (v : List (List UInt8)) (w : Nat) (hv : ∀ s ∈ v, s.length = w) (hw : w ≤ 100) (hn : v.length ≤ 10) : ∀ (f was last : Nat) (d : MK → Bool) (nid : Nat), b + 20 < nid → zc v.length was = f → was < 2 ^ v.length → last < v.length →
    ACall Tryd.prog 113 (.int .i64 (was : Nat) :: .int .i64 (last : Nat) :: capO b) (hsO b nl v d) nid (.int .i64 (costV (dV v) v.length was last)) [(b + 20, mapO v (domO v.length f was last d))] := by
  intro f
  induction f with
  | zero =>
    intro was last d nid hb hz hlt hla
    have h4 : b + 4 < nid := by omega
    have h8 : b + 8 < nid := by omega
    have h12 : b + 12 < nid := by omega
    have h16 : b + 16 < nid := by omega
    obtain ⟨p1, p2, p3, p4, p5, p6, p7, p8, p9⟩ := id_all h4
    obtain ⟨q1, q2, q3, q4, q5, q6, q7, q8, q9⟩ := id_all h8
    obtain ⟨r1, r2, r3, r4, r5, r6, r7, r8, r9⟩ := id_all h12
    obtain ⟨t1, t2, t3, t4, t5, t6, t7, t8, t9⟩ := id_all h16
    obtain ⟨u1, u2, u3, u4, u5, u6, u7, u8, u9⟩ := id_all hb
    have hN := two_lt hn
    have hfull := (zc_full hlt).1 hz
    rw [cost_full hz]
    refine acall_run c113 (by simp [a113, capO]) ?_
    unfold hsO boxNn boxRm boxVs boxCf mapO capO litS
    simp -dsimp only [a113, aqT, aqU, aqN, ↓seqK, ↓blkK, ↓loopK, step, stepBin, Nat.reduceBEq, Nat.reduceBeqDiff, Nat.add_assoc nid, Nat.reduceAdd, reduceCtorEq, ↓reduceIte, Nat.reduceLeDiff, Nat.reduceBneDiff, Option.toList, ← Int.ofNat_tmod, ← Int.ofNat_tdiv, Nat.reduceLT, Int.cast_ofNat_Int, Int.reduceBEq, Int.reduceBNe, Int.reduceLT, Int.reduceLE, Int.reduceAdd, Int.reduceSub, Int.reduceMul, Int.reduceToNat, Int.reduceNeg, Int.reduceTMod, Int.reduceEq, not_false_eq_true, Int.reducePow, Int.reduceFDiv, Nat.reducePow, Nat.reduceSub, Nat.reduceMul, Nat.min_eq_left, Nat.reduceEqDiff, BEq.rfl, Int.tdiv_one, LN_succ, p1, p2, p3, p4, q1, q2, q3, q4, r1, r2, r3, r4, t1, t2, t3, t4, u1, u2, u3, u4]
    have hsh := shl64 v.length (by omega)
    have e1 : (1 <<< v.length : Nat) = 2 ^ v.length := by rw [Nat.shiftLeft_eq, Nat.one_mul]
    rw [e1] at hsh
    rw [hsh]
    have hpos := Nat.two_pow_pos v.length
    have e2 : (((2 ^ v.length : Nat) : Int) - 1) = ((was : Nat) : Int) := by omega
    rw [e2]
    refine ⟨by omega, by unfold inI64; omega, ?_⟩
    simp -dsimp only [aqT, aqU, aqN, ↓seqK, ↓blkK, ↓loopK, step, stepBin, Nat.reduceBEq, Nat.reduceBeqDiff, Nat.add_assoc nid, Nat.reduceAdd, reduceCtorEq, ↓reduceIte, Nat.reduceLeDiff, Nat.reduceBneDiff, Option.toList, ← Int.ofNat_tmod, ← Int.ofNat_tdiv, Nat.reduceLT, Int.cast_ofNat_Int, Int.reduceBEq, Int.reduceBNe, Int.reduceLT, Int.reduceLE, Int.reduceAdd, Int.reduceSub, Int.reduceMul, Int.reduceToNat, Int.reduceNeg, Int.reduceTMod, Int.reduceEq, not_false_eq_true, Int.reducePow, Int.reduceFDiv, Nat.reducePow, Nat.reduceSub, Nat.reduceMul, Nat.min_eq_left, Nat.reduceEqDiff, BEq.rfl, Int.tdiv_one, LN_succ, beq_self_eq_true]
    refine RetOK.go [] [] (.inl rfl) ?_
    simp [a113, cvT, step, res, domO, p1, p2, p3, p4, q1, q2, q3, q4, r1, r2, r3, r4, t1, t2, t3, t4, u1, u2, u3, u4]
    omega
  | succ f ih =>
    intro was last d nid hb hz hlt hla
    have h4 : b + 4 < nid := by omega
    have h8 : b + 8 < nid := by omega
    have h12 : b + 12 < nid := by omega
    have h16 : b + 16 < nid := by omega
    obtain ⟨p1, p2, p3, p4, p5, p6, p7, p8, p9⟩ := id_all h4
    obtain ⟨q1, q2, q3, q4, q5, q6, q7, q8, q9⟩ := id_all h8
    obtain ⟨r1, r2, r3, r4, r5, r6, r7, r8, r9⟩ := id_all h12
    obtain ⟨t1, t2, t3, t4, t5, t6, t7, t8, t9⟩ := id_all h16
    obtain ⟨u1, u2, u3, u4, u5, u6, u7, u8, u9⟩ := id_all hb
    have hN := two_lt hn
    have hpos := Nat.two_pow_pos v.length
    have hfull : was ≠ 2 ^ v.length - 1 := fun e => by have := (zc_full hlt).2 e; omega
    have hbd := dV_bd hv
    have hsh := shl64 v.length (by omega)
    have e1 : (1 <<< v.length : Nat) = 2 ^ v.length := by rw [Nat.shiftLeft_eq, Nat.one_mul]
    rw [e1] at hsh
    have e2 : (((was : Nat) : Int) == (((2 ^ v.length : Nat) : Int) - 1)) = false := by
      rw [beq_eq_false_iff_ne]
      omega
    refine acall_run c113 (by simp [a113, capO]) ?_
    unfold hsO boxNn boxRm boxVs boxCf mapO capO litS
    simp -dsimp only [a113, aqT, aqU, aqN, ↓seqK, ↓blkK, ↓loopK, step, stepBin, Nat.reduceBEq, Nat.reduceBeqDiff, Nat.add_assoc nid, Nat.reduceAdd, reduceCtorEq, ↓reduceIte, Nat.reduceLeDiff, Nat.reduceBneDiff, Option.toList, ← Int.ofNat_tmod, ← Int.ofNat_tdiv, Nat.reduceLT, Int.cast_ofNat_Int, Int.reduceBEq, Int.reduceBNe, Int.reduceLT, Int.reduceLE, Int.reduceAdd, Int.reduceSub, Int.reduceMul, Int.reduceToNat, Int.reduceNeg, Int.reduceTMod, Int.reduceEq, not_false_eq_true, Int.reducePow, Int.reduceFDiv, Nat.reducePow, Nat.reduceSub, Nat.reduceMul, Nat.min_eq_left, Nat.reduceEqDiff, BEq.rfl, Int.tdiv_one, LN_succ, p1, p2, p3, p4, q1, q2, q3, q4, r1, r2, r3, r4, t1, t2, t3, t4, u1, u2, u3, u4]
    rw [hsh]
    refine ⟨by omega, by unfold inI64; omega, ?_⟩
    rw [e2]
    simp -dsimp only [aqT, aqU, aqN, ↓seqK, ↓blkK, ↓loopK, step, stepBin, Nat.reduceBEq, Nat.reduceBeqDiff, Nat.add_assoc nid, Nat.reduceAdd, reduceCtorEq, ↓reduceIte, Nat.reduceLeDiff, Nat.reduceBneDiff, Option.toList, ← Int.ofNat_tmod, ← Int.ofNat_tdiv, Nat.reduceLT, Int.cast_ofNat_Int, Int.reduceBEq, Int.reduceBNe, Int.reduceLT, Int.reduceLE, Int.reduceAdd, Int.reduceSub, Int.reduceMul, Int.reduceToNat, Int.reduceNeg, Int.reduceTMod, Int.reduceEq, not_false_eq_true, Int.reducePow, Int.reduceFDiv, Nat.reducePow, Nat.reduceSub, Nat.reduceMul, Nat.min_eq_left, Nat.reduceEqDiff, BEq.rfl, Int.tdiv_one, LN_succ, p1, p2, p3, p4, q1, q2, q3, q4, r1, r2, r3, r4, t1, t2, t3, t4, u1, u2, u3, u4]
    refine ⟨⟨by unfold inI64; omega, by unfold inI64; omega⟩, ?_⟩
    cases hd : d (.p (was : Nat) (last : Nat)) <;> simp -dsimp only [aqT, aqU, aqN, ↓seqK, ↓blkK, ↓loopK, step, stepBin, Nat.reduceBEq, Nat.reduceBeqDiff, Nat.add_assoc nid, Nat.reduceAdd, reduceCtorEq, ↓reduceIte, Nat.reduceLeDiff, Nat.reduceBneDiff, Option.toList, ← Int.ofNat_tmod, ← Int.ofNat_tdiv, Nat.reduceLT, Int.cast_ofNat_Int, Int.reduceBEq, Int.reduceBNe, Int.reduceLT, Int.reduceLE, Int.reduceAdd, Int.reduceSub, Int.reduceMul, Int.reduceToNat, Int.reduceNeg, Int.reduceTMod, Int.reduceEq, not_false_eq_true, Int.reducePow, Int.reduceFDiv, Nat.reducePow, Nat.reduceSub, Nat.reduceMul, Nat.min_eq_left, Nat.reduceEqDiff, BEq.rfl, Int.tdiv_one, LN_succ, p1, p2, p3, p4, q1, q2, q3, q4, r1, r2, r3, r4, t1, t2, t3, t4, u1, u2, u3, u4, hd]
    case true =>
      rw [domO_hit hd]
      have ev : valO v (.p (was : Nat) (last : Nat)) = costV (dV v) v.length was last := by simp [valO]
      rw [ev]
      refine RetOK.go [] [] (.inl rfl) ?_
      simp [a113, cvT, step, res, p1, p2, p3, p4, q1, q2, q3, q4, r1, r2, r3, r4, t1, t2, t3, t4, u1, u2, u3, u4]
      omega
    rw [domO_miss hd, cost_eq (by omega)]
    have hcb : ∀ ws i, 0 ≤ costV (dV v) v.length ws i ∧ costV (dV v) v.length ws i ≤ 1000 := fun ws i => by
      have h1 := cost_bd hbd (n := v.length) ws i
      have h2 : zc v.length ws ≤ v.length := by
        have := List.length_filter_le (fun i => !ws.testBit i) (List.range v.length)
        rw [List.length_range] at this
        exact this
      have h3 : (w : Int) * (zc v.length ws : Nat) ≤ 100 * 10 := Int.mul_le_mul (by omega) (by omega) (by omega) (by omega)
      omega
    obtain ⟨m, hm⟩ : ∃ m : Nat → Int, ∀ k, minTo (fun i => dV v last i + costV (dV v) v.length (was ||| 1 <<< i) i) (fun i => !was.testBit i) k = m k := ⟨_, fun _ => rfl⟩
    have hm0 : m 0 = -1 := (hm 0).symm
    have hms : ∀ k, m (k + 1) = if was.testBit k = false ∧ (m k < 0 ∨ dV v last k + costV (dV v) v.length (was ||| 1 <<< k) k < m k) then dV v last k + costV (dV v) v.length (was ||| 1 <<< k) k else m k := fun k => by
      rw [← hm (k + 1), ← hm k]
      show (if _ then _ else _) = _
      simp only [Bool.not_eq_true']
    rw [hm]
    refine LP.mkP (fun k : Nat => k ≤ v.length) (fun k : Nat => ⟨[(32, .int .i64 k), (31, .int .i64 v.length), (12, .int .i64 (m k)), (9, .ptr (nid + 36) 0), (0, .int .i64 was), (1, .int .i64 last), (2, .ptr (b + 4) 0), (3, .ptr (b + 8) 0), (4, .ptr (b + 12) 0), (5, .ptr (b + 16) 0)], (nid + 36, some (.box 141 [.int .i64 was, .int .i64 last])) :: hsO b nl v (domTo v.length f was d k), nid + 100, nid⟩) (fun k => v.length + 1 - k) 0 (by omega) (Cov.go [] [] ?_) (fun k hk => ?_)
    · unfold hsO boxNn boxRm boxVs boxCf mapO capO litS
      simp [a113, cvT, step, res, hm0, domTo, p1, p2, p3, p4, q1, q2, q3, q4, r1, r2, r3, r4, t1, t2, t3, t4, u1, u2, u3, u4]
      omega
    unfold hsO boxNn boxRm boxVs boxCf mapO capO litS
    simp -dsimp only [a113, aqT, aqU, aqN, ↓seqK, ↓blkK, ↓loopK, step, stepBin, Nat.reduceBEq, Nat.reduceBeqDiff, Nat.add_assoc nid, Nat.reduceAdd, reduceCtorEq, ↓reduceIte, Nat.reduceLeDiff, Nat.reduceBneDiff, Option.toList, ← Int.ofNat_tmod, ← Int.ofNat_tdiv, Nat.reduceLT, Int.cast_ofNat_Int, Int.reduceBEq, Int.reduceBNe, Int.reduceLT, Int.reduceLE, Int.reduceAdd, Int.reduceSub, Int.reduceMul, Int.reduceToNat, Int.reduceNeg, Int.reduceTMod, Int.reduceEq, not_false_eq_true, Int.reducePow, Int.reduceFDiv, Nat.reducePow, Nat.reduceSub, Nat.reduceMul, Nat.min_eq_left, Nat.reduceEqDiff, BEq.rfl, Int.tdiv_one, LN_succ, p1, p2, p3, p4, q1, q2, q3, q4, r1, r2, r3, r4, t1, t2, t3, t4, u1, u2, u3, u4]
    refine S2.dec (fun h3 => ?_) (fun h3 => ?_) <;> simp -dsimp only [aqT, aqU, aqN, ↓seqK, ↓blkK, ↓loopK, step, stepBin, Nat.reduceBEq, Nat.reduceBeqDiff, Nat.add_assoc nid, Nat.reduceAdd, reduceCtorEq, ↓reduceIte, Nat.reduceLeDiff, Nat.reduceBneDiff, Option.toList, ← Int.ofNat_tmod, ← Int.ofNat_tdiv, Nat.reduceLT, Int.cast_ofNat_Int, Int.reduceBEq, Int.reduceBNe, Int.reduceLT, Int.reduceLE, Int.reduceAdd, Int.reduceSub, Int.reduceMul, Int.reduceToNat, Int.reduceNeg, Int.reduceTMod, Int.reduceEq, not_false_eq_true, Int.reducePow, Int.reduceFDiv, Nat.reducePow, Nat.reduceSub, Nat.reduceMul, Nat.min_eq_left, Nat.reduceEqDiff, BEq.rfl, Int.tdiv_one, LN_succ]
    · have hkl : k < v.length := by omega
      rw [unset64 was k (by omega) (by omega)]
      refine ⟨by omega, ?_⟩
      have hds := domTo_succ v.length f was d k
      have hmk := hms k
      have hlen : ∀ i, i < v.length → (v.getD i []).length = w := fun i hi => by
        rw [show v.getD i [] = v[i] from by simp [hi]]
        exact hv _ (List.getElem_mem hi)
      cases hbt : was.testBit k <;> rw [hbt] at hds hmk <;> simp -dsimp only [aqT, aqU, aqN, ↓seqK, ↓blkK, ↓loopK, step, stepBin, Nat.reduceBEq, Nat.reduceBeqDiff, Nat.add_assoc nid, Nat.reduceAdd, reduceCtorEq, ↓reduceIte, Nat.reduceLeDiff, Nat.reduceBneDiff, Option.toList, ← Int.ofNat_tmod, ← Int.ofNat_tdiv, Nat.reduceLT, Int.cast_ofNat_Int, Int.reduceBEq, Int.reduceBNe, Int.reduceLT, Int.reduceLE, Int.reduceAdd, Int.reduceSub, Int.reduceMul, Int.reduceToNat, Int.reduceNeg, Int.reduceTMod, Int.reduceEq, not_false_eq_true, Int.reducePow, Int.reduceFDiv, Nat.reducePow, Nat.reduceSub, Nat.reduceMul, Nat.min_eq_left, Nat.reduceEqDiff, BEq.rfl, Int.tdiv_one, LN_succ, Bool.not_true, Bool.not_false, p1, p2, p3, p4, q1, q2, q3, q4, r1, r2, r3, r4, t1, t2, t3, t4, u1, u2, u3, u4]
      · have hzk := zc_or hkl hbt
        have hol := or_lt hlt hkl
        have hsk := shl64 k (by omega)
        have h2k : 1 <<< k < 4611686018427387904 := by rw [Nat.shiftLeft_eq, Nat.one_mul]; exact Nat.pow_lt_pow_right (a := 2) (by omega) (show k < 62 by omega)
        have ho := or64 was (1 <<< k) (by omega) h2k
        refine ⟨⟨by omega, by omega⟩, ⟨by omega, by omega⟩, ?_⟩
        refine CallX.pure (apart_cc _ _ _ (by rw [hlen last hla, hlen k hkl]) (by rw [hlen last hla]; omega)) ?_
        simp -dsimp only [aqT, aqU, aqN, ↓seqK, ↓blkK, ↓loopK, step, stepBin, Nat.reduceBEq, Nat.reduceBeqDiff, Nat.add_assoc nid, Nat.reduceAdd, reduceCtorEq, ↓reduceIte, Nat.reduceLeDiff, Nat.reduceBneDiff, Option.toList, ← Int.ofNat_tmod, ← Int.ofNat_tdiv, Nat.reduceLT, Int.cast_ofNat_Int, Int.reduceBEq, Int.reduceBNe, Int.reduceLT, Int.reduceLE, Int.reduceAdd, Int.reduceSub, Int.reduceMul, Int.reduceToNat, Int.reduceNeg, Int.reduceTMod, Int.reduceEq, not_false_eq_true, Int.reducePow, Int.reduceFDiv, Nat.reducePow, Nat.reduceSub, Nat.reduceMul, Nat.min_eq_left, Nat.reduceEqDiff, BEq.rfl, Int.tdiv_one, LN_succ, p1, p2, p3, p4, q1, q2, q3, q4, r1, r2, r3, r4, t1, t2, t3, t4, u1, u2, u3, u4]
        refine ⟨by omega, ?_⟩
        rw [hsk, ho]
        have hsub : subH (hsO b nl v (domTo v.length f was d k)) [(nid + 36, some (.box 141 [.int .i64 was, .int .i64 last])), (b + 4, boxNn v.length), (b + 8, boxRm (b + 20)), (b + 12, boxVs nl v), (b + 16, boxCf b), (b + 20, mapO v (domTo v.length f was d k))] := by
          refine subH_cons (by simp only [aqT, aqU, aqN, ↓seqK, ↓blkK, ↓loopK, step, stepBin, Nat.reduceBEq, Nat.reduceBeqDiff, Nat.add_assoc nid, Nat.reduceAdd, reduceCtorEq, ↓reduceIte, Nat.reduceLeDiff, Nat.reduceBneDiff, Option.toList, ← Int.ofNat_tmod, ← Int.ofNat_tdiv, Nat.reduceLT, Int.cast_ofNat_Int, Int.reduceBEq, Int.reduceBNe, Int.reduceLT, Int.reduceLE, Int.reduceAdd, Int.reduceSub, Int.reduceMul, Int.reduceToNat, Int.reduceNeg, Int.reduceTMod, Int.reduceEq, not_false_eq_true, Int.reducePow, Int.reduceFDiv, Nat.reducePow, Nat.reduceSub, Nat.reduceMul, Nat.min_eq_left, Nat.reduceEqDiff, BEq.rfl, Int.tdiv_one, LN_succ, p1, p2, p3, p4, q1, q2, q3, q4, r1, r2, r3, r4, t1, t2, t3, t4, u1, u2, u3, u4]) (subH_cons (by simp only [aqT, aqU, aqN, ↓seqK, ↓blkK, ↓loopK, step, stepBin, Nat.reduceBEq, Nat.reduceBeqDiff, Nat.add_assoc nid, Nat.reduceAdd, reduceCtorEq, ↓reduceIte, Nat.reduceLeDiff, Nat.reduceBneDiff, Option.toList, ← Int.ofNat_tmod, ← Int.ofNat_tdiv, Nat.reduceLT, Int.cast_ofNat_Int, Int.reduceBEq, Int.reduceBNe, Int.reduceLT, Int.reduceLE, Int.reduceAdd, Int.reduceSub, Int.reduceMul, Int.reduceToNat, Int.reduceNeg, Int.reduceTMod, Int.reduceEq, not_false_eq_true, Int.reducePow, Int.reduceFDiv, Nat.reducePow, Nat.reduceSub, Nat.reduceMul, Nat.min_eq_left, Nat.reduceEqDiff, BEq.rfl, Int.tdiv_one, LN_succ, p1, p2, p3, p4, q1, q2, q3, q4, r1, r2, r3, r4, t1, t2, t3, t4, u1, u2, u3, u4]) (subH_cons (by simp only [aqT, aqU, aqN, ↓seqK, ↓blkK, ↓loopK, step, stepBin, Nat.reduceBEq, Nat.reduceBeqDiff, Nat.add_assoc nid, Nat.reduceAdd, reduceCtorEq, ↓reduceIte, Nat.reduceLeDiff, Nat.reduceBneDiff, Option.toList, ← Int.ofNat_tmod, ← Int.ofNat_tdiv, Nat.reduceLT, Int.cast_ofNat_Int, Int.reduceBEq, Int.reduceBNe, Int.reduceLT, Int.reduceLE, Int.reduceAdd, Int.reduceSub, Int.reduceMul, Int.reduceToNat, Int.reduceNeg, Int.reduceTMod, Int.reduceEq, not_false_eq_true, Int.reducePow, Int.reduceFDiv, Nat.reducePow, Nat.reduceSub, Nat.reduceMul, Nat.min_eq_left, Nat.reduceEqDiff, BEq.rfl, Int.tdiv_one, LN_succ, p1, p2, p3, p4, q1, q2, q3, q4, r1, r2, r3, r4, t1, t2, t3, t4, u1, u2, u3, u4]) (subH_cons (by simp only [aqT, aqU, aqN, ↓seqK, ↓blkK, ↓loopK, step, stepBin, Nat.reduceBEq, Nat.reduceBeqDiff, Nat.add_assoc nid, Nat.reduceAdd, reduceCtorEq, ↓reduceIte, Nat.reduceLeDiff, Nat.reduceBneDiff, Option.toList, ← Int.ofNat_tmod, ← Int.ofNat_tdiv, Nat.reduceLT, Int.cast_ofNat_Int, Int.reduceBEq, Int.reduceBNe, Int.reduceLT, Int.reduceLE, Int.reduceAdd, Int.reduceSub, Int.reduceMul, Int.reduceToNat, Int.reduceNeg, Int.reduceTMod, Int.reduceEq, not_false_eq_true, Int.reducePow, Int.reduceFDiv, Nat.reducePow, Nat.reduceSub, Nat.reduceMul, Nat.min_eq_left, Nat.reduceEqDiff, BEq.rfl, Int.tdiv_one, LN_succ, p1, p2, p3, p4, q1, q2, q3, q4, r1, r2, r3, r4, t1, t2, t3, t4, u1, u2, u3, u4]) (subH_get (by simp only [aqT, aqU, aqN, ↓seqK, ↓blkK, ↓loopK, step, stepBin, Nat.reduceBEq, Nat.reduceBeqDiff, Nat.add_assoc nid, Nat.reduceAdd, reduceCtorEq, ↓reduceIte, Nat.reduceLeDiff, Nat.reduceBneDiff, Option.toList, ← Int.ofNat_tmod, ← Int.ofNat_tdiv, Nat.reduceLT, Int.cast_ofNat_Int, Int.reduceBEq, Int.reduceBNe, Int.reduceLT, Int.reduceLE, Int.reduceAdd, Int.reduceSub, Int.reduceMul, Int.reduceToNat, Int.reduceNeg, Int.reduceTMod, Int.reduceEq, not_false_eq_true, Int.reducePow, Int.reduceFDiv, Nat.reducePow, Nat.reduceSub, Nat.reduceMul, Nat.min_eq_left, Nat.reduceEqDiff, BEq.rfl, Int.tdiv_one, LN_succ, p1, p2, p3, p4, q1, q2, q3, q4, r1, r2, r3, r4, t1, t2, t3, t4, u1, u2, u3, u4])))))
        refine CallX.on (ih (was ||| 1 <<< k) k (domTo v.length f was d k) (nid + 192) (by omega) (by omega) hol hkl) hsub ?_
        have hlo : ∀ n, nid ≤ n → b + 4 < n ∧ b + 8 < n ∧ b + 12 < n ∧ b + 16 < n ∧ b + 20 < n := fun n h => ⟨by omega, by omega, by omega, by omega, by omega⟩
        refine ⟨?_, ?_, ?_⟩
        · have h20 := u9 192
          simp [lowH, lowBlk, lowAll, idsOf, idsOfs, keys, hsO, aqT, aqU, aqN, ↓seqK, ↓blkK, ↓loopK, step, stepBin, Nat.reduceBEq, Nat.reduceBeqDiff, Nat.add_assoc nid, Nat.reduceAdd, reduceCtorEq, ↓reduceIte, Nat.reduceLeDiff, Nat.reduceBneDiff, Option.toList, ← Int.ofNat_tmod, ← Int.ofNat_tdiv, Nat.reduceLT, Int.cast_ofNat_Int, Int.reduceBEq, Int.reduceBNe, Int.reduceLT, Int.reduceLE, Int.reduceAdd, Int.reduceSub, Int.reduceMul, Int.reduceToNat, Int.reduceNeg, Int.reduceTMod, Int.reduceEq, not_false_eq_true, Int.reducePow, Int.reduceFDiv, Nat.reducePow, Nat.reduceSub, Nat.reduceMul, Nat.min_eq_left, Nat.reduceEqDiff, BEq.rfl, Int.tdiv_one, LN_succ, p9, q9, r9, t9, h20, p1, p2, p3, p4, q1, q2, q3, q4, r1, r2, r3, r4, t1, t2, t3, t4, u1, u2, u3, u4]
        · unfold hsO mapO
          simp [freeOf, disj, keys, aqT, aqU, aqN, ↓seqK, ↓blkK, ↓loopK, step, stepBin, Nat.reduceBEq, Nat.reduceBeqDiff, Nat.add_assoc nid, Nat.reduceAdd, reduceCtorEq, ↓reduceIte, Nat.reduceLeDiff, Nat.reduceBneDiff, Option.toList, ← Int.ofNat_tmod, ← Int.ofNat_tdiv, Nat.reduceLT, Int.cast_ofNat_Int, Int.reduceBEq, Int.reduceBNe, Int.reduceLT, Int.reduceLE, Int.reduceAdd, Int.reduceSub, Int.reduceMul, Int.reduceToNat, Int.reduceNeg, Int.reduceTMod, Int.reduceEq, not_false_eq_true, Int.reducePow, Int.reduceFDiv, Nat.reducePow, Nat.reduceSub, Nat.reduceMul, Nat.min_eq_left, Nat.reduceEqDiff, BEq.rfl, Int.tdiv_one, LN_succ, p1, p2, p3, p4, q1, q2, q3, q4, r1, r2, r3, r4, t1, t2, t3, t4, u1, u2, u3, u4]
        rw [if_neg (by simp)] at hds
        rw [← hds]
        unfold mapO
        simp -dsimp only [aqT, aqU, aqN, ↓seqK, ↓blkK, ↓loopK, step, stepBin, Nat.reduceBEq, Nat.reduceBeqDiff, Nat.add_assoc nid, Nat.reduceAdd, reduceCtorEq, ↓reduceIte, Nat.reduceLeDiff, Nat.reduceBneDiff, Option.toList, ← Int.ofNat_tmod, ← Int.ofNat_tdiv, Nat.reduceLT, Int.cast_ofNat_Int, Int.reduceBEq, Int.reduceBNe, Int.reduceLT, Int.reduceLE, Int.reduceAdd, Int.reduceSub, Int.reduceMul, Int.reduceToNat, Int.reduceNeg, Int.reduceTMod, Int.reduceEq, not_false_eq_true, Int.reducePow, Int.reduceFDiv, Nat.reducePow, Nat.reduceSub, Nat.reduceMul, Nat.min_eq_left, Nat.reduceEqDiff, BEq.rfl, Int.tdiv_one, LN_succ, p1, p2, p3, p4, q1, q2, q3, q4, r1, r2, r3, r4, t1, t2, t3, t4, u1, u2, u3, u4]
        rw [show ((hamK (v.getD last []) (v.getD k []) (v.getD last []).length : Nat) : Int) = dV v last k from rfl]
        have hd1 := hbd last k
        have hc1 := hcb (was ||| 1 <<< k) k
        obtain ⟨c, hc⟩ : ∃ c, dV v last k + costV (dV v) v.length (was ||| 1 <<< k) k = c := ⟨_, rfl⟩
        rw [hc] at hmk
        rw [hc]
        refine ⟨by unfold inI64; omega, ?_⟩
        refine S2.dec (fun h5 => ?_) (fun h5 => ?_) <;> simp -dsimp only [aqT, aqU, aqN, ↓seqK, ↓blkK, ↓loopK, step, stepBin, Nat.reduceBEq, Nat.reduceBeqDiff, Nat.add_assoc nid, Nat.reduceAdd, reduceCtorEq, ↓reduceIte, Nat.reduceLeDiff, Nat.reduceBneDiff, Option.toList, ← Int.ofNat_tmod, ← Int.ofNat_tdiv, Nat.reduceLT, Int.cast_ofNat_Int, Int.reduceBEq, Int.reduceBNe, Int.reduceLT, Int.reduceLE, Int.reduceAdd, Int.reduceSub, Int.reduceMul, Int.reduceToNat, Int.reduceNeg, Int.reduceTMod, Int.reduceEq, not_false_eq_true, Int.reducePow, Int.reduceFDiv, Nat.reducePow, Nat.reduceSub, Nat.reduceMul, Nat.min_eq_left, Nat.reduceEqDiff, BEq.rfl, Int.tdiv_one, LN_succ, p1, p2, p3, p4, q1, q2, q3, q4, r1, r2, r3, r4, t1, t2, t3, t4, u1, u2, u3, u4]
        · rw [if_pos ⟨rfl, .inl h5⟩] at hmk
          refine ⟨by unfold inI64; omega, k + 1, ⟨by omega, by omega⟩, Cov.go [] [] ?_⟩
          simp [cvT, step, res, hmk, p1, p2, p3, p4, q1, q2, q3, q4, r1, r2, r3, r4, t1, t2, t3, t4, u1, u2, u3, u4]
          omega
        refine S2.dec (fun h6 => ?_) (fun h6 => ?_) <;> simp -dsimp only [aqT, aqU, aqN, ↓seqK, ↓blkK, ↓loopK, step, stepBin, Nat.reduceBEq, Nat.reduceBeqDiff, Nat.add_assoc nid, Nat.reduceAdd, reduceCtorEq, ↓reduceIte, Nat.reduceLeDiff, Nat.reduceBneDiff, Option.toList, ← Int.ofNat_tmod, ← Int.ofNat_tdiv, Nat.reduceLT, Int.cast_ofNat_Int, Int.reduceBEq, Int.reduceBNe, Int.reduceLT, Int.reduceLE, Int.reduceAdd, Int.reduceSub, Int.reduceMul, Int.reduceToNat, Int.reduceNeg, Int.reduceTMod, Int.reduceEq, not_false_eq_true, Int.reducePow, Int.reduceFDiv, Nat.reducePow, Nat.reduceSub, Nat.reduceMul, Nat.min_eq_left, Nat.reduceEqDiff, BEq.rfl, Int.tdiv_one, LN_succ, p1, p2, p3, p4, q1, q2, q3, q4, r1, r2, r3, r4, t1, t2, t3, t4, u1, u2, u3, u4]
        · rw [if_pos ⟨rfl, .inr h6⟩] at hmk
          refine ⟨by unfold inI64; omega, k + 1, ⟨by omega, by omega⟩, Cov.go [] [] ?_⟩
          simp [cvT, step, res, hmk, p1, p2, p3, p4, q1, q2, q3, q4, r1, r2, r3, r4, t1, t2, t3, t4, u1, u2, u3, u4]
          omega
        · rw [if_neg (by simp; omega)] at hmk
          refine ⟨by unfold inI64; omega, k + 1, ⟨by omega, by omega⟩, Cov.go [] [] ?_⟩
          simp [cvT, step, res, hmk, p1, p2, p3, p4, q1, q2, q3, q4, r1, r2, r3, r4, t1, t2, t3, t4, u1, u2, u3, u4]
          omega
      · refine ⟨by unfold inI64; omega, k + 1, ⟨by omega, by omega⟩, Cov.go [] [] ?_⟩
        rw [if_neg (by simp)] at hmk
        rw [if_pos rfl] at hds
        simp [cvT, step, res, hmk, hds, p1, p2, p3, p4, q1, q2, q3, q4, r1, r2, r3, r4, t1, t2, t3, t4, u1, u2, u3, u4]
        omega
    · obtain rfl : k = v.length := by omega
      have h36 : (nid + 36 == b + 8) = false := q3 36
      simp -dsimp only [aqT, aqU, aqN, ↓seqK, ↓blkK, ↓loopK, step, stepBin, Nat.reduceBEq, Nat.reduceBeqDiff, Nat.add_assoc nid, Nat.reduceAdd, reduceCtorEq, ↓reduceIte, Nat.reduceLeDiff, Nat.reduceBneDiff, Option.toList, ← Int.ofNat_tmod, ← Int.ofNat_tdiv, Nat.reduceLT, Int.cast_ofNat_Int, Int.reduceBEq, Int.reduceBNe, Int.reduceLT, Int.reduceLE, Int.reduceAdd, Int.reduceSub, Int.reduceMul, Int.reduceToNat, Int.reduceNeg, Int.reduceTMod, Int.reduceEq, not_false_eq_true, Int.reducePow, Int.reduceFDiv, Nat.reducePow, Nat.reduceSub, Nat.reduceMul, Nat.min_eq_left, Nat.reduceEqDiff, BEq.rfl, Int.tdiv_one, LN_succ, p1, p2, p3, p4, q1, q2, q3, q4, r1, r2, r3, r4, t1, t2, t3, t4, u1, u2, u3, u4]
      have ev : (fun p => if p = MK.p (was : Nat) (last : Nat) then m v.length else valO v p) = valO v := funext fun p => by
        by_cases hp : p = MK.p (was : Nat) (last : Nat)
        · rw [if_pos hp, hp]
          show m v.length = costV (dV v) v.length was last
          rw [← hm, ← cost_eq (by omega)]
        · rw [if_neg hp]
      rw [ev]
      refine ⟨⟨by unfold inI64; omega, by unfold inI64; omega⟩, ?_⟩
      refine RetOK.go [] [] (.inl rfl) ?_
      simp [a113, cvT, step, res, p1, p2, p3, p4, q1, q2, q3, q4, r1, r2, r3, r4, t1, t2, t3, t4, u1, u2, u3, u4]
      omega
end Go.Proofs.YthcldfmlfjomfaaDoor
namespace Go.Proofs
open Go.Shelf
def Tryd.lays160_ren : Go.Shelf.Ren := ⟨fun | 160 => 138 | 232 => 177 | 231 => 176 | 227 => 178 | 234 => 180 | 233 => 179 | 236 => 182 | 235 => 181 | 228 => 217 | 271 => 219 | 151 => 218 | 197 => 195 | 120 => 241 | 152 => 240 | 260 => 231 | 137 => 216 | 119 => 254 | 224 => 245 | 225 => 244 | 217 => 239 | 266 => 253 | n => n, fun | 9 => 9 | 4 => 4 | 3 => 3 | 5 => 5 | 117 => 189 | 116 => 188 | 0 => 0 | 124 => 192 | 21 => 21 | 105 => 200 | 46 => 95 | 119 => 239 | 139 => 242 | 138 => 241 | n => n, fun | 3 => 2 | 4 => 3 | n => n⟩
theorem Tryd.lays160 : Go.Proofs.Lays.n160 Tryd.prog Tryd.lays160_ren := {
  mixed := by kernel_rfl
  f119 := Tryd.func254.trans (congrArg some (by kernel_rfl))
  f120 := Tryd.func241.trans (congrArg some (by kernel_rfl))
  f137 := Tryd.func216.trans (congrArg some (by kernel_rfl))
  f151 := Tryd.func218.trans (congrArg some (by kernel_rfl))
  f152 := Tryd.func240.trans (congrArg some (by kernel_rfl))
  f160 := Tryd.func138.trans (congrArg some (by kernel_rfl))
  f197 := Tryd.func195.trans (congrArg some (by kernel_rfl))
  f217 := Tryd.func239.trans (congrArg some (by kernel_rfl))
  f224 := Tryd.func245.trans (congrArg some (by kernel_rfl))
  f225 := Tryd.func244.trans (congrArg some (by kernel_rfl))
  f227 := Tryd.func178.trans (congrArg some (by kernel_rfl))
  f228 := Tryd.func217.trans (congrArg some (by kernel_rfl))
  f231 := Tryd.func176.trans (congrArg some (by kernel_rfl))
  f232 := Tryd.func177.trans (congrArg some (by kernel_rfl))
  f233 := Tryd.func179.trans (congrArg some (by kernel_rfl))
  f234 := Tryd.func180.trans (congrArg some (by kernel_rfl))
  f235 := Tryd.func181.trans (congrArg some (by kernel_rfl))
  f236 := Tryd.func182.trans (congrArg some (by kernel_rfl))
  f260 := Tryd.func231.trans (congrArg some (by kernel_rfl))
  f266 := Tryd.func253.trans (congrArg some (by kernel_rfl))
  f271 := Tryd.func219.trans (congrArg some (by kernel_rfl))
  t0 := Tryd.underlying0
  a0 := Tryd.isAgg0
  z0 := Tryd.sizeOf0
  v0 := Tryd.zeroValue0
  t3 := Tryd.underlying3
  a3 := Tryd.isAgg3
  z3 := Tryd.sizeOf3
  v3 := Tryd.zeroValue3
  t4 := Tryd.underlying4
  a4 := Tryd.isAgg4
  z4 := Tryd.sizeOf4
  v4 := Tryd.zeroValue4
  t5 := Tryd.underlying5
  a5 := Tryd.isAgg5
  z5 := Tryd.sizeOf5
  v5 := Tryd.zeroValue5
  t9 := Tryd.underlying9
  a9 := Tryd.isAgg9
  z9 := Tryd.sizeOf9
  v9 := Tryd.zeroValue9
  t21 := Tryd.underlying21
  a21 := Tryd.isAgg21
  z21 := Tryd.sizeOf21
  v21 := Tryd.zeroValue21
  t46 := Tryd.underlying95
  a46 := Tryd.isAgg95
  z46 := Tryd.sizeOf95
  v46 := Tryd.zeroValue95
  t105 := Tryd.underlying200
  a105 := Tryd.isAgg200
  z105 := Tryd.sizeOf200
  v105 := Tryd.zeroValue200
  t116 := Tryd.underlying188
  a116 := Tryd.isAgg188
  z116 := Tryd.sizeOf188
  t117 := Tryd.underlying189
  a117 := Tryd.isAgg189
  z117 := Tryd.sizeOf189
  v117 := Tryd.zeroValue189
  t119 := Tryd.underlying239
  a119 := Tryd.isAgg239
  z119 := Tryd.sizeOf239
  t124 := Tryd.underlying192
  a124 := Tryd.isAgg192
  z124 := Tryd.sizeOf192
  v124 := Tryd.zeroValue192
  t138 := Tryd.underlying241
  a138 := Tryd.isAgg241
  z138 := Tryd.sizeOf241
  v138 := Tryd.zeroValue241
  t139 := Tryd.underlying242
  a139 := Tryd.isAgg242
  z139 := Tryd.sizeOf242
  v139 := Tryd.zeroValue242
  g3 := by kernel_rfl
  g4 := by kernel_rfl }
def Tryd.lays189_ren : Go.Shelf.Ren := ⟨fun | 189 => 128 | 125 => 169 | 257 => 168 | 128 => 211 | 129 => 212 | 294 => 202 | 295 => 203 | 296 => 204 | 297 => 205 | 298 => 206 | 299 => 207 | 216 => 208 | 300 => 209 | 301 => 210 | 328 => 233 | 329 => 234 | 330 => 235 | 331 => 236 | 332 => 237 | 215 => 189 | 343 => 252 | n => n, fun | 28 => 22 | 3 => 3 | 46 => 95 | 0 => 0 | 51 => 149 | 53 => 132 | 4 => 4 | 183 => 209 | 182 => 208 | 131 => 123 | 5 => 5 | 9 => 9 | 218 => 228 | 222 => 232 | 228 => 243 | 229 => 152 | n => n, fun | n => n⟩
theorem Tryd.lays189 : Go.Proofs.Lays.n189 Tryd.prog Tryd.lays189_ren := {
  mixed := by kernel_rfl
  f125 := Tryd.func169.trans (congrArg some (by kernel_rfl))
  f128 := Tryd.func211.trans (congrArg some (by kernel_rfl))
  f129 := Tryd.func212.trans (congrArg some (by kernel_rfl))
  f189 := Tryd.func128.trans (congrArg some (by kernel_rfl))
  f215 := Tryd.func189.trans (congrArg some (by kernel_rfl))
  f216 := Tryd.func208.trans (congrArg some (by kernel_rfl))
  f257 := Tryd.func168.trans (congrArg some (by kernel_rfl))
  f294 := Tryd.func202.trans (congrArg some (by kernel_rfl))
  f295 := Tryd.func203.trans (congrArg some (by kernel_rfl))
  f296 := Tryd.func204.trans (congrArg some (by kernel_rfl))
  f297 := Tryd.func205.trans (congrArg some (by kernel_rfl))
  f298 := Tryd.func206.trans (congrArg some (by kernel_rfl))
  f299 := Tryd.func207.trans (congrArg some (by kernel_rfl))
  f300 := Tryd.func209.trans (congrArg some (by kernel_rfl))
  f301 := Tryd.func210.trans (congrArg some (by kernel_rfl))
  f328 := Tryd.func233.trans (congrArg some (by kernel_rfl))
  f329 := Tryd.func234.trans (congrArg some (by kernel_rfl))
  f330 := Tryd.func235.trans (congrArg some (by kernel_rfl))
  f331 := Tryd.func236.trans (congrArg some (by kernel_rfl))
  f332 := Tryd.func237.trans (congrArg some (by kernel_rfl))
  f343 := Tryd.func252.trans (congrArg some (by kernel_rfl))
  t0 := Tryd.underlying0
  a0 := Tryd.isAgg0
  z0 := Tryd.sizeOf0
  v0 := Tryd.zeroValue0
  t3 := Tryd.underlying3
  a3 := Tryd.isAgg3
  z3 := Tryd.sizeOf3
  v3 := Tryd.zeroValue3
  t4 := Tryd.underlying4
  a4 := Tryd.isAgg4
  z4 := Tryd.sizeOf4
  v4 := Tryd.zeroValue4
  t5 := Tryd.underlying5
  a5 := Tryd.isAgg5
  z5 := Tryd.sizeOf5
  v5 := Tryd.zeroValue5
  t9 := Tryd.underlying9
  a9 := Tryd.isAgg9
  z9 := Tryd.sizeOf9
  v9 := Tryd.zeroValue9
  t28 := Tryd.underlying22
  a28 := Tryd.isAgg22
  z28 := Tryd.sizeOf22
  v28 := Tryd.zeroValue22
  t46 := Tryd.underlying95
  a46 := Tryd.isAgg95
  z46 := Tryd.sizeOf95
  v46 := Tryd.zeroValue95
  t51 := Tryd.underlying149
  a51 := Tryd.isAgg149
  z51 := Tryd.sizeOf149
  v51 := Tryd.zeroValue149
  t53 := Tryd.underlying132
  a53 := Tryd.isAgg132
  z53 := Tryd.sizeOf132
  v53 := Tryd.zeroValue132
  t131 := Tryd.underlying123
  a131 := Tryd.isAgg123
  z131 := Tryd.sizeOf123
  v131 := Tryd.zeroValue123
  t182 := Tryd.underlying208
  a182 := Tryd.isAgg208
  z182 := Tryd.sizeOf208
  v182 := Tryd.zeroValue208
  t183 := Tryd.underlying209
  a183 := Tryd.isAgg209
  z183 := Tryd.sizeOf209
  v183 := Tryd.zeroValue209
  t218 := Tryd.underlying228
  a218 := Tryd.isAgg228
  z218 := Tryd.sizeOf228
  v218 := Tryd.zeroValue228
  t222 := Tryd.underlying232
  a222 := Tryd.isAgg232
  z222 := Tryd.sizeOf232
  v222 := Tryd.zeroValue232
  t228 := Tryd.underlying243
  a228 := Tryd.isAgg243
  z228 := Tryd.sizeOf243
  v228 := Tryd.zeroValue243
  t229 := Tryd.underlying152
  a229 := Tryd.isAgg152
  z229 := Tryd.sizeOf152
  v229 := Tryd.zeroValue152 }
end Go.Proofs
namespace Go.Proofs.YthcldfmlfjomfaaDoor
open Go.RowKit Go.Shelf Go.Lib
theorem trim_cc (s cs : List UInt8) (nid : Nat) (hs : s.length ≤ 9223372036854775807) (hcs : cs.length < 4294967281) (ha : cs.all (fun b => decide (b.toNat < 128)) = true) : ACall Tryd.prog 138 [.str s, .str cs] [] nid (.str (Lib.trimS s cs)) [] :=
  acall_below (us := [.string ⟨s.toArray⟩, .string ⟨cs.toArray⟩]) nid Tryd.func138 (by kernel_rfl) (by kernel_rfl) rfl rfl (fun w => by
    have h := Any.strings_Trim_laid Tryd.lays160 (by kernel_rfl) ⟨s.toArray⟩ ⟨cs.toArray⟩ w (by simpa [ByteArray.size] using hs) (by simpa [ByteArray.size] using hcs) (ascii_of_all (by simpa using ha))
    have hf : Tryd.lays160_ren.f 160 = 138 := by kernel_rfl
    rw [hf] at h
    simpa using h)
end Go.Proofs.YthcldfmlfjomfaaDoor
namespace Go.Proofs.YthcldfmlfjomfaaDoor
open Go.RowKit
theorem bits_c (s : List UInt8) (nid : Nat) (hs : s.length ≤ 1099511627776) : ACall Tryd.prog 92 [.str s] [] nid (.bool (bitsOk s)) [] := by
  refine acall_run c92 (by simp [a92]) ?_
  simp -dsimp only [aqT, aqU, aqN, ↓seqK, ↓blkK, ↓loopK, step, stepBin, Nat.reduceBEq, Nat.reduceBeqDiff, Nat.add_assoc nid, Nat.reduceAdd, reduceCtorEq, ↓reduceIte, Nat.reduceLeDiff, Nat.reduceBneDiff, Option.toList, ← Int.ofNat_tmod, ← Int.ofNat_tdiv, Nat.reduceLT, a92]
  refine CallO.pure (trim_cc s [48, 49] _ (by omega) (by decide) (by decide)) ?_
  simp -dsimp only [aqT, aqU, aqN, ↓seqK, ↓blkK, ↓loopK, step, stepBin, Nat.reduceBEq, Nat.reduceBeqDiff, Nat.add_assoc nid, Nat.reduceAdd, reduceCtorEq, ↓reduceIte, Nat.reduceLeDiff, Nat.reduceBneDiff, Option.toList, ← Int.ofNat_tmod, ← Int.ofNat_tdiv, Nat.reduceLT]
  rw [trim_bits]
  refine RetOK.pure (.inl rfl) rfl ?_
  simp [cvT, step, res]
theorem bitsFaultR_c (s : List UInt8) (nid : Nat) (hs : s.length ≤ 1099511627776) : ACall Tryd.prog 90 [.str s] [] nid (.int .i64 (if bitsOk s = true then 0 else 9)) [] := by
  refine acall_run c90 (by simp [a90]) ?_
  simp -dsimp only [aqT, aqU, aqN, ↓seqK, ↓blkK, ↓loopK, step, stepBin, Nat.reduceBEq, Nat.reduceBeqDiff, Nat.add_assoc nid, Nat.reduceAdd, reduceCtorEq, ↓reduceIte, Nat.reduceLeDiff, Nat.reduceBneDiff, Option.toList, ← Int.ofNat_tmod, ← Int.ofNat_tdiv, Nat.reduceLT, a90]
  refine CallO.pure (trim_cc s [48, 49] _ (by omega) (by decide) (by decide)) ?_
  simp -dsimp only [aqT, aqU, aqN, ↓seqK, ↓blkK, ↓loopK, step, stepBin, Nat.reduceBEq, Nat.reduceBeqDiff, Nat.add_assoc nid, Nat.reduceAdd, reduceCtorEq, ↓reduceIte, Nat.reduceLeDiff, Nat.reduceBneDiff, Option.toList, ← Int.ofNat_tmod, ← Int.ofNat_tdiv, Nat.reduceLT]
  rw [trim_bits]
  cases h : bitsOk s <;> simp -dsimp only [aqT, aqU, aqN, ↓seqK, ↓blkK, ↓loopK, step, stepBin, Nat.reduceBEq, Nat.reduceBeqDiff, Nat.add_assoc nid, Nat.reduceAdd, reduceCtorEq, ↓reduceIte, Nat.reduceLeDiff, Nat.reduceBneDiff, Option.toList, ← Int.ofNat_tmod, ← Int.ofNat_tdiv, Nat.reduceLT]
  · refine RetOK.pure (.inl rfl) rfl ?_
    simp [cvT, step, res]
  · refine RetOK.pure (.inl rfl) rfl ?_
    simp [cvT, step, res]
end Go.Proofs.YthcldfmlfjomfaaDoor
namespace Go.Proofs.YthcldfmlfjomfaaDoor
open Go.RowKit
theorem len_ne {a b : Int} (h : (a != b) = true) : a ≠ b := by simpa using h
set_option maxHeartbeats 4000000 in
theorem checkVectors_all (nl : Bool) (n : Int) (v : List (List UInt8)) (nid : Nat) (hv : v.length ≤ 1000000000) (hr : ShortRows 1000000000 v) : ACall Tryd.prog 26 [.int .i64 n, litS nl v] [] nid (.int .i64 (patV n v)) [] := by
  refine acall_run c26 (by simp [a26]) ?_
  unfold litS
  simp -dsimp only [aqT, aqU, aqN, ↓seqK, ↓blkK, ↓loopK, step, stepBin, Nat.reduceBEq, Nat.reduceBeqDiff, Nat.add_assoc nid, Nat.reduceAdd, reduceCtorEq, ↓reduceIte, Nat.reduceLeDiff, Nat.reduceBneDiff, Option.toList, ← Int.ofNat_tmod, ← Int.ofNat_tdiv, Nat.reduceLT, a26]
  refine CallO.pure (out_c _ _ _ _) ?_
  cases h0 : outB n 1 100 <;> simp -dsimp only [aqT, aqU, aqN, ↓seqK, ↓blkK, ↓loopK, step, stepBin, Nat.reduceBEq, Nat.reduceBeqDiff, Nat.add_assoc nid, Nat.reduceAdd, reduceCtorEq, ↓reduceIte, Nat.reduceLeDiff, Nat.reduceBneDiff, Option.toList, ← Int.ofNat_tmod, ← Int.ofNat_tdiv, Nat.reduceLT, Int.cast_ofNat_Int, Int.reduceBEq, Int.reduceBNe, Int.reduceLT, Int.reduceLE, Int.reduceAdd, Int.reduceSub, Int.reduceMul, Int.reduceToNat, Int.reduceNeg, Int.reduceTMod, Int.reduceEq, not_false_eq_true, Int.reducePow, Int.reduceFDiv, Nat.reducePow, Nat.reduceSub, Nat.reduceMul, Nat.min_eq_left, Nat.reduceEqDiff, BEq.rfl, Int.tdiv_one, LN_succ]
  case true =>
    have e : patV n v = 1 := by unfold patV; rw [if_pos h0]
    rw [e]
    refine RetOK.pure (.inl rfl) rfl ?_
    simp [cvT, step, res]
  refine S2.dec (fun h1 => ?_) (fun h1 => ?_) <;> simp -dsimp only [aqT, aqU, aqN, ↓seqK, ↓blkK, ↓loopK, step, stepBin, Nat.reduceBEq, Nat.reduceBeqDiff, Nat.add_assoc nid, Nat.reduceAdd, reduceCtorEq, ↓reduceIte, Nat.reduceLeDiff, Nat.reduceBneDiff, Option.toList, ← Int.ofNat_tmod, ← Int.ofNat_tdiv, Nat.reduceLT, Int.cast_ofNat_Int, Int.reduceBEq, Int.reduceBNe, Int.reduceLT, Int.reduceLE, Int.reduceAdd, Int.reduceSub, Int.reduceMul, Int.reduceToNat, Int.reduceNeg, Int.reduceTMod, Int.reduceEq, not_false_eq_true, Int.reducePow, Int.reduceFDiv, Nat.reducePow, Nat.reduceSub, Nat.reduceMul, Nat.min_eq_left, Nat.reduceEqDiff, BEq.rfl, Int.tdiv_one, LN_succ]
  · have e : patV n v = 2 := by unfold patV; rw [if_neg (by simp [h0]), if_pos (by omega)]
    rw [e]
    refine RetOK.pure (.inl rfl) rfl ?_
    simp [cvT, step, res]
  have eV : patV n v = firstBad (patRow n) v := by unfold patV; rw [if_neg (by simp [h0]), if_neg (by omega)]
  rw [eV]
  refine LP.mkP (fun k : Nat => k ≤ v.length ∧ firstBad (patRow n) (v.take k) = 0) (fun k : Nat => ⟨[(16, .int .i64 k), (15, .int .i64 v.length), (14, .lit nl v.length [.s fun i => v.getD i []]), (0, .int .i64 n)], [], nid + 100, nid⟩) (fun k => v.length + 1 - k) 0 ⟨by omega, rfl⟩ (Cov.go [] [] ?_) (fun k hk => ?_)
  · simp [cvT, step, res]
  obtain ⟨hk, hb⟩ := hk
  simp -dsimp only [aqT, aqU, aqN, ↓seqK, ↓blkK, ↓loopK, step, stepBin, Nat.reduceBEq, Nat.reduceBeqDiff, Nat.add_assoc nid, Nat.reduceAdd, reduceCtorEq, ↓reduceIte, Nat.reduceLeDiff, Nat.reduceBneDiff, Option.toList, ← Int.ofNat_tmod, ← Int.ofNat_tdiv, Nat.reduceLT, Int.cast_ofNat_Int, Int.reduceBEq, Int.reduceBNe, Int.reduceLT, Int.reduceLE, Int.reduceAdd, Int.reduceSub, Int.reduceMul, Int.reduceToNat, Int.reduceNeg, Int.reduceTMod, Int.reduceEq, not_false_eq_true, Int.reducePow, Int.reduceFDiv, Nat.reducePow, Nat.reduceSub, Nat.reduceMul, Nat.min_eq_left, Nat.reduceEqDiff, BEq.rfl, Int.tdiv_one, LN_succ]
  refine S2.dec (fun h2 => ?_) (fun h2 => ?_) <;> simp -dsimp only [aqT, aqU, aqN, ↓seqK, ↓blkK, ↓loopK, step, stepBin, Nat.reduceBEq, Nat.reduceBeqDiff, Nat.add_assoc nid, Nat.reduceAdd, reduceCtorEq, ↓reduceIte, Nat.reduceLeDiff, Nat.reduceBneDiff, Option.toList, ← Int.ofNat_tmod, ← Int.ofNat_tdiv, Nat.reduceLT, Int.cast_ofNat_Int, Int.reduceBEq, Int.reduceBNe, Int.reduceLT, Int.reduceLE, Int.reduceAdd, Int.reduceSub, Int.reduceMul, Int.reduceToNat, Int.reduceNeg, Int.reduceTMod, Int.reduceEq, not_false_eq_true, Int.reducePow, Int.reduceFDiv, Nat.reducePow, Nat.reduceSub, Nat.reduceMul, Nat.min_eq_left, Nat.reduceEqDiff, BEq.rfl, Int.tdiv_one, LN_succ]
  · have hkl : k < v.length := by omega
    obtain ⟨bad, good⟩ := rowsFB (d := []) hkl hb
    have hrl := hr.at k
    generalize hrr : v.getD k [] = r at *
    refine ⟨by omega, S2.intro (fun h3 => ?_) (fun h3 => ?_)⟩ <;> simp -dsimp only [aqT, aqU, aqN, ↓seqK, ↓blkK, ↓loopK, step, stepBin, Nat.reduceBEq, Nat.reduceBeqDiff, Nat.add_assoc nid, Nat.reduceAdd, reduceCtorEq, ↓reduceIte, Nat.reduceLeDiff, Nat.reduceBneDiff, Option.toList, ← Int.ofNat_tmod, ← Int.ofNat_tdiv, Nat.reduceLT, Int.cast_ofNat_Int, Int.reduceBEq, Int.reduceBNe, Int.reduceLT, Int.reduceLE, Int.reduceAdd, Int.reduceSub, Int.reduceMul, Int.reduceToNat, Int.reduceNeg, Int.reduceTMod, Int.reduceEq, not_false_eq_true, Int.reducePow, Int.reduceFDiv, Nat.reducePow, Nat.reduceSub, Nat.reduceMul, Nat.min_eq_left, Nat.reduceEqDiff, BEq.rfl, Int.tdiv_one, LN_succ]
    · have e : patRow n r = 3 := by unfold patRow; rw [if_neg (len_ne h3)]
      rw [bad (by rw [e]; decide), e]
      refine RetOK.pure (.inl rfl) rfl ?_
      simp [cvT, step, res]
    have h3' : (r.length : Int) = n := by simpa using h3
    refine CallO.pure (bits_c r _ (by omega)) ?_
    cases h4 : bitsOk r <;> simp -dsimp only [aqT, aqU, aqN, ↓seqK, ↓blkK, ↓loopK, step, stepBin, Nat.reduceBEq, Nat.reduceBeqDiff, Nat.add_assoc nid, Nat.reduceAdd, reduceCtorEq, ↓reduceIte, Nat.reduceLeDiff, Nat.reduceBneDiff, Option.toList, ← Int.ofNat_tmod, ← Int.ofNat_tdiv, Nat.reduceLT, Int.cast_ofNat_Int, Int.reduceBEq, Int.reduceBNe, Int.reduceLT, Int.reduceLE, Int.reduceAdd, Int.reduceSub, Int.reduceMul, Int.reduceToNat, Int.reduceNeg, Int.reduceTMod, Int.reduceEq, not_false_eq_true, Int.reducePow, Int.reduceFDiv, Nat.reducePow, Nat.reduceSub, Nat.reduceMul, Nat.min_eq_left, Nat.reduceEqDiff, BEq.rfl, Int.tdiv_one, LN_succ, Bool.not_true, Bool.not_false]
    · have e : patRow n r = 9 := by unfold patRow; rw [if_pos h3', if_neg (by simp [h4])]
      rw [bad (by rw [e]; decide), e]
      refine RetOK.pure (.inl rfl) rfl ?_
      simp [cvT, step, res]
    · have e : patRow n r = 0 := by unfold patRow; rw [if_pos h3', if_pos h4]
      refine ⟨by unfold inI64; omega, k + 1, ⟨⟨by omega, good e⟩, by omega⟩, Cov.go [] [] ?_⟩
      simp [cvT, step, res]
  · have hkn : k = v.length := by omega
    rw [hkn, List.take_length] at hb
    rw [hb]
    refine RetOK.pure (.inl rfl) rfl ?_
    simp [cvT, step, res]
set_option maxHeartbeats 4000000 in
theorem patternsFault_all (nl : Bool) (n : Int) (v : List (List UInt8)) (nid : Nat) (hv : v.length ≤ 1000000000) (hr : ShortRows 1000000000 v) : ACall Tryd.prog 24 [.int .i64 n, litS nl v] [] nid (.int .i64 (patV n v)) [] := by
  refine acall_run c24 (by simp [a24]) ?_
  unfold litS
  simp -dsimp only [aqT, aqU, aqN, ↓seqK, ↓blkK, ↓loopK, step, stepBin, Nat.reduceBEq, Nat.reduceBeqDiff, Nat.add_assoc nid, Nat.reduceAdd, reduceCtorEq, ↓reduceIte, Nat.reduceLeDiff, Nat.reduceBneDiff, Option.toList, ← Int.ofNat_tmod, ← Int.ofNat_tdiv, Nat.reduceLT, a24]
  refine CallO.pure (in_c _ _ _ _) ?_
  cases h0 : outB n 1 100 <;> simp -dsimp only [aqT, aqU, aqN, ↓seqK, ↓blkK, ↓loopK, step, stepBin, Nat.reduceBEq, Nat.reduceBeqDiff, Nat.add_assoc nid, Nat.reduceAdd, reduceCtorEq, ↓reduceIte, Nat.reduceLeDiff, Nat.reduceBneDiff, Option.toList, ← Int.ofNat_tmod, ← Int.ofNat_tdiv, Nat.reduceLT, Int.cast_ofNat_Int, Int.reduceBEq, Int.reduceBNe, Int.reduceLT, Int.reduceLE, Int.reduceAdd, Int.reduceSub, Int.reduceMul, Int.reduceToNat, Int.reduceNeg, Int.reduceTMod, Int.reduceEq, not_false_eq_true, Int.reducePow, Int.reduceFDiv, Nat.reducePow, Nat.reduceSub, Nat.reduceMul, Nat.min_eq_left, Nat.reduceEqDiff, BEq.rfl, Int.tdiv_one, LN_succ, Bool.not_true, Bool.not_false]
  case true =>
    have e : patV n v = 1 := by unfold patV; rw [if_pos h0]
    rw [e]
    refine RetOK.pure (.inl rfl) rfl ?_
    simp [cvT, step, res]
  refine S2.dec (fun h1 => ?_) (fun h1 => ?_) <;> simp -dsimp only [aqT, aqU, aqN, ↓seqK, ↓blkK, ↓loopK, step, stepBin, Nat.reduceBEq, Nat.reduceBeqDiff, Nat.add_assoc nid, Nat.reduceAdd, reduceCtorEq, ↓reduceIte, Nat.reduceLeDiff, Nat.reduceBneDiff, Option.toList, ← Int.ofNat_tmod, ← Int.ofNat_tdiv, Nat.reduceLT, Int.cast_ofNat_Int, Int.reduceBEq, Int.reduceBNe, Int.reduceLT, Int.reduceLE, Int.reduceAdd, Int.reduceSub, Int.reduceMul, Int.reduceToNat, Int.reduceNeg, Int.reduceTMod, Int.reduceEq, not_false_eq_true, Int.reducePow, Int.reduceFDiv, Nat.reducePow, Nat.reduceSub, Nat.reduceMul, Nat.min_eq_left, Nat.reduceEqDiff, BEq.rfl, Int.tdiv_one, LN_succ]
  · have e : patV n v = 2 := by unfold patV; rw [if_neg (by simp [h0]), if_pos (by omega)]
    rw [e]
    refine RetOK.pure (.inl rfl) rfl ?_
    simp [cvT, step, res]
  have eV : patV n v = firstBad (patRow n) v := by unfold patV; rw [if_neg (by simp [h0]), if_neg (by omega)]
  rw [eV]
  refine LP.mkP (fun k : Nat => k ≤ v.length ∧ firstBad (patRow n) (v.take k) = 0) (fun k : Nat => ⟨[(18, .int .i64 k), (17, .int .i64 v.length), (16, .lit nl v.length [.s fun i => v.getD i []]), (0, .int .i64 n)], [], nid + 100, nid⟩) (fun k => v.length + 1 - k) 0 ⟨by omega, rfl⟩ (Cov.go [] [] ?_) (fun k hk => ?_)
  · simp [cvT, step, res]
  obtain ⟨hk, hb⟩ := hk
  simp -dsimp only [aqT, aqU, aqN, ↓seqK, ↓blkK, ↓loopK, step, stepBin, Nat.reduceBEq, Nat.reduceBeqDiff, Nat.add_assoc nid, Nat.reduceAdd, reduceCtorEq, ↓reduceIte, Nat.reduceLeDiff, Nat.reduceBneDiff, Option.toList, ← Int.ofNat_tmod, ← Int.ofNat_tdiv, Nat.reduceLT, Int.cast_ofNat_Int, Int.reduceBEq, Int.reduceBNe, Int.reduceLT, Int.reduceLE, Int.reduceAdd, Int.reduceSub, Int.reduceMul, Int.reduceToNat, Int.reduceNeg, Int.reduceTMod, Int.reduceEq, not_false_eq_true, Int.reducePow, Int.reduceFDiv, Nat.reducePow, Nat.reduceSub, Nat.reduceMul, Nat.min_eq_left, Nat.reduceEqDiff, BEq.rfl, Int.tdiv_one, LN_succ]
  refine S2.dec (fun h2 => ?_) (fun h2 => ?_) <;> simp -dsimp only [aqT, aqU, aqN, ↓seqK, ↓blkK, ↓loopK, step, stepBin, Nat.reduceBEq, Nat.reduceBeqDiff, Nat.add_assoc nid, Nat.reduceAdd, reduceCtorEq, ↓reduceIte, Nat.reduceLeDiff, Nat.reduceBneDiff, Option.toList, ← Int.ofNat_tmod, ← Int.ofNat_tdiv, Nat.reduceLT, Int.cast_ofNat_Int, Int.reduceBEq, Int.reduceBNe, Int.reduceLT, Int.reduceLE, Int.reduceAdd, Int.reduceSub, Int.reduceMul, Int.reduceToNat, Int.reduceNeg, Int.reduceTMod, Int.reduceEq, not_false_eq_true, Int.reducePow, Int.reduceFDiv, Nat.reducePow, Nat.reduceSub, Nat.reduceMul, Nat.min_eq_left, Nat.reduceEqDiff, BEq.rfl, Int.tdiv_one, LN_succ]
  · have hkl : k < v.length := by omega
    obtain ⟨bad, good⟩ := rowsFB (d := []) hkl hb
    have hrl := hr.at k
    generalize hrr : v.getD k [] = r at *
    refine ⟨by omega, S2.intro (fun h3 => ?_) (fun h3 => ?_)⟩ <;> simp -dsimp only [aqT, aqU, aqN, ↓seqK, ↓blkK, ↓loopK, step, stepBin, Nat.reduceBEq, Nat.reduceBeqDiff, Nat.add_assoc nid, Nat.reduceAdd, reduceCtorEq, ↓reduceIte, Nat.reduceLeDiff, Nat.reduceBneDiff, Option.toList, ← Int.ofNat_tmod, ← Int.ofNat_tdiv, Nat.reduceLT, Int.cast_ofNat_Int, Int.reduceBEq, Int.reduceBNe, Int.reduceLT, Int.reduceLE, Int.reduceAdd, Int.reduceSub, Int.reduceMul, Int.reduceToNat, Int.reduceNeg, Int.reduceTMod, Int.reduceEq, not_false_eq_true, Int.reducePow, Int.reduceFDiv, Nat.reducePow, Nat.reduceSub, Nat.reduceMul, Nat.min_eq_left, Nat.reduceEqDiff, BEq.rfl, Int.tdiv_one, LN_succ]
    · have e : patRow n r = 3 := by unfold patRow; rw [if_neg (len_ne h3)]
      rw [bad (by rw [e]; decide), e]
      refine RetOK.pure (.inl rfl) rfl ?_
      simp [cvT, step, res]
    have h3' : (r.length : Int) = n := by simpa using h3
    refine CallO.pure (bitsFaultR_c r _ (by omega)) ?_
    cases h4 : bitsOk r <;> simp -dsimp only [aqT, aqU, aqN, ↓seqK, ↓blkK, ↓loopK, step, stepBin, Nat.reduceBEq, Nat.reduceBeqDiff, Nat.add_assoc nid, Nat.reduceAdd, reduceCtorEq, ↓reduceIte, Nat.reduceLeDiff, Nat.reduceBneDiff, Option.toList, ← Int.ofNat_tmod, ← Int.ofNat_tdiv, Nat.reduceLT, Int.cast_ofNat_Int, Int.reduceBEq, Int.reduceBNe, Int.reduceLT, Int.reduceLE, Int.reduceAdd, Int.reduceSub, Int.reduceMul, Int.reduceToNat, Int.reduceNeg, Int.reduceTMod, Int.reduceEq, not_false_eq_true, Int.reducePow, Int.reduceFDiv, Nat.reducePow, Nat.reduceSub, Nat.reduceMul, Nat.min_eq_left, Nat.reduceEqDiff, BEq.rfl, Int.tdiv_one, LN_succ]
    · have e : patRow n r = 9 := by unfold patRow; rw [if_pos h3', if_neg (by simp [h4])]
      rw [bad (by rw [e]; decide), e]
      refine RetOK.pure (.inl rfl) rfl ?_
      simp [cvT, step, res]
    · have e : patRow n r = 0 := by unfold patRow; rw [if_pos h3', if_pos h4]
      refine ⟨by unfold inI64; omega, k + 1, ⟨⟨by omega, good e⟩, by omega⟩, Cov.go [] [] ?_⟩
      simp [cvT, step, res]
  · have hkn : k = v.length := by omega
    rw [hkn, List.take_length] at hb
    rw [hb]
    refine RetOK.pure (.inl rfl) rfl ?_
    simp [cvT, step, res]
end Go.Proofs.YthcldfmlfjomfaaDoor
