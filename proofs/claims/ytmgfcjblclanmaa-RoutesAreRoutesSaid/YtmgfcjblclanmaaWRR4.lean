/-
  The functions' forms for the abstract machine, each checked against the program's form.
-/
import Derived.Test.YtmgfcjblclanmaaWRR1
import Derived.Test.YtmgfcjblclanmaaProg
import Derived.Test.YtmgfcjblclanmaaWRR3
import Derived.Lib.Bytealg
import Derived.Laws.Externs
import Derived.Sort.EncStr
import Derived.RangeFuncBox
import Derived.RangeFuncWrites
import Derived.RangeFuncLeaves
import Derived.Shelf.Abstract
import Derived.WalkKit
import Derived.OwnWalkIn
import Derived.TacticsInMore
import Derived.LoopNIn
import Derived.LoopIn
import Derived.Maps.AppendAt
import Derived.Ground.NamesProg
import Derived.Shelf.Strings.OnBuilder
import Derived.Shelf.Strings.Search3
import Derived.Shelf.Sort.Plain
set_option linter.unusedVariables false
set_option linter.unusedSimpArgs false
set_option maxRecDepth 100000
namespace Go.Proofs.Ytmgfcjblclanmaa
def a3 : AFn := ⟨66, [.t 2], .seq (.ops [⟨(some 2), none, .mv (.c (.bool false))⟩])
 (.seq (.ops [⟨(some 11), none, .mv (.t 0)⟩, ⟨(some 12), none, .build [(.lit true 0 []), (.int .i64 0)] [(0, 1, (.t 11))]⟩, ⟨(some 13), none, .box 25 (.t 12)⟩, ⟨(some 3), none, .mv (.t 13)⟩])
 (.seq (.ops [⟨(some 14), none, .mv (.t 3)⟩, ⟨(some 15), none, .call 9 [(.t 14)]⟩, ⟨(some 4), none, .mv (.t 15)⟩])
 (.seq (.seq (.ops [⟨(some 16), none, .mv (.t 3)⟩, ⟨(some 17), none, .call 10 [(.t 16), (.c (.int .i64 20))]⟩])
 (.cond (.t 17) (.ops [⟨(some 18), none, .build [(.int .i64 0), (.int .i64 0)] [(0, 1, (.c (.int .i64 1)))]⟩, ⟨(some 19), none, .bslice 31 2 1 [(.int .i64 0), (.int .i64 0)] [(0, 2, (.t 18))]⟩, ⟨(some 20), none, .call 11 [(.t 19), (.c (.int .i64 10))]⟩, ⟨(some 4), none, .mv (.t 20)⟩]) (.skip)))
 (.seq (.ops [⟨(some 22), none, .mv (.t 4)⟩, ⟨(some 23), none, .call 12 [(.t 22)]⟩, ⟨(some 21), none, .mv (.t 23)⟩, ⟨(some 24), none, .ext (.t 21) 0⟩, ⟨(some 25), none, .ext (.t 21) 1⟩, ⟨(some 26), none, .ext (.t 21) 2⟩, ⟨(some 5), none, .mv (.t 24)⟩, ⟨(some 6), none, .mv (.t 25)⟩, ⟨(some 7), none, .mv (.t 26)⟩])
 (.seq (.seq (.ops [⟨(some 27), none, .mv (.t 4)⟩, ⟨(some 28), none, .call 13 [(.t 27)]⟩, ⟨(some 8), none, .mv (.t 28)⟩])
 (.seq (.ops [⟨(some 29), none, .mv (.t 8)⟩, ⟨(some 30), none, .bin 0 .neq (.t 29) (.c (.int .i64 0))⟩])
 (.cond (.t 30) (.seq (.ops [⟨(some 31), none, .mv (.t 7)⟩, ⟨(some 32), none, .mv (.t 8)⟩, ⟨(some 33), none, .bin 0 .eql (.t 31) (.t 32)⟩, ⟨(some 34), none, .mv (.t 33)⟩, ⟨(some 35), (some (34, true)), .mv (.t 5)⟩, ⟨(some 36), (some (34, true)), .len false (.t 35)⟩, ⟨(some 37), (some (34, true)), .bin 0 .eql (.t 36) (.c (.int .i64 0))⟩, ⟨(some 38), none, .pick (.t 34) (.t 37) (.c (.bool false))⟩, ⟨(some 39), none, .mv (.t 38)⟩, ⟨(some 40), (some (39, true)), .mv (.t 6)⟩, ⟨(some 41), (some (39, true)), .bin 0 .eql (.t 40) (.c (.int .i64 0))⟩, ⟨(some 42), none, .pick (.t 39) (.t 41) (.c (.bool false))⟩, ⟨(some 43), none, .mv (.t 42)⟩, ⟨(some 44), (some (43, true)), .call 14 []⟩, ⟨(some 45), none, .pick (.t 43) (.t 44) (.c (.bool false))⟩, ⟨(some 2), none, .mv (.t 45)⟩])
 (.ret)) (.skip))))
 (.seq (.ops [⟨(some 47), none, .mv (.t 4)⟩, ⟨(some 48), none, .call 15 [(.t 47)]⟩, ⟨(some 46), none, .mv (.t 48)⟩, ⟨(some 49), none, .ext (.t 46) 0⟩, ⟨(some 50), none, .ext (.t 46) 1⟩, ⟨(some 9), none, .mv (.t 49)⟩, ⟨(some 10), none, .mv (.t 50)⟩])
 (.seq (.ops [⟨(some 51), none, .mv (.t 7)⟩, ⟨(some 52), none, .bin 0 .eql (.t 51) (.c (.int .i64 0))⟩, ⟨(some 53), none, .mv (.t 52)⟩, ⟨(some 54), (some (53, true)), .mv (.t 5)⟩, ⟨(some 55), (some (53, true)), .mv (.t 9)⟩, ⟨(some 56), (some (53, true)), .call 16 [(.t 54), (.t 55)]⟩, ⟨(some 57), none, .pick (.t 53) (.t 56) (.c (.bool false))⟩, ⟨(some 58), none, .mv (.t 57)⟩, ⟨(some 59), (some (58, true)), .mv (.t 6)⟩, ⟨(some 60), (some (58, true)), .mv (.t 10)⟩, ⟨(some 61), (some (58, true)), .bin 0 .eql (.t 59) (.t 60)⟩, ⟨(some 62), none, .pick (.t 58) (.t 61) (.c (.bool false))⟩, ⟨(some 63), none, .mv (.t 62)⟩, ⟨(some 64), (some (63, true)), .call 14 []⟩, ⟨(some 65), none, .pick (.t 63) (.t 64) (.c (.bool false))⟩, ⟨(some 2), none, .mv (.t 65)⟩])
 (.ret))))))))⟩
theorem c3 : compF Go.Proofs.Try.prog 3 = some a3 := by kernel_rfl
def a6 : AFn := ⟨82, [.t 2], .seq (.ops [⟨(some 2), none, .mv (.c (.bool false))⟩])
 (.seq (.ops [⟨(some 11), none, .mv (.t 0)⟩, ⟨(some 12), none, .build [(.lit true 0 []), (.int .i64 0)] [(0, 1, (.t 11))]⟩, ⟨(some 13), none, .box 25 (.t 12)⟩, ⟨(some 3), none, .mv (.t 13)⟩])
 (.seq (.ops [⟨(some 14), none, .mv (.t 3)⟩, ⟨(some 15), none, .call 9 [(.t 14)]⟩, ⟨(some 4), none, .alloc 26 [(.lit true 0 [])]⟩, ⟨none, none, .store 1 (.t 4) (.t 15)⟩])
 (.seq (.seq (.ops [⟨(some 16), none, .load none (.t 4)⟩, ⟨(some 17), none, .call 13 [(.t 16)]⟩, ⟨(some 18), none, .bin 0 .neq (.t 17) (.c (.int .i64 0))⟩])
 (.cond (.t 18) (.seq (.ops [⟨(some 19), none, .call 38 []⟩, ⟨(some 2), none, .mv (.t 19)⟩])
 (.ret)) (.skip)))
 (.seq (.ops [⟨(some 21), none, .load none (.t 4)⟩, ⟨(some 22), none, .call 12 [(.t 21)]⟩, ⟨(some 20), none, .mv (.t 22)⟩, ⟨(some 23), none, .ext (.t 20) 0⟩, ⟨(some 24), none, .ext (.t 20) 1⟩, ⟨(some 25), none, .ext (.t 20) 2⟩, ⟨(some 5), none, .alloc 22 [(.lit true 0 [])]⟩, ⟨none, none, .store 1 (.t 5) (.t 23)⟩, ⟨(some 6), none, .mv (.t 24)⟩, ⟨(some 7), none, .mv (.t 25)⟩])
 (.seq (.seq (.any [(⟨(some 26), none, .mv (.t 7)⟩, []), (⟨(some 27), none, .bin 0 .neq (.t 26) (.c (.int .i64 0))⟩, []), (⟨(some 28), none, .mv (.t 27)⟩, []), (⟨(some 29), (some (28, false)), .load none (.t 5)⟩, []), (⟨(some 30), (some (28, false)), .len false (.t 29)⟩, []), (⟨(some 31), (some (28, false)), .load none (.t 4)⟩, [3, 4]), (⟨(some 32), (some (28, false)), .len false (.t 31)⟩, [3, 4]), (⟨(some 33), (some (28, false)), .bin 0 .neq (.t 30) (.t 32)⟩, []), (⟨(some 34), none, .pick (.t 28) (.c (.bool true)) (.t 33)⟩, []), (⟨(some 35), none, .mv (.t 34)⟩, []), (⟨(some 36), (some (35, false)), .load none (.t 5)⟩, []), (⟨(some 37), (some (35, false)), .iadr 1 (.t 36) (.c (.int .i64 0))⟩, []), (⟨(some 38), (some (35, false)), .load none (.t 37)⟩, []), (⟨(some 39), (some (35, false)), .bin 0 .neq (.t 38) (.c (.int .i64 0))⟩, []), (⟨(some 40), none, .pick (.t 35) (.c (.bool true)) (.t 39)⟩, []), (⟨(some 41), none, .mv (.t 40)⟩, []), (⟨(some 42), (some (41, false)), .load none (.t 5)⟩, []), (⟨(some 43), (some (41, false)), .call 41 [(.t 42)]⟩, []), (⟨(some 44), (some (41, false)), .call 40 [(.t 43)]⟩, []), (⟨(some 45), (some (41, false)), .call 39 [(.t 44)]⟩, []), (⟨(some 46), (some (41, false)), .len false (.t 45)⟩, []), (⟨(some 47), (some (41, false)), .load none (.t 5)⟩, [16, 17, 18, 19, 20]), (⟨(some 48), (some (41, false)), .len false (.t 47)⟩, [16, 17, 18, 19, 20]), (⟨(some 49), (some (41, false)), .bin 0 .neq (.t 46) (.t 48)⟩, []), (⟨(some 50), none, .pick (.t 41) (.c (.bool true)) (.t 49)⟩, [])])
 (.cond (.t 50) (.seq (.ops [⟨(some 2), none, .mv (.c (.bool false))⟩])
 (.ret)) (.skip)))
 (.seq (.ops [⟨(some 51), none, .mkfn 42 [(.t 4)]⟩, ⟨(some 8), none, .mv (.t 51)⟩])
 (.seq (.seq (.ops [⟨(some 52), none, .load none (.t 5)⟩, ⟨(some 53), none, .len false (.t 52)⟩, ⟨(some 54), none, .mv (.c (.int .i64 0))⟩])
 (.block 0 (.loop (.seq (.ops [⟨(some 55), none, .bin 0 .lss (.t 54) (.t 53)⟩])
 (.seq (.cond (.t 55) (.skip) (.exit 0))
 (.seq (.block 1 (.seq (.ops [⟨(some 56), none, .iadr 1 (.t 52) (.t 54)⟩, ⟨(some 57), none, .load none (.t 56)⟩, ⟨(some 10), none, .mv (.t 57)⟩])
 (.seq (.ops [⟨(some 58), none, .mv (.t 10)⟩, ⟨(some 59), none, .bin 0 .lss (.t 58) (.c (.int .i64 0))⟩, ⟨(some 60), none, .mv (.t 59)⟩, ⟨(some 61), (some (60, false)), .mv (.t 10)⟩, ⟨(some 62), (some (60, false)), .load none (.t 4)⟩, ⟨(some 63), (some (60, false)), .len false (.t 62)⟩, ⟨(some 64), (some (60, false)), .bin 0 .geq (.t 61) (.t 63)⟩, ⟨(some 65), none, .pick (.t 60) (.c (.bool true)) (.t 64)⟩])
 (.cond (.t 65) (.seq (.ops [⟨(some 2), none, .mv (.c (.bool false))⟩])
 (.ret)) (.skip)))))
 (.ops [⟨(some 66), none, .bin 0 .add (.t 54) (.c (.int .i64 1))⟩, ⟨(some 54), none, .mv (.t 66)⟩])))))))
 (.seq (.ops [⟨(some 67), none, .mv (.t 8)⟩, ⟨(some 68), none, .mkfn 43 [(.t 4), (.t 5)]⟩, ⟨(some 69), none, .callv (.t 67) [(.t 68)]⟩, ⟨(some 70), none, .mv (.t 6)⟩, ⟨(some 71), none, .bin 0 .eql (.t 69) (.t 70)⟩, ⟨(some 72), none, .mv (.t 71)⟩, ⟨(some 73), (some (72, true)), .mv (.t 6)⟩, ⟨(some 74), (some (72, true)), .mv (.t 8)⟩, ⟨(some 75), (some (72, true)), .mkfn 44 [(.t 4)]⟩, ⟨(some 76), (some (72, true)), .callv (.t 74) [(.t 75)]⟩, ⟨(some 77), (some (72, true)), .bin 0 .leq (.t 73) (.t 76)⟩, ⟨(some 78), none, .pick (.t 72) (.t 77) (.c (.bool false))⟩, ⟨(some 79), none, .mv (.t 78)⟩, ⟨(some 80), (some (79, true)), .call 38 []⟩, ⟨(some 81), none, .pick (.t 79) (.t 80) (.c (.bool false))⟩, ⟨(some 2), none, .mv (.t 81)⟩])
 (.ret)))))))))⟩
theorem c6 : compF Go.Proofs.Try.prog 6 = some a6 := by kernel_rfl
def a9 : AFn := ⟨34, [.t 2], .seq (.ops [⟨(some 2), none, .mv (.c (.lit true 0 []))⟩])
 (.seq (.ops [⟨(some 3), none, .mv (.c (.lit true 0 []))⟩])
 (.seq (.seq (.ops [⟨(some 4), none, .mv (.t 0)⟩, ⟨(some 5), none, .bslice 3 1 6 [(.int .i64 0)] [(0, 1, (.c (.int .i64 1))), (1, 1, (.c (.int .i64 2))), (2, 1, (.c (.int .i64 3))), (3, 1, (.c (.int .i64 4))), (4, 1, (.c (.int .i64 5))), (5, 1, (.c (.int .i64 6)))]⟩, ⟨(some 6), none, .call 20 [(.t 4), (.t 5)]⟩, ⟨(some 7), none, .mv (.c (.int .i64 0))⟩])
 (.block 0 (.loop (.seq (.ops [⟨(some 8), none, .bin 0 .lss (.t 7) (.t 6)⟩])
 (.seq (.cond (.t 8) (.skip) (.exit 0))
 (.seq (.block 1 (.ops [⟨(some 9), none, .mv (.t 3)⟩, ⟨(some 10), none, .mv (.t 0)⟩, ⟨(some 11), none, .call 54 [(.t 10), (.c (.int .i64 (-3))), (.c (.int .i64 9))]⟩, ⟨(some 12), none, .mv (.t 0)⟩, ⟨(some 13), none, .bslice 3 1 5 [(.int .i64 0)] [(0, 1, (.c (.int .i64 0))), (1, 1, (.c (.int .i64 0))), (2, 1, (.c (.int .i64 1))), (3, 1, (.c (.int .i64 5))), (4, 1, (.c (.int .i64 (-7))))]⟩, ⟨(some 14), none, .call 20 [(.t 12), (.t 13)]⟩, ⟨(some 15), none, .build [(.int .i64 0), (.int .i64 0)] [(0, 1, (.t 11)), (1, 1, (.t 14))]⟩, ⟨(some 16), none, .bslice 31 2 1 [(.int .i64 0), (.int .i64 0)] [(0, 2, (.t 15))]⟩, ⟨(some 17), none, .app 31 2 16 (.t 9) (.t 16)⟩, ⟨(some 3), none, .mv (.t 17)⟩]))
 (.ops [⟨(some 18), none, .bin 0 .add (.t 7) (.c (.int .i64 1))⟩, ⟨(some 7), none, .mv (.t 18)⟩])))))))
 (.seq (.seq (.ops [⟨(some 19), none, .mv (.t 0)⟩, ⟨(some 20), none, .call 10 [(.t 19), (.c (.int .i64 15))]⟩])
 (.cond (.t 20) (.ops [⟨(some 21), none, .mv (.t 3)⟩, ⟨(some 22), none, .mv (.t 0)⟩, ⟨(some 23), none, .mv (.t 3)⟩, ⟨(some 24), none, .len false (.t 23)⟩, ⟨(some 25), none, .call 55 [(.t 22), (.t 24)]⟩, ⟨(some 26), none, .mv (.t 0)⟩, ⟨(some 27), none, .bslice 3 1 3 [(.int .i64 0)] [(0, 1, (.c (.int .i64 (-1001)))), (1, 1, (.c (.int .i64 1001))), (2, 1, (.c (.int .i64 1000)))]⟩, ⟨(some 28), none, .call 20 [(.t 26), (.t 27)]⟩, ⟨(some 29), none, .iadr 2 (.t 21) (.t 25)⟩, ⟨(some 30), none, .fadr 0 (.t 29)⟩, ⟨none, none, .store 1 (.t 30) (.t 28)⟩]) (.skip)))
 (.seq (.seq (.ops [⟨(some 31), none, .mv (.t 0)⟩, ⟨(some 32), none, .call 10 [(.t 31), (.c (.int .i64 40))]⟩])
 (.cond (.t 32) (.ops [⟨(some 3), none, .mv (.c (.lit true 0 []))⟩]) (.skip)))
 (.seq (.ops [⟨(some 33), none, .mv (.t 3)⟩, ⟨(some 2), none, .mv (.t 33)⟩])
 (.ret))))))⟩
theorem c9 : compF Go.Proofs.Try.prog 9 = some a9 := by kernel_rfl
def a10 : AFn := ⟨9, [.t 4], .seq (.ops [⟨(some 4), none, .mv (.c (.bool false))⟩])
 (.seq (.ops [⟨(some 5), none, .mv (.t 0)⟩, ⟨(some 6), none, .mv (.t 1)⟩, ⟨(some 7), none, .call 55 [(.t 5), (.t 6)]⟩, ⟨(some 8), none, .bin 0 .eql (.t 7) (.c (.int .i64 0))⟩, ⟨(some 4), none, .mv (.t 8)⟩])
 (.ret))⟩
theorem c10 : compF Go.Proofs.Try.prog 10 = some a10 := by kernel_rfl
def a12 : AFn := ⟨45, [.t 2, .t 3, .t 4], .seq (.ops [⟨(some 2), none, .mv (.c (.lit true 0 []))⟩, ⟨(some 3), none, .mv (.c (.int .i64 0))⟩, ⟨(some 4), none, .mv (.c (.int .i64 0))⟩])
 (.seq (.block 0 (.seq (.ops [⟨(some 9), none, .mv (.t 0)⟩, ⟨(some 10), none, .len false (.t 9)⟩, ⟨(some 11), none, .bin 0 .eql (.t 10) (.c (.int .i64 0))⟩, ⟨(some 8), none, .mv (.t 11)⟩])
 (.cond (.t 8) (.seq (.ops [⟨(some 2), none, .mv (.c (.lit true 0 []))⟩, ⟨(some 3), none, .mv (.c (.int .i64 0))⟩, ⟨(some 4), none, .mv (.c (.int .i64 8))⟩])
 (.ret)) (.seq (.ops [⟨(some 13), none, .mv (.t 0)⟩, ⟨(some 14), none, .len false (.t 13)⟩, ⟨(some 15), none, .bin 0 .gtr (.t 14) (.c (.int .i64 9))⟩, ⟨(some 12), none, .mv (.t 15)⟩])
 (.cond (.t 12) (.seq (.ops [⟨(some 2), none, .mv (.c (.lit true 0 []))⟩, ⟨(some 3), none, .mv (.c (.int .i64 0))⟩, ⟨(some 4), none, .mv (.c (.int .i64 2))⟩])
 (.ret)) (.skip))))))
 (.seq (.seq (.ops [⟨(some 16), none, .mv (.t 0)⟩, ⟨(some 17), none, .len false (.t 16)⟩, ⟨(some 18), none, .mv (.c (.int .i64 0))⟩])
 (.block 1 (.loop (.seq (.ops [⟨(some 19), none, .bin 0 .lss (.t 18) (.t 17)⟩])
 (.seq (.cond (.t 19) (.skip) (.exit 1))
 (.seq (.block 2 (.seq (.ops [⟨(some 20), none, .iadr 2 (.t 16) (.t 18)⟩, ⟨(some 21), none, .load (some 2) (.t 20)⟩, ⟨(some 6), none, .alloc 31 [(.int .i64 0), (.int .i64 0)]⟩, ⟨none, none, .store 2 (.t 6) (.t 21)⟩])
 (.seq (.ops [⟨(some 22), none, .fadr 0 (.t 6)⟩, ⟨(some 23), none, .load none (.t 22)⟩, ⟨(some 24), none, .call 57 [(.t 23), (.c (.int .i64 (-1000))), (.c (.int .i64 1000))]⟩, ⟨(some 25), none, .mv (.t 24)⟩, ⟨(some 26), (some (25, false)), .fadr 1 (.t 6)⟩, ⟨(some 27), (some (25, false)), .load none (.t 26)⟩, ⟨(some 28), (some (25, false)), .call 57 [(.t 27), (.c (.int .i64 (-1000))), (.c (.int .i64 1000))]⟩, ⟨(some 29), none, .pick (.t 25) (.c (.bool true)) (.t 28)⟩])
 (.cond (.t 29) (.seq (.ops [⟨(some 2), none, .mv (.c (.lit true 0 []))⟩, ⟨(some 3), none, .mv (.c (.int .i64 0))⟩, ⟨(some 4), none, .mv (.c (.int .i64 1))⟩])
 (.ret)) (.skip)))))
 (.ops [⟨(some 30), none, .bin 0 .add (.t 18) (.c (.int .i64 1))⟩, ⟨(some 18), none, .mv (.t 30)⟩])))))))
 (.seq (.ops [⟨(some 31), none, .mv (.t 0)⟩, ⟨(some 32), none, .bslice 3 1 1 [(.int .i64 0)] [(0, 1, (.c (.int .i64 0)))]⟩, ⟨(some 33), none, .build [(.lit true 0 []), (.lit true 0 []), (.int .i64 0), (.lit true 0 []), (.int .i64 0)] [(0, 1, (.t 31)), (1, 1, (.t 32))]⟩, ⟨(some 34), none, .box 94 (.t 33)⟩, ⟨(some 7), none, .mv (.t 34)⟩])
 (.seq (.ops [⟨(some 35), none, .mv (.t 7)⟩, ⟨(some 36), none, .call 58 [(.t 35)]⟩])
 (.seq (.any [(⟨(some 37), none, .mv (.t 7)⟩, []), (⟨(some 38), none, .nilchk (.t 37)⟩, []), (⟨(some 39), none, .fadr 3 (.t 38)⟩, []), (⟨(some 40), none, .load none (.t 39)⟩, []), (⟨(some 41), none, .mv (.t 7)⟩, [0, 1, 2, 3]), (⟨(some 42), none, .nilchk (.t 41)⟩, [0, 1, 2, 3]), (⟨(some 43), none, .fadr 4 (.t 42)⟩, [0, 1, 2, 3]), (⟨(some 44), none, .load none (.t 43)⟩, [0, 1, 2, 3]), (⟨(some 2), none, .mv (.t 40)⟩, [4, 5, 6, 7]), (⟨(some 3), none, .mv (.t 44)⟩, []), (⟨(some 4), none, .mv (.c (.int .i64 0))⟩, [])])
 (.ret))))))⟩
theorem c12 : compF Go.Proofs.Try.prog 12 = some a12 := by kernel_rfl
def a13 : AFn := ⟨30, [.t 2], .seq (.ops [⟨(some 2), none, .mv (.c (.int .i64 0))⟩])
 (.seq (.block 0 (.seq (.ops [⟨(some 6), none, .mv (.t 0)⟩, ⟨(some 7), none, .len false (.t 6)⟩, ⟨(some 8), none, .bin 0 .eql (.t 7) (.c (.int .i64 0))⟩, ⟨(some 5), none, .mv (.t 8)⟩])
 (.cond (.t 5) (.seq (.ops [⟨(some 2), none, .mv (.c (.int .i64 8))⟩])
 (.ret)) (.seq (.ops [⟨(some 10), none, .mv (.t 0)⟩, ⟨(some 11), none, .len false (.t 10)⟩, ⟨(some 12), none, .bin 0 .gtr (.t 11) (.c (.int .i64 9))⟩, ⟨(some 9), none, .mv (.t 12)⟩])
 (.cond (.t 9) (.seq (.ops [⟨(some 2), none, .mv (.c (.int .i64 2))⟩])
 (.ret)) (.skip))))))
 (.seq (.seq (.ops [⟨(some 13), none, .mv (.t 0)⟩, ⟨(some 14), none, .len false (.t 13)⟩, ⟨(some 15), none, .mv (.c (.int .i64 0))⟩])
 (.block 1 (.loop (.seq (.ops [⟨(some 16), none, .bin 0 .lss (.t 15) (.t 14)⟩])
 (.seq (.cond (.t 16) (.skip) (.exit 1))
 (.seq (.block 2 (.seq (.ops [⟨(some 17), none, .iadr 2 (.t 13) (.t 15)⟩, ⟨(some 18), none, .load (some 2) (.t 17)⟩, ⟨(some 4), none, .alloc 31 [(.int .i64 0), (.int .i64 0)]⟩, ⟨none, none, .store 2 (.t 4) (.t 18)⟩])
 (.seq (.ops [⟨(some 19), none, .fadr 0 (.t 4)⟩, ⟨(some 20), none, .load none (.t 19)⟩, ⟨(some 21), none, .call 59 [(.t 20), (.c (.int .i64 (-1000))), (.c (.int .i64 1000))]⟩, ⟨(some 22), none, .un .not (.t 21)⟩, ⟨(some 23), none, .mv (.t 22)⟩, ⟨(some 24), (some (23, false)), .fadr 1 (.t 4)⟩, ⟨(some 25), (some (23, false)), .load none (.t 24)⟩, ⟨(some 26), (some (23, false)), .call 59 [(.t 25), (.c (.int .i64 (-1000))), (.c (.int .i64 1000))]⟩, ⟨(some 27), (some (23, false)), .un .not (.t 26)⟩, ⟨(some 28), none, .pick (.t 23) (.c (.bool true)) (.t 27)⟩])
 (.cond (.t 28) (.seq (.ops [⟨(some 2), none, .mv (.c (.int .i64 1))⟩])
 (.ret)) (.skip)))))
 (.ops [⟨(some 29), none, .bin 0 .add (.t 15) (.c (.int .i64 1))⟩, ⟨(some 15), none, .mv (.t 29)⟩])))))))
 (.seq (.ops [⟨(some 2), none, .mv (.c (.int .i64 0))⟩])
 (.ret))))⟩
theorem c13 : compF Go.Proofs.Try.prog 13 = some a13 := by kernel_rfl
def a20 : AFn := ⟨12, [.t 4], .seq (.ops [⟨(some 4), none, .mv (.c (.int .i64 0))⟩])
 (.seq (.ops [⟨(some 5), none, .mv (.t 1)⟩, ⟨(some 6), none, .mv (.t 0)⟩, ⟨(some 7), none, .mv (.t 1)⟩, ⟨(some 8), none, .len false (.t 7)⟩, ⟨(some 9), none, .call 55 [(.t 6), (.t 8)]⟩, ⟨(some 10), none, .iadr 1 (.t 5) (.t 9)⟩, ⟨(some 11), none, .load none (.t 10)⟩, ⟨(some 4), none, .mv (.t 11)⟩])
 (.ret))⟩
theorem c20 : compF Go.Proofs.Try.prog 20 = some a20 := by kernel_rfl
def a37 : AFn := ⟨27, [.c 2 (some 2), .t 3, .t 4], .seq (.ops [⟨(some 1), none, .box 43 (.t 0)⟩, ⟨(some 2), none, .alloc 49 [(.int .i64 0), (.int .i64 0)]⟩, ⟨(some 3), none, .mv (.c (.bool false))⟩, ⟨(some 4), none, .mv (.c (.int .i64 0))⟩])
 (.seq (.seq (.ops [⟨(some 8), none, .load (some 2) (.t 1)⟩, ⟨(some 9), none, .call 67 [(.t 8)]⟩, ⟨(some 5), none, .mv (.t 9)⟩])
 (.seq (.ops [⟨(some 10), none, .mv (.t 5)⟩, ⟨(some 11), none, .bin 0 .neq (.t 10) (.c (.int .i64 0))⟩])
 (.cond (.t 11) (.seq (.ops [⟨(some 12), none, .build [(.int .i64 0), (.int .i64 0)] []⟩, ⟨(some 13), none, .mv (.t 5)⟩, ⟨none, none, .store 2 (.t 2) (.t 12)⟩, ⟨(some 3), none, .mv (.c (.bool false))⟩, ⟨(some 4), none, .mv (.t 13)⟩])
 (.ret)) (.skip))))
 (.seq (.any [(⟨(some 15), none, .load (some 2) (.t 1)⟩, []), (⟨(some 16), none, .load (some 2) (.t 1)⟩, [0]), (⟨(some 17), none, .call 69 [(.t 16)]⟩, [0]), (⟨(some 18), none, .call 91 [(.t 15), (.t 17)]⟩, []), (⟨(some 14), none, .mv (.t 18)⟩, []), (⟨(some 19), none, .ext (.t 14) 0⟩, []), (⟨(some 20), none, .ext (.t 14) 1⟩, [5]), (⟨(some 6), none, .mv (.t 19)⟩, [6]), (⟨(some 7), none, .mv (.t 20)⟩, [])])
 (.seq (.seq (.ops [⟨(some 21), none, .mv (.t 7)⟩, ⟨(some 22), none, .bin 0 .eql (.t 21) (.c (.int .i64 0))⟩])
 (.cond (.t 22) (.seq (.ops [⟨(some 23), none, .build [(.int .i64 0), (.int .i64 0)] []⟩, ⟨none, none, .store 2 (.t 2) (.t 23)⟩, ⟨(some 3), none, .mv (.c (.bool false))⟩, ⟨(some 4), none, .mv (.c (.int .i64 0))⟩])
 (.ret)) (.skip)))
 (.seq (.ops [⟨(some 24), none, .mv (.t 6)⟩, ⟨(some 25), none, .mv (.t 7)⟩, ⟨(some 26), none, .call 92 [(.t 24), (.t 25)]⟩, ⟨none, none, .store 2 (.t 2) (.t 26)⟩, ⟨(some 3), none, .mv (.c (.bool true))⟩, ⟨(some 4), none, .mv (.c (.int .i64 0))⟩])
 (.ret)))))⟩
theorem c37 : compF Go.Proofs.Try.prog 37 = some a37 := by kernel_rfl
def a38 : AFn := ⟨50, [.t 0], .seq (.ops [⟨(some 0), none, .mv (.c (.bool false))⟩])
 (.seq (.ops [⟨(some 9), none, .call 93 [(.c (.int .i64 4)), (.c (.int .i64 1))]⟩, ⟨(some 8), none, .mv (.t 9)⟩, ⟨(some 10), none, .ext (.t 8) 0⟩, ⟨(some 11), none, .ext (.t 8) 1⟩, ⟨(some 1), none, .mv (.t 10)⟩, ⟨(some 2), none, .mv (.t 11)⟩])
 (.seq (.ops [⟨(some 13), none, .call 94 [(.c (.int .i64 3))]⟩, ⟨(some 12), none, .mv (.t 13)⟩, ⟨(some 14), none, .ext (.t 12) 0⟩, ⟨(some 15), none, .ext (.t 12) 1⟩, ⟨(some 3), none, .mv (.t 14)⟩, ⟨(some 4), none, .mv (.t 15)⟩])
 (.seq (.ops [⟨(some 17), none, .bslice 9 1 1 [(.str [])] [(0, 1, (.c (.str [49, 120])))]⟩, ⟨(some 18), none, .build [(.lit true 0 []), (.str [])] [(0, 1, (.t 17)), (1, 1, (.c (.str [49])))]⟩, ⟨(some 19), none, .call 37 [(.t 18)]⟩, ⟨(some 16), none, .mv (.t 19)⟩, ⟨(some 20), none, .ext (.t 16) 0⟩, ⟨(some 21), none, .ext (.t 16) 1⟩, ⟨(some 22), none, .ext (.t 16) 2⟩, ⟨(some 5), none, .alloc 49 [(.int .i64 0), (.int .i64 0)]⟩, ⟨none, none, .store 2 (.t 5) (.t 20)⟩, ⟨(some 6), none, .mv (.t 21)⟩, ⟨(some 7), none, .mv (.t 22)⟩])
 (.seq (.ops [⟨(some 23), none, .mv (.t 2)⟩, ⟨(some 24), none, .bin 0 .eql (.t 23) (.c (.int .i64 0))⟩, ⟨(some 25), none, .mv (.t 24)⟩, ⟨(some 26), (some (25, true)), .mv (.t 1)⟩, ⟨(some 27), (some (25, true)), .bin 1 .eql (.t 26) (.c (.str [49, 49, 48]))⟩, ⟨(some 28), none, .pick (.t 25) (.t 27) (.c (.bool false))⟩, ⟨(some 29), none, .mv (.t 28)⟩, ⟨(some 30), (some (29, true)), .mv (.t 4)⟩, ⟨(some 31), (some (29, true)), .bin 0 .eql (.t 30) (.c (.int .i64 0))⟩, ⟨(some 32), none, .pick (.t 29) (.t 31) (.c (.bool false))⟩, ⟨(some 33), none, .mv (.t 32)⟩, ⟨(some 34), (some (33, true)), .mv (.t 3)⟩, ⟨(some 35), (some (33, true)), .len false (.t 34)⟩, ⟨(some 36), (some (33, true)), .bin 0 .eql (.t 35) (.c (.int .i64 3))⟩, ⟨(some 37), none, .pick (.t 33) (.t 36) (.c (.bool false))⟩, ⟨(some 38), none, .mv (.t 37)⟩, ⟨(some 39), (some (38, true)), .mv (.t 7)⟩, ⟨(some 40), (some (38, true)), .bin 0 .eql (.t 39) (.c (.int .i64 0))⟩, ⟨(some 41), none, .pick (.t 38) (.t 40) (.c (.bool false))⟩, ⟨(some 42), none, .mv (.t 41)⟩, ⟨(some 43), (some (42, true)), .mv (.t 6)⟩, ⟨(some 44), none, .pick (.t 42) (.t 43) (.c (.bool false))⟩, ⟨(some 45), none, .mv (.t 44)⟩, ⟨(some 46), (some (45, true)), .load (some 2) (.t 5)⟩, ⟨(some 47), (some (45, true)), .build [(.int .i64 0), (.int .i64 0)] [(0, 1, (.c (.int .i64 1))), (1, 1, (.c (.int .i64 2)))]⟩, ⟨(some 48), (some (45, true)), .eqs false [0, 0] (.t 46) (.t 47)⟩, ⟨(some 49), none, .pick (.t 45) (.t 48) (.c (.bool false))⟩, ⟨(some 0), none, .mv (.t 49)⟩])
 (.ret)))))⟩
theorem c38 : compF Go.Proofs.Try.prog 38 = some a38 := by kernel_rfl
def a39 : AFn := ⟨61, [.t 2], .seq (.ops [⟨(some 2), none, .mv (.c (.lit true 0 []))⟩])
 (.seq (.seq (.ops [⟨(some 6), none, .mv (.t 0)⟩, ⟨(some 7), none, .len false (.t 6)⟩, ⟨(some 8), none, .bin 0 .lss (.t 7) (.c (.int .i64 2))⟩])
 (.cond (.t 8) (.seq (.ops [⟨(some 9), none, .mv (.t 0)⟩, ⟨(some 2), none, .mv (.t 9)⟩])
 (.ret)) (.skip)))
 (.seq (.seq (.ops [⟨(some 3), none, .mv (.c (.int .i64 1))⟩])
 (.block 0 (.loop (.seq (.seq (.ops [⟨(some 10), none, .mv (.t 3)⟩, ⟨(some 11), none, .mv (.t 0)⟩, ⟨(some 12), none, .len false (.t 11)⟩, ⟨(some 13), none, .bin 0 .lss (.t 10) (.t 12)⟩])
 (.cond (.t 13) (.skip) (.exit 0)))
 (.seq (.block 1 (.seq (.any [(⟨(some 16), none, .mv (.t 0)⟩, []), (⟨(some 17), none, .mv (.t 3)⟩, [0]), (⟨(some 18), none, .iadr 1 (.t 16) (.t 17)⟩, []), (⟨(some 19), none, .load none (.t 18)⟩, []), (⟨(some 20), none, .mv (.t 0)⟩, [0, 1, 2, 3]), (⟨(some 21), none, .mv (.t 3)⟩, [0, 1, 2, 3, 4]), (⟨(some 22), none, .bin 0 .sub (.t 21) (.c (.int .i64 1))⟩, [0, 1, 2, 3, 4]), (⟨(some 23), none, .iadr 1 (.t 20) (.t 22)⟩, [0, 1, 2, 3]), (⟨(some 24), none, .load none (.t 23)⟩, [0, 1, 2, 3]), (⟨(some 25), none, .bin 0 .eql (.t 19) (.t 24)⟩, [])])
 (.cond (.t 25) (.seq (.ops [⟨(some 26), none, .mv (.t 0)⟩, ⟨(some 27), none, .mv (.t 3)⟩, ⟨(some 28), none, .slc 1 (.t 26) (some (.t 27)) none⟩, ⟨(some 4), none, .mv (.t 28)⟩])
 (.seq (.seq (.ops [⟨(some 5), none, .mv (.c (.int .i64 1))⟩])
 (.block 2 (.loop (.seq (.seq (.ops [⟨(some 29), none, .mv (.t 5)⟩, ⟨(some 30), none, .mv (.t 4)⟩, ⟨(some 31), none, .len false (.t 30)⟩, ⟨(some 32), none, .bin 0 .lss (.t 29) (.t 31)⟩])
 (.cond (.t 32) (.skip) (.exit 2)))
 (.seq (.block 3 (.seq (.any [(⟨(some 35), none, .mv (.t 4)⟩, []), (⟨(some 36), none, .mv (.t 5)⟩, [0]), (⟨(some 37), none, .iadr 1 (.t 35) (.t 36)⟩, []), (⟨(some 38), none, .load none (.t 37)⟩, []), (⟨(some 39), none, .mv (.t 4)⟩, [0, 1, 2, 3]), (⟨(some 40), none, .mv (.t 5)⟩, [0, 1, 2, 3, 4]), (⟨(some 41), none, .bin 0 .sub (.t 40) (.c (.int .i64 1))⟩, [0, 1, 2, 3, 4]), (⟨(some 42), none, .iadr 1 (.t 39) (.t 41)⟩, [0, 1, 2, 3]), (⟨(some 43), none, .load none (.t 42)⟩, [0, 1, 2, 3]), (⟨(some 44), none, .bin 0 .neq (.t 38) (.t 43)⟩, [])])
 (.cond (.t 44) (.seq (.ops [⟨(some 45), none, .mv (.t 0)⟩, ⟨(some 46), none, .mv (.t 3)⟩, ⟨(some 47), none, .mv (.t 4)⟩, ⟨(some 48), none, .mv (.t 5)⟩, ⟨(some 49), none, .iadr 1 (.t 47) (.t 48)⟩, ⟨(some 50), none, .load none (.t 49)⟩, ⟨(some 51), none, .iadr 1 (.t 45) (.t 46)⟩, ⟨none, none, .store 1 (.t 51) (.t 50)⟩])
 (.ops [⟨(some 52), none, .mv (.t 3)⟩, ⟨(some 53), none, .bin 0 .add (.t 52) (.c (.int .i64 1))⟩, ⟨(some 3), none, .mv (.t 53)⟩])) (.skip))))
 (.ops [⟨(some 33), none, .mv (.t 5)⟩, ⟨(some 34), none, .bin 0 .add (.t 33) (.c (.int .i64 1))⟩, ⟨(some 5), none, .mv (.t 34)⟩]))))))
 (.seq (.ops [⟨(some 54), none, .mv (.t 0)⟩, ⟨(some 55), none, .mv (.t 3)⟩, ⟨(some 56), none, .slc 1 (.t 54) (some (.t 55)) none⟩, ⟨none, none, .clr [(.int .i64 0)] (.t 56)⟩])
 (.seq (.ops [⟨(some 57), none, .mv (.t 0)⟩, ⟨(some 58), none, .mv (.t 3)⟩, ⟨(some 59), none, .slc 1 (.t 57) none (some (.t 58))⟩, ⟨(some 2), none, .mv (.t 59)⟩])
 (.ret))))) (.skip))))
 (.ops [⟨(some 14), none, .mv (.t 3)⟩, ⟨(some 15), none, .bin 0 .add (.t 14) (.c (.int .i64 1))⟩, ⟨(some 3), none, .mv (.t 15)⟩]))))))
 (.seq (.ops [⟨(some 60), none, .mv (.t 0)⟩, ⟨(some 2), none, .mv (.t 60)⟩])
 (.ret))))⟩
theorem c39 : compF Go.Proofs.Try.prog 39 = some a39 := by kernel_rfl
def a40 : AFn := ⟨9, [.t 2], .seq (.ops [⟨(some 2), none, .mv (.c (.lit true 0 []))⟩])
 (.seq (.ops [⟨(some 4), none, .mv (.t 0)⟩, ⟨(some 5), none, .call 95 [(.t 4)]⟩, ⟨(some 3), none, .mv (.t 5)⟩])
 (.seq (.ops [⟨(some 6), none, .mv (.t 3)⟩, ⟨(some 7), none, .call 96 [(.t 6)]⟩])
 (.seq (.ops [⟨(some 8), none, .mv (.t 3)⟩, ⟨(some 2), none, .mv (.t 8)⟩])
 (.ret))))⟩
theorem c40 : compF Go.Proofs.Try.prog 40 = some a40 := by kernel_rfl
def a42 : AFn := ⟨45, [.t 3], .seq (.ops [⟨(some 3), none, .mv (.c (.int .i64 0))⟩])
 (.seq (.ops [⟨(some 4), none, .mv (.c (.int .i64 0))⟩])
 (.seq (.seq (.ops [⟨(some 5), none, .mv (.c (.int .i64 1))⟩])
 (.block 0 (.loop (.seq (.seq (.ops [⟨(some 8), none, .mv (.t 5)⟩, ⟨(some 9), none, .load none (.t 1)⟩, ⟨(some 10), none, .len false (.t 9)⟩, ⟨(some 11), none, .bin 0 .lss (.t 8) (.t 10)⟩])
 (.cond (.t 11) (.skip) (.exit 0)))
 (.seq (.block 1 (.seq (.ops [⟨(some 14), none, .mv (.t 0)⟩, ⟨(some 15), none, .mv (.t 5)⟩, ⟨(some 16), none, .bin 0 .sub (.t 15) (.c (.int .i64 1))⟩, ⟨(some 17), none, .callv (.t 14) [(.t 16)]⟩, ⟨(some 18), none, .mv (.t 0)⟩, ⟨(some 19), none, .mv (.t 5)⟩, ⟨(some 20), none, .callv (.t 18) [(.t 19)]⟩, ⟨(some 6), none, .alloc 31 [(.int .i64 0), (.int .i64 0)]⟩, ⟨(some 7), none, .alloc 31 [(.int .i64 0), (.int .i64 0)]⟩, ⟨none, none, .store 2 (.t 6) (.t 17)⟩, ⟨none, none, .store 2 (.t 7) (.t 20)⟩])
 (.ops [⟨(some 21), none, .mv (.t 4)⟩, ⟨(some 22), none, .fadr 0 (.t 6)⟩, ⟨(some 23), none, .load none (.t 22)⟩, ⟨(some 24), none, .fadr 0 (.t 7)⟩, ⟨(some 25), none, .load none (.t 24)⟩, ⟨(some 26), none, .bin 0 .sub (.t 23) (.t 25)⟩, ⟨(some 27), none, .fadr 0 (.t 7)⟩, ⟨(some 28), none, .load none (.t 27)⟩, ⟨(some 29), none, .fadr 0 (.t 6)⟩, ⟨(some 30), none, .load none (.t 29)⟩, ⟨(some 31), none, .bin 0 .sub (.t 28) (.t 30)⟩, ⟨(some 32), none, .fadr 1 (.t 6)⟩, ⟨(some 33), none, .load none (.t 32)⟩, ⟨(some 34), none, .fadr 1 (.t 7)⟩, ⟨(some 35), none, .load none (.t 34)⟩, ⟨(some 36), none, .bin 0 .sub (.t 33) (.t 35)⟩, ⟨(some 37), none, .fadr 1 (.t 7)⟩, ⟨(some 38), none, .load none (.t 37)⟩, ⟨(some 39), none, .fadr 1 (.t 6)⟩, ⟨(some 40), none, .load none (.t 39)⟩, ⟨(some 41), none, .bin 0 .sub (.t 38) (.t 40)⟩, ⟨(some 42), none, .mm true (.t 26) [(.t 31), (.t 36), (.t 41)]⟩, ⟨(some 43), none, .bin 0 .add (.t 21) (.t 42)⟩, ⟨(some 4), none, .mv (.t 43)⟩])))
 (.ops [⟨(some 12), none, .mv (.t 5)⟩, ⟨(some 13), none, .bin 0 .add (.t 12) (.c (.int .i64 1))⟩, ⟨(some 5), none, .mv (.t 13)⟩]))))))
 (.seq (.ops [⟨(some 44), none, .mv (.t 4)⟩, ⟨(some 3), none, .mv (.t 44)⟩])
 (.ret))))⟩
theorem c42 : compF Go.Proofs.Try.prog 42 = some a42 := by kernel_rfl
def a43 : AFn := ⟨12, [.c 4 (some 2)], .seq (.ops [⟨(some 4), none, .alloc 31 [(.int .i64 0), (.int .i64 0)]⟩])
 (.seq (.any [(⟨(some 5), none, .load none (.t 1)⟩, []), (⟨(some 6), none, .load none (.t 2)⟩, [0]), (⟨(some 7), none, .mv (.t 0)⟩, [0, 1]), (⟨(some 8), none, .iadr 1 (.t 6) (.t 7)⟩, [0]), (⟨(some 9), none, .load none (.t 8)⟩, [0]), (⟨(some 10), none, .iadr 2 (.t 5) (.t 9)⟩, []), (⟨(some 11), none, .load (some 2) (.t 10)⟩, []), (⟨none, none, .store 2 (.t 4) (.t 11)⟩, [])])
 (.ret))⟩
theorem c43 : compF Go.Proofs.Try.prog 43 = some a43 := by kernel_rfl
def a44 : AFn := ⟨8, [.c 3 (some 2)], .seq (.ops [⟨(some 3), none, .alloc 31 [(.int .i64 0), (.int .i64 0)]⟩])
 (.seq (.ops [⟨(some 4), none, .load none (.t 1)⟩, ⟨(some 5), none, .mv (.t 0)⟩, ⟨(some 6), none, .iadr 2 (.t 4) (.t 5)⟩, ⟨(some 7), none, .load (some 2) (.t 6)⟩, ⟨none, none, .store 2 (.t 3) (.t 7)⟩])
 (.ret))⟩
theorem c44 : compF Go.Proofs.Try.prog 44 = some a44 := by kernel_rfl
def a54 : AFn := ⟨19, [.t 6], .seq (.ops [⟨(some 6), none, .mv (.c (.int .i64 0))⟩])
 (.seq (.seq (.ops [⟨(some 7), none, .mv (.t 2)⟩, ⟨(some 8), none, .mv (.t 1)⟩, ⟨(some 9), none, .bin 0 .lss (.t 7) (.t 8)⟩])
 (.cond (.t 9) (.seq (.ops [⟨(some 10), none, .mv (.t 1)⟩, ⟨(some 6), none, .mv (.t 10)⟩])
 (.ret)) (.skip)))
 (.seq (.ops [⟨(some 11), none, .mv (.t 1)⟩, ⟨(some 12), none, .mv (.t 0)⟩, ⟨(some 13), none, .mv (.t 2)⟩, ⟨(some 14), none, .mv (.t 1)⟩, ⟨(some 15), none, .bin 0 .sub (.t 13) (.t 14)⟩, ⟨(some 16), none, .bin 0 .add (.t 15) (.c (.int .i64 1))⟩, ⟨(some 17), none, .call 55 [(.t 12), (.t 16)]⟩, ⟨(some 18), none, .bin 0 .add (.t 11) (.t 17)⟩, ⟨(some 6), none, .mv (.t 18)⟩])
 (.ret)))⟩
theorem c54 : compF Go.Proofs.Try.prog 54 = some a54 := by kernel_rfl
def a55 : AFn := ⟨64, [.t 4], .seq (.ops [⟨(some 4), none, .mv (.c (.int .i64 0))⟩])
 (.seq (.ops [⟨(some 7), none, .mv (.t 0)⟩, ⟨(some 8), none, .nilchk (.t 7)⟩, ⟨(some 9), none, .fadr 1 (.t 8)⟩, ⟨(some 10), none, .load none (.t 9)⟩, ⟨(some 11), none, .bin 0 .add (.t 10) (.c (.int .i64 1))⟩, ⟨(some 12), none, .nilchk (.t 7)⟩, ⟨(some 13), none, .fadr 1 (.t 12)⟩, ⟨none, none, .store 1 (.t 13) (.t 11)⟩])
 (.seq (.seq (.ops [⟨(some 14), none, .mv (.t 0)⟩, ⟨(some 15), none, .nilchk (.t 14)⟩, ⟨(some 16), none, .fadr 0 (.t 15)⟩, ⟨(some 17), none, .load none (.t 16)⟩, ⟨(some 18), none, .len false (.t 17)⟩, ⟨(some 19), none, .bin 0 .eql (.t 18) (.c (.int .i64 0))⟩])
 (.cond (.t 19) (.seq (.ops [⟨(some 20), none, .mv (.t 0)⟩, ⟨(some 21), none, .nilchk (.t 20)⟩, ⟨(some 22), none, .fadr 1 (.t 21)⟩, ⟨(some 23), none, .load none (.t 22)⟩, ⟨(some 24), none, .bin 0 .mul (.t 23) (.c (.int .i64 7919))⟩, ⟨(some 25), none, .mv (.t 1)⟩, ⟨(some 26), none, .call 106 [(.t 24), (.t 25)]⟩, ⟨(some 4), none, .mv (.t 26)⟩])
 (.ret)) (.skip)))
 (.seq (.any [(⟨(some 27), none, .mv (.t 0)⟩, []), (⟨(some 28), none, .nilchk (.t 27)⟩, []), (⟨(some 29), none, .fadr 1 (.t 28)⟩, []), (⟨(some 30), none, .load none (.t 29)⟩, []), (⟨(some 31), none, .bin 0 .sub (.t 30) (.c (.int .i64 1))⟩, []), (⟨(some 32), none, .mv (.t 0)⟩, [0, 1, 2, 3, 4]), (⟨(some 33), none, .nilchk (.t 32)⟩, [0, 1, 2, 3, 4]), (⟨(some 34), none, .fadr 0 (.t 33)⟩, [0, 1, 2, 3, 4]), (⟨(some 35), none, .load none (.t 34)⟩, [0, 1, 2, 3, 4]), (⟨(some 36), none, .len false (.t 35)⟩, [0, 1, 2, 3, 4]), (⟨(some 37), none, .bin 0 .rem (.t 31) (.t 36)⟩, []), (⟨(some 5), none, .mv (.t 37)⟩, [])])
 (.seq (.any [(⟨(some 38), none, .mv (.t 0)⟩, []), (⟨(some 39), none, .nilchk (.t 38)⟩, []), (⟨(some 40), none, .fadr 1 (.t 39)⟩, []), (⟨(some 41), none, .load none (.t 40)⟩, []), (⟨(some 42), none, .bin 0 .sub (.t 41) (.c (.int .i64 1))⟩, []), (⟨(some 43), none, .mv (.t 0)⟩, [0, 1, 2, 3, 4]), (⟨(some 44), none, .nilchk (.t 43)⟩, [0, 1, 2, 3, 4]), (⟨(some 45), none, .fadr 0 (.t 44)⟩, [0, 1, 2, 3, 4]), (⟨(some 46), none, .load none (.t 45)⟩, [0, 1, 2, 3, 4]), (⟨(some 47), none, .len false (.t 46)⟩, [0, 1, 2, 3, 4]), (⟨(some 48), none, .bin 0 .quo (.t 42) (.t 47)⟩, []), (⟨(some 6), none, .mv (.t 48)⟩, [])])
 (.seq (.ops [⟨(some 49), none, .mv (.t 0)⟩, ⟨(some 50), none, .nilchk (.t 49)⟩, ⟨(some 51), none, .fadr 0 (.t 50)⟩, ⟨(some 52), none, .load none (.t 51)⟩, ⟨(some 53), none, .mv (.t 5)⟩, ⟨(some 54), none, .iadr 1 (.t 52) (.t 53)⟩, ⟨(some 55), none, .load none (.t 54)⟩, ⟨(some 56), none, .call 106 [(.t 55), (.c (.int .i64 1073741824))]⟩, ⟨(some 57), none, .mv (.t 6)⟩, ⟨(some 58), none, .mv (.t 5)⟩, ⟨(some 59), none, .bin 0 .add (.c (.int .i64 7919)) (.t 58)⟩, ⟨(some 60), none, .bin 0 .mul (.t 57) (.t 59)⟩, ⟨(some 61), none, .bin 0 .add (.t 56) (.t 60)⟩, ⟨(some 62), none, .mv (.t 1)⟩, ⟨(some 63), none, .call 106 [(.t 61), (.t 62)]⟩, ⟨(some 4), none, .mv (.t 63)⟩])
 (.ret))))))⟩
theorem c55 : compF Go.Proofs.Try.prog 55 = some a55 := by kernel_rfl
def a57 : AFn := ⟨15, [.t 6], .seq (.ops [⟨(some 6), none, .mv (.c (.bool false))⟩])
 (.seq (.ops [⟨(some 7), none, .mv (.t 0)⟩, ⟨(some 8), none, .mv (.t 1)⟩, ⟨(some 9), none, .bin 0 .lss (.t 7) (.t 8)⟩, ⟨(some 10), none, .mv (.t 9)⟩, ⟨(some 11), (some (10, false)), .mv (.t 0)⟩, ⟨(some 12), (some (10, false)), .mv (.t 2)⟩, ⟨(some 13), (some (10, false)), .bin 0 .gtr (.t 11) (.t 12)⟩, ⟨(some 14), none, .pick (.t 10) (.c (.bool true)) (.t 13)⟩, ⟨(some 6), none, .mv (.t 14)⟩])
 (.ret))⟩
theorem c57 : compF Go.Proofs.Try.prog 57 = some a57 := by kernel_rfl
def a58 : AFn := ⟨130, [], .seq (.seq (.any [(⟨(some 6), none, .mv (.t 0)⟩, []), (⟨(some 7), none, .nilchk (.t 6)⟩, []), (⟨(some 8), none, .fadr 3 (.t 7)⟩, []), (⟨(some 9), none, .load none (.t 8)⟩, []), (⟨(some 10), none, .bin 3 .neq (.t 9) (.c (.lit true 0 []))⟩, []), (⟨(some 11), none, .mv (.t 10)⟩, []), (⟨(some 12), (some (11, true)), .mv (.t 0)⟩, []), (⟨(some 13), (some (11, true)), .nilchk (.t 12)⟩, []), (⟨(some 14), (some (11, true)), .fadr 2 (.t 13)⟩, []), (⟨(some 15), (some (11, true)), .load none (.t 14)⟩, []), (⟨(some 16), (some (11, true)), .mv (.t 0)⟩, [6, 7, 8, 9]), (⟨(some 17), (some (11, true)), .nilchk (.t 16)⟩, [6, 7, 8, 9]), (⟨(some 18), (some (11, true)), .fadr 4 (.t 17)⟩, [6, 7, 8, 9]), (⟨(some 19), (some (11, true)), .load none (.t 18)⟩, [6, 7, 8, 9]), (⟨(some 20), (some (11, true)), .bin 0 .geq (.t 15) (.t 19)⟩, []), (⟨(some 21), none, .pick (.t 11) (.t 20) (.c (.bool false))⟩, [])])
 (.cond (.t 21) (.ret) (.skip)))
 (.seq (.seq (.any [(⟨(some 22), none, .mv (.t 0)⟩, []), (⟨(some 23), none, .nilchk (.t 22)⟩, []), (⟨(some 24), none, .fadr 1 (.t 23)⟩, []), (⟨(some 25), none, .load none (.t 24)⟩, []), (⟨(some 26), none, .len false (.t 25)⟩, []), (⟨(some 27), none, .mv (.t 0)⟩, [0, 1, 2, 3, 4]), (⟨(some 28), none, .nilchk (.t 27)⟩, [0, 1, 2, 3, 4]), (⟨(some 29), none, .fadr 0 (.t 28)⟩, [0, 1, 2, 3, 4]), (⟨(some 30), none, .load none (.t 29)⟩, [0, 1, 2, 3, 4]), (⟨(some 31), none, .len false (.t 30)⟩, [0, 1, 2, 3, 4]), (⟨(some 32), none, .bin 0 .eql (.t 26) (.t 31)⟩, [])])
 (.cond (.t 32) (.seq (.any [(⟨(some 33), none, .mv (.t 0)⟩, []), (⟨(some 34), none, .mv (.t 0)⟩, [0]), (⟨(some 35), none, .mv (.t 0)⟩, [0, 1]), (⟨(some 36), none, .nilchk (.t 35)⟩, [0, 1]), (⟨(some 37), none, .fadr 1 (.t 36)⟩, [0, 1]), (⟨(some 38), none, .load none (.t 37)⟩, [0, 1]), (⟨(some 39), none, .call 62 [(.t 38)]⟩, [0, 1]), (⟨(some 40), none, .mv (.t 0)⟩, [0, 1, 2, 3, 4, 5, 6]), (⟨(some 41), none, .nilchk (.t 40)⟩, [0, 1, 2, 3, 4, 5, 6]), (⟨(some 42), none, .fadr 2 (.t 41)⟩, [0, 1, 2, 3, 4, 5, 6]), (⟨(some 43), none, .load none (.t 42)⟩, [0, 1, 2, 3, 4, 5, 6]), (⟨(some 44), none, .nilchk (.t 33)⟩, [1]), (⟨(some 45), none, .fadr 3 (.t 44)⟩, [1]), (⟨none, none, .store 1 (.t 45) (.t 39)⟩, [1]), (⟨(some 46), none, .nilchk (.t 34)⟩, []), (⟨(some 47), none, .fadr 4 (.t 46)⟩, []), (⟨none, none, .store 1 (.t 47) (.t 43)⟩, [])])
 (.ret)) (.skip)))
 (.seq (.any [(⟨(some 48), none, .mv (.t 0)⟩, []), (⟨(some 49), none, .nilchk (.t 48)⟩, []), (⟨(some 50), none, .fadr 1 (.t 49)⟩, []), (⟨(some 51), none, .load none (.t 50)⟩, []), (⟨(some 52), none, .mv (.t 0)⟩, [0, 1, 2, 3]), (⟨(some 53), none, .nilchk (.t 52)⟩, [0, 1, 2, 3]), (⟨(some 54), none, .fadr 1 (.t 53)⟩, [0, 1, 2, 3]), (⟨(some 55), none, .load none (.t 54)⟩, [0, 1, 2, 3]), (⟨(some 56), none, .len false (.t 55)⟩, [0, 1, 2, 3]), (⟨(some 57), none, .bin 0 .sub (.t 56) (.c (.int .i64 1))⟩, [0, 1, 2, 3]), (⟨(some 58), none, .iadr 1 (.t 51) (.t 57)⟩, []), (⟨(some 59), none, .load none (.t 58)⟩, []), (⟨(some 2), none, .mv (.t 59)⟩, [])])
 (.seq (.ops [⟨(some 60), none, .mv (.t 0)⟩, ⟨(some 61), none, .nilchk (.t 60)⟩, ⟨(some 62), none, .fadr 0 (.t 61)⟩, ⟨(some 63), none, .load none (.t 62)⟩, ⟨(some 64), none, .len false (.t 63)⟩, ⟨(some 65), none, .mv (.c (.int .i64 0))⟩])
 (.block 0 (.loop (.seq (.ops [⟨(some 66), none, .bin 0 .lss (.t 65) (.t 64)⟩])
 (.seq (.cond (.t 66) (.skip) (.exit 0))
 (.seq (.block 1 (.seq (.ops [⟨(some 67), none, .mv (.t 65)⟩, ⟨(some 68), none, .iadr 2 (.t 63) (.t 65)⟩, ⟨(some 69), none, .load (some 2) (.t 68)⟩, ⟨(some 4), none, .alloc 31 [(.int .i64 0), (.int .i64 0)]⟩, ⟨(some 3), none, .mv (.t 67)⟩, ⟨none, none, .store 2 (.t 4) (.t 69)⟩])
 (.seq (.seq (.ops [⟨(some 70), none, .mv (.t 0)⟩, ⟨(some 71), none, .nilchk (.t 70)⟩, ⟨(some 72), none, .fadr 1 (.t 71)⟩, ⟨(some 73), none, .load none (.t 72)⟩, ⟨(some 74), none, .mv (.t 3)⟩, ⟨(some 75), none, .call 61 [(.t 73), (.t 74)]⟩])
 (.cond (.t 75) (.exit 1) (.skip)))
 (.seq (.any [(⟨(some 76), none, .mv (.t 0)⟩, []), (⟨(some 77), none, .nilchk (.t 76)⟩, []), (⟨(some 78), none, .fadr 0 (.t 77)⟩, []), (⟨(some 79), none, .load none (.t 78)⟩, []), (⟨(some 80), none, .mv (.t 2)⟩, [0, 1, 2, 3]), (⟨(some 81), none, .iadr 2 (.t 79) (.t 80)⟩, []), (⟨(some 82), none, .load (some 2) (.t 81)⟩, []), (⟨(some 83), none, .load (some 2) (.t 4)⟩, [0, 1, 2, 3, 4, 5, 6]), (⟨(some 84), none, .call 109 [(.t 82), (.t 83)]⟩, []), (⟨(some 5), none, .mv (.t 84)⟩, [])])
 (.seq (.any [(⟨(some 85), none, .mv (.t 0)⟩, []), (⟨(some 86), none, .mv (.t 0)⟩, [0]), (⟨(some 87), none, .mv (.t 0)⟩, [0, 1]), (⟨(some 88), none, .nilchk (.t 87)⟩, [0, 1]), (⟨(some 89), none, .fadr 1 (.t 88)⟩, [0, 1]), (⟨(some 90), none, .load none (.t 89)⟩, [0, 1]), (⟨(some 91), none, .mv (.t 3)⟩, [0, 1, 2, 3, 4, 5]), (⟨(some 92), none, .bslice 3 1 1 [(.int .i64 0)] [(0, 1, (.t 91))]⟩, [0, 1, 2, 3, 4, 5]), (⟨(some 93), none, .app 3 1 8 (.t 90) (.t 92)⟩, [0, 1]), (⟨(some 94), none, .mv (.t 0)⟩, [0, 1, 2, 3, 4, 5, 6, 7, 8]), (⟨(some 95), none, .nilchk (.t 94)⟩, [0, 1, 2, 3, 4, 5, 6, 7, 8]), (⟨(some 96), none, .fadr 2 (.t 95)⟩, [0, 1, 2, 3, 4, 5, 6, 7, 8]), (⟨(some 97), none, .load none (.t 96)⟩, [0, 1, 2, 3, 4, 5, 6, 7, 8]), (⟨(some 98), none, .mv (.t 5)⟩, [0, 1, 2, 3, 4, 5, 6, 7, 8, 9, 10, 11, 12]), (⟨(some 99), none, .bin 0 .add (.t 97) (.t 98)⟩, [0, 1, 2, 3, 4, 5, 6, 7, 8]), (⟨(some 100), none, .nilchk (.t 85)⟩, [1, 13, 14]), (⟨(some 101), none, .fadr 1 (.t 100)⟩, [1, 13, 14]), (⟨none, none, .store 1 (.t 101) (.t 93)⟩, [1, 13, 14]), (⟨(some 102), none, .nilchk (.t 86)⟩, []), (⟨(some 103), none, .fadr 2 (.t 102)⟩, []), (⟨none, none, .store 1 (.t 103) (.t 99)⟩, [])])
 (.seq (.ops [⟨(some 104), none, .mv (.t 0)⟩, ⟨(some 105), none, .call 58 [(.t 104)]⟩])
 (.any [(⟨(some 106), none, .mv (.t 0)⟩, []), (⟨(some 107), none, .mv (.t 0)⟩, [0]), (⟨(some 108), none, .mv (.t 0)⟩, [0, 1]), (⟨(some 109), none, .nilchk (.t 108)⟩, [0, 1]), (⟨(some 110), none, .fadr 1 (.t 109)⟩, [0, 1]), (⟨(some 111), none, .load none (.t 110)⟩, [0, 1]), (⟨(some 112), none, .mv (.t 0)⟩, [0, 1, 2, 3, 4, 5]), (⟨(some 113), none, .nilchk (.t 112)⟩, [0, 1, 2, 3, 4, 5]), (⟨(some 114), none, .fadr 1 (.t 113)⟩, [0, 1, 2, 3, 4, 5]), (⟨(some 115), none, .load none (.t 114)⟩, [0, 1, 2, 3, 4, 5]), (⟨(some 116), none, .len false (.t 115)⟩, [0, 1, 2, 3, 4, 5]), (⟨(some 117), none, .bin 0 .sub (.t 116) (.c (.int .i64 1))⟩, [0, 1, 2, 3, 4, 5]), (⟨(some 118), none, .slc 1 (.t 111) none (some (.t 117))⟩, [0, 1]), (⟨(some 119), none, .mv (.t 0)⟩, [0, 1, 2, 3, 4, 5, 6, 7, 8, 9, 10, 11, 12]), (⟨(some 120), none, .nilchk (.t 119)⟩, [0, 1, 2, 3, 4, 5, 6, 7, 8, 9, 10, 11, 12]), (⟨(some 121), none, .fadr 2 (.t 120)⟩, [0, 1, 2, 3, 4, 5, 6, 7, 8, 9, 10, 11, 12]), (⟨(some 122), none, .load none (.t 121)⟩, [0, 1, 2, 3, 4, 5, 6, 7, 8, 9, 10, 11, 12]), (⟨(some 123), none, .mv (.t 5)⟩, [0, 1, 2, 3, 4, 5, 6, 7, 8, 9, 10, 11, 12, 13, 14, 15, 16]), (⟨(some 124), none, .bin 0 .sub (.t 122) (.t 123)⟩, [0, 1, 2, 3, 4, 5, 6, 7, 8, 9, 10, 11, 12]), (⟨(some 125), none, .nilchk (.t 106)⟩, [1, 17, 18]), (⟨(some 126), none, .fadr 1 (.t 125)⟩, [1, 17, 18]), (⟨none, none, .store 1 (.t 126) (.t 118)⟩, [1, 17, 18]), (⟨(some 127), none, .nilchk (.t 107)⟩, []), (⟨(some 128), none, .fadr 2 (.t 127)⟩, []), (⟨none, none, .store 1 (.t 128) (.t 124)⟩, [])])))))))
 (.ops [⟨(some 129), none, .bin 0 .add (.t 65) (.c (.int .i64 1))⟩, ⟨(some 65), none, .mv (.t 129)⟩])))))))))⟩
theorem c58 : compF Go.Proofs.Try.prog 58 = some a58 := by kernel_rfl
def a59 : AFn := ⟨15, [.t 6], .seq (.ops [⟨(some 6), none, .mv (.c (.bool false))⟩])
 (.seq (.ops [⟨(some 7), none, .mv (.t 1)⟩, ⟨(some 8), none, .mv (.t 0)⟩, ⟨(some 9), none, .bin 0 .leq (.t 7) (.t 8)⟩, ⟨(some 10), none, .mv (.t 9)⟩, ⟨(some 11), (some (10, true)), .mv (.t 0)⟩, ⟨(some 12), (some (10, true)), .mv (.t 2)⟩, ⟨(some 13), (some (10, true)), .bin 0 .leq (.t 11) (.t 12)⟩, ⟨(some 14), none, .pick (.t 10) (.t 13) (.c (.bool false))⟩, ⟨(some 6), none, .mv (.t 14)⟩])
 (.ret))⟩
theorem c59 : compF Go.Proofs.Try.prog 59 = some a59 := by kernel_rfl
def a61 : AFn := ⟨9, [.t 4], .seq (.ops [⟨(some 4), none, .mv (.c (.bool false))⟩])
 (.seq (.ops [⟨(some 5), none, .mv (.t 0)⟩, ⟨(some 6), none, .mv (.t 1)⟩, ⟨(some 7), none, .call 110 [(.t 5), (.t 6)]⟩, ⟨(some 8), none, .bin 0 .geq (.t 7) (.c (.int .i64 0))⟩, ⟨(some 4), none, .mv (.t 8)⟩])
 (.ret))⟩
theorem c61 : compF Go.Proofs.Try.prog 61 = some a61 := by kernel_rfl
def a62 : AFn := ⟨8, [.t 2], .seq (.ops [⟨(some 2), none, .mv (.c (.lit true 0 []))⟩])
 (.seq (.seq (.ops [⟨(some 3), none, .mv (.t 0)⟩, ⟨(some 4), none, .bin 3 .eql (.t 3) (.c (.lit true 0 []))⟩])
 (.cond (.t 4) (.seq (.ops [⟨(some 2), none, .mv (.c (.lit true 0 []))⟩])
 (.ret)) (.skip)))
 (.seq (.ops [⟨(some 5), none, .bslice 3 1 0 [(.int .i64 0)] []⟩, ⟨(some 6), none, .mv (.t 0)⟩, ⟨(some 7), none, .app 3 1 8 (.t 5) (.t 6)⟩, ⟨(some 2), none, .mv (.t 7)⟩])
 (.ret)))⟩
theorem c62 : compF Go.Proofs.Try.prog 62 = some a62 := by kernel_rfl
def a63 : AFn := ⟨9, [.t 4], .seq (.ops [⟨(some 4), none, .mv (.c (.bool false))⟩])
 (.seq (.ops [⟨(some 5), none, .mv (.t 0)⟩, ⟨(some 6), none, .mv (.t 1)⟩, ⟨(some 7), none, .call 111 [(.t 5), (.t 6)]⟩, ⟨(some 8), none, .bin 0 .geq (.t 7) (.c (.int .i64 0))⟩, ⟨(some 4), none, .mv (.t 8)⟩])
 (.ret))⟩
theorem c63 : compF Go.Proofs.Try.prog 63 = some a63 := by kernel_rfl
def a67 : AFn := ⟨72, [.t 2], .seq (.ops [⟨(some 1), none, .box 43 (.t 0)⟩, ⟨(some 2), none, .mv (.c (.int .i64 0))⟩])
 (.seq (.block 0 (.seq (.ops [⟨(some 7), none, .fadr 0 (.t 1)⟩, ⟨(some 8), none, .load none (.t 7)⟩, ⟨(some 9), none, .len false (.t 8)⟩, ⟨(some 10), none, .bin 0 .eql (.t 9) (.c (.int .i64 0))⟩, ⟨(some 6), none, .mv (.t 10)⟩])
 (.cond (.t 6) (.seq (.ops [⟨(some 2), none, .mv (.c (.int .i64 8))⟩])
 (.ret)) (.seq (.ops [⟨(some 12), none, .fadr 0 (.t 1)⟩, ⟨(some 13), none, .load none (.t 12)⟩, ⟨(some 14), none, .len false (.t 13)⟩, ⟨(some 15), none, .bin 0 .gtr (.t 14) (.c (.int .i64 60))⟩, ⟨(some 11), none, .mv (.t 15)⟩])
 (.cond (.t 11) (.seq (.ops [⟨(some 2), none, .mv (.c (.int .i64 2))⟩])
 (.ret)) (.skip))))))
 (.seq (.seq (.ops [⟨(some 16), none, .fadr 0 (.t 1)⟩, ⟨(some 17), none, .load none (.t 16)⟩, ⟨(some 18), none, .len false (.t 17)⟩, ⟨(some 19), none, .mv (.c (.int .i64 0))⟩])
 (.block 1 (.loop (.seq (.ops [⟨(some 20), none, .bin 0 .lss (.t 19) (.t 18)⟩])
 (.seq (.cond (.t 20) (.skip) (.exit 1))
 (.seq (.block 2 (.seq (.ops [⟨(some 21), none, .iadr 1 (.t 17) (.t 19)⟩, ⟨(some 22), none, .load none (.t 21)⟩, ⟨(some 4), none, .mv (.t 22)⟩])
 (.block 3 (.seq (.ops [⟨(some 24), none, .mv (.t 4)⟩, ⟨(some 25), none, .bin 1 .eql (.t 24) (.c (.str []))⟩, ⟨(some 23), none, .mv (.t 25)⟩])
 (.cond (.t 23) (.seq (.ops [⟨(some 2), none, .mv (.c (.int .i64 8))⟩])
 (.ret)) (.seq (.ops [⟨(some 27), none, .mv (.t 4)⟩, ⟨(some 28), none, .len true (.t 27)⟩, ⟨(some 29), none, .bin 0 .gtr (.t 28) (.c (.int .i64 60))⟩, ⟨(some 26), none, .mv (.t 29)⟩])
 (.cond (.t 26) (.seq (.ops [⟨(some 2), none, .mv (.c (.int .i64 2))⟩])
 (.ret)) (.seq (.ops [⟨(some 31), none, .mv (.t 4)⟩, ⟨(some 32), none, .len true (.t 31)⟩, ⟨(some 33), none, .fadr 0 (.t 1)⟩, ⟨(some 34), none, .load none (.t 33)⟩, ⟨(some 35), none, .iadr 1 (.t 34) (.c (.int .i64 0))⟩, ⟨(some 36), none, .load none (.t 35)⟩, ⟨(some 37), none, .len true (.t 36)⟩, ⟨(some 38), none, .bin 0 .neq (.t 32) (.t 37)⟩, ⟨(some 30), none, .mv (.t 38)⟩])
 (.cond (.t 30) (.seq (.ops [⟨(some 2), none, .mv (.c (.int .i64 3))⟩])
 (.ret)) (.seq (.ops [⟨(some 40), none, .mv (.t 4)⟩, ⟨(some 41), none, .call 113 [(.t 40)]⟩, ⟨(some 39), none, .mv (.t 41)⟩])
 (.cond (.t 39) (.seq (.ops [⟨(some 2), none, .mv (.c (.int .i64 9))⟩])
 (.ret)) (.skip))))))))))))
 (.ops [⟨(some 42), none, .bin 0 .add (.t 19) (.c (.int .i64 1))⟩, ⟨(some 19), none, .mv (.t 42)⟩])))))))
 (.seq (.seq (.ops [⟨(some 43), none, .fadr 1 (.t 1)⟩, ⟨(some 44), none, .load none (.t 43)⟩, ⟨(some 45), none, .len true (.t 44)⟩, ⟨(some 46), none, .mv (.c (.int .i64 0))⟩])
 (.block 4 (.loop (.seq (.ops [⟨(some 47), none, .bin 0 .lss (.t 46) (.t 45)⟩])
 (.seq (.cond (.t 47) (.skip) (.exit 4))
 (.seq (.block 5 (.seq (.ops [⟨(some 48), none, .mv (.t 46)⟩, ⟨(some 5), none, .mv (.t 48)⟩])
 (.block 6 (.seq (.ops [⟨(some 50), none, .fadr 1 (.t 1)⟩, ⟨(some 51), none, .load none (.t 50)⟩, ⟨(some 52), none, .mv (.t 5)⟩, ⟨(some 53), none, .idxs (.t 51) (.t 52)⟩, ⟨(some 54), none, .call 114 [(.t 53)]⟩, ⟨(some 55), none, .un .not (.t 54)⟩, ⟨(some 49), none, .mv (.t 55)⟩])
 (.cond (.t 49) (.seq (.ops [⟨(some 2), none, .mv (.c (.int .i64 9))⟩])
 (.ret)) (.seq (.any [(⟨(some 57), none, .mv (.t 5)⟩, []), (⟨(some 58), none, .bin 0 .gtr (.t 57) (.c (.int .i64 0))⟩, []), (⟨(some 59), none, .mv (.t 58)⟩, []), (⟨(some 60), (some (59, true)), .fadr 1 (.t 1)⟩, []), (⟨(some 61), (some (59, true)), .load none (.t 60)⟩, []), (⟨(some 62), (some (59, true)), .mv (.t 5)⟩, [3, 4]), (⟨(some 63), (some (59, true)), .idxs (.t 61) (.t 62)⟩, []), (⟨(some 64), (some (59, true)), .fadr 1 (.t 1)⟩, [3, 4, 5, 6]), (⟨(some 65), (some (59, true)), .load none (.t 64)⟩, [3, 4, 5, 6]), (⟨(some 66), (some (59, true)), .mv (.t 5)⟩, [3, 4, 5, 6, 7, 8]), (⟨(some 67), (some (59, true)), .bin 0 .sub (.t 66) (.c (.int .i64 1))⟩, [3, 4, 5, 6, 7, 8]), (⟨(some 68), (some (59, true)), .idxs (.t 65) (.t 67)⟩, [3, 4, 5, 6]), (⟨(some 69), (some (59, true)), .bin 0 .leq (.t 63) (.t 68)⟩, []), (⟨(some 70), none, .pick (.t 59) (.t 69) (.c (.bool false))⟩, []), (⟨(some 56), none, .mv (.t 70)⟩, [])])
 (.cond (.t 56) (.seq (.ops [⟨(some 2), none, .mv (.c (.int .i64 7))⟩])
 (.ret)) (.skip))))))))
 (.ops [⟨(some 71), none, .bin 0 .add (.t 46) (.c (.int .i64 1))⟩, ⟨(some 46), none, .mv (.t 71)⟩])))))))
 (.seq (.ops [⟨(some 2), none, .mv (.c (.int .i64 0))⟩])
 (.ret)))))⟩
theorem c67 : compF Go.Proofs.Try.prog 67 = some a67 := by kernel_rfl
def a69 : AFn := ⟨29, [.t 2], .seq (.ops [⟨(some 1), none, .box 43 (.t 0)⟩, ⟨(some 2), none, .mv (.c (.lit true 0 []))⟩])
 (.seq (.ops [⟨(some 3), none, .mv (.c (.lit true 0 []))⟩])
 (.seq (.seq (.ops [⟨(some 7), none, .fadr 0 (.t 1)⟩, ⟨(some 8), none, .load none (.t 7)⟩, ⟨(some 9), none, .len false (.t 8)⟩, ⟨(some 10), none, .mv (.c (.int .i64 0))⟩])
 (.block 0 (.loop (.seq (.ops [⟨(some 11), none, .bin 0 .lss (.t 10) (.t 9)⟩])
 (.seq (.cond (.t 11) (.skip) (.exit 0))
 (.seq (.block 1 (.seq (.ops [⟨(some 12), none, .mv (.t 10)⟩, ⟨(some 13), none, .iadr 1 (.t 8) (.t 10)⟩, ⟨(some 14), none, .load none (.t 13)⟩, ⟨(some 4), none, .mv (.t 12)⟩, ⟨(some 5), none, .mv (.t 14)⟩])
 (.seq (.ops [⟨(some 15), none, .mv (.t 5)⟩, ⟨(some 16), none, .len true (.t 15)⟩, ⟨(some 17), none, .mv (.c (.int .i64 0))⟩])
 (.block 2 (.loop (.seq (.ops [⟨(some 18), none, .bin 0 .lss (.t 17) (.t 16)⟩])
 (.seq (.cond (.t 18) (.skip) (.exit 2))
 (.seq (.block 3 (.seq (.ops [⟨(some 19), none, .mv (.t 17)⟩, ⟨(some 6), none, .mv (.t 19)⟩])
 (.ops [⟨(some 20), none, .mv (.t 3)⟩, ⟨(some 21), none, .mv (.t 6)⟩, ⟨(some 22), none, .mv (.t 4)⟩, ⟨(some 23), none, .build [(.int .i64 0), (.int .i64 0)] [(0, 1, (.t 21)), (1, 1, (.t 22))]⟩, ⟨(some 24), none, .bslice 31 2 1 [(.int .i64 0), (.int .i64 0)] [(0, 2, (.t 23))]⟩, ⟨(some 25), none, .app 31 2 16 (.t 20) (.t 24)⟩, ⟨(some 3), none, .mv (.t 25)⟩])))
 (.ops [⟨(some 26), none, .bin 0 .add (.t 17) (.c (.int .i64 1))⟩, ⟨(some 17), none, .mv (.t 26)⟩])))))))))
 (.ops [⟨(some 27), none, .bin 0 .add (.t 10) (.c (.int .i64 1))⟩, ⟨(some 10), none, .mv (.t 27)⟩])))))))
 (.seq (.ops [⟨(some 28), none, .mv (.t 3)⟩, ⟨(some 2), none, .mv (.t 28)⟩])
 (.ret))))⟩
theorem c69 : compF Go.Proofs.Try.prog 69 = some a69 := by kernel_rfl
def a70 : AFn := ⟨32, [.t 4], .seq (.ops [⟨(some 2), none, .box 43 (.t 0)⟩, ⟨(some 3), none, .box 31 (.t 1)⟩, ⟨(some 4), none, .mv (.c (.int .u8 0))⟩])
 (.seq (.seq (.any [(⟨(some 5), none, .fadr 1 (.t 3)⟩, []), (⟨(some 6), none, .load none (.t 5)⟩, []), (⟨(some 7), none, .fadr 0 (.t 2)⟩, [0, 1]), (⟨(some 8), none, .load none (.t 7)⟩, [0, 1]), (⟨(some 9), none, .len false (.t 8)⟩, [0, 1]), (⟨(some 10), none, .bin 0 .sub (.t 9) (.c (.int .i64 1))⟩, [0, 1]), (⟨(some 11), none, .call 57 [(.t 6), (.c (.int .i64 0)), (.t 10)]⟩, []), (⟨(some 12), none, .mv (.t 11)⟩, []), (⟨(some 13), (some (12, false)), .fadr 0 (.t 3)⟩, []), (⟨(some 14), (some (12, false)), .load none (.t 13)⟩, []), (⟨(some 15), (some (12, false)), .fadr 0 (.t 2)⟩, [8, 9]), (⟨(some 16), (some (12, false)), .load none (.t 15)⟩, [8, 9]), (⟨(some 17), (some (12, false)), .iadr 1 (.t 16) (.c (.int .i64 0))⟩, [8, 9]), (⟨(some 18), (some (12, false)), .load none (.t 17)⟩, [8, 9]), (⟨(some 19), (some (12, false)), .len true (.t 18)⟩, [8, 9]), (⟨(some 20), (some (12, false)), .bin 0 .sub (.t 19) (.c (.int .i64 1))⟩, [8, 9]), (⟨(some 21), (some (12, false)), .call 57 [(.t 14), (.c (.int .i64 0)), (.t 20)]⟩, []), (⟨(some 22), none, .pick (.t 12) (.c (.bool true)) (.t 21)⟩, [])])
 (.cond (.t 22) (.seq (.ops [⟨(some 4), none, .mv (.c (.int .u8 46))⟩])
 (.ret)) (.skip)))
 (.seq (.any [(⟨(some 23), none, .fadr 0 (.t 2)⟩, []), (⟨(some 24), none, .load none (.t 23)⟩, []), (⟨(some 25), none, .fadr 1 (.t 3)⟩, [0, 1]), (⟨(some 26), none, .load none (.t 25)⟩, [0, 1]), (⟨(some 27), none, .iadr 1 (.t 24) (.t 26)⟩, []), (⟨(some 28), none, .load none (.t 27)⟩, []), (⟨(some 29), none, .fadr 0 (.t 3)⟩, [0, 1, 2, 3, 4, 5]), (⟨(some 30), none, .load none (.t 29)⟩, [0, 1, 2, 3, 4, 5]), (⟨(some 31), none, .idxs (.t 28) (.t 30)⟩, []), (⟨(some 4), none, .mv (.t 31)⟩, [])])
 (.ret)))⟩
theorem c70 : compF Go.Proofs.Try.prog 70 = some a70 := by kernel_rfl
def a71 : AFn := ⟨9, [.t 2], .seq (.ops [⟨(some 2), none, .mv (.c (.bool false))⟩])
 (.seq (.ops [⟨(some 3), none, .mv (.t 0)⟩, ⟨(some 4), none, .call 114 [(.t 3)]⟩, ⟨(some 5), none, .mv (.t 4)⟩, ⟨(some 6), (some (5, false)), .mv (.t 0)⟩, ⟨(some 7), (some (5, false)), .bin 0 .eql (.t 6) (.c (.int .u8 42))⟩, ⟨(some 8), none, .pick (.t 5) (.c (.bool true)) (.t 7)⟩, ⟨(some 2), none, .mv (.t 8)⟩])
 (.ret))⟩
theorem c71 : compF Go.Proofs.Try.prog 71 = some a71 := by kernel_rfl
def a91 : AFn := ⟨30, [.t 4, .t 5], .seq (.ops [⟨(some 2), none, .box 43 (.t 0)⟩, ⟨(some 4), none, .mv (.c (.int .i64 0))⟩, ⟨(some 5), none, .mv (.c (.int .i64 0))⟩])
 (.seq (.seq (.ops [⟨(some 9), none, .mv (.t 1)⟩, ⟨(some 10), none, .len false (.t 9)⟩, ⟨(some 11), none, .mv (.c (.int .i64 0))⟩])
 (.block 0 (.loop (.seq (.ops [⟨(some 12), none, .bin 0 .lss (.t 11) (.t 10)⟩])
 (.seq (.cond (.t 12) (.skip) (.exit 0))
 (.seq (.block 1 (.seq (.ops [⟨(some 13), none, .iadr 2 (.t 9) (.t 11)⟩, ⟨(some 14), none, .load (some 2) (.t 13)⟩, ⟨(some 7), none, .alloc 31 [(.int .i64 0), (.int .i64 0)]⟩, ⟨none, none, .store 2 (.t 7) (.t 14)⟩])
 (.seq (.ops [⟨(some 15), none, .load (some 2) (.t 2)⟩, ⟨(some 16), none, .load (some 2) (.t 7)⟩, ⟨(some 17), none, .call 70 [(.t 15), (.t 16)]⟩, ⟨(some 8), none, .mv (.t 17)⟩])
 (.seq (.seq (.ops [⟨(some 18), none, .mv (.t 8)⟩, ⟨(some 19), none, .call 71 [(.t 18)]⟩])
 (.cond (.t 19) (.ops [⟨(some 20), none, .mv (.t 5)⟩, ⟨(some 21), none, .bin 0 .add (.t 20) (.c (.int .i64 1))⟩, ⟨(some 5), none, .mv (.t 21)⟩]) (.skip)))
 (.seq (.ops [⟨(some 22), none, .load (some 2) (.t 2)⟩, ⟨(some 23), none, .mv (.t 8)⟩, ⟨(some 24), none, .call 99 [(.t 22), (.t 23)]⟩])
 (.cond (.t 24) (.ops [⟨(some 25), none, .mv (.t 4)⟩, ⟨(some 26), none, .bin 0 .add (.t 25) (.c (.int .i64 1))⟩, ⟨(some 4), none, .mv (.t 26)⟩]) (.skip)))))))
 (.ops [⟨(some 27), none, .bin 0 .add (.t 11) (.c (.int .i64 1))⟩, ⟨(some 11), none, .mv (.t 27)⟩])))))))
 (.seq (.ops [⟨(some 28), none, .mv (.t 4)⟩, ⟨(some 29), none, .mv (.t 5)⟩, ⟨(some 4), none, .mv (.t 28)⟩, ⟨(some 5), none, .mv (.t 29)⟩])
 (.ret)))⟩
theorem c91 : compF Go.Proofs.Try.prog 91 = some a91 := by kernel_rfl
def a92 : AFn := ⟨19, [.c 4 (some 2)], .seq (.ops [⟨(some 4), none, .alloc 49 [(.int .i64 0), (.int .i64 0)]⟩])
 (.seq (.ops [⟨(some 6), none, .mv (.t 0)⟩, ⟨(some 7), none, .mv (.t 0)⟩, ⟨(some 8), none, .un .neg (.t 7)⟩, ⟨(some 9), none, .mm true (.t 6) [(.t 8)]⟩, ⟨(some 10), none, .mv (.t 1)⟩, ⟨(some 11), none, .call 121 [(.t 9), (.t 10)]⟩, ⟨(some 5), none, .mv (.t 11)⟩])
 (.seq (.any [(⟨(some 12), none, .mv (.t 0)⟩, []), (⟨(some 13), none, .mv (.t 5)⟩, [0]), (⟨(some 14), none, .bin 0 .quo (.t 12) (.t 13)⟩, []), (⟨(some 15), none, .mv (.t 1)⟩, [0, 1, 2]), (⟨(some 16), none, .mv (.t 5)⟩, [0, 1, 2, 3]), (⟨(some 17), none, .bin 0 .quo (.t 15) (.t 16)⟩, [0, 1, 2]), (⟨(some 18), none, .build [(.int .i64 0), (.int .i64 0)] [(0, 1, (.t 14)), (1, 1, (.t 17))]⟩, []), (⟨none, none, .store 2 (.t 4) (.t 18)⟩, [])])
 (.ret)))⟩
theorem c92 : compF Go.Proofs.Try.prog 92 = some a92 := by kernel_rfl
def a93 : AFn := ⟨17, [.t 4, .t 5], .seq (.ops [⟨(some 4), none, .mv (.c (.str []))⟩, ⟨(some 5), none, .mv (.c (.int .i64 0))⟩])
 (.seq (.seq (.ops [⟨(some 6), none, .mv (.t 0)⟩, ⟨(some 7), none, .call 122 [(.t 6)]⟩, ⟨(some 8), none, .un .not (.t 7)⟩, ⟨(some 9), none, .mv (.t 8)⟩, ⟨(some 10), (some (9, false)), .mv (.t 1)⟩, ⟨(some 11), (some (9, false)), .call 122 [(.t 10)]⟩, ⟨(some 12), (some (9, false)), .un .not (.t 11)⟩, ⟨(some 13), none, .pick (.t 9) (.c (.bool true)) (.t 12)⟩])
 (.cond (.t 13) (.seq (.ops [⟨(some 4), none, .mv (.c (.str []))⟩, ⟨(some 5), none, .mv (.c (.int .i64 1))⟩])
 (.ret)) (.skip)))
 (.seq (.ops [⟨(some 14), none, .mv (.t 0)⟩, ⟨(some 15), none, .mv (.t 1)⟩, ⟨(some 16), none, .call 123 [(.t 14), (.t 15)]⟩, ⟨(some 4), none, .mv (.t 16)⟩, ⟨(some 5), none, .mv (.c (.int .i64 0))⟩])
 (.ret)))⟩
theorem c93 : compF Go.Proofs.Try.prog 93 = some a93 := by kernel_rfl
def a94 : AFn := ⟨30, [.t 2, .t 3], .seq (.ops [⟨(some 1), none, .box 3 (.t 0)⟩, ⟨(some 2), none, .mv (.c (.lit true 0 []))⟩, ⟨(some 3), none, .mv (.c (.int .i64 0))⟩])
 (.seq (.seq (.ops [⟨(some 8), none, .load none (.t 1)⟩, ⟨(some 9), none, .call 124 [(.t 8)]⟩, ⟨(some 4), none, .mv (.t 9)⟩])
 (.seq (.ops [⟨(some 10), none, .mv (.t 4)⟩, ⟨(some 11), none, .bin 0 .neq (.t 10) (.c (.int .i64 0))⟩])
 (.cond (.t 11) (.seq (.ops [⟨(some 12), none, .mv (.t 4)⟩, ⟨(some 2), none, .mv (.c (.lit true 0 []))⟩, ⟨(some 3), none, .mv (.t 12)⟩])
 (.ret)) (.skip))))
 (.seq (.ops [⟨(some 13), none, .mkfn 126 [(.t 1)]⟩, ⟨(some 14), none, .call 125 [(.c (.int .i64 0)), (.t 13)]⟩, ⟨(some 5), none, .mv (.t 14)⟩])
 (.seq (.ops [⟨(some 6), none, .mv (.c (.lit true 0 []))⟩])
 (.seq (.seq (.ops [⟨(some 15), none, .load none (.t 1)⟩, ⟨(some 16), none, .mv (.c (.int .i64 0))⟩])
 (.block 0 (.loop (.seq (.ops [⟨(some 17), none, .bin 0 .lss (.t 16) (.t 15)⟩])
 (.seq (.cond (.t 17) (.skip) (.exit 0))
 (.seq (.block 1 (.seq (.ops [⟨(some 18), none, .mv (.t 16)⟩, ⟨(some 7), none, .mv (.t 18)⟩])
 (.ops [⟨(some 19), none, .mv (.t 6)⟩, ⟨(some 20), none, .mv (.t 7)⟩, ⟨(some 21), none, .bin 0 .add (.t 20) (.c (.int .i64 1))⟩, ⟨(some 22), none, .mv (.t 5)⟩, ⟨(some 23), none, .call 127 [(.t 21), (.t 22)]⟩, ⟨(some 24), none, .bslice 9 1 1 [(.str [])] [(0, 1, (.t 23))]⟩, ⟨(some 25), none, .app 9 1 16 (.t 19) (.t 24)⟩, ⟨(some 6), none, .mv (.t 25)⟩])))
 (.ops [⟨(some 26), none, .bin 0 .add (.t 16) (.c (.int .i64 1))⟩, ⟨(some 16), none, .mv (.t 26)⟩])))))))
 (.seq (.ops [⟨(some 27), none, .mv (.t 6)⟩, ⟨(some 28), none, .mv (.t 5)⟩, ⟨(some 29), none, .call 128 [(.t 27), (.t 28)]⟩, ⟨(some 2), none, .mv (.t 29)⟩, ⟨(some 3), none, .mv (.c (.int .i64 0))⟩])
 (.ret))))))⟩
theorem c94 : compF Go.Proofs.Try.prog 94 = some a94 := by kernel_rfl
def a99 : AFn := ⟨14, [.t 4], .seq (.ops [⟨(some 2), none, .box 43 (.t 0)⟩, ⟨(some 4), none, .mv (.c (.bool false))⟩])
 (.seq (.ops [⟨(some 5), none, .mv (.t 1)⟩, ⟨(some 6), none, .call 114 [(.t 5)]⟩, ⟨(some 7), none, .mv (.t 6)⟩, ⟨(some 8), (some (7, true)), .fadr 1 (.t 2)⟩, ⟨(some 9), (some (7, true)), .load none (.t 8)⟩, ⟨(some 10), (some (7, true)), .mv (.t 1)⟩, ⟨(some 11), (some (7, true)), .call 112 [(.t 9), (.t 10)]⟩, ⟨(some 12), (some (7, true)), .bin 0 .geq (.t 11) (.c (.int .i64 0))⟩, ⟨(some 13), none, .pick (.t 7) (.t 12) (.c (.bool false))⟩, ⟨(some 4), none, .mv (.t 13)⟩])
 (.ret))⟩
theorem c99 : compF Go.Proofs.Try.prog 99 = some a99 := by kernel_rfl
def a106 : AFn := ⟨16, [.t 4], .seq (.ops [⟨(some 4), none, .mv (.c (.int .i64 0))⟩])
 (.seq (.seq (.ops [⟨(some 5), none, .mv (.t 1)⟩, ⟨(some 6), none, .bin 0 .lss (.t 5) (.c (.int .i64 1))⟩])
 (.cond (.t 6) (.seq (.ops [⟨(some 4), none, .mv (.c (.int .i64 0))⟩])
 (.ret)) (.skip)))
 (.seq (.ops [⟨(some 7), none, .mv (.t 0)⟩, ⟨(some 8), none, .mv (.t 1)⟩, ⟨(some 9), none, .bin 0 .rem (.t 7) (.t 8)⟩, ⟨(some 0), none, .mv (.t 9)⟩])
 (.seq (.seq (.ops [⟨(some 10), none, .mv (.t 0)⟩, ⟨(some 11), none, .bin 0 .lss (.t 10) (.c (.int .i64 0))⟩])
 (.cond (.t 11) (.ops [⟨(some 12), none, .mv (.t 0)⟩, ⟨(some 13), none, .mv (.t 1)⟩, ⟨(some 14), none, .bin 0 .add (.t 12) (.t 13)⟩, ⟨(some 0), none, .mv (.t 14)⟩]) (.skip)))
 (.seq (.ops [⟨(some 15), none, .mv (.t 0)⟩, ⟨(some 4), none, .mv (.t 15)⟩])
 (.ret)))))⟩
theorem c106 : compF Go.Proofs.Try.prog 106 = some a106 := by kernel_rfl
def a109 : AFn := ⟨26, [.t 4], .seq (.ops [⟨(some 2), none, .box 31 (.t 0)⟩, ⟨(some 3), none, .box 31 (.t 1)⟩, ⟨(some 4), none, .mv (.c (.int .i64 0))⟩])
 (.seq (.ops [⟨(some 5), none, .fadr 0 (.t 2)⟩, ⟨(some 6), none, .load none (.t 5)⟩, ⟨(some 7), none, .fadr 0 (.t 3)⟩, ⟨(some 8), none, .load none (.t 7)⟩, ⟨(some 9), none, .bin 0 .sub (.t 6) (.t 8)⟩, ⟨(some 10), none, .fadr 0 (.t 3)⟩, ⟨(some 11), none, .load none (.t 10)⟩, ⟨(some 12), none, .fadr 0 (.t 2)⟩, ⟨(some 13), none, .load none (.t 12)⟩, ⟨(some 14), none, .bin 0 .sub (.t 11) (.t 13)⟩, ⟨(some 15), none, .fadr 1 (.t 2)⟩, ⟨(some 16), none, .load none (.t 15)⟩, ⟨(some 17), none, .fadr 1 (.t 3)⟩, ⟨(some 18), none, .load none (.t 17)⟩, ⟨(some 19), none, .bin 0 .sub (.t 16) (.t 18)⟩, ⟨(some 20), none, .fadr 1 (.t 3)⟩, ⟨(some 21), none, .load none (.t 20)⟩, ⟨(some 22), none, .fadr 1 (.t 2)⟩, ⟨(some 23), none, .load none (.t 22)⟩, ⟨(some 24), none, .bin 0 .sub (.t 21) (.t 23)⟩, ⟨(some 25), none, .mm true (.t 9) [(.t 14), (.t 19), (.t 24)]⟩, ⟨(some 4), none, .mv (.t 25)⟩])
 (.ret))⟩
theorem c109 : compF Go.Proofs.Try.prog 109 = some a109 := by kernel_rfl
def a110 : AFn := ⟨19, [.t 4], .seq (.ops [⟨(some 4), none, .mv (.c (.int .i64 0))⟩])
 (.seq (.seq (.ops [⟨(some 6), none, .mv (.t 0)⟩, ⟨(some 7), none, .len false (.t 6)⟩, ⟨(some 8), none, .mv (.c (.int .i64 0))⟩])
 (.block 0 (.loop (.seq (.ops [⟨(some 9), none, .bin 0 .lss (.t 8) (.t 7)⟩])
 (.seq (.cond (.t 9) (.skip) (.exit 0))
 (.seq (.block 1 (.seq (.ops [⟨(some 10), none, .mv (.t 8)⟩, ⟨(some 5), none, .mv (.t 10)⟩])
 (.seq (.ops [⟨(some 11), none, .mv (.t 1)⟩, ⟨(some 12), none, .mv (.t 0)⟩, ⟨(some 13), none, .mv (.t 5)⟩, ⟨(some 14), none, .iadr 1 (.t 12) (.t 13)⟩, ⟨(some 15), none, .load none (.t 14)⟩, ⟨(some 16), none, .bin 0 .eql (.t 11) (.t 15)⟩])
 (.cond (.t 16) (.seq (.ops [⟨(some 17), none, .mv (.t 5)⟩, ⟨(some 4), none, .mv (.t 17)⟩])
 (.ret)) (.skip)))))
 (.ops [⟨(some 18), none, .bin 0 .add (.t 8) (.c (.int .i64 1))⟩, ⟨(some 8), none, .mv (.t 18)⟩])))))))
 (.seq (.ops [⟨(some 4), none, .mv (.c (.int .i64 (-1)))⟩])
 (.ret)))⟩
theorem c110 : compF Go.Proofs.Try.prog 110 = some a110 := by kernel_rfl
def a111 : AFn := ⟨19, [.t 4], .seq (.ops [⟨(some 4), none, .mv (.c (.int .i64 0))⟩])
 (.seq (.seq (.ops [⟨(some 6), none, .mv (.t 0)⟩, ⟨(some 7), none, .len false (.t 6)⟩, ⟨(some 8), none, .mv (.c (.int .i64 0))⟩])
 (.block 0 (.loop (.seq (.ops [⟨(some 9), none, .bin 0 .lss (.t 8) (.t 7)⟩])
 (.seq (.cond (.t 9) (.skip) (.exit 0))
 (.seq (.block 1 (.seq (.ops [⟨(some 10), none, .mv (.t 8)⟩, ⟨(some 5), none, .mv (.t 10)⟩])
 (.seq (.ops [⟨(some 11), none, .mv (.t 1)⟩, ⟨(some 12), none, .mv (.t 0)⟩, ⟨(some 13), none, .mv (.t 5)⟩, ⟨(some 14), none, .iadr 1 (.t 12) (.t 13)⟩, ⟨(some 15), none, .load none (.t 14)⟩, ⟨(some 16), none, .callv (.t 11) [(.t 15)]⟩])
 (.cond (.t 16) (.seq (.ops [⟨(some 17), none, .mv (.t 5)⟩, ⟨(some 4), none, .mv (.t 17)⟩])
 (.ret)) (.skip)))))
 (.ops [⟨(some 18), none, .bin 0 .add (.t 8) (.c (.int .i64 1))⟩, ⟨(some 8), none, .mv (.t 18)⟩])))))))
 (.seq (.ops [⟨(some 4), none, .mv (.c (.int .i64 (-1)))⟩])
 (.ret)))⟩
theorem c111 : compF Go.Proofs.Try.prog 111 = some a111 := by kernel_rfl
def a112 : AFn := ⟨8, [.t 4], .seq (.ops [⟨(some 4), none, .mv (.c (.int .i64 0))⟩])
 (.seq (.ops [⟨(some 5), none, .mv (.t 0)⟩, ⟨(some 6), none, .mv (.t 1)⟩, ⟨(some 7), none, .call 134 [(.t 5), (.t 6)]⟩, ⟨(some 4), none, .mv (.t 7)⟩])
 (.ret))⟩
theorem c112 : compF Go.Proofs.Try.prog 112 = some a112 := by kernel_rfl
def a113 : AFn := ⟨6, [.t 2], .seq (.ops [⟨(some 2), none, .mv (.c (.bool false))⟩])
 (.seq (.ops [⟨(some 3), none, .mv (.t 0)⟩, ⟨(some 4), none, .s2b (.t 3)⟩, ⟨(some 5), none, .call 63 [(.t 4), (.c (.fn 135 []))]⟩, ⟨(some 2), none, .mv (.t 5)⟩])
 (.ret))⟩
theorem c113 : compF Go.Proofs.Try.prog 113 = some a113 := by kernel_rfl
def a114 : AFn := ⟨17, [.t 2], .seq (.ops [⟨(some 2), none, .mv (.c (.bool false))⟩])
 (.seq (.ops [⟨(some 3), none, .mv (.t 0)⟩, ⟨(some 4), none, .bin 0 .geq (.t 3) (.c (.int .u8 48))⟩, ⟨(some 5), none, .mv (.t 4)⟩, ⟨(some 6), (some (5, true)), .mv (.t 0)⟩, ⟨(some 7), (some (5, true)), .bin 0 .leq (.t 6) (.c (.int .u8 57))⟩, ⟨(some 8), none, .pick (.t 5) (.t 7) (.c (.bool false))⟩, ⟨(some 9), none, .mv (.t 8)⟩, ⟨(some 10), (some (9, false)), .mv (.t 0)⟩, ⟨(some 11), (some (9, false)), .bin 0 .geq (.t 10) (.c (.int .u8 97))⟩, ⟨(some 12), (some (9, false)), .mv (.t 11)⟩, ⟨(some 13), (some (12, true)), .mv (.t 0)⟩, ⟨(some 14), (some (12, true)), .bin 0 .leq (.t 13) (.c (.int .u8 122))⟩, ⟨(some 15), (some (9, false)), .pick (.t 12) (.t 14) (.c (.bool false))⟩, ⟨(some 16), none, .pick (.t 9) (.c (.bool true)) (.t 15)⟩, ⟨(some 2), none, .mv (.t 16)⟩])
 (.ret))⟩
theorem c114 : compF Go.Proofs.Try.prog 114 = some a114 := by kernel_rfl
def a121 : AFn := ⟨12, [.t 4], .seq (.ops [⟨(some 4), none, .mv (.c (.int .i64 0))⟩])
 (.seq (.block 0 (.loop (.seq (.seq (.ops [⟨(some 5), none, .mv (.t 1)⟩, ⟨(some 6), none, .bin 0 .neq (.t 5) (.c (.int .i64 0))⟩])
 (.cond (.t 6) (.skip) (.exit 0)))
 (.block 1 (.any [(⟨(some 7), none, .mv (.t 1)⟩, []), (⟨(some 8), none, .mv (.t 0)⟩, [0]), (⟨(some 9), none, .mv (.t 1)⟩, [0, 1]), (⟨(some 10), none, .bin 0 .rem (.t 8) (.t 9)⟩, [0]), (⟨(some 0), none, .mv (.t 7)⟩, [2, 3]), (⟨(some 1), none, .mv (.t 10)⟩, [])])))))
 (.seq (.ops [⟨(some 11), none, .mv (.t 0)⟩, ⟨(some 4), none, .mv (.t 11)⟩])
 (.ret)))⟩
theorem c121 : compF Go.Proofs.Try.prog 121 = some a121 := by kernel_rfl
def a122 : AFn := ⟨6, [.t 2], .seq (.ops [⟨(some 2), none, .mv (.c (.bool false))⟩])
 (.seq (.ops [⟨(some 3), none, .mv (.t 0)⟩, ⟨(some 4), none, .call 57 [(.t 3), (.c (.int .i64 0)), (.c (.int .i64 15))]⟩, ⟨(some 5), none, .un .not (.t 4)⟩, ⟨(some 2), none, .mv (.t 5)⟩])
 (.ret))⟩
theorem c122 : compF Go.Proofs.Try.prog 122 = some a122 := by kernel_rfl
def a123 : AFn := ⟨57, [.t 4], .seq (.ops [⟨(some 4), none, .mv (.c (.str []))⟩])
 (.seq (.ops [⟨(some 12), none, .mmk (.i .i64) (.str [])⟩, ⟨(some 13), none, .mv (.t 0)⟩, ⟨none, none, .mup (.i .i64) (.t 12) (.t 13) (.c (.str []))⟩, ⟨(some 14), none, .mv (.t 12)⟩, ⟨(some 5), none, .mv (.t 14)⟩])
 (.seq (.ops [⟨(some 15), none, .mv (.t 0)⟩, ⟨(some 16), none, .bslice 3 1 1 [(.int .i64 0)] [(0, 1, (.t 15))]⟩, ⟨(some 6), none, .mv (.t 16)⟩])
 (.seq (.block 0 (.loop (.seq (.seq (.ops [⟨(some 17), none, .mv (.t 6)⟩, ⟨(some 18), none, .len false (.t 17)⟩, ⟨(some 19), none, .bin 0 .gtr (.t 18) (.c (.int .i64 0))⟩])
 (.cond (.t 19) (.skip) (.exit 0)))
 (.block 1 (.seq (.ops [⟨(some 20), none, .mv (.t 6)⟩, ⟨(some 21), none, .iadr 1 (.t 20) (.c (.int .i64 0))⟩, ⟨(some 22), none, .load none (.t 21)⟩, ⟨(some 7), none, .mv (.t 22)⟩])
 (.seq (.ops [⟨(some 23), none, .mv (.t 6)⟩, ⟨(some 24), none, .slc 1 (.t 23) (some (.c (.int .i64 1))) none⟩, ⟨(some 6), none, .mv (.t 24)⟩])
 (.seq (.ops [⟨(some 25), none, .mv (.c (.int .i64 0))⟩])
 (.block 2 (.loop (.seq (.ops [⟨(some 26), none, .bin 0 .lss (.t 25) (.c (.int .i64 2))⟩])
 (.seq (.cond (.t 26) (.skip) (.exit 2))
 (.seq (.block 3 (.seq (.ops [⟨(some 27), none, .mv (.t 25)⟩, ⟨(some 8), none, .mv (.t 27)⟩])
 (.seq (.ops [⟨(some 28), none, .mv (.t 7)⟩, ⟨(some 29), none, .mv (.t 8)⟩, ⟨(some 30), none, .call 148 [(.t 28), (.t 29)]⟩, ⟨(some 9), none, .mv (.t 30)⟩])
 (.seq (.ops [⟨(some 32), none, .mv (.t 5)⟩, ⟨(some 33), none, .mv (.t 9)⟩, ⟨(some 34), none, .mlk true (.i .i64) (.str []) (.t 32) (.t 33)⟩, ⟨(some 31), none, .mv (.t 34)⟩, ⟨(some 35), none, .ext (.t 31) 0⟩, ⟨(some 36), none, .ext (.t 31) 1⟩, ⟨(some 10), none, .mv (.t 35)⟩, ⟨(some 11), none, .mv (.t 36)⟩])
 (.seq (.ops [⟨(some 37), none, .mv (.t 11)⟩, ⟨(some 38), none, .un .not (.t 37)⟩])
 (.cond (.t 38) (.seq (.ops [⟨(some 39), none, .mv (.t 5)⟩, ⟨(some 40), none, .mv (.t 9)⟩, ⟨(some 41), none, .mv (.t 5)⟩, ⟨(some 42), none, .mv (.t 7)⟩, ⟨(some 43), none, .mlk false (.i .i64) (.str []) (.t 41) (.t 42)⟩, ⟨(some 44), none, .mv (.t 8)⟩, ⟨(some 45), none, .bin 0 .add (.c (.int .i64 48)) (.t 44)⟩, ⟨(some 46), none, .conv .i32 (.t 45)⟩, ⟨(some 47), none, .i2s (.t 46)⟩, ⟨(some 48), none, .bin 1 .add (.t 43) (.t 47)⟩, ⟨none, none, .mup (.i .i64) (.t 39) (.t 40) (.t 48)⟩])
 (.ops [⟨(some 49), none, .mv (.t 6)⟩, ⟨(some 50), none, .mv (.t 9)⟩, ⟨(some 51), none, .bslice 3 1 1 [(.int .i64 0)] [(0, 1, (.t 50))]⟩, ⟨(some 52), none, .app 3 1 8 (.t 49) (.t 51)⟩, ⟨(some 6), none, .mv (.t 52)⟩])) (.skip)))))))
 (.ops [⟨(some 53), none, .bin 0 .add (.t 25) (.c (.int .i64 1))⟩, ⟨(some 25), none, .mv (.t 53)⟩])))))))))))))
 (.seq (.ops [⟨(some 54), none, .mv (.t 5)⟩, ⟨(some 55), none, .mv (.t 1)⟩, ⟨(some 56), none, .mlk false (.i .i64) (.str []) (.t 54) (.t 55)⟩, ⟨(some 4), none, .mv (.t 56)⟩])
 (.ret)))))⟩
theorem c123 : compF Go.Proofs.Try.prog 123 = some a123 := by kernel_rfl
def a124 : AFn := ⟨5, [.t 2], .seq (.ops [⟨(some 2), none, .mv (.c (.int .i64 0))⟩])
 (.seq (.seq (.ops [⟨(some 3), none, .mv (.t 0)⟩, ⟨(some 4), none, .call 57 [(.t 3), (.c (.int .i64 1)), (.c (.int .i64 100))]⟩])
 (.cond (.t 4) (.seq (.ops [⟨(some 2), none, .mv (.c (.int .i64 1))⟩])
 (.ret)) (.skip)))
 (.seq (.ops [⟨(some 2), none, .mv (.c (.int .i64 0))⟩])
 (.ret)))⟩
theorem c124 : compF Go.Proofs.Try.prog 124 = some a124 := by kernel_rfl
def a125 : AFn := ⟨12, [.t 4], .seq (.ops [⟨(some 4), none, .mv (.c (.int .i64 0))⟩])
 (.seq (.block 0 (.loop (.seq (.seq (.ops [⟨(some 5), none, .mv (.t 1)⟩, ⟨(some 6), none, .mv (.t 0)⟩, ⟨(some 7), none, .callv (.t 5) [(.t 6)]⟩, ⟨(some 8), none, .un .not (.t 7)⟩])
 (.cond (.t 8) (.skip) (.exit 0)))
 (.block 1 (.ops [⟨(some 9), none, .mv (.t 0)⟩, ⟨(some 10), none, .bin 0 .add (.t 9) (.c (.int .i64 1))⟩, ⟨(some 0), none, .mv (.t 10)⟩])))))
 (.seq (.ops [⟨(some 11), none, .mv (.t 0)⟩, ⟨(some 4), none, .mv (.t 11)⟩])
 (.ret)))⟩
theorem c125 : compF Go.Proofs.Try.prog 125 = some a125 := by kernel_rfl
def a126 : AFn := ⟨9, [.t 3], .seq (.ops [⟨(some 3), none, .mv (.c (.bool false))⟩])
 (.seq (.any [(⟨(some 4), none, .mv (.t 0)⟩, []), (⟨(some 5), none, .bin 0 .shl (.c (.int .i64 1)) (.t 4)⟩, []), (⟨(some 6), none, .bin 0 .sub (.t 5) (.c (.int .i64 2))⟩, []), (⟨(some 7), none, .load none (.t 1)⟩, [0, 1, 2]), (⟨(some 8), none, .bin 0 .geq (.t 6) (.t 7)⟩, []), (⟨(some 3), none, .mv (.t 8)⟩, [])])
 (.ret))⟩
theorem c126 : compF Go.Proofs.Try.prog 126 = some a126 := by kernel_rfl
def a127 : AFn := ⟨24, [.t 4], .seq (.ops [⟨(some 4), none, .mv (.c (.str []))⟩])
 (.seq (.ops [⟨(some 5), none, .mv (.c (.lit true 0 []))⟩])
 (.seq (.seq (.ops [⟨(some 7), none, .mv (.t 1)⟩, ⟨(some 8), none, .bin 0 .sub (.t 7) (.c (.int .i64 1))⟩, ⟨(some 6), none, .mv (.t 8)⟩])
 (.block 0 (.loop (.seq (.seq (.ops [⟨(some 9), none, .mv (.t 6)⟩, ⟨(some 10), none, .bin 0 .geq (.t 9) (.c (.int .i64 0))⟩])
 (.cond (.t 10) (.skip) (.exit 0)))
 (.seq (.block 1 (.ops [⟨(some 13), none, .mv (.t 5)⟩, ⟨(some 14), none, .mv (.t 0)⟩, ⟨(some 15), none, .mv (.t 6)⟩, ⟨(some 16), none, .bin 0 .shr (.t 14) (.t 15)⟩, ⟨(some 17), none, .bin 0 .and (.t 16) (.c (.int .i64 1))⟩, ⟨(some 18), none, .bin 0 .add (.c (.int .i64 48)) (.t 17)⟩, ⟨(some 19), none, .conv .u8 (.t 18)⟩, ⟨(some 20), none, .bslice 5 1 1 [(.int .u8 0)] [(0, 1, (.t 19))]⟩, ⟨(some 21), none, .app 5 1 1 (.t 13) (.t 20)⟩, ⟨(some 5), none, .mv (.t 21)⟩]))
 (.ops [⟨(some 11), none, .mv (.t 6)⟩, ⟨(some 12), none, .bin 0 .sub (.t 11) (.c (.int .i64 1))⟩, ⟨(some 6), none, .mv (.t 12)⟩]))))))
 (.seq (.ops [⟨(some 22), none, .mv (.t 5)⟩, ⟨(some 23), none, .b2s (.t 22)⟩, ⟨(some 4), none, .mv (.t 23)⟩])
 (.ret))))⟩
theorem c127 : compF Go.Proofs.Try.prog 127 = some a127 := by kernel_rfl
def a128 : AFn := ⟨38, [.t 4], .seq (.ops [⟨(some 4), none, .mv (.c (.lit true 0 []))⟩])
 (.seq (.ops [⟨(some 5), none, .mv (.c (.lit true 0 []))⟩])
 (.seq (.seq (.ops [⟨(some 10), none, .mv (.t 1)⟩, ⟨(some 11), none, .mv (.c (.int .i64 0))⟩])
 (.block 0 (.loop (.seq (.ops [⟨(some 12), none, .bin 0 .lss (.t 11) (.t 10)⟩])
 (.seq (.cond (.t 12) (.skip) (.exit 0))
 (.seq (.block 1 (.seq (.ops [⟨(some 13), none, .mv (.t 11)⟩, ⟨(some 6), none, .mv (.t 13)⟩])
 (.seq (.ops [⟨(some 14), none, .mv (.t 0)⟩, ⟨(some 15), none, .len false (.t 14)⟩, ⟨(some 16), none, .mks 5 1 1 [(.int .u8 0)] (.t 15)⟩, ⟨(some 7), none, .mv (.t 16)⟩])
 (.seq (.seq (.ops [⟨(some 17), none, .mv (.t 0)⟩, ⟨(some 18), none, .len false (.t 17)⟩, ⟨(some 19), none, .mv (.c (.int .i64 0))⟩])
 (.block 2 (.loop (.seq (.ops [⟨(some 20), none, .bin 0 .lss (.t 19) (.t 18)⟩])
 (.seq (.cond (.t 20) (.skip) (.exit 2))
 (.seq (.block 3 (.seq (.ops [⟨(some 21), none, .mv (.t 19)⟩, ⟨(some 22), none, .iadr 1 (.t 17) (.t 19)⟩, ⟨(some 23), none, .load none (.t 22)⟩, ⟨(some 8), none, .mv (.t 21)⟩, ⟨(some 9), none, .mv (.t 23)⟩])
 (.ops [⟨(some 24), none, .mv (.t 7)⟩, ⟨(some 25), none, .mv (.t 8)⟩, ⟨(some 26), none, .mv (.t 9)⟩, ⟨(some 27), none, .mv (.t 6)⟩, ⟨(some 28), none, .idxs (.t 26) (.t 27)⟩, ⟨(some 29), none, .iadr 1 (.t 24) (.t 25)⟩, ⟨none, none, .store 1 (.t 29) (.t 28)⟩])))
 (.ops [⟨(some 30), none, .bin 0 .add (.t 19) (.c (.int .i64 1))⟩, ⟨(some 19), none, .mv (.t 30)⟩])))))))
 (.ops [⟨(some 31), none, .mv (.t 5)⟩, ⟨(some 32), none, .mv (.t 7)⟩, ⟨(some 33), none, .b2s (.t 32)⟩, ⟨(some 34), none, .bslice 9 1 1 [(.str [])] [(0, 1, (.t 33))]⟩, ⟨(some 35), none, .app 9 1 16 (.t 31) (.t 34)⟩, ⟨(some 5), none, .mv (.t 35)⟩])))))
 (.ops [⟨(some 36), none, .bin 0 .add (.t 11) (.c (.int .i64 1))⟩, ⟨(some 11), none, .mv (.t 36)⟩])))))))
 (.seq (.ops [⟨(some 37), none, .mv (.t 5)⟩, ⟨(some 4), none, .mv (.t 37)⟩])
 (.ret))))⟩
theorem c128 : compF Go.Proofs.Try.prog 128 = some a128 := by kernel_rfl
def a134 : AFn := ⟨8, [.t 4], .seq (.ops [⟨(some 4), none, .mv (.c (.int .i64 0))⟩])
 (.seq (.ops [⟨(some 5), none, .mv (.t 0)⟩, ⟨(some 6), none, .mv (.t 1)⟩, ⟨(some 7), none, .call 163 [(.t 5), (.t 6)]⟩, ⟨(some 4), none, .mv (.t 7)⟩])
 (.ret))⟩
theorem c134 : compF Go.Proofs.Try.prog 134 = some a134 := by kernel_rfl
def a135 : AFn := ⟨6, [.t 2], .seq (.ops [⟨(some 2), none, .mv (.c (.bool false))⟩])
 (.seq (.ops [⟨(some 3), none, .mv (.t 0)⟩, ⟨(some 4), none, .call 136 [(.t 3)]⟩, ⟨(some 5), none, .un .not (.t 4)⟩, ⟨(some 2), none, .mv (.t 5)⟩])
 (.ret))⟩
theorem c135 : compF Go.Proofs.Try.prog 135 = some a135 := by kernel_rfl
def a136 : AFn := ⟨17, [.t 2], .seq (.ops [⟨(some 2), none, .mv (.c (.bool false))⟩])
 (.seq (.ops [⟨(some 3), none, .mv (.t 0)⟩, ⟨(some 4), none, .call 114 [(.t 3)]⟩, ⟨(some 5), none, .mv (.t 4)⟩, ⟨(some 6), (some (5, false)), .mv (.t 0)⟩, ⟨(some 7), (some (5, false)), .bin 0 .eql (.t 6) (.c (.int .u8 46))⟩, ⟨(some 8), none, .pick (.t 5) (.c (.bool true)) (.t 7)⟩, ⟨(some 9), none, .mv (.t 8)⟩, ⟨(some 10), (some (9, false)), .mv (.t 0)⟩, ⟨(some 11), (some (9, false)), .bin 0 .eql (.t 10) (.c (.int .u8 63))⟩, ⟨(some 12), none, .pick (.t 9) (.c (.bool true)) (.t 11)⟩, ⟨(some 13), none, .mv (.t 12)⟩, ⟨(some 14), (some (13, false)), .mv (.t 0)⟩, ⟨(some 15), (some (13, false)), .bin 0 .eql (.t 14) (.c (.int .u8 42))⟩, ⟨(some 16), none, .pick (.t 13) (.c (.bool true)) (.t 15)⟩, ⟨(some 2), none, .mv (.t 16)⟩])
 (.ret))⟩
theorem c136 : compF Go.Proofs.Try.prog 136 = some a136 := by kernel_rfl
def a148 : AFn := ⟨28, [.t 4], .seq (.ops [⟨(some 4), none, .mv (.c (.int .i64 0))⟩])
 (.seq (.ops [⟨(some 6), none, .build [(.int .i64 0), (.int .i64 0)] [(0, 1, (.c (.int .i64 1))), (1, 1, (.c (.int .i64 0)))]⟩, ⟨(some 7), none, .build [(.int .i64 0), (.int .i64 0)] [(0, 1, (.c (.int .i64 1))), (1, 1, (.c (.int .i64 2)))]⟩, ⟨(some 8), none, .build [(.int .i64 0), (.int .i64 0)] [(0, 1, (.c (.int .i64 3))), (1, 1, (.c (.int .i64 9)))]⟩, ⟨(some 9), none, .build [(.int .i64 0), (.int .i64 0)] [(0, 1, (.c (.int .i64 4))), (1, 1, (.c (.int .i64 5)))]⟩, ⟨(some 10), none, .build [(.int .i64 0), (.int .i64 0)] [(0, 1, (.c (.int .i64 4))), (1, 1, (.c (.int .i64 5)))]⟩, ⟨(some 11), none, .build [(.int .i64 0), (.int .i64 0)] [(0, 1, (.c (.int .i64 6))), (1, 1, (.c (.int .i64 8)))]⟩, ⟨(some 12), none, .build [(.int .i64 0), (.int .i64 0)] [(0, 1, (.c (.int .i64 6))), (1, 1, (.c (.int .i64 7)))]⟩, ⟨(some 13), none, .build [(.int .i64 0), (.int .i64 0)] [(0, 1, (.c (.int .i64 4))), (1, 1, (.c (.int .i64 8)))]⟩, ⟨(some 14), none, .build [(.int .i64 0), (.int .i64 0)] [(0, 1, (.c (.int .i64 1))), (1, 1, (.c (.int .i64 2)))]⟩, ⟨(some 15), none, .build [(.int .i64 0), (.int .i64 0)] [(0, 1, (.c (.int .i64 10))), (1, 1, (.c (.int .i64 0)))]⟩, ⟨(some 16), none, .build [(.int .i64 0), (.int .i64 0)] [(0, 1, (.c (.int .i64 11))), (1, 1, (.c (.int .i64 12)))]⟩, ⟨(some 17), none, .build [(.int .i64 0), (.int .i64 0)] [(0, 1, (.c (.int .i64 11))), (1, 1, (.c (.int .i64 12)))]⟩, ⟨(some 18), none, .build [(.int .i64 0), (.int .i64 0)] [(0, 1, (.c (.int .i64 13))), (1, 1, (.c (.int .i64 15)))]⟩, ⟨(some 19), none, .build [(.int .i64 0), (.int .i64 0)] [(0, 1, (.c (.int .i64 13))), (1, 1, (.c (.int .i64 14)))]⟩, ⟨(some 20), none, .build [(.int .i64 0), (.int .i64 0)] [(0, 1, (.c (.int .i64 11))), (1, 1, (.c (.int .i64 15)))]⟩, ⟨(some 21), none, .build [(.int .i64 0), (.int .i64 0)] [(0, 1, (.c (.int .i64 1))), (1, 1, (.c (.int .i64 2)))]⟩, ⟨(some 22), none, .build [(.int .i64 0), (.int .i64 0), (.int .i64 0), (.int .i64 0), (.int .i64 0), (.int .i64 0), (.int .i64 0), (.int .i64 0), (.int .i64 0), (.int .i64 0), (.int .i64 0), (.int .i64 0), (.int .i64 0), (.int .i64 0), (.int .i64 0), (.int .i64 0), (.int .i64 0), (.int .i64 0), (.int .i64 0), (.int .i64 0), (.int .i64 0), (.int .i64 0), (.int .i64 0), (.int .i64 0), (.int .i64 0), (.int .i64 0), (.int .i64 0), (.int .i64 0), (.int .i64 0), (.int .i64 0), (.int .i64 0), (.int .i64 0)] [(0, 2, (.t 6)), (2, 2, (.t 7)), (4, 2, (.t 8)), (6, 2, (.t 9)), (8, 2, (.t 10)), (10, 2, (.t 11)), (12, 2, (.t 12)), (14, 2, (.t 13)), (16, 2, (.t 14)), (18, 2, (.t 15)), (20, 2, (.t 16)), (22, 2, (.t 17)), (24, 2, (.t 18)), (26, 2, (.t 19)), (28, 2, (.t 20)), (30, 2, (.t 21))]⟩, ⟨(some 5), none, .alloc 186 [(.int .i64 0), (.int .i64 0), (.int .i64 0), (.int .i64 0), (.int .i64 0), (.int .i64 0), (.int .i64 0), (.int .i64 0), (.int .i64 0), (.int .i64 0), (.int .i64 0), (.int .i64 0), (.int .i64 0), (.int .i64 0), (.int .i64 0), (.int .i64 0), (.int .i64 0), (.int .i64 0), (.int .i64 0), (.int .i64 0), (.int .i64 0), (.int .i64 0), (.int .i64 0), (.int .i64 0), (.int .i64 0), (.int .i64 0), (.int .i64 0), (.int .i64 0), (.int .i64 0), (.int .i64 0), (.int .i64 0), (.int .i64 0)]⟩, ⟨none, none, .store 32 (.t 5) (.t 22)⟩])
 (.seq (.ops [⟨(some 23), none, .mv (.t 0)⟩, ⟨(some 24), none, .mv (.t 1)⟩, ⟨(some 25), none, .aadr 16 2 (.t 5) (.t 23)⟩, ⟨(some 26), none, .aadr 2 1 (.t 25) (.t 24)⟩, ⟨(some 27), none, .load none (.t 26)⟩, ⟨(some 4), none, .mv (.t 27)⟩])
 (.ret)))⟩
theorem c148 : compF Go.Proofs.Try.prog 148 = some a148 := by kernel_rfl
end Go.Proofs.Ytmgfcjblclanmaa
namespace Go.Proofs.Ytmgfcjblclanmaa
open Go.RowKit
theorem below_c (x n : Int) (nid : Nat) (hn : n ≤ 9223372036854775807) : ACall Try.prog 106 [.int .i64 x, .int .i64 n] [] nid (.int .i64 (below x n)) [] := by
  refine acall_run c106 (by simp [a106]) ?_
  simp -dsimp only [a106, aqT, aqU, aqN, ↓seqK, ↓blkK, ↓loopK, step, stepBin, Nat.reduceBEq, Nat.reduceBeqDiff, Nat.add_assoc nid, Nat.reduceAdd, reduceCtorEq, ↓reduceIte, Nat.reduceLeDiff, Nat.reduceBneDiff, Option.toList, ← Int.ofNat_tmod, ← Int.ofNat_tdiv, Nat.reduceLT]
  refine S2.dec (fun h => ?_) (fun h => ?_)
  · simp -dsimp only [aqT, aqU, aqN, ↓seqK, ↓blkK, ↓loopK, step, stepBin, Nat.reduceBEq, Nat.reduceBeqDiff, Nat.add_assoc nid, Nat.reduceAdd, reduceCtorEq, ↓reduceIte, Nat.reduceLeDiff, Nat.reduceBneDiff, Option.toList, ← Int.ofNat_tmod, ← Int.ofNat_tdiv, Nat.reduceLT]
    refine RetOK.pure (.inl rfl) rfl ?_
    simp [retPV, PVCov, getS, below, h]
  simp -dsimp only [aqT, aqU, aqN, ↓seqK, ↓blkK, ↓loopK, step, stepBin, Nat.reduceBEq, Nat.reduceBeqDiff, Nat.add_assoc nid, Nat.reduceAdd, reduceCtorEq, ↓reduceIte, Nat.reduceLeDiff, Nat.reduceBneDiff, Option.toList, ← Int.ofNat_tmod, ← Int.ofNat_tdiv, Nat.reduceLT]
  refine ⟨by omega, S2.dec (fun h2 => ?_) (fun h2 => ?_)⟩
  · simp -dsimp only [aqT, aqU, aqN, ↓seqK, ↓blkK, ↓loopK, step, stepBin, Nat.reduceBEq, Nat.reduceBeqDiff, Nat.add_assoc nid, Nat.reduceAdd, reduceCtorEq, ↓reduceIte, Nat.reduceLeDiff, Nat.reduceBneDiff, Option.toList, ← Int.ofNat_tmod, ← Int.ofNat_tdiv, Nat.reduceLT]
    have := Int.lt_tmod_of_pos x (show 0 < n by omega)
    refine ⟨by unfold inI64; omega, RetOK.pure (.inl rfl) rfl ?_⟩
    have h3 : x.tmod n + n = x % n := by rw [Int.tmod_eq_emod]; split <;> rw [Int.tmod_eq_emod] at h2 <;> rename_i h6 <;> simp only [h6, if_true, if_false, not_false_eq_true] at h2 <;> have := Int.emod_nonneg x (show n ≠ 0 by omega) <;> omega
    simp [cvT, step, res, below, h, h3]
  · simp -dsimp only [aqT, aqU, aqN, ↓seqK, ↓blkK, ↓loopK, step, stepBin, Nat.reduceBEq, Nat.reduceBeqDiff, Nat.add_assoc nid, Nat.reduceAdd, reduceCtorEq, ↓reduceIte, Nat.reduceLeDiff, Nat.reduceBneDiff, Option.toList, ← Int.ofNat_tmod, ← Int.ofNat_tdiv, Nat.reduceLT]
    refine RetOK.pure (.inl rfl) rfl ?_
    have h3 : x.tmod n = x % n := by rw [Int.tmod_eq_emod]; split <;> rw [Int.tmod_eq_emod] at h2 <;> rename_i h6 <;> simp only [h6, if_true, if_false, not_false_eq_true] at h2 <;> have := Int.emod_lt_of_pos x (show 0 < n by omega) <;> omega
    simp [cvT, step, res, below, h, h3]
def strmC (nl : Bool) (A : List Int) (p : Nat) : Option ABlk := some (.box 25 [.lit nl A.length [.i .i64 fun i => A.getD i 0], .int .i64 p])
theorem next_c (s nid : Nat) (nl : Bool) (A : List Int) (p : Nat) (n : Int) (h : s < nid) (hp : p ≤ 1099511627775) (hA : A.length ≤ 17592186044416) (hn : n ≤ 9223372036854775807) :
    ACall Try.prog 55 [.ptr s 0, .int .i64 n] [(s, strmC nl A p)] nid (.int .i64 (nextV A p n)) [(s, strmC nl A (p + 1))] := by
  obtain ⟨e1, e2, e3, e4, e5, e6, e7, e8, e9⟩ := id_all h
  refine acall_run c55 (by simp [a55]) ?_
  simp -dsimp only [a55, strmC, aqT, aqU, aqN, ↓seqK, ↓blkK, ↓loopK, step, stepBin, Nat.reduceBEq, Nat.reduceBeqDiff, Nat.add_assoc nid, Nat.reduceAdd, reduceCtorEq, ↓reduceIte, Nat.reduceLeDiff, Nat.reduceBneDiff, Option.toList, ← Int.ofNat_tmod, ← Int.ofNat_tdiv, Nat.reduceLT, e1, e2, e3, e4, e5, e6, e7, e8, e9]
  refine ⟨by unfold inI64; omega, S2.intro (fun h2 => ?_) (fun h2 => ?_)⟩
  · simp -dsimp only [aqT, aqU, aqN, ↓seqK, ↓blkK, ↓loopK, step, stepBin, Nat.reduceBEq, Nat.reduceBeqDiff, Nat.add_assoc nid, Nat.reduceAdd, reduceCtorEq, ↓reduceIte, Nat.reduceLeDiff, Nat.reduceBneDiff, Option.toList, ← Int.ofNat_tmod, ← Int.ofNat_tdiv, Nat.reduceLT, e1, e2, e3, e4, e5, e6, e7, e8, e9]
    refine ⟨by unfold inI64; omega, CallO.pure (below_c _ _ _ hn) ?_⟩
    simp -dsimp only [aqT, aqU, aqN, ↓seqK, ↓blkK, ↓loopK, step, stepBin, Nat.reduceBEq, Nat.reduceBeqDiff, Nat.add_assoc nid, Nat.reduceAdd, reduceCtorEq, ↓reduceIte, Nat.reduceLeDiff, Nat.reduceBneDiff, Option.toList, ← Int.ofNat_tmod, ← Int.ofNat_tdiv, Nat.reduceLT, e1, e2, e3, e4, e5, e6, e7, e8, e9]
    have h3 : A.length = 0 := by simpa using h2
    refine RetOK.same (.inl rfl) rfl (by simp [strmC, liveIds]; omega) ?_ ?_
    · simp [cvT, step, res, strmC]
    · simp [cvT, step, res, nextV, h3]
  · simp -dsimp only [aqT, aqU, aqN, ↓seqK, ↓blkK, ↓loopK, step, stepBin, Nat.reduceBEq, Nat.reduceBeqDiff, Nat.add_assoc nid, Nat.reduceAdd, reduceCtorEq, ↓reduceIte, Nat.reduceLeDiff, Nat.reduceBneDiff, Option.toList, ← Int.ofNat_tmod, ← Int.ofNat_tdiv, Nat.reduceLT, e1, e2, e3, e4, e5, e6, e7, e8, e9]
    have h3 : 0 < A.length := by have : ¬ A.length = 0 := by simpa using h2
                                 omega
    have h4 : ∀ z : Nat, z ≤ 1099511627776 → IntKind.i64.wrap (z : Int) = z := fun z hz => IntWalk.i64_in _ (by omega)
    have h5 : p / A.length ≤ p := Nat.div_le_self _ _
    have h6 : p % A.length < A.length := Nat.mod_lt _ h3
    have h11 := h4 _ (show p / A.length ≤ 1099511627776 by omega)
    refine ⟨by unfold inI64; omega, by omega, by unfold inI64; omega, by omega, by omega, CallO.pure (below_c _ _ _ (by omega)) ?_⟩
    simp -dsimp only [aqT, aqU, aqN, ↓seqK, ↓blkK, ↓loopK, step, stepBin, Nat.reduceBEq, Nat.reduceBeqDiff, Nat.add_assoc nid, Nat.reduceAdd, reduceCtorEq, ↓reduceIte, Nat.reduceLeDiff, Nat.reduceBneDiff, Option.toList, ← Int.ofNat_tmod, ← Int.ofNat_tdiv, Nat.reduceLT, h11, e1, e2, e3, e4, e5, e6, e7, e8, e9]
    have h7 := round_bd p A.length h3 (by omega)
    have h8 := below_bd (A.getD (p % A.length) 0) (n := 1073741824) (by omega)
    rw [← Int.natCast_emod, ← Int.natCast_ediv] at h7
    generalize h9 : ((p / A.length : Nat) : Int) * (7919 + ((p % A.length : Nat) : Int)) = z at h7 ⊢
    refine ⟨by unfold inI64; omega, by unfold inI64; omega, by unfold inI64; omega, CallO.pure (below_c _ _ _ hn) ?_⟩
    simp -dsimp only [aqT, aqU, aqN, ↓seqK, ↓blkK, ↓loopK, step, stepBin, Nat.reduceBEq, Nat.reduceBeqDiff, Nat.add_assoc nid, Nat.reduceAdd, reduceCtorEq, ↓reduceIte, Nat.reduceLeDiff, Nat.reduceBneDiff, Option.toList, ← Int.ofNat_tmod, ← Int.ofNat_tdiv, Nat.reduceLT, e1, e2, e3, e4, e5, e6, e7, e8, e9]
    refine RetOK.same (.inl rfl) rfl (by simp [strmC, liveIds]; omega) ?_ ?_
    · simp [cvT, step, res, strmC]
    · have h10 : A.length ≠ 0 := by omega
      simp [cvT, step, res, nextV, h10, ← h9]
theorem range_c (s nid : Nat) (nl : Bool) (A : List Int) (p : Nat) (lo hi : Int) (h : s < nid) (hp : p ≤ 1099511627775) (hA : A.length ≤ 17592186044416) (h1 : lo ≤ hi) (hl : -1099511627776 ≤ lo) (hh : hi ≤ 1099511627776) :
    ACall Try.prog 54 [.ptr s 0, .int .i64 lo, .int .i64 hi] [(s, strmC nl A p)] nid (.int .i64 (rangeV A p lo hi)) [(s, strmC nl A (p + 1))] := by
  obtain ⟨e1, e2, e3, e4, e5, e6, e7, e8, e9⟩ := id_all h
  refine acall_run c54 (by simp [a54]) ?_
  simp -dsimp only [a54, aqT, aqU, aqN, ↓seqK, ↓blkK, ↓loopK, step, stepBin, Nat.reduceBEq, Nat.reduceBeqDiff, Nat.add_assoc nid, Nat.reduceAdd, reduceCtorEq, ↓reduceIte, Nat.reduceLeDiff, Nat.reduceBneDiff, Option.toList, ← Int.ofNat_tmod, ← Int.ofNat_tdiv, Nat.reduceLT, e1, e2, e3, e4, e5, e6, e7, e8, e9]
  refine S2.dec (fun h => absurd h (by omega)) (fun h => ?_)
  simp -dsimp only [aqT, aqU, aqN, ↓seqK, ↓blkK, ↓loopK, step, stepBin, Nat.reduceBEq, Nat.reduceBeqDiff, Nat.add_assoc nid, Nat.reduceAdd, reduceCtorEq, ↓reduceIte, Nat.reduceLeDiff, Nat.reduceBneDiff, Option.toList, ← Int.ofNat_tmod, ← Int.ofNat_tdiv, Nat.reduceLT, e1, e2, e3, e4, e5, e6, e7, e8, e9]
  refine ⟨by unfold inI64; omega, by unfold inI64; omega, CallO.on (next_c _ _ _ _ _ _ (by omega) hp hA (by omega)) (subH_hit _ _ _) ?_⟩
  simp -dsimp only [aqT, aqU, aqN, ↓seqK, ↓blkK, ↓loopK, step, stepBin, Nat.reduceBEq, Nat.reduceBeqDiff, Nat.add_assoc nid, Nat.reduceAdd, reduceCtorEq, ↓reduceIte, Nat.reduceLeDiff, Nat.reduceBneDiff, Option.toList, ← Int.ofNat_tmod, ← Int.ofNat_tdiv, Nat.reduceLT, e1, e2, e3, e4, e5, e6, e7, e8, e9]
  have := nextV_bd A p (n := hi - lo + 1) (by omega)
  refine ⟨by unfold inI64; omega, RetOK.same (.inl rfl) rfl (by simp [strmC, liveIds]; omega) ?_ ?_⟩
  · simp [cvT, step, res, strmC]
  · simp [cvT, step, res, rangeV]
theorem flip_c (s nid : Nat) (nl : Bool) (A : List Int) (p : Nat) (n : Int) (h : s < nid) (hp : p ≤ 1099511627775) (hA : A.length ≤ 17592186044416) (hn : n ≤ 9223372036854775807) :
    ACall Try.prog 10 [.ptr s 0, .int .i64 n] [(s, strmC nl A p)] nid (.bool (flipV A p n)) [(s, strmC nl A (p + 1))] := by
  obtain ⟨e1, e2, e3, e4, e5, e6, e7, e8, e9⟩ := id_all h
  refine acall_run c10 (by simp [a10]) ?_
  simp -dsimp only [a10, aqT, aqU, aqN, ↓seqK, ↓blkK, ↓loopK, step, stepBin, Nat.reduceBEq, Nat.reduceBeqDiff, Nat.add_assoc nid, Nat.reduceAdd, reduceCtorEq, ↓reduceIte, Nat.reduceLeDiff, Nat.reduceBneDiff, Option.toList, ← Int.ofNat_tmod, ← Int.ofNat_tdiv, Nat.reduceLT, e1, e2, e3, e4, e5, e6, e7, e8, e9]
  refine CallO.on (next_c _ _ _ _ _ _ (by omega) hp hA hn) (subH_hit _ _ _) ?_
  simp -dsimp only [aqT, aqU, aqN, ↓seqK, ↓blkK, ↓loopK, step, stepBin, Nat.reduceBEq, Nat.reduceBeqDiff, Nat.add_assoc nid, Nat.reduceAdd, reduceCtorEq, ↓reduceIte, Nat.reduceLeDiff, Nat.reduceBneDiff, Option.toList, ← Int.ofNat_tmod, ← Int.ofNat_tdiv, Nat.reduceLT, e1, e2, e3, e4, e5, e6, e7, e8, e9]
  refine RetOK.same (.inl rfl) rfl (by simp [strmC, liveIds]; omega) ?_ ?_
  · simp [cvT, step, res, strmC]
  · simp [cvT, step, res, flipV]
theorem pick_c (s nid : Nat) (nl nl' : Bool) (A : List Int) (p : Nat) (n : Nat) (g : Nat → Int) (h : s < nid) (hp : p ≤ 1099511627775) (hA : A.length ≤ 17592186044416) (h1 : 0 < n) (hn : n ≤ 1099511627776) :
    ACall Try.prog 20 [.ptr s 0, .lit nl' n [.i .i64 g]] [(s, strmC nl A p)] nid (.int .i64 (g (pickI A p n))) [(s, strmC nl A (p + 1))] := by
  obtain ⟨e1, e2, e3, e4, e5, e6, e7, e8, e9⟩ := id_all h
  refine acall_run c20 (by simp [a20]) ?_
  simp -dsimp only [a20, aqT, aqU, aqN, ↓seqK, ↓blkK, ↓loopK, step, stepBin, Nat.reduceBEq, Nat.reduceBeqDiff, Nat.add_assoc nid, Nat.reduceAdd, reduceCtorEq, ↓reduceIte, Nat.reduceLeDiff, Nat.reduceBneDiff, Option.toList, ← Int.ofNat_tmod, ← Int.ofNat_tdiv, Nat.reduceLT, e1, e2, e3, e4, e5, e6, e7, e8, e9]
  refine CallO.on (next_c _ _ _ _ _ _ (by omega) hp hA (by omega)) (subH_hit _ _ _) ?_
  simp -dsimp only [aqT, aqU, aqN, ↓seqK, ↓blkK, ↓loopK, step, stepBin, Nat.reduceBEq, Nat.reduceBeqDiff, Nat.add_assoc nid, Nat.reduceAdd, reduceCtorEq, ↓reduceIte, Nat.reduceLeDiff, Nat.reduceBneDiff, Option.toList, ← Int.ofNat_tmod, ← Int.ofNat_tdiv, Nat.reduceLT, e1, e2, e3, e4, e5, e6, e7, e8, e9]
  have := nextV_bd A p (n := (n : Int)) (by omega)
  refine ⟨this, RetOK.same (.inl rfl) rfl (by simp [strmC, liveIds]; omega) ?_ ?_⟩
  · simp [cvT, step, res, strmC]
  · simp [cvT, step, res, pickI]
theorem CallX.pick_go {s id nid : Nat} {nl : Bool} {A : List Int} {p : Nat} {n T : Nat} {g : Nat → Int} {H : Heap} {K : PV → Heap → List Nat → Prop} (hs : getH H s = strmC nl A p) (hid : getH H id = some (.arr T n [.i .i64 g])) (hne : (s == id) = false) (h : s < nid) (hp : p ≤ 1099511627775) (hA : A.length ≤ 17592186044416) (h1 : 0 < n) (hn : n ≤ 1099511627776)
    (hK : K (.int .i64 (g (pickI A p n))) [(s, strmC nl A (p + 1)), (id, none)] [s, id]) : CallX Try.prog 20 [.ptr s 0, .sl id 0 n] H nid K := by
  refine CallX.given [id] (u := [(s, strmC nl A (p + 1))]) (fun nl' => ?_) (subH_get hs) (by simp [getH, hne]) hK
  have e : lends H [id] nl' [.ptr s 0, .sl id 0 n] = [.ptr s 0, .lit (nl' id) n [.i .i64 g]] := by simp [lends, lend, hid, noOs]
  rw [e]
  exact pick_c s _ nl _ A p n _ h hp hA h1 hn
theorem CallO.pick_go {s id nid : Nat} {nl : Bool} {A : List Int} {p : Nat} {n T : Nat} {g : Nat → Int} {H : Heap} {K : PV → Heap → Prop} (hs : getH H s = strmC nl A p) (hid : getH H id = some (.arr T n [.i .i64 g])) (hne : (s == id) = false) (h : s < nid) (hp : p ≤ 1099511627775) (hA : A.length ≤ 17592186044416) (h1 : 0 < n) (hn : n ≤ 1099511627776)
    (hK : K (.int .i64 (g (pickI A p n))) [(s, strmC nl A (p + 1)), (id, none)]) : CallOK Try.prog 20 [.ptr s 0, .sl id 0 n] H nid K :=
  CallO.x (CallX.pick_go hs hid hne h hp hA h1 hn hK)
end Go.Proofs.Ytmgfcjblclanmaa
namespace Go.Proofs.Ytmgfcjblclanmaa
open Go.RowKit
def arrI (l : List Int) : Option ABlk := some (.arr 3 l.length [.i .i64 fun i => l.getD i 0])
def litI (nl : Bool) (l : List Int) : PV := .lit nl l.length [.i .i64 fun i => l.getD i 0]
theorem out_c (x lo hi : Int) (nid : Nat) : ACall Try.prog 57 [.int .i64 x, .int .i64 lo, .int .i64 hi] [] nid (.bool (outB x lo hi)) [] := by
  refine acall_run c57 (by simp [a57]) ?_
  simp -dsimp only [a57, aqT, aqU, aqN, ↓seqK, ↓blkK, ↓loopK, step, stepBin, Nat.reduceBEq, Nat.reduceBeqDiff, Nat.add_assoc nid, Nat.reduceAdd, reduceCtorEq, ↓reduceIte, Nat.reduceLeDiff, Nat.reduceBneDiff, Option.toList, ← Int.ofNat_tmod, ← Int.ofNat_tdiv, Nat.reduceLT]
  refine S2.dec (fun h => ?_) (fun h => ?_) <;> simp -dsimp only [aqT, aqU, aqN, ↓seqK, ↓blkK, ↓loopK, step, stepBin, Nat.reduceBEq, Nat.reduceBeqDiff, Nat.add_assoc nid, Nat.reduceAdd, reduceCtorEq, ↓reduceIte, Nat.reduceLeDiff, Nat.reduceBneDiff, Option.toList, ← Int.ofNat_tmod, ← Int.ofNat_tdiv, Nat.reduceLT] <;> refine RetOK.pure (.inl rfl) rfl ?_ <;> simp [cvT, step, res, outB] <;> omega
theorem in_c (x lo hi : Int) (nid : Nat) : ACall Try.prog 59 [.int .i64 x, .int .i64 lo, .int .i64 hi] [] nid (.bool (!outB x lo hi)) [] := by
  refine acall_run c59 (by simp [a59]) ?_
  simp -dsimp only [a59, aqT, aqU, aqN, ↓seqK, ↓blkK, ↓loopK, step, stepBin, Nat.reduceBEq, Nat.reduceBeqDiff, Nat.add_assoc nid, Nat.reduceAdd, reduceCtorEq, ↓reduceIte, Nat.reduceLeDiff, Nat.reduceBneDiff, Option.toList, ← Int.ofNat_tmod, ← Int.ofNat_tdiv, Nat.reduceLT]
  refine S2.dec (fun h => ?_) (fun h => ?_) <;> simp -dsimp only [aqT, aqU, aqN, ↓seqK, ↓blkK, ↓loopK, step, stepBin, Nat.reduceBEq, Nat.reduceBeqDiff, Nat.add_assoc nid, Nat.reduceAdd, reduceCtorEq, ↓reduceIte, Nat.reduceLeDiff, Nat.reduceBneDiff, Option.toList, ← Int.ofNat_tmod, ← Int.ofNat_tdiv, Nat.reduceLT] <;> refine RetOK.pure (.inl rfl) rfl ?_ <;> simp [cvT, step, res, outB] <;> first | omega | (rw [Bool.eq_iff_iff]; simp; omega)
theorem cloneI_c (nl : Bool) (l : List Int) (nid : Nat) (hl : l.length ≤ 1000000000) (hnl : nl = true → l = []) : ACall Try.prog 62 [litI nl l] [] nid (.sl nid 0 l.length) [(nid, arrI l)] := by
  refine acall_run c62 (by simp [a62]) ?_
  unfold litI
  simp -dsimp only [a62, aqT, aqU, aqN, ↓seqK, ↓blkK, ↓loopK, step, stepBin, Nat.reduceBEq, Nat.reduceBeqDiff, Nat.add_assoc nid, Nat.reduceAdd, reduceCtorEq, ↓reduceIte, Nat.reduceLeDiff, Nat.reduceBneDiff, Option.toList, ← Int.ofNat_tmod, ← Int.ofNat_tdiv, Nat.reduceLT]
  refine S2.intro (fun h => ?_) (fun h => ?_) <;> simp -dsimp only [aqT, aqU, aqN, ↓seqK, ↓blkK, ↓loopK, step, stepBin, Nat.reduceBEq, Nat.reduceBeqDiff, Nat.add_assoc nid, Nat.reduceAdd, reduceCtorEq, ↓reduceIte, Nat.reduceLeDiff, Nat.reduceBneDiff, Option.toList, ← Int.ofNat_tmod, ← Int.ofNat_tdiv, Nat.reduceLT]
  · refine RetOK.go [] [(nid, 1)] (.inl rfl) ?_
    have := hnl h
    subst this
    simp [a62, cvT, step, res, arrI]
  · refine ⟨⟨by omega, by omega⟩, RetOK.go [(nid, nid + 20)] [] (.inl rfl) ?_⟩
    simp [a62, cvT, step, res, arrI]
theorem index_c (nl : Bool) (l : List Int) (x : Int) (nid : Nat) (hl : l.length ≤ 1000000000) : ∃ r : Int, (0 ≤ r ↔ x ∈ l) ∧ ACall Try.prog 110 [litI nl l, .int .i64 x] [] nid (.int .i64 r) [] := by
  refine ⟨match l.findIdx? (· == x) with | some k => (k : Int) | none => -1, ?_, ?_⟩
  · cases h : l.findIdx? (· == x) with
    | none =>
      rw [List.findIdx?_eq_none_iff] at h
      simp only [Int.reduceNeg, Int.reduceLE, false_iff]
      exact fun hx => by simpa using h x hx
    | some k =>
      simp only [Int.natCast_nonneg, true_iff]
      obtain ⟨hk, h1, _⟩ := List.findIdx?_eq_some_iff_getElem.1 h
      have : l[k] = x := by simpa using h1
      rw [← this]; exact List.getElem_mem hk
  refine acall_run c110 (by simp [a110]) ?_
  unfold litI
  simp -dsimp only [aqT, aqU, aqN, ↓seqK, ↓blkK, ↓loopK, step, stepBin, Nat.reduceBEq, Nat.reduceBeqDiff, Nat.add_assoc nid, Nat.reduceAdd, reduceCtorEq, ↓reduceIte, Nat.reduceLeDiff, Nat.reduceBneDiff, Option.toList, ← Int.ofNat_tmod, ← Int.ofNat_tdiv, Nat.reduceLT, a110]
  refine LP.mkP (fun k : Nat => k ≤ l.length ∧ ∀ i, i < k → l.getD i 0 ≠ x) (fun k : Nat => ⟨[(8, .int .i64 k), (7, .int .i64 l.length), (0, litI nl l), (1, .int .i64 x)], [], nid + 1000, nid⟩) (fun k => l.length + 1 - k) 0 ?_ (Cov.go [] [] ?_) (fun k hk => ?_)
  · exact ⟨by omega, fun i hi => by omega⟩
  · simp [cvT, step, res, litI]
  unfold litI
  obtain ⟨hk, hno⟩ := hk
  have get : ∀ i (hi : i < l.length), l.getD i 0 = l[i] := fun i hi => by rw [List.getD_eq_getElem?_getD, List.getElem?_eq_getElem hi]; rfl
  simp -dsimp only [aqT, aqU, aqN, ↓seqK, ↓blkK, ↓loopK, step, stepBin, Nat.reduceBEq, Nat.reduceBeqDiff, Nat.add_assoc nid, Nat.reduceAdd, reduceCtorEq, ↓reduceIte, Nat.reduceLeDiff, Nat.reduceBneDiff, Option.toList, ← Int.ofNat_tmod, ← Int.ofNat_tdiv, Nat.reduceLT]
  refine S2.dec (fun h3 => ?_) (fun h3 => ?_) <;> simp -dsimp only [aqT, aqU, aqN, ↓seqK, ↓blkK, ↓loopK, step, stepBin, Nat.reduceBEq, Nat.reduceBeqDiff, Nat.add_assoc nid, Nat.reduceAdd, reduceCtorEq, ↓reduceIte, Nat.reduceLeDiff, Nat.reduceBneDiff, Option.toList, ← Int.ofNat_tmod, ← Int.ofNat_tdiv, Nat.reduceLT]
  · have hkl : k < l.length := by omega
    refine ⟨by omega, S2.intro (fun h4 => ?_) (fun h4 => ?_)⟩ <;> simp -dsimp only [aqT, aqU, aqN, ↓seqK, ↓blkK, ↓loopK, step, stepBin, Nat.reduceBEq, Nat.reduceBeqDiff, Nat.add_assoc nid, Nat.reduceAdd, reduceCtorEq, ↓reduceIte, Nat.reduceLeDiff, Nat.reduceBneDiff, Option.toList, ← Int.ofNat_tmod, ← Int.ofNat_tdiv, Nat.reduceLT]
    · have h5 : x = l.getD k 0 := by simpa using h4
      have : l.findIdx? (· == x) = some k := by
        rw [List.findIdx?_eq_some_iff_getElem]
        refine ⟨hkl, by rw [← get k hkl, ← h5]; simp, fun i hi => ?_⟩
        have := hno i hi
        rw [get i (by omega)] at this
        simpa using this
      rw [this]
      refine RetOK.pure (.inl rfl) rfl ?_
      simp [cvT, step, res]
    · have h5 : x ≠ l.getD k 0 := by simpa using h4
      refine ⟨by unfold inI64; omega, k + 1, ⟨⟨by omega, fun i hi => ?_⟩, by omega⟩, Cov.go [] [] ?_⟩
      · by_cases e : i = k
        · subst e; exact fun h => h5 h.symm
        · exact hno i (by omega)
      · simp [cvT, step, res, litI]
  · have : l.findIdx? (· == x) = none := by
      rw [List.findIdx?_eq_none_iff]
      intro y hy
      obtain ⟨i, hi, rfl⟩ := List.mem_iff_getElem.1 hy
      have := hno i (by omega)
      rw [get i hi] at this
      simpa using this
    rw [this]
    refine RetOK.pure (.inl rfl) rfl ?_
    simp [cvT, step, res]
theorem contains_c (nl : Bool) (l : List Int) (x : Int) (nid : Nat) (hl : l.length ≤ 1000000000) : ACall Try.prog 61 [litI nl l, .int .i64 x] [] nid (.bool (l.contains x)) [] := by
  refine acall_run c61 (by simp [a61]) ?_
  simp -dsimp only [a61, aqT, aqU, aqN, ↓seqK, ↓blkK, ↓loopK, step, stepBin, Nat.reduceBEq, Nat.reduceBeqDiff, Nat.add_assoc nid, Nat.reduceAdd, reduceCtorEq, ↓reduceIte, Nat.reduceLeDiff, Nat.reduceBneDiff, Option.toList, ← Int.ofNat_tmod, ← Int.ofNat_tdiv, Nat.reduceLT]
  obtain ⟨r, h1, h2⟩ := index_c nl l x (nid + 12) hl
  refine CallO.pure (h2) ?_
  simp -dsimp only [aqT, aqU, aqN, ↓seqK, ↓blkK, ↓loopK, step, stepBin, Nat.reduceBEq, Nat.reduceBeqDiff, Nat.add_assoc nid, Nat.reduceAdd, reduceCtorEq, ↓reduceIte, Nat.reduceLeDiff, Nat.reduceBneDiff, Option.toList, ← Int.ofNat_tmod, ← Int.ofNat_tdiv, Nat.reduceLT]
  have : decide (0 ≤ r) = l.contains x := by
    rw [Bool.eq_iff_iff]
    simp [h1]
  rw [this]
  refine RetOK.pure (.inl rfl) rfl ?_
  simp [cvT, step, res]
end Go.Proofs.Ytmgfcjblclanmaa
namespace Go.Proofs.Ytmgfcjblclanmaa
open Go.RowKit
def litP (nl : Bool) (l : List Pt) : PV := .lit nl l.length [.i .i64 fun i => (l.getD i p0).1, .i .i64 fun i => (l.getD i p0).2]
theorem apart_c (a b : Pt) (nid : Nat) (ha : (-1000 ≤ a.1 ∧ a.1 ≤ 1000) ∧ -1000 ≤ a.2 ∧ a.2 ≤ 1000) (hb : (-1000 ≤ b.1 ∧ b.1 ≤ 1000) ∧ -1000 ≤ b.2 ∧ b.2 ≤ 1000) :
    ACall Try.prog 109 [.agg [.int .i64 a.1, .int .i64 a.2], .agg [.int .i64 b.1, .int .i64 b.2]] [] nid (.int .i64 (apartI a b)) [] := by
  refine acall_run c109 (by simp [a109]) ?_
  simp -dsimp only [a109, aqT, aqU, aqN, ↓seqK, ↓blkK, ↓loopK, step, stepBin, Nat.reduceBEq, Nat.reduceBeqDiff, Nat.add_assoc nid, Nat.reduceAdd, reduceCtorEq, ↓reduceIte, Nat.reduceLeDiff, Nat.reduceBneDiff, Option.toList, ← Int.ofNat_tmod, ← Int.ofNat_tdiv, Nat.reduceLT]
  refine ⟨by unfold inI64; omega, by unfold inI64; omega, by unfold inI64; omega, by unfold inI64; omega, ?_⟩
  refine RetOK.go [] [] (.inl rfl) ?_
  simp [cvT, step, res, apartI, a109]
def bPV (c : Nat) : Best → PV
  | none => .lit true 0 []
  | some (l, _) => .sl c 0 l.length
def bSum : Best → Int
  | none => 0
  | some (_, s) => s
def bH (c : Nat) : Best → Option ABlk
  | none => none
  | some (l, _) => arrI l
def rtBox (nl : Bool) (P : List Pt) (a c : Nat) (n : Nat) (sum : Int) (b : Best) : Option ABlk := some (.box 94 [litP nl P, .sl a 0 n, .int .i64 sum, bPV c b, .int .i64 (bSum b)])
set_option maxHeartbeats 4000000 in
theorem walk_c (nl : Bool) (P : List Pt) (hP : PtsOk P) : ∀ (f : Nat) (now : List Int) (sum : Int) (b : Best) (r a c nid : Nat), r < nid → a < nid → c < nid → r ≠ a → r ≠ c → a ≠ c → now.length + f = P.length + 1 → 0 < f → 0 < now.length →
    (∀ x ∈ now, 0 ≤ x ∧ x < (P.length : Int)) → 0 ≤ sum → sum ≤ 2000 * ((now.length : Int) - 1) → BestOk P b →
    ACall Try.prog 58 [.ptr r 0] [(r, rtBox nl P a c now.length sum b), (a, arrI now), (c, bH c b)] nid (.tup [])
      [(r, rtBox nl P nid (nid + 1) now.length sum (rtGo P f now sum b)), (a, none), (c, none), (nid, arrI now), (nid + 1, bH (nid + 1) (rtGo P f now sum b))]
  | 0, _, _, _, _, _, _, _, _, _, _, _, _, _, _, h, _, _, _, _, _ => absurd h (by omega)
  | f + 1, now, sum, b, r, a, c, nid, hr, ha, hc, hra, hrc, hac, hlen, _, hn0, hnow, h0, h1, hb => by
    obtain ⟨e1, e2, e3, e4, e5, e6, e7, e8, e9⟩ := id_all hr
    obtain ⟨a1, a2, a3, a4, a5, a6, a7, a8, a9⟩ := id_all ha
    obtain ⟨b1, b2, b3, b4, b5, b6, b7, b8, b9⟩ := id_all hc
    have d1 : (r == a) = false := by simpa using hra
    have d2 : (r == c) = false := by simpa using hrc
    have d3 : (a == c) = false := by simpa using hac
    have d4 : (a == r) = false := by simpa using fun e => hra e.symm
    have d5 : (c == r) = false := by simpa using fun e => hrc e.symm
    have d6 : (c == a) = false := by simpa using fun e => hac e.symm
    have g1 : ¬ a = r := fun e => hra e.symm
    have g2 : ¬ c = r := fun e => hrc e.symm
    have g3 : ¬ c = a := fun e => hac e.symm
    have hPl := hP.len
    refine acall_sr c58 (by simp [a58]) ?_
    unfold a58
    -- is there a better one already
    refine SR.seqEx (ι := PLift (cutB b sum = false)) (fun _ => ⟨[(0, .ptr r 0)], [(r, rtBox nl P a c now.length sum b), (a, arrI now), (c, bH c b)], nid + 100, nid⟩) ?_ (fun hcut => ?_)
    · cases b with
      | none =>
        unfold rtBox bPV bH bSum arrI litP
        simp -dsimp only [aqT, aqU, aqN, ↓seqK, ↓blkK, ↓loopK, step, stepBin, Nat.reduceBEq, Nat.reduceBeqDiff, Nat.add_assoc nid, Nat.reduceAdd, reduceCtorEq, ↓reduceIte, Nat.reduceLeDiff, Nat.reduceBneDiff, Option.toList, ← Int.ofNat_tmod, ← Int.ofNat_tdiv, Nat.reduceLT, e1, e2, e3, e4, e5, e6, e7, e8, e9, a1, a2, a3, a4, a9, b1, b2, b3, b4, b9, d1, d2, d3, d4, d5, d6, g1, g2, g3, hra, hrc, hac, a5, a6, a7, a8, b5, b6, b7, b8]
        refine ⟨⟨rfl⟩, Cov.go [] [] ?_⟩
        simp [cvT, step, res, e1, e2, e3, e4, e5, e6, e7, e8, e9, a1, a2, a3, a4, a9, b1, b2, b3, b4, b9, d1, d2, d3, d4, d5, d6, g1, g2, g3, hra, hrc, hac, a5, a6, a7, a8, b5, b6, b7, b8, litP, arrI, rtBox, bH, bPV, bSum]
      | some lb =>
        obtain ⟨bl, bs⟩ := lb
        obtain ⟨hbl, hb0, hb1⟩ := hb bl bs rfl
        unfold rtBox bPV bH bSum arrI litP
        simp -dsimp only [aqT, aqU, aqN, ↓seqK, ↓blkK, ↓loopK, step, stepBin, Nat.reduceBEq, Nat.reduceBeqDiff, Nat.add_assoc nid, Nat.reduceAdd, reduceCtorEq, ↓reduceIte, Nat.reduceLeDiff, Nat.reduceBneDiff, Option.toList, ← Int.ofNat_tmod, ← Int.ofNat_tdiv, Nat.reduceLT, e1, e2, e3, e4, e5, e6, e7, e8, e9, a1, a2, a3, a4, a9, b1, b2, b3, b4, b9, d1, d2, d3, d4, d5, d6, g1, g2, g3, hra, hrc, hac, a5, a6, a7, a8, b5, b6, b7, b8]
        refine ⟨by omega, ?_⟩
        refine S2.dec (fun h => ?_) (fun h => ?_) <;> simp -dsimp only [aqT, aqU, aqN, ↓seqK, ↓blkK, ↓loopK, step, stepBin, Nat.reduceBEq, Nat.reduceBeqDiff, Nat.add_assoc nid, Nat.reduceAdd, reduceCtorEq, ↓reduceIte, Nat.reduceLeDiff, Nat.reduceBneDiff, Option.toList, ← Int.ofNat_tmod, ← Int.ofNat_tdiv, Nat.reduceLT, e1, e2, e3, e4, e5, e6, e7, e8, e9, a1, a2, a3, a4, a9, b1, b2, b3, b4, b9, d1, d2, d3, d4, d5, d6, g1, g2, g3, hra, hrc, hac, a5, a6, a7, a8, b5, b6, b7, b8]
        · rw [rtGo_cut (show cutB (some (bl, bs)) sum = true by simp [cutB, h])]
          refine RetOK.go [(nid, a), (nid + 1, c)] [] (.inl rfl) ?_
          simp [cvT, step, res, e1, e2, e3, e4, e5, e6, e7, e8, e9, a1, a2, a3, a4, a9, b1, b2, b3, b4, b9, d1, d2, d3, d4, d5, d6, g1, g2, g3, hra, hrc, hac, a5, a6, a7, a8, b5, b6, b7, b8, a58, litP, arrI, rtBox, bH, bPV, bSum]
        · refine ⟨⟨by simp [cutB]; omega⟩, Cov.go [] [] ?_⟩
          simp [cvT, step, res, e1, e2, e3, e4, e5, e6, e7, e8, e9, a1, a2, a3, a4, a9, b1, b2, b3, b4, b9, d1, d2, d3, d4, d5, d6, g1, g2, g3, hra, hrc, hac, a5, a6, a7, a8, b5, b6, b7, b8, litP, arrI, rtBox, bH, bPV, bSum]
    have hcut : cutB b sum = false := hcut.down
    -- are all points in it
    refine SR.seqEx (ι := PLift (now.length ≠ P.length)) (fun _ => ⟨[(0, .ptr r 0)], [(r, rtBox nl P a c now.length sum b), (a, arrI now), (c, bH c b)], nid + 200, nid⟩) ?_ (fun hfull => ?_)
    · unfold rtBox arrI litP
      simp -dsimp only [aqT, aqU, aqN, ↓seqK, ↓blkK, ↓loopK, step, stepBin, Nat.reduceBEq, Nat.reduceBeqDiff, Nat.add_assoc nid, Nat.reduceAdd, reduceCtorEq, ↓reduceIte, Nat.reduceLeDiff, Nat.reduceBneDiff, Option.toList, ← Int.ofNat_tmod, ← Int.ofNat_tdiv, Nat.reduceLT, e1, e2, e3, e4, e5, e6, e7, e8, e9, a1, a2, a3, a4, a9, b1, b2, b3, b4, b9, d1, d2, d3, d4, d5, d6, g1, g2, g3, hra, hrc, hac, a5, a6, a7, a8, b5, b6, b7, b8]
      refine S2.intro (fun h => ?_) (fun h => ?_) <;> simp -dsimp only [aqT, aqU, aqN, ↓seqK, ↓blkK, ↓loopK, step, stepBin, Nat.reduceBEq, Nat.reduceBeqDiff, Nat.add_assoc nid, Nat.reduceAdd, reduceCtorEq, ↓reduceIte, Nat.reduceLeDiff, Nat.reduceBneDiff, Option.toList, ← Int.ofNat_tmod, ← Int.ofNat_tdiv, Nat.reduceLT, e1, e2, e3, e4, e5, e6, e7, e8, e9, a1, a2, a3, a4, a9, b1, b2, b3, b4, b9, d1, d2, d3, d4, d5, d6, g1, g2, g3, hra, hrc, hac, a5, a6, a7, a8, b5, b6, b7, b8]
      · have hn : now.length = P.length := by have : (now.length : Int) = P.length := by simpa using h
                                              omega
        rw [rtGo_full hcut hn]
        refine CallX.lent [a] (fun nl' => by
          simp only [lends, lend, aqT, aqU, aqN, ↓seqK, ↓blkK, ↓loopK, step, stepBin, Nat.reduceBEq, Nat.reduceBeqDiff, Nat.add_assoc nid, Nat.reduceAdd, reduceCtorEq, ↓reduceIte, Nat.reduceLeDiff, Nat.reduceBneDiff, Option.toList, ← Int.ofNat_tmod, ← Int.ofNat_tdiv, Nat.reduceLT, e1, e2, e3, e4, e5, e6, e7, e8, e9, a1, a2, a3, a4, a9, b1, b2, b3, b4, b9, d1, d2, d3, d4, d5, d6, g1, g2, g3, hra, hrc, hac, a5, a6, a7, a8, b5, b6, b7, b8]
          exact ACall.nonnil 0 rfl (fun hn => cloneI_c (nl' a) now (nid + 168) (by omega) (fun e => List.eq_nil_of_length_eq_zero (hn e)))) rfl rfl (by simp [getH, idS1, idS2, e1, e2, e3, e4, e5, e6, e7, e8, e9, a1, a2, a3, a4, a9, b1, b2, b3, b4, b9, d1, d2, d3, d4, d5, d6, g1, g2, g3, hra, hrc, hac, a5, a6, a7, a8, b5, b6, b7, b8]) ?_
        unfold arrI
        simp -dsimp only [aqT, aqU, aqN, ↓seqK, ↓blkK, ↓loopK, step, stepBin, Nat.reduceBEq, Nat.reduceBeqDiff, Nat.add_assoc nid, Nat.reduceAdd, reduceCtorEq, ↓reduceIte, Nat.reduceLeDiff, Nat.reduceBneDiff, Option.toList, ← Int.ofNat_tmod, ← Int.ofNat_tdiv, Nat.reduceLT, e1, e2, e3, e4, e5, e6, e7, e8, e9, a1, a2, a3, a4, a9, b1, b2, b3, b4, b9, d1, d2, d3, d4, d5, d6, g1, g2, g3, hra, hrc, hac, a5, a6, a7, a8, b5, b6, b7, b8]
        refine RetOK.go [(nid, a), (nid + 1, nid + 168)] [] (.inl rfl) ?_
        simp [cvT, step, res, e1, e2, e3, e4, e5, e6, e7, e8, e9, a1, a2, a3, a4, a9, b1, b2, b3, b4, b9, d1, d2, d3, d4, d5, d6, g1, g2, g3, hra, hrc, hac, a5, a6, a7, a8, b5, b6, b7, b8, a58, litP, arrI, rtBox, bH, bPV, bSum]
      · refine ⟨⟨fun e => by simp [e] at h⟩, Cov.go [] [] ?_⟩
        cases b with
        | none => simp [cvT, step, res, e1, e2, e3, e4, e5, e6, e7, e8, e9, a1, a2, a3, a4, a9, b1, b2, b3, b4, b9, d1, d2, d3, d4, d5, d6, g1, g2, g3, hra, hrc, hac, a5, a6, a7, a8, b5, b6, b7, b8, litP, arrI, rtBox, bH, bPV, bSum]
        | some lb => simp [cvT, step, res, e1, e2, e3, e4, e5, e6, e7, e8, e9, a1, a2, a3, a4, a9, b1, b2, b3, b4, b9, d1, d2, d3, d4, d5, d6, g1, g2, g3, hra, hrc, hac, a5, a6, a7, a8, b5, b6, b7, b8, litP, arrI, rtBox, bH, bPV, bSum]
    have hfull : now.length ≠ P.length := hfull.down
    rw [rtGo_more hcut hfull]
    have hlast : (now.getD (now.length - 1) 0) ∈ now := by
      rw [List.getD_eq_getElem?_getD, List.getElem?_eq_getElem (show now.length - 1 < now.length by omega)]
      exact List.getElem_mem _
    have hlb := hnow _ hlast
    obtain ⟨L, hL⟩ : ∃ L, now.getD (now.length - 1) 0 = (L : Nat) := ⟨_, (Int.toNat_of_nonneg hlb.1).symm⟩
    have hLp : lastP P now = P.getD L p0 := by unfold lastP; rw [hL, Int.toNat_natCast]
    have hn1 : ((now.length : Int) - 1).toNat = now.length - 1 := by omega
    refine SR.seq ?_
    unfold rtBox arrI litP
    simp -dsimp only [aqT, aqU, aqN, ↓seqK, ↓blkK, ↓loopK, step, stepBin, Nat.reduceBEq, Nat.reduceBeqDiff, Nat.add_assoc nid, Nat.reduceAdd, reduceCtorEq, ↓reduceIte, Nat.reduceLeDiff, Nat.reduceBneDiff, Option.toList, ← Int.ofNat_tmod, ← Int.ofNat_tdiv, Nat.reduceLT, e1, e2, e3, e4, e5, e6, e7, e8, e9, a1, a2, a3, a4, a9, b1, b2, b3, b4, b9, d1, d2, d3, d4, d5, d6, g1, g2, g3, hra, hrc, hac, a5, a6, a7, a8, b5, b6, b7, b8]
    rw [hn1, hL]
    refine ⟨by unfold inI64; omega, by omega, ?_⟩
    refine SR.run (t := .mk) ?_
    simp -dsimp only [aqT, aqU, aqN, ↓seqK, ↓blkK, ↓loopK, step, stepBin, Nat.reduceBEq, Nat.reduceBeqDiff, Nat.add_assoc nid, Nat.reduceAdd, reduceCtorEq, ↓reduceIte, Nat.reduceLeDiff, Nat.reduceBneDiff, Option.toList, ← Int.ofNat_tmod, ← Int.ofNat_tdiv, Nat.reduceLT, e1, e2, e3, e4, e5, e6, e7, e8, e9, a1, a2, a3, a4, a9, b1, b2, b3, b4, b9, d1, d2, d3, d4, d5, d6, g1, g2, g3, hra, hrc, hac, a5, a6, a7, a8, b5, b6, b7, b8]
    refine LP.mkP (fun k : Nat => k ≤ P.length) (fun k : Nat => ⟨[(65, .int .i64 k), (64, .int .i64 P.length), (63, litP nl P), (0, .ptr r 0), (2, .int .i64 L)],
      [(r, rtBox nl P (nid + 4) (nid + 5) now.length sum (rtTo P f now sum b k)), (nid + 4, arrI now), (nid + 5, bH (nid + 5) (rtTo P f now sum b k))], nid + 1000, nid⟩) (fun k => P.length + 1 - k) 0 (by omega) (Cov.go [(nid + 4, a), (nid + 5, c)] [] ?_) (fun k hk => ?_)
    · have e0 : rtTo P f now sum b 0 = b := rfl
      rw [e0]
      cases b with
      | none => simp [cvT, step, res, e1, e2, e3, e4, e5, e6, e7, e8, e9, a1, a2, a3, a4, a9, b1, b2, b3, b4, b9, d1, d2, d3, d4, d5, d6, g1, g2, g3, hra, hrc, hac, a5, a6, a7, a8, b5, b6, b7, b8, litP, arrI, rtBox, bH, bPV, bSum]
      | some lb => simp [cvT, step, res, e1, e2, e3, e4, e5, e6, e7, e8, e9, a1, a2, a3, a4, a9, b1, b2, b3, b4, b9, d1, d2, d3, d4, d5, d6, g1, g2, g3, hra, hrc, hac, a5, a6, a7, a8, b5, b6, b7, b8, litP, arrI, rtBox, bH, bPV, bSum]
    have hst := rtTo_succ P f now sum b k
    have hbk := rtTo_ok hP (f := f) (now := now) h0 (by omega) hb k
    have hbk1 := rtTo_ok hP (f := f) (now := now) h0 (by omega) hb (k + 1)
    unfold rtBox arrI litP
    generalize hB : rtTo P f now sum b k = B at *
    simp -dsimp only [aqT, aqU, aqN, ↓seqK, ↓blkK, ↓loopK, step, stepBin, Nat.reduceBEq, Nat.reduceBeqDiff, Nat.add_assoc nid, Nat.reduceAdd, reduceCtorEq, ↓reduceIte, Nat.reduceLeDiff, Nat.reduceBneDiff, Option.toList, ← Int.ofNat_tmod, ← Int.ofNat_tdiv, Nat.reduceLT, e1, e2, e3, e4, e5, e6, e7, e8, e9]
    refine S2.dec (fun h3 => ?_) (fun h3 => ?_) <;> simp -dsimp only [aqT, aqU, aqN, ↓seqK, ↓blkK, ↓loopK, step, stepBin, Nat.reduceBEq, Nat.reduceBeqDiff, Nat.add_assoc nid, Nat.reduceAdd, reduceCtorEq, ↓reduceIte, Nat.reduceLeDiff, Nat.reduceBneDiff, Option.toList, ← Int.ofNat_tmod, ← Int.ofNat_tdiv, Nat.reduceLT, e1, e2, e3, e4, e5, e6, e7, e8, e9]
    · refine ⟨by omega, ?_⟩
      refine CallO.lent [nid + 4] (fun nl' => by
        simp only [lends, lend, aqT, aqU, aqN, ↓seqK, ↓blkK, ↓loopK, step, stepBin, Nat.reduceBEq, Nat.reduceBeqDiff, Nat.add_assoc nid, Nat.reduceAdd, reduceCtorEq, ↓reduceIte, Nat.reduceLeDiff, Nat.reduceBneDiff, Option.toList, ← Int.ofNat_tmod, ← Int.ofNat_tdiv, Nat.reduceLT, e1, e2, e3, e4, e5, e6, e7, e8, e9]
        exact contains_c (nl' _) now (k : Int) (nid + 1048) (by omega)) rfl rfl (by simp [getH]) ?_
      have hkP : k < P.length := by omega
      have hap := apartI_bd (hP.get L) (hP.get k)
      cases hcon : now.contains (k : Int) <;> simp -dsimp only [aqT, aqU, aqN, ↓seqK, ↓blkK, ↓loopK, step, stepBin, Nat.reduceBEq, Nat.reduceBeqDiff, Nat.add_assoc nid, Nat.reduceAdd, reduceCtorEq, ↓reduceIte, Nat.reduceLeDiff, Nat.reduceBneDiff, Option.toList, ← Int.ofNat_tmod, ← Int.ofNat_tdiv, Nat.reduceLT, e1, e2, e3, e4, e5, e6, e7, e8, e9]
      · rw [hcon, if_neg (by simp)] at hst
        rw [hLp] at hst
        refine ⟨by omega, CallX.pure (apart_c (P.getD L p0) (P.getD k p0) _ (hP.get L) (hP.get k)) ?_⟩
        generalize hd : apartI (P.getD L p0) (P.getD k p0) = d at *
        simp -dsimp only [aqT, aqU, aqN, ↓seqK, ↓blkK, ↓loopK, step, stepBin, Nat.reduceBEq, Nat.reduceBeqDiff, Nat.add_assoc nid, Nat.reduceAdd, reduceCtorEq, ↓reduceIte, Nat.reduceLeDiff, Nat.reduceBneDiff, Option.toList, ← Int.ofNat_tmod, ← Int.ofNat_tdiv, Nat.reduceLT, e1, e2, e3, e4, e5, e6, e7, e8, e9]
        have hf : 0 < f := by omega
        have hl1 : (now ++ [(k : Int)]).length = now.length + 1 := by simp
        have hcol : (fun i => if i < now.length then now.getD i 0 else [(k : Int)].getD (i - now.length) 0) = fun i => (now ++ [(k : Int)]).getD i 0 := by
          funext i
          simp only [List.getD_eq_getElem?_getD, List.getElem?_append]
          split <;> rfl
        rw [hcol]
        have hih := fun nid' (h : nid + 1124 < nid') => walk_c nl P hP f (now ++ [(k : Int)]) (sum + d) B r (nid + 1124) (nid + 5) nid' (by omega) (by omega) (by omega) (by omega) (by omega) (by omega) (by omega) hf (by omega)
          (fun x hx => by
            rcases List.mem_append.1 hx with hx | hx
            · exact hnow x hx
            · rw [List.mem_singleton] at hx; omega) (by omega) (by rw [hl1]; push_cast; omega) hbk
        unfold rtBox arrI litP at hih
        simp only [hl1] at hih
        rw [← hst] at hih
        generalize hB1 : rtTo P f now sum b (k + 1) = B1 at *
        refine ⟨⟨by omega, by omega⟩, by unfold inI64; omega, CallO.on (hih _ (by omega)) (subH_cons (by simp only [aqT, aqU, aqN, ↓seqK, ↓blkK, ↓loopK, step, stepBin, Nat.reduceBEq, Nat.reduceBeqDiff, Nat.add_assoc nid, Nat.reduceAdd, reduceCtorEq, ↓reduceIte, Nat.reduceLeDiff, Nat.reduceBneDiff, Option.toList, ← Int.ofNat_tmod, ← Int.ofNat_tdiv, Nat.reduceLT, e1, e2, e3, e4, e5, e6, e7, e8, e9]) (subH_cons (by simp only [aqT, aqU, aqN, ↓seqK, ↓blkK, ↓loopK, step, stepBin, Nat.reduceBEq, Nat.reduceBeqDiff, Nat.add_assoc nid, Nat.reduceAdd, reduceCtorEq, ↓reduceIte, Nat.reduceLeDiff, Nat.reduceBneDiff, Option.toList, ← Int.ofNat_tmod, ← Int.ofNat_tdiv, Nat.reduceLT, e1, e2, e3, e4, e5, e6, e7, e8, e9]) (subH_get (by simp only [aqT, aqU, aqN, ↓seqK, ↓blkK, ↓loopK, step, stepBin, Nat.reduceBEq, Nat.reduceBeqDiff, Nat.add_assoc nid, Nat.reduceAdd, reduceCtorEq, ↓reduceIte, Nat.reduceLeDiff, Nat.reduceBneDiff, Option.toList, ← Int.ofNat_tmod, ← Int.ofNat_tdiv, Nat.reduceLT, e1, e2, e3, e4, e5, e6, e7, e8, e9])))) ?_⟩
        simp -dsimp only [aqT, aqU, aqN, ↓seqK, ↓blkK, ↓loopK, step, stepBin, Nat.reduceBEq, Nat.reduceBeqDiff, Nat.add_assoc nid, Nat.reduceAdd, reduceCtorEq, ↓reduceIte, Nat.reduceLeDiff, Nat.reduceBneDiff, Option.toList, ← Int.ofNat_tmod, ← Int.ofNat_tdiv, Nat.reduceLT, e1, e2, e3, e4, e5, e6, e7, e8, e9]
        have q1 : (((now.length + 1 : Nat) : Int) - 1).toNat = now.length := by omega
        rw [q1]
        refine ⟨by unfold inI64; omega, ⟨by omega, by omega⟩, by unfold inI64; omega, by unfold inI64; omega, k + 1, ⟨by omega, by omega⟩, ?_⟩
        refine Cov.trans (b := ⟨[(65, .int .i64 (k + 1 : Nat)), (64, .int .i64 P.length), (63, litP nl P), (0, .ptr r 0), (2, .int .i64 L)],
          [(r, rtBox nl P (nid + 4) (nid + 5) now.length sum B1), (nid + 4, some (.arr 3 (now.length + 1) [.i .i64 fun i => (now ++ [(k : Int)]).getD i 0])), (nid + 5, bH (nid + 5) B1)], nid + 2000, nid⟩) (Cov.go [(nid + 4, nid + 1180), (nid + 5, nid + 1181)] [] ?_)
          (Cov.trans (Cov.shrink (id := nid + 4) (T := 3) (k := now.length + 1) (q := now.length) (cols := [.i .i64 fun i => (now ++ [(k : Int)]).getD i 0]) ?_ (by omega) (by omega) ?_ ?_) (Cov.go [] [] ?_))
        · cases B1 with
          | none => simp [cvT, step, res, e1, e2, e3, e4, e5, e6, e7, e8, e9, litP, arrI, rtBox, bH, bPV, bSum]
          | some lb => simp [cvT, step, res, e1, e2, e3, e4, e5, e6, e7, e8, e9, litP, arrI, rtBox, bH, bPV, bSum]
        · simp only [aqT, aqU, aqN, ↓seqK, ↓blkK, ↓loopK, step, stepBin, Nat.reduceBEq, Nat.reduceBeqDiff, Nat.add_assoc nid, Nat.reduceAdd, reduceCtorEq, ↓reduceIte, Nat.reduceLeDiff, Nat.reduceBneDiff, Option.toList, ← Int.ofNat_tmod, ← Int.ofNat_tdiv, Nat.reduceLT, e1, e2, e3, e4, e5, e6, e7, e8, e9]
        · simp [fitS, fitP, litP]
        · cases B1 with
          | none => simp [noOs, fitH, fitPs, fitP, litP, rtBox, bH, bPV, bSum]
          | some lb => simp [noOs, fitH, fitPs, fitP, litP, rtBox, bH, bPV, bSum, arrI]
        · rw [hB1]
          have hce : ColEq now.length (.i .i64 fun i => (now ++ [(k : Int)]).getD i 0) (.i .i64 fun i => now.getD i 0) := ColEq.i fun i hi => by
            simp only [List.getD_eq_getElem?_getD, List.getElem?_append_left hi]
          cases B1 with
          | none => simp [cvT, step, res, e1, e2, e3, e4, e5, e6, e7, e8, e9, litP, arrI, rtBox, bH, bPV, bSum, -List.getD_eq_getElem?_getD, hce]
          | some lb => simp [cvT, step, res, e1, e2, e3, e4, e5, e6, e7, e8, e9, litP, arrI, rtBox, bH, bPV, bSum, -List.getD_eq_getElem?_getD, hce]
      · rw [hcon, if_pos rfl] at hst
        refine ⟨by unfold inI64; omega, k + 1, ⟨by omega, by omega⟩, Cov.go [] [] ?_⟩
        rw [hst]
        cases B with
        | none => simp [cvT, step, res, e1, e2, e3, e4, e5, e6, e7, e8, e9, litP, arrI, rtBox, bH, bPV, bSum]
        | some lb => simp [cvT, step, res, e1, e2, e3, e4, e5, e6, e7, e8, e9, litP, arrI, rtBox, bH, bPV, bSum]
    · have hkn : k = P.length := by omega
      subst hkn
      rw [hB]
      refine RetOK.go [(nid, nid + 4), (nid + 1, nid + 5)] [] (.inr rfl) ?_
      cases B with
      | none => simp [cvT, step, res, e1, e2, e3, e4, e5, e6, e7, e8, e9, a1, a2, a3, a4, a9, b1, b2, b3, b4, b9, d1, d2, d3, d4, d5, d6, g1, g2, g3, hra, hrc, hac, a5, a6, a7, a8, b5, b6, b7, b8, a58, litP, arrI, rtBox, bH, bPV, bSum]
      | some lb => simp [cvT, step, res, e1, e2, e3, e4, e5, e6, e7, e8, e9, a1, a2, a3, a4, a9, b1, b2, b3, b4, b9, d1, d2, d3, d4, d5, d6, g1, g2, g3, hra, hrc, hac, a5, a6, a7, a8, b5, b6, b7, b8, a58, litP, arrI, rtBox, bH, bPV, bSum]
end Go.Proofs.Ytmgfcjblclanmaa
namespace Go.Proofs.Ytmgfcjblclanmaa
open Go.RowKit
def bestL (b : Best) : List Int := match b with
  | some (l, _) => l
  | none => []
def routeL (P : List Pt) : List Int := if routeFault P = 0 then bestL (routeV P) else []
def routeS (P : List Pt) : Int := if routeFault P = 0 then bSum (routeV P) else 0
theorem badGet {α : Type} (d : α) {f : α → Int} {l : List α} {k : Nat} (h : k < l.length) (h1 : firstBad f (l.take k) = 0) : (f (l.getD k d) = 0 → firstBad f (l.take (k + 1)) = 0) ∧ (f (l.getD k d) ≠ 0 → firstBad f l = f (l.getD k d)) := by
  have hx : l[k]? = some (l.getD k d) := by rw [List.getD_eq_getElem?_getD, List.getElem?_eq_getElem h]; rfl
  exact ⟨fun h2 => firstBad_step hx h1 h2, fun h2 => firstBad_hit hx h1 h2⟩
set_option maxHeartbeats 4000000 in
theorem route_c (nl : Bool) (P : List Pt) (nid : Nat) (hl : P.length ≤ 1000000000) : ACall Try.prog 12 [litP nl P] [] nid (.tup [.sl nid 0 (routeL P).length, .int .i64 (routeS P), .int .i64 (routeFault P)]) [(nid, arrI (routeL P))] := by
  have bad : routeFault P ≠ 0 → routeL P = [] ∧ routeS P = 0 := fun h => by unfold routeL routeS; rw [if_neg h, if_neg h]; exact ⟨rfl, rfl⟩
  refine acall_run c12 (by simp [a12]) ?_
  unfold litP
  simp -dsimp only [aqT, aqU, aqN, ↓seqK, ↓blkK, ↓loopK, step, stepBin, Nat.reduceBEq, Nat.reduceBeqDiff, Nat.add_assoc nid, Nat.reduceAdd, reduceCtorEq, ↓reduceIte, Nat.reduceLeDiff, Nat.reduceBneDiff, Option.toList, ← Int.ofNat_tmod, ← Int.ofNat_tdiv, Nat.reduceLT, a12]
  refine S2.intro (fun h => ?_) (fun h => ?_) <;> simp -dsimp only [aqT, aqU, aqN, ↓seqK, ↓blkK, ↓loopK, step, stepBin, Nat.reduceBEq, Nat.reduceBeqDiff, Nat.add_assoc nid, Nat.reduceAdd, reduceCtorEq, ↓reduceIte, Nat.reduceLeDiff, Nat.reduceBneDiff, Option.toList, ← Int.ofNat_tmod, ← Int.ofNat_tdiv, Nat.reduceLT]
  · have h0 : P.length = 0 := by have : (P.length : Int) = 0 := by simpa using h
                                 omega
    have hf : routeFault P = 8 := by unfold routeFault; rw [if_pos h0]
    obtain ⟨b1, b2⟩ := bad (by omega)
    rw [b1, b2, hf]
    refine RetOK.go [] [(nid, 1)] (.inl rfl) ?_
    simp [cvT, step, res, a12, arrI]
  have h0 : P.length ≠ 0 := by
    intro e
    rw [e] at h
    simp at h
  refine S2.dec (fun h2 => ?_) (fun h2 => ?_) <;> simp -dsimp only [aqT, aqU, aqN, ↓seqK, ↓blkK, ↓loopK, step, stepBin, Nat.reduceBEq, Nat.reduceBeqDiff, Nat.add_assoc nid, Nat.reduceAdd, reduceCtorEq, ↓reduceIte, Nat.reduceLeDiff, Nat.reduceBneDiff, Option.toList, ← Int.ofNat_tmod, ← Int.ofNat_tdiv, Nat.reduceLT]
  · have hf : routeFault P = 2 := by unfold routeFault; rw [if_neg h0, if_pos (by omega)]
    obtain ⟨b1, b2⟩ := bad (by omega)
    rw [b1, b2, hf]
    refine RetOK.go [] [(nid, 1)] (.inl rfl) ?_
    simp [cvT, step, res, a12, arrI]
  have hfb : routeFault P = firstBad ptBad P := by unfold routeFault; rw [if_neg h0, if_neg (by omega)]
  refine LP.mkP (fun k : Nat => k ≤ P.length ∧ firstBad ptBad (P.take k) = 0) (fun k : Nat => ⟨[(18, .int .i64 k), (17, .int .i64 P.length), (16, litP nl P), (0, litP nl P)], [], nid + 1000, nid⟩) (fun k => P.length + 1 - k) 0 ?_ (Cov.go [] [] ?_) (fun k hk => ?_)
  · exact ⟨by omega, rfl⟩
  · simp [cvT, step, res, litP]
  obtain ⟨hk, hb⟩ := hk
  unfold litP
  simp -dsimp only [aqT, aqU, aqN, ↓seqK, ↓blkK, ↓loopK, step, stepBin, Nat.reduceBEq, Nat.reduceBeqDiff, Nat.add_assoc nid, Nat.reduceAdd, reduceCtorEq, ↓reduceIte, Nat.reduceLeDiff, Nat.reduceBneDiff, Option.toList, ← Int.ofNat_tmod, ← Int.ofNat_tdiv, Nat.reduceLT]
  refine S2.dec (fun h3 => ?_) (fun h3 => ?_) <;> simp -dsimp only [aqT, aqU, aqN, ↓seqK, ↓blkK, ↓loopK, step, stepBin, Nat.reduceBEq, Nat.reduceBeqDiff, Nat.add_assoc nid, Nat.reduceAdd, reduceCtorEq, ↓reduceIte, Nat.reduceLeDiff, Nat.reduceBneDiff, Option.toList, ← Int.ofNat_tmod, ← Int.ofNat_tdiv, Nat.reduceLT]
  · have hkl : k < P.length := by omega
    obtain ⟨g1, g2⟩ := badGet p0 hkl hb
    refine ⟨by omega, ?_⟩
    refine CallO.pure (out_c _ _ _ _) ?_
    simp -dsimp only [aqT, aqU, aqN, ↓seqK, ↓blkK, ↓loopK, step, stepBin, Nat.reduceBEq, Nat.reduceBeqDiff, Nat.add_assoc nid, Nat.reduceAdd, reduceCtorEq, ↓reduceIte, Nat.reduceLeDiff, Nat.reduceBneDiff, Option.toList, ← Int.ofNat_tmod, ← Int.ofNat_tdiv, Nat.reduceLT]
    cases ho : outB (P.getD k p0).1 (-1000) 1000 <;> simp -dsimp only [aqT, aqU, aqN, ↓seqK, ↓blkK, ↓loopK, step, stepBin, Nat.reduceBEq, Nat.reduceBeqDiff, Nat.add_assoc nid, Nat.reduceAdd, reduceCtorEq, ↓reduceIte, Nat.reduceLeDiff, Nat.reduceBneDiff, Option.toList, ← Int.ofNat_tmod, ← Int.ofNat_tdiv, Nat.reduceLT]
    · refine CallO.pure (out_c _ _ _ _) ?_
      simp -dsimp only [aqT, aqU, aqN, ↓seqK, ↓blkK, ↓loopK, step, stepBin, Nat.reduceBEq, Nat.reduceBeqDiff, Nat.add_assoc nid, Nat.reduceAdd, reduceCtorEq, ↓reduceIte, Nat.reduceLeDiff, Nat.reduceBneDiff, Option.toList, ← Int.ofNat_tmod, ← Int.ofNat_tdiv, Nat.reduceLT]
      cases ho2 : outB (P.getD k p0).2 (-1000) 1000 <;> simp -dsimp only [aqT, aqU, aqN, ↓seqK, ↓blkK, ↓loopK, step, stepBin, Nat.reduceBEq, Nat.reduceBeqDiff, Nat.add_assoc nid, Nat.reduceAdd, reduceCtorEq, ↓reduceIte, Nat.reduceLeDiff, Nat.reduceBneDiff, Option.toList, ← Int.ofNat_tmod, ← Int.ofNat_tdiv, Nat.reduceLT]
      · refine ⟨by unfold inI64; omega, k + 1, ⟨⟨by omega, g1 (by unfold ptBad; rw [ho, ho2]; rfl)⟩, by omega⟩, Cov.go [] [] ?_⟩
        simp [cvT, step, res, litP]
      · have hbad : ptBad (P.getD k p0) = 1 := by unfold ptBad; rw [ho, ho2]; rfl
        have hf : routeFault P = 1 := by rw [hfb, g2 (by omega), hbad]
        obtain ⟨b1, b2⟩ := bad (by omega)
        rw [b1, b2, hf]
        refine RetOK.go [] [(nid, 1)] (.inl rfl) ?_
        simp [cvT, step, res, a12, arrI]
    · have hbad : ptBad (P.getD k p0) = 1 := by unfold ptBad; rw [ho]; rfl
      have hf : routeFault P = 1 := by rw [hfb, g2 (by omega), hbad]
      obtain ⟨b1, b2⟩ := bad (by omega)
      rw [b1, b2, hf]
      refine RetOK.go [] [(nid, 1)] (.inl rfl) ?_
      simp [cvT, step, res, a12, arrI]
  have hkn : k = P.length := by omega
  subst hkn
  rw [List.take_length] at hb
  have hf : routeFault P = 0 := by rw [hfb, hb]
  obtain ⟨hne, hP⟩ := routeFault_ok hf
  obtain ⟨bl, bs, hbv⟩ := routeV_some hne
  have e1 : routeL P = bl := by unfold routeL bestL; rw [if_pos hf, hbv]
  have e2 : routeS P = bs := by unfold routeS bSum; rw [if_pos hf, hbv]
  rw [e1, e2, hf]
  have hw := walk_c nl P hP P.length [0] 0 none (nid + 1016) (nid + 1008) (nid + 1) (nid + 1028) (by omega) (by omega) (by omega) (by omega) (by omega) (by omega) (by simp; omega) (by omega) (by simp) (fun x hx => by
    rw [List.mem_singleton] at hx; omega) (by omega) (by simp) (fun l s e => by cases e)
  have hbv' : rtGo P P.length [0] 0 none = some (bl, bs) := hbv
  rw [hbv'] at hw
  unfold rtBox arrI litP bPV bH bSum at hw
  simp only [arrI] at hw
  refine CallO.on hw (subH_cons (by simp only [aqT, aqU, aqN, ↓seqK, ↓blkK, ↓loopK, step, stepBin, Nat.reduceBEq, Nat.reduceBeqDiff, Nat.add_assoc nid, Nat.reduceAdd, reduceCtorEq, ↓reduceIte, Nat.reduceLeDiff, Nat.reduceBneDiff, Option.toList, ← Int.ofNat_tmod, ← Int.ofNat_tdiv, Nat.reduceLT]) (subH_cons (by simp only [aqT, aqU, aqN, ↓seqK, ↓blkK, ↓loopK, step, stepBin, Nat.reduceBEq, Nat.reduceBeqDiff, Nat.add_assoc nid, Nat.reduceAdd, reduceCtorEq, ↓reduceIte, Nat.reduceLeDiff, Nat.reduceBneDiff, Option.toList, ← Int.ofNat_tmod, ← Int.ofNat_tdiv, Nat.reduceLT]) (subH_cons (by simp only [aqT, aqU, aqN, ↓seqK, ↓blkK, ↓loopK, step, stepBin, Nat.reduceBEq, Nat.reduceBeqDiff, Nat.add_assoc nid, Nat.reduceAdd, reduceCtorEq, ↓reduceIte, Nat.reduceLeDiff, Nat.reduceBneDiff, Option.toList, ← Int.ofNat_tmod, ← Int.ofNat_tdiv, Nat.reduceLT]) (subH_nil _)))) ?_
  simp -dsimp only [aqT, aqU, aqN, ↓seqK, ↓blkK, ↓loopK, step, stepBin, Nat.reduceBEq, Nat.reduceBeqDiff, Nat.add_assoc nid, Nat.reduceAdd, reduceCtorEq, ↓reduceIte, Nat.reduceLeDiff, Nat.reduceBneDiff, Option.toList, ← Int.ofNat_tmod, ← Int.ofNat_tdiv, Nat.reduceLT]
  refine RetOK.go [(nid, nid + 1029)] [] (.inl rfl) ?_
  simp [cvT, step, res, a12, arrI]
end Go.Proofs.Ytmgfcjblclanmaa
namespace Go.Proofs.Ytmgfcjblclanmaa
open Go.RowKit
theorem routeFault_c (nl : Bool) (P : List Pt) (nid : Nat) (hl : P.length ≤ 1000000000) : ACall Try.prog 13 [litP nl P] [] nid (.int .i64 (routeFault P)) [] := by
  refine acall_run c13 (by simp [a13]) ?_
  unfold litP
  simp -dsimp only [aqT, aqU, aqN, ↓seqK, ↓blkK, ↓loopK, step, stepBin, Nat.reduceBEq, Nat.reduceBeqDiff, Nat.add_assoc nid, Nat.reduceAdd, reduceCtorEq, ↓reduceIte, Nat.reduceLeDiff, Nat.reduceBneDiff, Option.toList, ← Int.ofNat_tmod, ← Int.ofNat_tdiv, Nat.reduceLT, a13]
  refine S2.intro (fun h => ?_) (fun h => ?_) <;> simp -dsimp only [aqT, aqU, aqN, ↓seqK, ↓blkK, ↓loopK, step, stepBin, Nat.reduceBEq, Nat.reduceBeqDiff, Nat.add_assoc nid, Nat.reduceAdd, reduceCtorEq, ↓reduceIte, Nat.reduceLeDiff, Nat.reduceBneDiff, Option.toList, ← Int.ofNat_tmod, ← Int.ofNat_tdiv, Nat.reduceLT]
  · have h0 : P.length = 0 := by have : (P.length : Int) = 0 := by simpa using h
                                 omega
    have hf : routeFault P = 8 := by unfold routeFault; rw [if_pos h0]
    rw [hf]
    refine RetOK.pure (.inl rfl) rfl ?_
    simp [cvT, step, res]
  have h0 : P.length ≠ 0 := by
    intro e
    rw [e] at h
    simp at h
  refine S2.dec (fun h2 => ?_) (fun h2 => ?_) <;> simp -dsimp only [aqT, aqU, aqN, ↓seqK, ↓blkK, ↓loopK, step, stepBin, Nat.reduceBEq, Nat.reduceBeqDiff, Nat.add_assoc nid, Nat.reduceAdd, reduceCtorEq, ↓reduceIte, Nat.reduceLeDiff, Nat.reduceBneDiff, Option.toList, ← Int.ofNat_tmod, ← Int.ofNat_tdiv, Nat.reduceLT]
  · have hf : routeFault P = 2 := by unfold routeFault; rw [if_neg h0, if_pos (by omega)]
    rw [hf]
    refine RetOK.pure (.inl rfl) rfl ?_
    simp [cvT, step, res]
  have hfb : routeFault P = firstBad ptBad P := by unfold routeFault; rw [if_neg h0, if_neg (by omega)]
  refine LP.mkP (fun k : Nat => k ≤ P.length ∧ firstBad ptBad (P.take k) = 0) (fun k : Nat => ⟨[(15, .int .i64 k), (14, .int .i64 P.length), (13, litP nl P)], [], nid + 1000, nid⟩) (fun k => P.length + 1 - k) 0 ?_ (Cov.go [] [] ?_) (fun k hk => ?_)
  · exact ⟨by omega, rfl⟩
  · simp [cvT, step, res, litP]
  obtain ⟨hk, hb⟩ := hk
  unfold litP
  simp -dsimp only [aqT, aqU, aqN, ↓seqK, ↓blkK, ↓loopK, step, stepBin, Nat.reduceBEq, Nat.reduceBeqDiff, Nat.add_assoc nid, Nat.reduceAdd, reduceCtorEq, ↓reduceIte, Nat.reduceLeDiff, Nat.reduceBneDiff, Option.toList, ← Int.ofNat_tmod, ← Int.ofNat_tdiv, Nat.reduceLT]
  refine S2.dec (fun h3 => ?_) (fun h3 => ?_) <;> simp -dsimp only [aqT, aqU, aqN, ↓seqK, ↓blkK, ↓loopK, step, stepBin, Nat.reduceBEq, Nat.reduceBeqDiff, Nat.add_assoc nid, Nat.reduceAdd, reduceCtorEq, ↓reduceIte, Nat.reduceLeDiff, Nat.reduceBneDiff, Option.toList, ← Int.ofNat_tmod, ← Int.ofNat_tdiv, Nat.reduceLT]
  · have hkl : k < P.length := by omega
    obtain ⟨g1, g2⟩ := badGet p0 hkl hb
    refine ⟨by omega, ?_⟩
    refine CallO.pure (in_c _ _ _ _) ?_
    cases ho : outB (P.getD k p0).1 (-1000) 1000 <;> simp -dsimp only [aqT, aqU, aqN, ↓seqK, ↓blkK, ↓loopK, step, stepBin, Nat.reduceBEq, Nat.reduceBeqDiff, Nat.add_assoc nid, Nat.reduceAdd, reduceCtorEq, ↓reduceIte, Nat.reduceLeDiff, Nat.reduceBneDiff, Option.toList, ← Int.ofNat_tmod, ← Int.ofNat_tdiv, Nat.reduceLT]
    · refine CallO.pure (in_c _ _ _ _) ?_
      cases ho2 : outB (P.getD k p0).2 (-1000) 1000 <;> simp -dsimp only [aqT, aqU, aqN, ↓seqK, ↓blkK, ↓loopK, step, stepBin, Nat.reduceBEq, Nat.reduceBeqDiff, Nat.add_assoc nid, Nat.reduceAdd, reduceCtorEq, ↓reduceIte, Nat.reduceLeDiff, Nat.reduceBneDiff, Option.toList, ← Int.ofNat_tmod, ← Int.ofNat_tdiv, Nat.reduceLT]
      · refine ⟨by unfold inI64; omega, k + 1, ⟨⟨by omega, g1 (by unfold ptBad; rw [ho, ho2]; rfl)⟩, by omega⟩, Cov.go [] [] ?_⟩
        simp [cvT, step, res, litP]
      · have hbad : ptBad (P.getD k p0) = 1 := by unfold ptBad; rw [ho, ho2]; rfl
        have hf : routeFault P = 1 := by rw [hfb, g2 (by omega), hbad]
        rw [hf]
        refine RetOK.pure (.inl rfl) rfl ?_
        simp [cvT, step, res]
    · have hbad : ptBad (P.getD k p0) = 1 := by unfold ptBad; rw [ho]; rfl
      have hf : routeFault P = 1 := by rw [hfb, g2 (by omega), hbad]
      rw [hf]
      refine RetOK.pure (.inl rfl) rfl ?_
      simp [cvT, step, res]
  have hkn : k = P.length := by omega
  subst hkn
  rw [List.take_length] at hb
  have hf : routeFault P = 0 := by rw [hfb, hb]
  rw [hf]
  refine RetOK.pure (.inl rfl) rfl ?_
  simp [cvT, step, res]
end Go.Proofs.Ytmgfcjblclanmaa
namespace Go.Proofs.Ytmgfcjblclanmaa
open Go.RowKit
def arrP (l : List Pt) : Option ABlk := some (.arr 31 l.length [.i .i64 fun i => (l.getD i p0).1, .i .i64 fun i => (l.getD i p0).2])
theorem cappP (f : Pt → Int) (h0 : f p0 = 0) (l : List Pt) (x : Pt) {k : Nat} (hk : l.length = k) {v : Int} (hv : v = f x) : ∀ i, i < k + 1 → (if i < k then f (l.getD i p0) else [v].getD (i - k) 0) = f ((l ++ [x]).getD i p0) := fun i hi => by
  subst hk
  subst hv
  simp only [List.getD_eq_getElem?_getD, List.getElem?_append]
  split
  · rfl
  · rw [show i - l.length = 0 by omega]
    rfl
theorem csetP (p : Pt → Int) (O : List Pt) {I : Nat} (hI : I < O.length) (x : Pt) {v : Int} (hv : v = p x) {M : Nat} : ∀ j, j < M → (if j = I then v else p (O.getD j p0)) = p ((O.set I x).getD j p0) := fun j _ => by
  simp only [List.getD_eq_getElem?_getD, List.getElem?_set]
  by_cases h : j = I
  · subst h; simp [hI, hv]
  · rw [if_neg h, if_neg (fun e => h e.symm)]
theorem ckeepP (p : Pt → Int) (O : List Pt) {I : Nat} (hI : I < O.length) (x : Pt) (hv : p (O.getD I p0) = p x) {M : Nat} : ∀ j, j < M → p (O.getD j p0) = p ((O.set I x).getD j p0) := fun j hj => by
  rw [← csetP p O hI x hv j hj]
  split
  · rename_i h; rw [h]
  · rfl
set_option maxHeartbeats 4000000 in
theorem pointList_c (s nid : Nat) (nl : Bool) (A : List Int) (p : Nat) (h : s < nid) (hp : p ≤ 1099511600000) (hA : A.length ≤ 17592186044416) :
    ACall Try.prog 9 [.ptr s 0] [(s, strmC nl A p)] nid (.sl nid 0 (pointListV A p).1.length) [(s, strmC nl A (pointListV A p).2), (nid, arrP (pointListV A p).1)] := by
  obtain ⟨e1, e2, e3, e4, e5, e6, e7, e8, e9⟩ := id_all h
  refine acall_run c9 (by simp [a9]) ?_
  unfold strmC
  simp -dsimp only [a9, aqT, aqU, aqN, ↓seqK, ↓blkK, ↓loopK, step, stepBin, Nat.reduceBEq, Nat.reduceBeqDiff, Nat.add_assoc nid, Nat.reduceAdd, reduceCtorEq, ↓reduceIte, Nat.reduceLeDiff, Nat.reduceBneDiff, Option.toList, ← Int.ofNat_tmod, ← Int.ofNat_tdiv, Nat.reduceLT, e1, e2, e3, e4, e5, e6, e7, e8, e9]
  obtain ⟨hm1, hm6, hmp⟩ := ptsN_bd A p
  refine CallO.pick_go (T := 3) (nl := nl) (A := A) (p := p) (g := fun i => [1, 2, 3, 4, 5, 6].getD i 0) (by simp only [aqT, aqU, aqN, ↓seqK, ↓blkK, ↓loopK, step, stepBin, Nat.reduceBEq, Nat.reduceBeqDiff, Nat.add_assoc nid, Nat.reduceAdd, reduceCtorEq, ↓reduceIte, Nat.reduceLeDiff, Nat.reduceBneDiff, Option.toList, ← Int.ofNat_tmod, ← Int.ofNat_tdiv, Nat.reduceLT, e1, e2, e3, e4, e5, e6, e7, e8, e9, strmC]) (by simp only [aqT, aqU, aqN, ↓seqK, ↓blkK, ↓loopK, step, stepBin, Nat.reduceBEq, Nat.reduceBeqDiff, Nat.add_assoc nid, Nat.reduceAdd, reduceCtorEq, ↓reduceIte, Nat.reduceLeDiff, Nat.reduceBneDiff, Option.toList, ← Int.ofNat_tmod, ← Int.ofNat_tdiv, Nat.reduceLT, e1, e2, e3, e4, e5, e6, e7, e8, e9]) (by simp only [aqT, aqU, aqN, ↓seqK, ↓blkK, ↓loopK, step, stepBin, Nat.reduceBEq, Nat.reduceBeqDiff, Nat.add_assoc nid, Nat.reduceAdd, reduceCtorEq, ↓reduceIte, Nat.reduceLeDiff, Nat.reduceBneDiff, Option.toList, ← Int.ofNat_tmod, ← Int.ofNat_tdiv, Nat.reduceLT, e1, e2, e3, e4, e5, e6, e7, e8, e9]) (by omega) (by omega) hA (by omega) (by omega) ?_
  have hpk : [1, 2, 3, 4, 5, 6].getD (pickI A p 6) 0 = (ptsN A p : Int) := hmp
  unfold strmC
  simp -dsimp only [aqT, aqU, aqN, ↓seqK, ↓blkK, ↓loopK, step, stepBin, Nat.reduceBEq, Nat.reduceBeqDiff, Nat.add_assoc nid, Nat.reduceAdd, reduceCtorEq, ↓reduceIte, Nat.reduceLeDiff, Nat.reduceBneDiff, Option.toList, ← Int.ofNat_tmod, ← Int.ofNat_tdiv, Nat.reduceLT, e1, e2, e3, e4, e5, e6, e7, e8, e9]
  rw [hpk]
  refine LP.mkP (fun k : Nat => k ≤ ptsN A p) (fun k : Nat => ⟨[(7, .int .i64 k), (6, .int .i64 (ptsN A p : Nat)), (3, .sl (nid + 4) 0 k), (0, .ptr s 0), (2, .lit true 0 [])],
    [(s, strmC nl A (p + 1 + 2 * k)), (nid + 4, some (.arr 31 k [.i .i64 fun i => ((pts0 A (p + 1) k).getD i p0).1, .i .i64 fun i => ((pts0 A (p + 1) k).getD i p0).2]))], nid + 200, nid⟩)
    (fun k => 9 - k) 0 (by omega) (Cov.go [] [(nid + 4, 2)] ?_) (fun k hk => ?_)
  · simp [cvT, step, res, e1, e2, e3, e4, e5, e6, e7, e8, e9, strmC, pts0]
  have hol := pts0_len A (p + 1) k
  have hst := pts0_succ A (p + 1) k
  unfold strmC
  simp -dsimp only [aqT, aqU, aqN, ↓seqK, ↓blkK, ↓loopK, step, stepBin, Nat.reduceBEq, Nat.reduceBeqDiff, Nat.add_assoc nid, Nat.reduceAdd, reduceCtorEq, ↓reduceIte, Nat.reduceLeDiff, Nat.reduceBneDiff, Option.toList, ← Int.ofNat_tmod, ← Int.ofNat_tdiv, Nat.reduceLT, e1, e2, e3, e4, e5, e6, e7, e8, e9]
  refine S2.dec (fun h1 => ?_) (fun h1 => ?_) <;> simp -dsimp only [aqT, aqU, aqN, ↓seqK, ↓blkK, ↓loopK, step, stepBin, Nat.reduceBEq, Nat.reduceBeqDiff, Nat.add_assoc nid, Nat.reduceAdd, reduceCtorEq, ↓reduceIte, Nat.reduceLeDiff, Nat.reduceBneDiff, Option.toList, ← Int.ofNat_tmod, ← Int.ofNat_tdiv, Nat.reduceLT, e1, e2, e3, e4, e5, e6, e7, e8, e9]
  · generalize pts0 A (p + 1) k = O at *
    refine CallO.on (range_c s _ nl A (p + 1 + 2 * k) (-3) 9 (by omega) (by omega) hA (by omega) (by omega) (by omega)) (subH_get (by simp only [aqT, aqU, aqN, ↓seqK, ↓blkK, ↓loopK, step, stepBin, Nat.reduceBEq, Nat.reduceBeqDiff, Nat.add_assoc nid, Nat.reduceAdd, reduceCtorEq, ↓reduceIte, Nat.reduceLeDiff, Nat.reduceBneDiff, Option.toList, ← Int.ofNat_tmod, ← Int.ofNat_tdiv, Nat.reduceLT, e1, e2, e3, e4, e5, e6, e7, e8, e9, strmC])) ?_
    unfold strmC
    simp -dsimp only [aqT, aqU, aqN, ↓seqK, ↓blkK, ↓loopK, step, stepBin, Nat.reduceBEq, Nat.reduceBeqDiff, Nat.add_assoc nid, Nat.reduceAdd, reduceCtorEq, ↓reduceIte, Nat.reduceLeDiff, Nat.reduceBneDiff, Option.toList, ← Int.ofNat_tmod, ← Int.ofNat_tdiv, Nat.reduceLT, e1, e2, e3, e4, e5, e6, e7, e8, e9]
    refine CallO.pick_go (T := 3) (nl := nl) (A := A) (p := p + 1 + 2 * k + 1) (g := fun i => [0, 0, 1, 5, -7].getD i 0) (by simp only [aqT, aqU, aqN, ↓seqK, ↓blkK, ↓loopK, step, stepBin, Nat.reduceBEq, Nat.reduceBeqDiff, Nat.add_assoc nid, Nat.reduceAdd, reduceCtorEq, ↓reduceIte, Nat.reduceLeDiff, Nat.reduceBneDiff, Option.toList, ← Int.ofNat_tmod, ← Int.ofNat_tdiv, Nat.reduceLT, e1, e2, e3, e4, e5, e6, e7, e8, e9, strmC]) (by simp only [aqT, aqU, aqN, ↓seqK, ↓blkK, ↓loopK, step, stepBin, Nat.reduceBEq, Nat.reduceBeqDiff, Nat.add_assoc nid, Nat.reduceAdd, reduceCtorEq, ↓reduceIte, Nat.reduceLeDiff, Nat.reduceBneDiff, Option.toList, ← Int.ofNat_tmod, ← Int.ofNat_tdiv, Nat.reduceLT, e1, e2, e3, e4, e5, e6, e7, e8, e9]) (by simp only [aqT, aqU, aqN, ↓seqK, ↓blkK, ↓loopK, step, stepBin, Nat.reduceBEq, Nat.reduceBeqDiff, Nat.add_assoc nid, Nat.reduceAdd, reduceCtorEq, ↓reduceIte, Nat.reduceLeDiff, Nat.reduceBneDiff, Option.toList, ← Int.ofNat_tmod, ← Int.ofNat_tdiv, Nat.reduceLT, e1, e2, e3, e4, e5, e6, e7, e8, e9]) (by omega) (by omega) hA (by omega) (by omega) ?_
    unfold strmC
    simp -dsimp only [aqT, aqU, aqN, ↓seqK, ↓blkK, ↓loopK, step, stepBin, Nat.reduceBEq, Nat.reduceBeqDiff, Nat.add_assoc nid, Nat.reduceAdd, reduceCtorEq, ↓reduceIte, Nat.reduceLeDiff, Nat.reduceBneDiff, Option.toList, ← Int.ofNat_tmod, ← Int.ofNat_tdiv, Nat.reduceLT, e1, e2, e3, e4, e5, e6, e7, e8, e9]
    refine ⟨⟨by omega, by omega⟩, by unfold inI64; omega, k + 1, ⟨by omega, by omega⟩, Cov.go [(nid + 4, nid + 236)] [] ?_⟩
    rw [hst]
    simp [cvT, step, res, e1, e2, e3, e4, e5, e6, e7, e8, e9, strmC, -List.getD_eq_getElem?_getD]
    exact ⟨by omega, ColEq.i (cappP (fun x : Pt => x.1) rfl O (ptAt A (p + 1 + 2 * k)) hol rfl), ColEq.i (cappP (fun x : Pt => x.2) rfl O (ptAt A (p + 1 + 2 * k)) hol rfl)⟩
  have hkM : k = ptsN A p := by omega
  subst hkM
  generalize hq : p + 1 + 2 * ptsN A p = q at *
  have hps : pts0 A (p + 1) (ptsN A p) = pts0 A (p + 1) (ptsN A p) := rfl
  have hpv : pointListV A p = if flipV A (pts1 A q (ptsN A p) (pts0 A (p + 1) (ptsN A p))).2 40 = true then ([], (pts1 A q (ptsN A p) (pts0 A (p + 1) (ptsN A p))).2 + 1)
      else ((pts1 A q (ptsN A p) (pts0 A (p + 1) (ptsN A p))).1, (pts1 A q (ptsN A p) (pts0 A (p + 1) (ptsN A p))).2 + 1) := by unfold pointListV; rw [hq]
  generalize pts0 A (p + 1) (ptsN A p) = O at *
  generalize ptsN A p = m at *
  obtain ⟨hpl, hpq⟩ := pts1_len A q m O
  refine CallO.on (flip_c s _ nl A q 15 (by omega) (by omega) hA (by omega)) (subH_get (by simp only [aqT, aqU, aqN, ↓seqK, ↓blkK, ↓loopK, step, stepBin, Nat.reduceBEq, Nat.reduceBeqDiff, Nat.add_assoc nid, Nat.reduceAdd, reduceCtorEq, ↓reduceIte, Nat.reduceLeDiff, Nat.reduceBneDiff, Option.toList, ← Int.ofNat_tmod, ← Int.ofNat_tdiv, Nat.reduceLT, e1, e2, e3, e4, e5, e6, e7, e8, e9, strmC])) ?_
  unfold strmC
  simp -dsimp only [aqT, aqU, aqN, ↓seqK, ↓blkK, ↓loopK, step, stepBin, Nat.reduceBEq, Nat.reduceBeqDiff, Nat.add_assoc nid, Nat.reduceAdd, reduceCtorEq, ↓reduceIte, Nat.reduceLeDiff, Nat.reduceBneDiff, Option.toList, ← Int.ofNat_tmod, ← Int.ofNat_tdiv, Nat.reduceLT, e1, e2, e3, e4, e5, e6, e7, e8, e9]
  have hnx := nextV_bd A (q + 1) (n := (m : Int)) (by omega)
  obtain ⟨I, hI⟩ : ∃ I, nextV A (q + 1) (m : Int) = (I : Nat) := ⟨_, (Int.toNat_of_nonneg hnx.1).symm⟩
  have hp1 : pts1 A q m O = if flipV A q 15 = true then (O.set I (pickV A (q + 2) [-1001, 1001, 1000], (O.getD I p0).2), q + 3) else (O, q + 1) := by unfold pts1; rw [hI, Int.toNat_natCast]
  refine S2.intro (fun h2 => ?_) (fun h2 => ?_) <;> simp -dsimp only [aqT, aqU, aqN, ↓seqK, ↓blkK, ↓loopK, step, stepBin, Nat.reduceBEq, Nat.reduceBeqDiff, Nat.add_assoc nid, Nat.reduceAdd, reduceCtorEq, ↓reduceIte, Nat.reduceLeDiff, Nat.reduceBneDiff, Option.toList, ← Int.ofNat_tmod, ← Int.ofNat_tdiv, Nat.reduceLT, e1, e2, e3, e4, e5, e6, e7, e8, e9]
  · rw [if_pos h2] at hp1
    rw [hp1] at hpv
    refine CallO.on (next_c s _ nl A (q + 1) _ (by omega) (by omega) hA (by omega)) (subH_get (by simp only [aqT, aqU, aqN, ↓seqK, ↓blkK, ↓loopK, step, stepBin, Nat.reduceBEq, Nat.reduceBeqDiff, Nat.add_assoc nid, Nat.reduceAdd, reduceCtorEq, ↓reduceIte, Nat.reduceLeDiff, Nat.reduceBneDiff, Option.toList, ← Int.ofNat_tmod, ← Int.ofNat_tdiv, Nat.reduceLT, e1, e2, e3, e4, e5, e6, e7, e8, e9, strmC])) ?_
    unfold strmC
    simp -dsimp only [aqT, aqU, aqN, ↓seqK, ↓blkK, ↓loopK, step, stepBin, Nat.reduceBEq, Nat.reduceBeqDiff, Nat.add_assoc nid, Nat.reduceAdd, reduceCtorEq, ↓reduceIte, Nat.reduceLeDiff, Nat.reduceBneDiff, Option.toList, ← Int.ofNat_tmod, ← Int.ofNat_tdiv, Nat.reduceLT, e1, e2, e3, e4, e5, e6, e7, e8, e9]
    refine CallO.pick_go (T := 3) (nl := nl) (A := A) (p := q + 1 + 1) (g := fun i => [-1001, 1001, 1000].getD i 0) (by simp only [aqT, aqU, aqN, ↓seqK, ↓blkK, ↓loopK, step, stepBin, Nat.reduceBEq, Nat.reduceBeqDiff, Nat.add_assoc nid, Nat.reduceAdd, reduceCtorEq, ↓reduceIte, Nat.reduceLeDiff, Nat.reduceBneDiff, Option.toList, ← Int.ofNat_tmod, ← Int.ofNat_tdiv, Nat.reduceLT, e1, e2, e3, e4, e5, e6, e7, e8, e9, strmC]) (by simp only [aqT, aqU, aqN, ↓seqK, ↓blkK, ↓loopK, step, stepBin, Nat.reduceBEq, Nat.reduceBeqDiff, Nat.add_assoc nid, Nat.reduceAdd, reduceCtorEq, ↓reduceIte, Nat.reduceLeDiff, Nat.reduceBneDiff, Option.toList, ← Int.ofNat_tmod, ← Int.ofNat_tdiv, Nat.reduceLT, e1, e2, e3, e4, e5, e6, e7, e8, e9]) (by simp only [aqT, aqU, aqN, ↓seqK, ↓blkK, ↓loopK, step, stepBin, Nat.reduceBEq, Nat.reduceBeqDiff, Nat.add_assoc nid, Nat.reduceAdd, reduceCtorEq, ↓reduceIte, Nat.reduceLeDiff, Nat.reduceBneDiff, Option.toList, ← Int.ofNat_tmod, ← Int.ofNat_tdiv, Nat.reduceLT, e1, e2, e3, e4, e5, e6, e7, e8, e9]) (by omega) (by omega) hA (by omega) (by omega) ?_
    unfold strmC
    simp -dsimp only [aqT, aqU, aqN, ↓seqK, ↓blkK, ↓loopK, step, stepBin, Nat.reduceBEq, Nat.reduceBeqDiff, Nat.add_assoc nid, Nat.reduceAdd, reduceCtorEq, ↓reduceIte, Nat.reduceLeDiff, Nat.reduceBneDiff, Option.toList, ← Int.ofNat_tmod, ← Int.ofNat_tdiv, Nat.reduceLT, e1, e2, e3, e4, e5, e6, e7, e8, e9]
    rw [hI]
    refine ⟨by omega, ?_⟩
    refine CallO.on (flip_c s _ nl A (q + 1 + 1 + 1) 40 (by omega) (by omega) hA (by omega)) (subH_get (by simp only [aqT, aqU, aqN, ↓seqK, ↓blkK, ↓loopK, step, stepBin, Nat.reduceBEq, Nat.reduceBeqDiff, Nat.add_assoc nid, Nat.reduceAdd, reduceCtorEq, ↓reduceIte, Nat.reduceLeDiff, Nat.reduceBneDiff, Option.toList, ← Int.ofNat_tmod, ← Int.ofNat_tdiv, Nat.reduceLT, e1, e2, e3, e4, e5, e6, e7, e8, e9, strmC])) ?_
    unfold strmC
    simp -dsimp only [aqT, aqU, aqN, ↓seqK, ↓blkK, ↓loopK, step, stepBin, Nat.reduceBEq, Nat.reduceBeqDiff, Nat.add_assoc nid, Nat.reduceAdd, reduceCtorEq, ↓reduceIte, Nat.reduceLeDiff, Nat.reduceBneDiff, Option.toList, ← Int.ofNat_tmod, ← Int.ofNat_tdiv, Nat.reduceLT, e1, e2, e3, e4, e5, e6, e7, e8, e9]
    have hIm : I < O.length := by omega
    refine S2.intro (fun h3 => ?_) (fun h3 => ?_) <;> simp -dsimp only [aqT, aqU, aqN, ↓seqK, ↓blkK, ↓loopK, step, stepBin, Nat.reduceBEq, Nat.reduceBeqDiff, Nat.add_assoc nid, Nat.reduceAdd, reduceCtorEq, ↓reduceIte, Nat.reduceLeDiff, Nat.reduceBneDiff, Option.toList, ← Int.ofNat_tmod, ← Int.ofNat_tdiv, Nat.reduceLT, e1, e2, e3, e4, e5, e6, e7, e8, e9]
    · rw [if_pos h3] at hpv
      rw [hpv]
      refine RetOK.go [] [(nid, 2)] (.inl rfl) ?_
      simp [a9, cvT, step, res, e1, e2, e3, e4, e5, e6, e7, e8, e9, strmC, arrP]
      omega
    · rw [if_neg (by simp [h3])] at hpv
      rw [hpv]
      refine RetOK.go [(nid, nid + 4)] [] (.inl rfl) ?_
      simp [a9, cvT, step, res, e1, e2, e3, e4, e5, e6, e7, e8, e9, strmC, arrP, hol, -List.getD_eq_getElem?_getD]
      exact ⟨by omega, ColEq.i (csetP (fun x : Pt => x.1) O hIm (pickV A (q + 2) [-1001, 1001, 1000], (O.getD I p0).2) rfl), ColEq.i (ckeepP (fun x : Pt => x.2) O hIm (pickV A (q + 2) [-1001, 1001, 1000], (O.getD I p0).2) rfl)⟩
  · rw [if_neg (by simp [h2])] at hp1
    rw [hp1] at hpv
    refine CallO.on (flip_c s _ nl A (q + 1) 40 (by omega) (by omega) hA (by omega)) (subH_get (by simp only [aqT, aqU, aqN, ↓seqK, ↓blkK, ↓loopK, step, stepBin, Nat.reduceBEq, Nat.reduceBeqDiff, Nat.add_assoc nid, Nat.reduceAdd, reduceCtorEq, ↓reduceIte, Nat.reduceLeDiff, Nat.reduceBneDiff, Option.toList, ← Int.ofNat_tmod, ← Int.ofNat_tdiv, Nat.reduceLT, e1, e2, e3, e4, e5, e6, e7, e8, e9, strmC])) ?_
    unfold strmC
    simp -dsimp only [aqT, aqU, aqN, ↓seqK, ↓blkK, ↓loopK, step, stepBin, Nat.reduceBEq, Nat.reduceBeqDiff, Nat.add_assoc nid, Nat.reduceAdd, reduceCtorEq, ↓reduceIte, Nat.reduceLeDiff, Nat.reduceBneDiff, Option.toList, ← Int.ofNat_tmod, ← Int.ofNat_tdiv, Nat.reduceLT, e1, e2, e3, e4, e5, e6, e7, e8, e9]
    refine S2.intro (fun h3 => ?_) (fun h3 => ?_) <;> simp -dsimp only [aqT, aqU, aqN, ↓seqK, ↓blkK, ↓loopK, step, stepBin, Nat.reduceBEq, Nat.reduceBeqDiff, Nat.add_assoc nid, Nat.reduceAdd, reduceCtorEq, ↓reduceIte, Nat.reduceLeDiff, Nat.reduceBneDiff, Option.toList, ← Int.ofNat_tmod, ← Int.ofNat_tdiv, Nat.reduceLT, e1, e2, e3, e4, e5, e6, e7, e8, e9]
    · rw [if_pos h3] at hpv
      rw [hpv]
      refine RetOK.go [] [(nid, 2)] (.inl rfl) ?_
      simp [a9, cvT, step, res, e1, e2, e3, e4, e5, e6, e7, e8, e9, strmC, arrP]
    · rw [if_neg (by simp [h3])] at hpv
      rw [hpv]
      refine RetOK.go [(nid, nid + 4)] [] (.inl rfl) ?_
      simp [a9, cvT, step, res, e1, e2, e3, e4, e5, e6, e7, e8, e9, strmC, arrP, hol, -List.getD_eq_getElem?_getD]
end Go.Proofs.Ytmgfcjblclanmaa
namespace Go.Proofs.Ytmgfcjblclanmaa
open Go.RowKit
def isBinV (c : Int) : Bool := (decide (48 ≤ c) && decide (c ≤ 57)) || (decide (97 ≤ c) && decide (c ≤ 122))
theorem isBin_c (c : Int) (nid : Nat) : ACall Try.prog 114 [.int .u8 c] [] nid (.bool (isBinV c)) [] := by
  refine acall_run c114 (by simp [a114]) ?_
  unfold isBinV
  simp -dsimp only [a114, aqT, aqU, aqN, ↓seqK, ↓blkK, ↓loopK, step, stepBin, Nat.reduceBEq, Nat.reduceBeqDiff, Nat.add_assoc nid, Nat.reduceAdd, reduceCtorEq, ↓reduceIte, Nat.reduceLeDiff, Nat.reduceBneDiff, Option.toList, ← Int.ofNat_tmod, ← Int.ofNat_tdiv, Nat.reduceLT]
  cases h1 : decide (48 ≤ c) <;> simp -dsimp only [aqT, aqU, aqN, ↓seqK, ↓blkK, ↓loopK, step, stepBin, Nat.reduceBEq, Nat.reduceBeqDiff, Nat.add_assoc nid, Nat.reduceAdd, reduceCtorEq, ↓reduceIte, Nat.reduceLeDiff, Nat.reduceBneDiff, Option.toList, ← Int.ofNat_tmod, ← Int.ofNat_tdiv, Nat.reduceLT]
  · cases h3 : decide (97 ≤ c) <;> simp -dsimp only [aqT, aqU, aqN, ↓seqK, ↓blkK, ↓loopK, step, stepBin, Nat.reduceBEq, Nat.reduceBeqDiff, Nat.add_assoc nid, Nat.reduceAdd, reduceCtorEq, ↓reduceIte, Nat.reduceLeDiff, Nat.reduceBneDiff, Option.toList, ← Int.ofNat_tmod, ← Int.ofNat_tdiv, Nat.reduceLT]
    · refine RetOK.pure (.inl rfl) rfl ?_
      simp [cvT, step, res, h1, h3]
    · refine RetOK.pure (.inl rfl) rfl ?_
      simp [cvT, step, res, h1, h3]
  · cases h2 : decide (c ≤ 57) <;> simp -dsimp only [aqT, aqU, aqN, ↓seqK, ↓blkK, ↓loopK, step, stepBin, Nat.reduceBEq, Nat.reduceBeqDiff, Nat.add_assoc nid, Nat.reduceAdd, reduceCtorEq, ↓reduceIte, Nat.reduceLeDiff, Nat.reduceBneDiff, Option.toList, ← Int.ofNat_tmod, ← Int.ofNat_tdiv, Nat.reduceLT]
    · cases h3 : decide (97 ≤ c) <;> simp -dsimp only [aqT, aqU, aqN, ↓seqK, ↓blkK, ↓loopK, step, stepBin, Nat.reduceBEq, Nat.reduceBeqDiff, Nat.add_assoc nid, Nat.reduceAdd, reduceCtorEq, ↓reduceIte, Nat.reduceLeDiff, Nat.reduceBneDiff, Option.toList, ← Int.ofNat_tmod, ← Int.ofNat_tdiv, Nat.reduceLT] <;> refine RetOK.pure (.inl rfl) rfl ?_ <;> simp [cvT, step, res, h1, h2, h3]
    · refine RetOK.pure (.inl rfl) rfl ?_
      simp [cvT, step, res, h1, h2]
theorem isPlace_c (c : Int) (nid : Nat) : ACall Try.prog 136 [.int .u8 c] [] nid (.bool (isBinV c || c == 46 || c == 63 || c == 42)) [] := by
  refine acall_run c136 (by simp [a136]) ?_
  simp -dsimp only [a136, aqT, aqU, aqN, ↓seqK, ↓blkK, ↓loopK, step, stepBin, Nat.reduceBEq, Nat.reduceBeqDiff, Nat.add_assoc nid, Nat.reduceAdd, reduceCtorEq, ↓reduceIte, Nat.reduceLeDiff, Nat.reduceBneDiff, Option.toList, ← Int.ofNat_tmod, ← Int.ofNat_tdiv, Nat.reduceLT]
  refine CallO.pure (isBin_c _ _) ?_
  simp -dsimp only [aqT, aqU, aqN, ↓seqK, ↓blkK, ↓loopK, step, stepBin, Nat.reduceBEq, Nat.reduceBeqDiff, Nat.add_assoc nid, Nat.reduceAdd, reduceCtorEq, ↓reduceIte, Nat.reduceLeDiff, Nat.reduceBneDiff, Option.toList, ← Int.ofNat_tmod, ← Int.ofNat_tdiv, Nat.reduceLT]
  cases h0 : isBinV c <;> simp -dsimp only [aqT, aqU, aqN, ↓seqK, ↓blkK, ↓loopK, step, stepBin, Nat.reduceBEq, Nat.reduceBeqDiff, Nat.add_assoc nid, Nat.reduceAdd, reduceCtorEq, ↓reduceIte, Nat.reduceLeDiff, Nat.reduceBneDiff, Option.toList, ← Int.ofNat_tmod, ← Int.ofNat_tdiv, Nat.reduceLT]
  · cases h1 : (c == 46) <;> simp -dsimp only [aqT, aqU, aqN, ↓seqK, ↓blkK, ↓loopK, step, stepBin, Nat.reduceBEq, Nat.reduceBeqDiff, Nat.add_assoc nid, Nat.reduceAdd, reduceCtorEq, ↓reduceIte, Nat.reduceLeDiff, Nat.reduceBneDiff, Option.toList, ← Int.ofNat_tmod, ← Int.ofNat_tdiv, Nat.reduceLT, h1]
    · cases h2 : (c == 63) <;> simp -dsimp only [aqT, aqU, aqN, ↓seqK, ↓blkK, ↓loopK, step, stepBin, Nat.reduceBEq, Nat.reduceBeqDiff, Nat.add_assoc nid, Nat.reduceAdd, reduceCtorEq, ↓reduceIte, Nat.reduceLeDiff, Nat.reduceBneDiff, Option.toList, ← Int.ofNat_tmod, ← Int.ofNat_tdiv, Nat.reduceLT, h2] <;> refine RetOK.pure (.inl rfl) rfl ?_ <;> simp [cvT, step, res, h1, h2]
    · refine RetOK.pure (.inl rfl) rfl ?_
      simp [cvT, step, res]
  · refine RetOK.pure (.inl rfl) rfl ?_
    simp [cvT, step, res]
theorem oddF_c (c : Int) (nid : Nat) : ACall Try.prog 135 [.int .u8 c] [] nid (.bool (!(isBinV c || c == 46 || c == 63 || c == 42))) [] := by
  refine acall_run c135 (by simp [a135]) ?_
  simp -dsimp only [a135, aqT, aqU, aqN, ↓seqK, ↓blkK, ↓loopK, step, stepBin, Nat.reduceBEq, Nat.reduceBeqDiff, Nat.add_assoc nid, Nat.reduceAdd, reduceCtorEq, ↓reduceIte, Nat.reduceLeDiff, Nat.reduceBneDiff, Option.toList, ← Int.ofNat_tmod, ← Int.ofNat_tdiv, Nat.reduceLT]
  refine CallO.pure (isPlace_c _ _) ?_
  simp -dsimp only [aqT, aqU, aqN, ↓seqK, ↓blkK, ↓loopK, step, stepBin, Nat.reduceBEq, Nat.reduceBeqDiff, Nat.add_assoc nid, Nat.reduceAdd, reduceCtorEq, ↓reduceIte, Nat.reduceLeDiff, Nat.reduceBneDiff, Option.toList, ← Int.ofNat_tmod, ← Int.ofNat_tdiv, Nat.reduceLT]
  refine RetOK.pure (.inl rfl) rfl ?_
  simp [cvT, step, res]
def placeB (c : Int) : Bool := isBinV c || c == 46 || c == 63 || c == 42
theorem indexF_c (nl : Bool) (n : Nat) (g : Nat → Int) (nid : Nat) (hn : n ≤ 1000000000) (h : ∀ i, i < n → placeB (g i) = true) : ACall Try.prog 111 [.lit nl n [.i .u8 g], .fn 135 []] [] nid (.int .i64 (-1)) [] := by
  refine acall_run c111 (by simp [a111]) ?_
  simp -dsimp only [a111, aqT, aqU, aqN, ↓seqK, ↓blkK, ↓loopK, step, stepBin, Nat.reduceBEq, Nat.reduceBeqDiff, Nat.add_assoc nid, Nat.reduceAdd, reduceCtorEq, ↓reduceIte, Nat.reduceLeDiff, Nat.reduceBneDiff, Option.toList, ← Int.ofNat_tmod, ← Int.ofNat_tdiv, Nat.reduceLT]
  refine LP.mkP (fun k : Nat => k ≤ n) (fun k : Nat => ⟨[(8, .int .i64 k), (7, .int .i64 n), (0, .lit nl n [.i .u8 g]), (1, .fn 135 [])], [], nid + 100, nid⟩) (fun k => n + 1 - k) 0 (by omega) (Cov.go [] [] ?_) (fun k hk => ?_)
  · simp [cvT, step, res]
  simp -dsimp only [aqT, aqU, aqN, ↓seqK, ↓blkK, ↓loopK, step, stepBin, Nat.reduceBEq, Nat.reduceBeqDiff, Nat.add_assoc nid, Nat.reduceAdd, reduceCtorEq, ↓reduceIte, Nat.reduceLeDiff, Nat.reduceBneDiff, Option.toList, ← Int.ofNat_tmod, ← Int.ofNat_tdiv, Nat.reduceLT]
  refine S2.dec (fun h3 => ?_) (fun h3 => ?_) <;> simp -dsimp only [aqT, aqU, aqN, ↓seqK, ↓blkK, ↓loopK, step, stepBin, Nat.reduceBEq, Nat.reduceBeqDiff, Nat.add_assoc nid, Nat.reduceAdd, reduceCtorEq, ↓reduceIte, Nat.reduceLeDiff, Nat.reduceBneDiff, Option.toList, ← Int.ofNat_tmod, ← Int.ofNat_tdiv, Nat.reduceLT]
  · refine ⟨by omega, CallO.pure (oddF_c _ _) ?_⟩
    have hp := h k (by omega)
    unfold placeB at hp
    rw [hp]
    simp -dsimp only [aqT, aqU, aqN, ↓seqK, ↓blkK, ↓loopK, step, stepBin, Nat.reduceBEq, Nat.reduceBeqDiff, Nat.add_assoc nid, Nat.reduceAdd, reduceCtorEq, ↓reduceIte, Nat.reduceLeDiff, Nat.reduceBneDiff, Option.toList, ← Int.ofNat_tmod, ← Int.ofNat_tdiv, Nat.reduceLT]
    refine ⟨by unfold inI64; omega, k + 1, ⟨by omega, by omega⟩, Cov.go [] [] ?_⟩
    simp [cvT, step, res]
  · refine RetOK.pure (.inl rfl) rfl ?_
    simp [cvT, step, res]
theorem odd_c' (s : List UInt8) (nid : Nat) (hn : s.length ≤ 1000000000) (h : ∀ i, i < s.length → placeB ((s.getD i 0).toNat : Nat) = true) : ACall Try.prog 113 [.str s] [] nid (.bool false) [] := by
  have hcf : ∀ nid, ACall Try.prog 63 [.lit false s.length [.i .u8 fun i => ((s.getD i 0).toNat : Nat)], .fn 135 []] [] nid (.bool false) [] := fun nid => by
    refine acall_run c63 (by simp [a63]) ?_
    simp -dsimp only [a63, aqT, aqU, aqN, ↓seqK, ↓blkK, ↓loopK, step, stepBin, Nat.reduceBEq, Nat.reduceBeqDiff, Nat.add_assoc nid, Nat.reduceAdd, reduceCtorEq, ↓reduceIte, Nat.reduceLeDiff, Nat.reduceBneDiff, Option.toList, ← Int.ofNat_tmod, ← Int.ofNat_tdiv, Nat.reduceLT]
    refine CallO.pure (indexF_c _ _ _ _ hn h) ?_
    simp -dsimp only [aqT, aqU, aqN, ↓seqK, ↓blkK, ↓loopK, step, stepBin, Nat.reduceBEq, Nat.reduceBeqDiff, Nat.add_assoc nid, Nat.reduceAdd, reduceCtorEq, ↓reduceIte, Nat.reduceLeDiff, Nat.reduceBneDiff, Option.toList, ← Int.ofNat_tmod, ← Int.ofNat_tdiv, Nat.reduceLT, Int.cast_ofNat_Int, Int.reduceBEq, Int.reduceBNe, Int.reduceLT, Int.reduceLE, Int.reduceAdd, Int.reduceSub, Int.reduceMul, Int.reduceToNat, Int.reduceNeg, Int.reduceTMod, Int.reduceEq, not_false_eq_true, Int.reducePow, Int.reduceFDiv, Nat.reducePow, Nat.reduceSub, Nat.reduceMul, Nat.min_eq_left, Nat.reduceEqDiff, BEq.rfl, Int.tdiv_one, LN_succ]
    refine RetOK.pure (.inl rfl) rfl ?_
    simp [cvT, step, res]
  refine acall_run c113 (by simp [a113]) ?_
  simp -dsimp only [a113, aqT, aqU, aqN, ↓seqK, ↓blkK, ↓loopK, step, stepBin, Nat.reduceBEq, Nat.reduceBeqDiff, Nat.add_assoc nid, Nat.reduceAdd, reduceCtorEq, ↓reduceIte, Nat.reduceLeDiff, Nat.reduceBneDiff, Option.toList, ← Int.ofNat_tmod, ← Int.ofNat_tdiv, Nat.reduceLT]
  refine CallO.pure (hcf _) ?_
  simp -dsimp only [aqT, aqU, aqN, ↓seqK, ↓blkK, ↓loopK, step, stepBin, Nat.reduceBEq, Nat.reduceBeqDiff, Nat.add_assoc nid, Nat.reduceAdd, reduceCtorEq, ↓reduceIte, Nat.reduceLeDiff, Nat.reduceBneDiff, Option.toList, ← Int.ofNat_tmod, ← Int.ofNat_tdiv, Nat.reduceLT]
  refine RetOK.pure (.inl rfl) rfl ?_
  simp [cvT, step, res]
theorem tested_c (c : Int) (nid : Nat) : ACall Try.prog 71 [.int .u8 c] [] nid (.bool (isBinV c || c == 42)) [] := by
  refine acall_run c71 (by simp [a71]) ?_
  simp -dsimp only [a71, aqT, aqU, aqN, ↓seqK, ↓blkK, ↓loopK, step, stepBin, Nat.reduceBEq, Nat.reduceBeqDiff, Nat.add_assoc nid, Nat.reduceAdd, reduceCtorEq, ↓reduceIte, Nat.reduceLeDiff, Nat.reduceBneDiff, Option.toList, ← Int.ofNat_tmod, ← Int.ofNat_tdiv, Nat.reduceLT]
  refine CallO.pure (isBin_c _ _) ?_
  cases h0 : isBinV c <;> cases h1 : (c == 42) <;>
    simp -dsimp only [aqT, aqU, aqN, ↓seqK, ↓blkK, ↓loopK, step, stepBin, Nat.reduceBEq, Nat.reduceBeqDiff, Nat.add_assoc nid, Nat.reduceAdd, reduceCtorEq, ↓reduceIte, Nat.reduceLeDiff, Nat.reduceBneDiff, Option.toList, ← Int.ofNat_tmod, ← Int.ofNat_tdiv, Nat.reduceLT, h0, h1] <;> refine RetOK.pure (.inl rfl) rfl ?_ <;> simp [cvT, step, res]
theorem gcd12_c (nid : Nat) : ACall Try.prog 121 [.int .i64 1, .int .i64 2] [] nid (.int .i64 1) [] := by
  refine acall_run c121 (by simp [a121]) ?_
  simp -dsimp only [a121, aqT, aqU, aqN, ↓seqK, ↓blkK, ↓loopK, step, stepBin, Nat.reduceBEq, Nat.reduceBeqDiff, Nat.add_assoc nid, Nat.reduceAdd, reduceCtorEq, ↓reduceIte, Nat.reduceLeDiff, Nat.reduceBneDiff, Option.toList, ← Int.ofNat_tmod, ← Int.ofNat_tdiv, Nat.reduceLT]
  refine LP.rounds 5 ?_
  simp -dsimp only [aqT, aqU, aqN, ↓seqK, ↓blkK, ↓loopK, step, stepBin, Nat.reduceBEq, Nat.reduceBeqDiff, Nat.add_assoc nid, Nat.reduceAdd, reduceCtorEq, ↓reduceIte, Nat.reduceLeDiff, Nat.reduceBneDiff, Option.toList, ← Int.ofNat_tmod, ← Int.ofNat_tdiv, Nat.reduceLT, Int.cast_ofNat_Int, Int.reduceBEq, Int.reduceBNe, Int.reduceLT, Int.reduceLE, Int.reduceAdd, Int.reduceSub, Int.reduceMul, Int.reduceToNat, Int.reduceNeg, Int.reduceTMod, Int.reduceEq, not_false_eq_true, Int.reducePow, Int.reduceFDiv, Nat.reducePow, Nat.reduceSub, Nat.reduceMul, Nat.min_eq_left, Nat.reduceEqDiff, BEq.rfl, Int.tdiv_one, LN_succ]
  refine RetOK.pure (.inl rfl) rfl ?_
  simp [cvT, step, res]
theorem frac12_c (nid : Nat) : ACall Try.prog 92 [.int .i64 1, .int .i64 2] [] nid (.agg [.int .i64 1, .int .i64 2]) [] := by
  refine acall_run c92 (by simp [a92]) ?_
  simp -dsimp only [a92, aqT, aqU, aqN, ↓seqK, ↓blkK, ↓loopK, step, stepBin, Nat.reduceBEq, Nat.reduceBeqDiff, Nat.add_assoc nid, Nat.reduceAdd, reduceCtorEq, ↓reduceIte, Nat.reduceLeDiff, Nat.reduceBneDiff, Option.toList, ← Int.ofNat_tmod, ← Int.ofNat_tdiv, Nat.reduceLT, Int.cast_ofNat_Int, Int.reduceBEq, Int.reduceBNe, Int.reduceLT, Int.reduceLE, Int.reduceAdd, Int.reduceSub, Int.reduceMul, Int.reduceToNat, Int.reduceNeg, Int.reduceTMod, Int.reduceEq, not_false_eq_true, Int.reducePow, Int.reduceFDiv, Nat.reducePow, Nat.reduceSub, Nat.reduceMul, Nat.min_eq_left, Nat.reduceEqDiff, BEq.rfl, Int.tdiv_one, LN_succ]
  have hm : max (1 : Int) (-1) = 1 := by decide
  rw [hm]
  refine ⟨by unfold inI64; omega, CallO.pure (gcd12_c _) ?_⟩
  simp -dsimp only [aqT, aqU, aqN, ↓seqK, ↓blkK, ↓loopK, step, stepBin, Nat.reduceBEq, Nat.reduceBeqDiff, Nat.add_assoc nid, Nat.reduceAdd, reduceCtorEq, ↓reduceIte, Nat.reduceLeDiff, Nat.reduceBneDiff, Option.toList, ← Int.ofNat_tmod, ← Int.ofNat_tdiv, Nat.reduceLT, Int.cast_ofNat_Int, Int.reduceBEq, Int.reduceBNe, Int.reduceLT, Int.reduceLE, Int.reduceAdd, Int.reduceSub, Int.reduceMul, Int.reduceToNat, Int.reduceNeg, Int.reduceTMod, Int.reduceEq, not_false_eq_true, Int.reducePow, Int.reduceFDiv, Nat.reducePow, Nat.reduceSub, Nat.reduceMul, Nat.min_eq_left, Nat.reduceEqDiff, BEq.rfl, Int.tdiv_one, LN_succ]
  have h1 : IntKind.i64.wrap 1 = 1 := by decide
  have h2 : IntKind.i64.wrap 2 = 2 := by decide
  rw [h1, h2]
  refine RetOK.go [] [] (.inl rfl) ?_
  simp [a92, cvT, step, res]
theorem indexBS_c (s : List UInt8) (c : Int) (nid : Nat) : ACall Try.prog 163 [.str s, .int .u8 c] [] nid (.int .i64 (Lib.indexByte s c.toNat.toUInt8)) [] := by
  intro C vs hb hl hr hs
  obtain ⟨v0, v1, rfl⟩ : ∃ a b, vs = [a, b] := by
    rcases vs with _ | ⟨a, _ | ⟨b, _ | ⟨c, r⟩⟩⟩
    · simp at hl
    · simp at hl
    · exact ⟨a, b, rfl⟩
    · simp at hl
  have r0 := (hr 0 _ v0 rfl rfl).str_inv
  have r1 := (hr 1 _ v1 rfl rfl).int_inv
  subst r0; subst r1
  refine .inr ⟨.int .i64 (Lib.indexByte s c.toNat.toUInt8), C.w0, ?_, C.Y0, C.m0, .int, by simpa using hs.next (show nid ≤ nid + 4 by omega), Ev.refl _ _ _⟩
  rw [run_callFunc_extern (P := Try.prog) (f := 163) (fn := Try.f163) (e := Extern.BytealgIndexByte.indexByte) Try.func163 (by kernel_rfl) (by kernel_rfl) (by kernel_rfl) (by kernel_rfl)]
  have h := Lib.run_indexByteString (P := Try.prog) ⟨s.toArray⟩ c C.w0
  show ((Extern.BytealgIndexByte.indexByte #[.string ⟨s.toArray⟩, .int .u8 c]).run Try.prog C.w0).andThen _ = _
  rw [h]
  rfl
theorem indexB_c (s : List UInt8) (c : Int) (nid : Nat) : ACall Try.prog 112 [.str s, .int .u8 c] [] nid (.int .i64 (Lib.indexByte s c.toNat.toUInt8)) [] := by
  have h1 : ∀ nid, ACall Try.prog 134 [.str s, .int .u8 c] [] nid (.int .i64 (Lib.indexByte s c.toNat.toUInt8)) [] := fun nid => by
    refine acall_run c134 (by simp [a134]) ?_
    simp -dsimp only [a134, aqT, aqU, aqN, ↓seqK, ↓blkK, ↓loopK, step, stepBin, Nat.reduceBEq, Nat.reduceBeqDiff, Nat.add_assoc nid, Nat.reduceAdd, reduceCtorEq, ↓reduceIte, Nat.reduceLeDiff, Nat.reduceBneDiff, Option.toList, ← Int.ofNat_tmod, ← Int.ofNat_tdiv, Nat.reduceLT]
    refine CallO.pure (indexBS_c s c _) ?_
    simp -dsimp only [aqT, aqU, aqN, ↓seqK, ↓blkK, ↓loopK, step, stepBin, Nat.reduceBEq, Nat.reduceBeqDiff, Nat.add_assoc nid, Nat.reduceAdd, reduceCtorEq, ↓reduceIte, Nat.reduceLeDiff, Nat.reduceBneDiff, Option.toList, ← Int.ofNat_tmod, ← Int.ofNat_tdiv, Nat.reduceLT]
    refine RetOK.pure (.inl rfl) rfl ?_
    simp [cvT, step, res]
  refine acall_run c112 (by simp [a112]) ?_
  simp -dsimp only [a112, aqT, aqU, aqN, ↓seqK, ↓blkK, ↓loopK, step, stepBin, Nat.reduceBEq, Nat.reduceBeqDiff, Nat.add_assoc nid, Nat.reduceAdd, reduceCtorEq, ↓reduceIte, Nat.reduceLeDiff, Nat.reduceBneDiff, Option.toList, ← Int.ofNat_tmod, ← Int.ofNat_tdiv, Nat.reduceLT]
  refine CallO.pure (h1 _) ?_
  simp -dsimp only [aqT, aqU, aqN, ↓seqK, ↓blkK, ↓loopK, step, stepBin, Nat.reduceBEq, Nat.reduceBeqDiff, Nat.add_assoc nid, Nat.reduceAdd, reduceCtorEq, ↓reduceIte, Nat.reduceLeDiff, Nat.reduceBneDiff, Option.toList, ← Int.ofNat_tmod, ← Int.ofNat_tdiv, Nat.reduceLT]
  refine RetOK.pure (.inl rfl) rfl ?_
  simp [cvT, step, res]
def passedV (pass : List UInt8) (c : Int) : Bool := isBinV c && decide (0 ≤ Lib.indexByte pass c.toNat.toUInt8)
theorem passed_c (rows : PV) (pass : List UInt8) (c : Int) (nid : Nat) (nl : Bool) (n : Nat) (cols : List Col) (hr : rows = .lit nl n cols) : ACall Try.prog 99 [.agg [rows, .str pass], .int .u8 c] [] nid (.bool (passedV pass c)) [] := by
  subst hr
  refine acall_run c99 (by simp [a99]) ?_
  simp -dsimp only [a99, aqT, aqU, aqN, ↓seqK, ↓blkK, ↓loopK, step, stepBin, Nat.reduceBEq, Nat.reduceBeqDiff, Nat.add_assoc nid, Nat.reduceAdd, reduceCtorEq, ↓reduceIte, Nat.reduceLeDiff, Nat.reduceBneDiff, Option.toList, ← Int.ofNat_tmod, ← Int.ofNat_tdiv, Nat.reduceLT]
  refine CallO.pure (isBin_c _ _) ?_
  unfold passedV
  simp -dsimp only [aqT, aqU, aqN, ↓seqK, ↓blkK, ↓loopK, step, stepBin, Nat.reduceBEq, Nat.reduceBeqDiff, Nat.add_assoc nid, Nat.reduceAdd, reduceCtorEq, ↓reduceIte, Nat.reduceLeDiff, Nat.reduceBneDiff, Option.toList, ← Int.ofNat_tmod, ← Int.ofNat_tdiv, Nat.reduceLT]
  cases h0 : isBinV c <;> simp -dsimp only [aqT, aqU, aqN, ↓seqK, ↓blkK, ↓loopK, step, stepBin, Nat.reduceBEq, Nat.reduceBeqDiff, Nat.add_assoc nid, Nat.reduceAdd, reduceCtorEq, ↓reduceIte, Nat.reduceLeDiff, Nat.reduceBneDiff, Option.toList, ← Int.ofNat_tmod, ← Int.ofNat_tdiv, Nat.reduceLT]
  · refine RetOK.pure (.inl rfl) rfl ?_
    simp [cvT, step, res]
  · refine CallO.pure (indexB_c _ _ _) ?_
    simp -dsimp only [aqT, aqU, aqN, ↓seqK, ↓blkK, ↓loopK, step, stepBin, Nat.reduceBEq, Nat.reduceBeqDiff, Nat.add_assoc nid, Nat.reduceAdd, reduceCtorEq, ↓reduceIte, Nat.reduceLeDiff, Nat.reduceBneDiff, Option.toList, ← Int.ofNat_tmod, ← Int.ofNat_tdiv, Nat.reduceLT]
    refine RetOK.pure (.inl rfl) rfl ?_
    simp [cvT, step, res]
end Go.Proofs.Ytmgfcjblclanmaa
namespace Go.Proofs.Ytmgfcjblclanmaa
open Go.RowKit
def w1x (nl : Bool) : PV := .lit nl 1 [.s fun i => [[49, 120]].getD i []]
theorem out_00 : outB 0 0 0 = false := by decide
theorem out_01 : outB 0 0 1 = false := by decide
theorem out_11 : outB 1 0 1 = false := by decide
theorem t49 : (isBinV 49 || (49 : Int) == 42) = true := by decide
theorem t120 : (isBinV 120 || (120 : Int) == 42) = true := by decide
theorem p49 : passedV [49] 49 = true := by decide
theorem p120 : passedV [49] 120 = false := by decide
theorem s1x : (([49, 120] : List UInt8) == []) = false := by decide
theorem at_1x (nl : Bool) (x : Int) (c : Int) (hx : (x = 0 ∧ c = 49) ∨ (x = 1 ∧ c = 120)) (nid : Nat) : ACall Try.prog 70 [.agg [w1x nl, .str [49]], .agg [.int .i64 x, .int .i64 0]] [] nid (.int .u8 c) [] := by
  refine acall_run c70 (by simp [a70]) ?_
  unfold w1x
  rcases hx with ⟨rfl, rfl⟩ | ⟨rfl, rfl⟩
  · simp -dsimp only [a70, aqT, aqU, aqN, ↓seqK, ↓blkK, ↓loopK, step, stepBin, Nat.reduceBEq, Nat.reduceBeqDiff, Nat.add_assoc nid, Nat.reduceAdd, reduceCtorEq, ↓reduceIte, Nat.reduceLeDiff, Nat.reduceBneDiff, Option.toList, ← Int.ofNat_tmod, ← Int.ofNat_tdiv, Nat.reduceLT, Int.cast_ofNat_Int, Int.reduceBEq, Int.reduceBNe, Int.reduceLT, Int.reduceLE, Int.reduceAdd, Int.reduceSub, Int.reduceMul, Int.reduceToNat, Int.reduceNeg, Int.reduceTMod, Int.reduceEq, not_false_eq_true, Int.reducePow, Int.reduceFDiv, Nat.reducePow, Nat.reduceSub, Nat.reduceMul, Nat.min_eq_left, Nat.reduceEqDiff, BEq.rfl, Int.tdiv_one, LN_succ]
    refine ⟨by unfold inI64; omega, CallX.pure (out_c _ _ _ _) ?_⟩
    simp -dsimp only [aqT, aqU, aqN, ↓seqK, ↓blkK, ↓loopK, step, stepBin, Nat.reduceBEq, Nat.reduceBeqDiff, Nat.add_assoc nid, Nat.reduceAdd, reduceCtorEq, ↓reduceIte, Nat.reduceLeDiff, Nat.reduceBneDiff, Option.toList, ← Int.ofNat_tmod, ← Int.ofNat_tdiv, Nat.reduceLT, Int.cast_ofNat_Int, Int.reduceBEq, Int.reduceBNe, Int.reduceLT, Int.reduceLE, Int.reduceAdd, Int.reduceSub, Int.reduceMul, Int.reduceToNat, Int.reduceNeg, Int.reduceTMod, Int.reduceEq, not_false_eq_true, Int.reducePow, Int.reduceFDiv, Nat.reducePow, Nat.reduceSub, Nat.reduceMul, Nat.min_eq_left, Nat.reduceEqDiff, BEq.rfl, Int.tdiv_one, LN_succ, out_00, List.getD_cons_zero]
    refine ⟨by unfold inI64; omega, CallX.pure (out_c _ _ _ _) ?_⟩
    simp -dsimp only [aqT, aqU, aqN, ↓seqK, ↓blkK, ↓loopK, step, stepBin, Nat.reduceBEq, Nat.reduceBeqDiff, Nat.add_assoc nid, Nat.reduceAdd, reduceCtorEq, ↓reduceIte, Nat.reduceLeDiff, Nat.reduceBneDiff, Option.toList, ← Int.ofNat_tmod, ← Int.ofNat_tdiv, Nat.reduceLT, Int.cast_ofNat_Int, Int.reduceBEq, Int.reduceBNe, Int.reduceLT, Int.reduceLE, Int.reduceAdd, Int.reduceSub, Int.reduceMul, Int.reduceToNat, Int.reduceNeg, Int.reduceTMod, Int.reduceEq, not_false_eq_true, Int.reducePow, Int.reduceFDiv, Nat.reducePow, Nat.reduceSub, Nat.reduceMul, Nat.min_eq_left, Nat.reduceEqDiff, BEq.rfl, Int.tdiv_one, LN_succ, out_01, List.getD_cons_zero]
    refine RetOK.pure (.inl rfl) rfl ?_
    simp [retPV, over, keys, List.map_nil, List.map_cons, List.contains_cons, List.contains_nil, Bool.or_false, Bool.or_true, Bool.true_or, Bool.false_or, beq_self_eq_true, cond_true, cond_false, HeapCov, orNil, nilSz, onBlk, srcOf, getH_hit, getH_miss, getH.eq_1, getS_hit, getS_miss, getS.eq_1, BlkCov, PVCovs, PVCov, ColsEq, AColsEq, ACEq, ColEq.refl, liveIds, SlotsCov, List.all_nil, List.all_cons, List.any_nil, List.any_cons, List.nil_append, List.cons_append, inRange, apart, nilBlk, idS1, idS2, readAll, readRes, onAll, step, res, AX.val, List.drop_zero, List.drop_succ_cons, List.take_succ_cons, List.take_zero]
  · simp -dsimp only [a70, aqT, aqU, aqN, ↓seqK, ↓blkK, ↓loopK, step, stepBin, Nat.reduceBEq, Nat.reduceBeqDiff, Nat.add_assoc nid, Nat.reduceAdd, reduceCtorEq, ↓reduceIte, Nat.reduceLeDiff, Nat.reduceBneDiff, Option.toList, ← Int.ofNat_tmod, ← Int.ofNat_tdiv, Nat.reduceLT, Int.cast_ofNat_Int, Int.reduceBEq, Int.reduceBNe, Int.reduceLT, Int.reduceLE, Int.reduceAdd, Int.reduceSub, Int.reduceMul, Int.reduceToNat, Int.reduceNeg, Int.reduceTMod, Int.reduceEq, not_false_eq_true, Int.reducePow, Int.reduceFDiv, Nat.reducePow, Nat.reduceSub, Nat.reduceMul, Nat.min_eq_left, Nat.reduceEqDiff, BEq.rfl, Int.tdiv_one, LN_succ]
    refine ⟨by unfold inI64; omega, CallX.pure (out_c _ _ _ _) ?_⟩
    simp -dsimp only [aqT, aqU, aqN, ↓seqK, ↓blkK, ↓loopK, step, stepBin, Nat.reduceBEq, Nat.reduceBeqDiff, Nat.add_assoc nid, Nat.reduceAdd, reduceCtorEq, ↓reduceIte, Nat.reduceLeDiff, Nat.reduceBneDiff, Option.toList, ← Int.ofNat_tmod, ← Int.ofNat_tdiv, Nat.reduceLT, Int.cast_ofNat_Int, Int.reduceBEq, Int.reduceBNe, Int.reduceLT, Int.reduceLE, Int.reduceAdd, Int.reduceSub, Int.reduceMul, Int.reduceToNat, Int.reduceNeg, Int.reduceTMod, Int.reduceEq, not_false_eq_true, Int.reducePow, Int.reduceFDiv, Nat.reducePow, Nat.reduceSub, Nat.reduceMul, Nat.min_eq_left, Nat.reduceEqDiff, BEq.rfl, Int.tdiv_one, LN_succ, out_00, List.getD_cons_zero]
    refine ⟨by unfold inI64; omega, CallX.pure (out_c _ _ _ _) ?_⟩
    simp -dsimp only [aqT, aqU, aqN, ↓seqK, ↓blkK, ↓loopK, step, stepBin, Nat.reduceBEq, Nat.reduceBeqDiff, Nat.add_assoc nid, Nat.reduceAdd, reduceCtorEq, ↓reduceIte, Nat.reduceLeDiff, Nat.reduceBneDiff, Option.toList, ← Int.ofNat_tmod, ← Int.ofNat_tdiv, Nat.reduceLT, Int.cast_ofNat_Int, Int.reduceBEq, Int.reduceBNe, Int.reduceLT, Int.reduceLE, Int.reduceAdd, Int.reduceSub, Int.reduceMul, Int.reduceToNat, Int.reduceNeg, Int.reduceTMod, Int.reduceEq, not_false_eq_true, Int.reducePow, Int.reduceFDiv, Nat.reducePow, Nat.reduceSub, Nat.reduceMul, Nat.min_eq_left, Nat.reduceEqDiff, BEq.rfl, Int.tdiv_one, LN_succ, out_11, List.getD_cons_zero]
    refine RetOK.pure (.inl rfl) rfl ?_
    simp [retPV, over, keys, List.map_nil, List.map_cons, List.contains_cons, List.contains_nil, Bool.or_false, Bool.or_true, Bool.true_or, Bool.false_or, beq_self_eq_true, cond_true, cond_false, HeapCov, orNil, nilSz, onBlk, srcOf, getH_hit, getH_miss, getH.eq_1, getS_hit, getS_miss, getS.eq_1, BlkCov, PVCovs, PVCov, ColsEq, AColsEq, ACEq, ColEq.refl, liveIds, SlotsCov, List.all_nil, List.all_cons, List.any_nil, List.any_cons, List.nil_append, List.cons_append, inRange, apart, nilBlk, idS1, idS2, readAll, readRes, onAll, step, res, AX.val, List.drop_zero, List.drop_succ_cons, List.take_succ_cons, List.take_zero]
theorem places_c (nl : Bool) (nid : Nat) : ACall Try.prog 69 [.agg [w1x nl, .str [49]]] [] nid (.sl nid 0 2) [(nid, some (.arr 31 2 [.i .i64 fun i => [0, 1].getD i 0, .i .i64 fun i => [0, 0].getD i 0]))] := by
  refine acall_run c69 (by simp [a69]) ?_
  unfold w1x
  simp -dsimp only [a69, aqT, aqU, aqN, ↓seqK, ↓blkK, ↓loopK, step, stepBin, Nat.reduceBEq, Nat.reduceBeqDiff, Nat.add_assoc nid, Nat.reduceAdd, reduceCtorEq, ↓reduceIte, Nat.reduceLeDiff, Nat.reduceBneDiff, Option.toList, ← Int.ofNat_tmod, ← Int.ofNat_tdiv, Nat.reduceLT, Int.cast_ofNat_Int, Int.reduceBEq, Int.reduceBNe, Int.reduceLT, Int.reduceLE, Int.reduceAdd, Int.reduceSub, Int.reduceMul, Int.reduceToNat, Int.reduceNeg, Int.reduceTMod, Int.reduceEq, not_false_eq_true, Int.reducePow, Int.reduceFDiv, Nat.reducePow, Nat.reduceSub, Nat.reduceMul, Nat.min_eq_left, Nat.reduceEqDiff, BEq.rfl, Int.tdiv_one, LN_succ]
  refine LP.rounds 3 ?_
  simp -dsimp only [aqT, aqU, aqN, ↓seqK, ↓blkK, ↓loopK, step, stepBin, Nat.reduceBEq, Nat.reduceBeqDiff, Nat.add_assoc nid, Nat.reduceAdd, reduceCtorEq, ↓reduceIte, Nat.reduceLeDiff, Nat.reduceBneDiff, Option.toList, ← Int.ofNat_tmod, ← Int.ofNat_tdiv, Nat.reduceLT, Int.cast_ofNat_Int, Int.reduceBEq, Int.reduceBNe, Int.reduceLT, Int.reduceLE, Int.reduceAdd, Int.reduceSub, Int.reduceMul, Int.reduceToNat, Int.reduceNeg, Int.reduceTMod, Int.reduceEq, not_false_eq_true, Int.reducePow, Int.reduceFDiv, Nat.reducePow, Nat.reduceSub, Nat.reduceMul, Nat.min_eq_left, Nat.reduceEqDiff, BEq.rfl, Int.tdiv_one, LN_succ, List.getD_cons_zero]
  refine LP.rounds 4 ?_
  simp -dsimp only [aqT, aqU, aqN, ↓seqK, ↓blkK, ↓loopK, step, stepBin, Nat.reduceBEq, Nat.reduceBeqDiff, Nat.add_assoc nid, Nat.reduceAdd, reduceCtorEq, ↓reduceIte, Nat.reduceLeDiff, Nat.reduceBneDiff, Option.toList, ← Int.ofNat_tmod, ← Int.ofNat_tdiv, Nat.reduceLT, Int.cast_ofNat_Int, Int.reduceBEq, Int.reduceBNe, Int.reduceLT, Int.reduceLE, Int.reduceAdd, Int.reduceSub, Int.reduceMul, Int.reduceToNat, Int.reduceNeg, Int.reduceTMod, Int.reduceEq, not_false_eq_true, Int.reducePow, Int.reduceFDiv, Nat.reducePow, Nat.reduceSub, Nat.reduceMul, Nat.min_eq_left, Nat.reduceEqDiff, BEq.rfl, Int.tdiv_one, LN_succ, List.getD_cons_zero]
  refine ⟨by unfold inI64; omega, by unfold inI64; omega, by unfold inI64; omega, RetOK.go [(nid, nid + 144)] [] (.inl rfl) ?_⟩
  simp [a69, retPV, over, keys, List.map_nil, List.map_cons, List.contains_cons, List.contains_nil, Bool.or_false, Bool.or_true, Bool.true_or, Bool.false_or, beq_self_eq_true, cond_true, cond_false, HeapCov, orNil, nilSz, onBlk, srcOf, getH_hit, getH_miss, getH.eq_1, getS_hit, getS_miss, getS.eq_1, BlkCov, PVCovs, PVCov, ColsEq, AColsEq, ACEq, ColEq.refl, liveIds, SlotsCov, List.all_nil, List.all_cons, List.any_nil, List.any_cons, List.nil_append, List.cons_append, inRange, apart, nilBlk, idS1, idS2, readAll, readRes, onAll, step, res, AX.val, List.drop_zero, List.drop_succ_cons, List.take_succ_cons, List.take_zero]
  constructor <;> refine ColEq.i fun i hi => ?_ <;> (have : i = 0 ∨ i = 1 := by omega) <;> rcases this with rfl | rfl <;> simp
theorem share_c (nl nlp : Bool) (nid : Nat) : ACall Try.prog 91 [.agg [w1x nl, .str [49]], .lit nlp 2 [.i .i64 fun i => [0, 1].getD i 0, .i .i64 fun i => [0, 0].getD i 0]] [] nid (.tup [.int .i64 1, .int .i64 2]) [] := by
  refine acall_run c91 (by simp [a91]) ?_
  unfold w1x
  simp -dsimp only [a91, aqT, aqU, aqN, ↓seqK, ↓blkK, ↓loopK, step, stepBin, Nat.reduceBEq, Nat.reduceBeqDiff, Nat.add_assoc nid, Nat.reduceAdd, reduceCtorEq, ↓reduceIte, Nat.reduceLeDiff, Nat.reduceBneDiff, Option.toList, ← Int.ofNat_tmod, ← Int.ofNat_tdiv, Nat.reduceLT, Int.cast_ofNat_Int, Int.reduceBEq, Int.reduceBNe, Int.reduceLT, Int.reduceLE, Int.reduceAdd, Int.reduceSub, Int.reduceMul, Int.reduceToNat, Int.reduceNeg, Int.reduceTMod, Int.reduceEq, not_false_eq_true, Int.reducePow, Int.reduceFDiv, Nat.reducePow, Nat.reduceSub, Nat.reduceMul, Nat.min_eq_left, Nat.reduceEqDiff, BEq.rfl, Int.tdiv_one, LN_succ]
  refine LP.rounds 4 ?_
  simp -dsimp only [aqT, aqU, aqN, ↓seqK, ↓blkK, ↓loopK, step, stepBin, Nat.reduceBEq, Nat.reduceBeqDiff, Nat.add_assoc nid, Nat.reduceAdd, reduceCtorEq, ↓reduceIte, Nat.reduceLeDiff, Nat.reduceBneDiff, Option.toList, ← Int.ofNat_tmod, ← Int.ofNat_tdiv, Nat.reduceLT, Int.cast_ofNat_Int, Int.reduceBEq, Int.reduceBNe, Int.reduceLT, Int.reduceLE, Int.reduceAdd, Int.reduceSub, Int.reduceMul, Int.reduceToNat, Int.reduceNeg, Int.reduceTMod, Int.reduceEq, not_false_eq_true, Int.reducePow, Int.reduceFDiv, Nat.reducePow, Nat.reduceSub, Nat.reduceMul, Nat.min_eq_left, Nat.reduceEqDiff, BEq.rfl, Int.tdiv_one, LN_succ, List.getD_cons_zero, List.getD_cons_succ]
  refine CallO.pure (at_1x nl 0 49 (.inl ⟨rfl, rfl⟩) _) ?_
  simp -dsimp only [aqT, aqU, aqN, ↓seqK, ↓blkK, ↓loopK, step, stepBin, Nat.reduceBEq, Nat.reduceBeqDiff, Nat.add_assoc nid, Nat.reduceAdd, reduceCtorEq, ↓reduceIte, Nat.reduceLeDiff, Nat.reduceBneDiff, Option.toList, ← Int.ofNat_tmod, ← Int.ofNat_tdiv, Nat.reduceLT, Int.cast_ofNat_Int, Int.reduceBEq, Int.reduceBNe, Int.reduceLT, Int.reduceLE, Int.reduceAdd, Int.reduceSub, Int.reduceMul, Int.reduceToNat, Int.reduceNeg, Int.reduceTMod, Int.reduceEq, not_false_eq_true, Int.reducePow, Int.reduceFDiv, Nat.reducePow, Nat.reduceSub, Nat.reduceMul, Nat.min_eq_left, Nat.reduceEqDiff, BEq.rfl, Int.tdiv_one, LN_succ]
  refine CallO.pure (tested_c _ _) ?_
  rw [t49]
  simp -dsimp only [aqT, aqU, aqN, ↓seqK, ↓blkK, ↓loopK, step, stepBin, Nat.reduceBEq, Nat.reduceBeqDiff, Nat.add_assoc nid, Nat.reduceAdd, reduceCtorEq, ↓reduceIte, Nat.reduceLeDiff, Nat.reduceBneDiff, Option.toList, ← Int.ofNat_tmod, ← Int.ofNat_tdiv, Nat.reduceLT, Int.cast_ofNat_Int, Int.reduceBEq, Int.reduceBNe, Int.reduceLT, Int.reduceLE, Int.reduceAdd, Int.reduceSub, Int.reduceMul, Int.reduceToNat, Int.reduceNeg, Int.reduceTMod, Int.reduceEq, not_false_eq_true, Int.reducePow, Int.reduceFDiv, Nat.reducePow, Nat.reduceSub, Nat.reduceMul, Nat.min_eq_left, Nat.reduceEqDiff, BEq.rfl, Int.tdiv_one, LN_succ]
  refine ⟨by unfold inI64; omega, CallO.pure (passed_c _ _ _ _ _ _ _ rfl) ?_⟩
  rw [p49]
  simp -dsimp only [aqT, aqU, aqN, ↓seqK, ↓blkK, ↓loopK, step, stepBin, Nat.reduceBEq, Nat.reduceBeqDiff, Nat.add_assoc nid, Nat.reduceAdd, reduceCtorEq, ↓reduceIte, Nat.reduceLeDiff, Nat.reduceBneDiff, Option.toList, ← Int.ofNat_tmod, ← Int.ofNat_tdiv, Nat.reduceLT, Int.cast_ofNat_Int, Int.reduceBEq, Int.reduceBNe, Int.reduceLT, Int.reduceLE, Int.reduceAdd, Int.reduceSub, Int.reduceMul, Int.reduceToNat, Int.reduceNeg, Int.reduceTMod, Int.reduceEq, not_false_eq_true, Int.reducePow, Int.reduceFDiv, Nat.reducePow, Nat.reduceSub, Nat.reduceMul, Nat.min_eq_left, Nat.reduceEqDiff, BEq.rfl, Int.tdiv_one, LN_succ, List.getD_cons_zero, List.getD_cons_succ]
  refine ⟨by unfold inI64; omega, by unfold inI64; omega, CallO.pure (at_1x nl 1 120 (.inr ⟨rfl, rfl⟩) _) ?_⟩
  simp -dsimp only [aqT, aqU, aqN, ↓seqK, ↓blkK, ↓loopK, step, stepBin, Nat.reduceBEq, Nat.reduceBeqDiff, Nat.add_assoc nid, Nat.reduceAdd, reduceCtorEq, ↓reduceIte, Nat.reduceLeDiff, Nat.reduceBneDiff, Option.toList, ← Int.ofNat_tmod, ← Int.ofNat_tdiv, Nat.reduceLT, Int.cast_ofNat_Int, Int.reduceBEq, Int.reduceBNe, Int.reduceLT, Int.reduceLE, Int.reduceAdd, Int.reduceSub, Int.reduceMul, Int.reduceToNat, Int.reduceNeg, Int.reduceTMod, Int.reduceEq, not_false_eq_true, Int.reducePow, Int.reduceFDiv, Nat.reducePow, Nat.reduceSub, Nat.reduceMul, Nat.min_eq_left, Nat.reduceEqDiff, BEq.rfl, Int.tdiv_one, LN_succ]
  refine CallO.pure (tested_c _ _) ?_
  rw [t120]
  simp -dsimp only [aqT, aqU, aqN, ↓seqK, ↓blkK, ↓loopK, step, stepBin, Nat.reduceBEq, Nat.reduceBeqDiff, Nat.add_assoc nid, Nat.reduceAdd, reduceCtorEq, ↓reduceIte, Nat.reduceLeDiff, Nat.reduceBneDiff, Option.toList, ← Int.ofNat_tmod, ← Int.ofNat_tdiv, Nat.reduceLT, Int.cast_ofNat_Int, Int.reduceBEq, Int.reduceBNe, Int.reduceLT, Int.reduceLE, Int.reduceAdd, Int.reduceSub, Int.reduceMul, Int.reduceToNat, Int.reduceNeg, Int.reduceTMod, Int.reduceEq, not_false_eq_true, Int.reducePow, Int.reduceFDiv, Nat.reducePow, Nat.reduceSub, Nat.reduceMul, Nat.min_eq_left, Nat.reduceEqDiff, BEq.rfl, Int.tdiv_one, LN_succ]
  refine ⟨by unfold inI64; omega, CallO.pure (passed_c _ _ _ _ _ _ _ rfl) ?_⟩
  rw [p120]
  simp -dsimp only [aqT, aqU, aqN, ↓seqK, ↓blkK, ↓loopK, step, stepBin, Nat.reduceBEq, Nat.reduceBeqDiff, Nat.add_assoc nid, Nat.reduceAdd, reduceCtorEq, ↓reduceIte, Nat.reduceLeDiff, Nat.reduceBneDiff, Option.toList, ← Int.ofNat_tmod, ← Int.ofNat_tdiv, Nat.reduceLT, Int.cast_ofNat_Int, Int.reduceBEq, Int.reduceBNe, Int.reduceLT, Int.reduceLE, Int.reduceAdd, Int.reduceSub, Int.reduceMul, Int.reduceToNat, Int.reduceNeg, Int.reduceTMod, Int.reduceEq, not_false_eq_true, Int.reducePow, Int.reduceFDiv, Nat.reducePow, Nat.reduceSub, Nat.reduceMul, Nat.min_eq_left, Nat.reduceEqDiff, BEq.rfl, Int.tdiv_one, LN_succ, List.getD_cons_zero, List.getD_cons_succ]
  refine ⟨by unfold inI64; omega, RetOK.pure (.inl rfl) rfl ?_⟩
  simp [retPV, over, keys, List.map_nil, List.map_cons, List.contains_cons, List.contains_nil, Bool.or_false, Bool.or_true, Bool.true_or, Bool.false_or, beq_self_eq_true, cond_true, cond_false, HeapCov, orNil, nilSz, onBlk, srcOf, getH_hit, getH_miss, getH.eq_1, getS_hit, getS_miss, getS.eq_1, BlkCov, PVCovs, PVCov, ColsEq, AColsEq, ACEq, ColEq.refl, liveIds, SlotsCov, List.all_nil, List.all_cons, List.any_nil, List.any_cons, List.nil_append, List.cons_append, inRange, apart, nilBlk, idS1, idS2, readAll, readRes, onAll, step, res, AX.val, List.drop_zero, List.drop_succ_cons, List.take_succ_cons, List.take_zero]
theorem checkWafer_c (nl : Bool) (nid : Nat) : ACall Try.prog 67 [.agg [w1x nl, .str [49]]] [] nid (.int .i64 0) [] := by
  refine acall_run c67 (by simp [a67]) ?_
  unfold w1x
  simp -dsimp only [a67, aqT, aqU, aqN, ↓seqK, ↓blkK, ↓loopK, step, stepBin, Nat.reduceBEq, Nat.reduceBeqDiff, Nat.add_assoc nid, Nat.reduceAdd, reduceCtorEq, ↓reduceIte, Nat.reduceLeDiff, Nat.reduceBneDiff, Option.toList, ← Int.ofNat_tmod, ← Int.ofNat_tdiv, Nat.reduceLT, Int.cast_ofNat_Int, Int.reduceBEq, Int.reduceBNe, Int.reduceLT, Int.reduceLE, Int.reduceAdd, Int.reduceSub, Int.reduceMul, Int.reduceToNat, Int.reduceNeg, Int.reduceTMod, Int.reduceEq, not_false_eq_true, Int.reducePow, Int.reduceFDiv, Nat.reducePow, Nat.reduceSub, Nat.reduceMul, Nat.min_eq_left, Nat.reduceEqDiff, BEq.rfl, Int.tdiv_one, LN_succ]
  refine LP.rounds 3 ?_
  simp -dsimp only [aqT, aqU, aqN, ↓seqK, ↓blkK, ↓loopK, step, stepBin, Nat.reduceBEq, Nat.reduceBeqDiff, Nat.add_assoc nid, Nat.reduceAdd, reduceCtorEq, ↓reduceIte, Nat.reduceLeDiff, Nat.reduceBneDiff, Option.toList, ← Int.ofNat_tmod, ← Int.ofNat_tdiv, Nat.reduceLT, Int.cast_ofNat_Int, Int.reduceBEq, Int.reduceBNe, Int.reduceLT, Int.reduceLE, Int.reduceAdd, Int.reduceSub, Int.reduceMul, Int.reduceToNat, Int.reduceNeg, Int.reduceTMod, Int.reduceEq, not_false_eq_true, Int.reducePow, Int.reduceFDiv, Nat.reducePow, Nat.reduceSub, Nat.reduceMul, Nat.min_eq_left, Nat.reduceEqDiff, BEq.rfl, Int.tdiv_one, LN_succ, List.getD_cons_zero, List.getD_cons_succ, s1x]
  refine CallO.pure (odd_c' [49, 120] _ (by simp) (fun i hi => by
    have : i = 0 ∨ i = 1 := by simp at hi; omega
    rcases this with rfl | rfl <;> decide)) ?_
  simp -dsimp only [aqT, aqU, aqN, ↓seqK, ↓blkK, ↓loopK, step, stepBin, Nat.reduceBEq, Nat.reduceBeqDiff, Nat.add_assoc nid, Nat.reduceAdd, reduceCtorEq, ↓reduceIte, Nat.reduceLeDiff, Nat.reduceBneDiff, Option.toList, ← Int.ofNat_tmod, ← Int.ofNat_tdiv, Nat.reduceLT, Int.cast_ofNat_Int, Int.reduceBEq, Int.reduceBNe, Int.reduceLT, Int.reduceLE, Int.reduceAdd, Int.reduceSub, Int.reduceMul, Int.reduceToNat, Int.reduceNeg, Int.reduceTMod, Int.reduceEq, not_false_eq_true, Int.reducePow, Int.reduceFDiv, Nat.reducePow, Nat.reduceSub, Nat.reduceMul, Nat.min_eq_left, Nat.reduceEqDiff, BEq.rfl, Int.tdiv_one, LN_succ, List.getD_cons_zero, List.getD_cons_succ, s1x]
  refine ⟨by unfold inI64; omega, LP.rounds 3 ?_⟩
  simp -dsimp only [aqT, aqU, aqN, ↓seqK, ↓blkK, ↓loopK, step, stepBin, Nat.reduceBEq, Nat.reduceBeqDiff, Nat.add_assoc nid, Nat.reduceAdd, reduceCtorEq, ↓reduceIte, Nat.reduceLeDiff, Nat.reduceBneDiff, Option.toList, ← Int.ofNat_tmod, ← Int.ofNat_tdiv, Nat.reduceLT, Int.cast_ofNat_Int, Int.reduceBEq, Int.reduceBNe, Int.reduceLT, Int.reduceLE, Int.reduceAdd, Int.reduceSub, Int.reduceMul, Int.reduceToNat, Int.reduceNeg, Int.reduceTMod, Int.reduceEq, not_false_eq_true, Int.reducePow, Int.reduceFDiv, Nat.reducePow, Nat.reduceSub, Nat.reduceMul, Nat.min_eq_left, Nat.reduceEqDiff, BEq.rfl, Int.tdiv_one, LN_succ, List.getD_cons_zero, List.getD_cons_succ, s1x]
  refine CallO.pure (isBin_c _ _) ?_
  have b49 : isBinV ((UInt8.toNat 49 : Nat) : Int) = true := by decide
  rw [b49]
  simp -dsimp only [aqT, aqU, aqN, ↓seqK, ↓blkK, ↓loopK, step, stepBin, Nat.reduceBEq, Nat.reduceBeqDiff, Nat.add_assoc nid, Nat.reduceAdd, reduceCtorEq, ↓reduceIte, Nat.reduceLeDiff, Nat.reduceBneDiff, Option.toList, ← Int.ofNat_tmod, ← Int.ofNat_tdiv, Nat.reduceLT, Int.cast_ofNat_Int, Int.reduceBEq, Int.reduceBNe, Int.reduceLT, Int.reduceLE, Int.reduceAdd, Int.reduceSub, Int.reduceMul, Int.reduceToNat, Int.reduceNeg, Int.reduceTMod, Int.reduceEq, not_false_eq_true, Int.reducePow, Int.reduceFDiv, Nat.reducePow, Nat.reduceSub, Nat.reduceMul, Nat.min_eq_left, Nat.reduceEqDiff, BEq.rfl, Int.tdiv_one, LN_succ, List.getD_cons_zero, List.getD_cons_succ, s1x]
  refine ⟨by unfold inI64; omega, RetOK.pure (.inl rfl) rfl ?_⟩
  simp [retPV, over, keys, List.map_nil, List.map_cons, List.contains_cons, List.contains_nil, Bool.or_false, Bool.or_true, Bool.true_or, Bool.false_or, beq_self_eq_true, cond_true, cond_false, HeapCov, orNil, nilSz, onBlk, srcOf, getH_hit, getH_miss, getH.eq_1, getS_hit, getS_miss, getS.eq_1, BlkCov, PVCovs, PVCov, ColsEq, AColsEq, ACEq, ColEq.refl, liveIds, SlotsCov, List.all_nil, List.all_cons, List.any_nil, List.any_cons, List.nil_append, List.cons_append, inRange, apart, nilBlk, idS1, idS2, readAll, readRes, onAll, step, res, AX.val, List.drop_zero, List.drop_succ_cons, List.take_succ_cons, List.take_zero]
theorem yield_c (nl : Bool) (nid : Nat) : ACall Try.prog 37 [.agg [w1x nl, .str [49]]] [] nid (.tup [.agg [.int .i64 1, .int .i64 2], .bool true, .int .i64 0]) [] := by
  refine acall_run c37 (by simp [a37]) ?_
  unfold w1x
  simp -dsimp only [a37, aqT, aqU, aqN, ↓seqK, ↓blkK, ↓loopK, step, stepBin, Nat.reduceBEq, Nat.reduceBeqDiff, Nat.add_assoc nid, Nat.reduceAdd, reduceCtorEq, ↓reduceIte, Nat.reduceLeDiff, Nat.reduceBneDiff, Option.toList, ← Int.ofNat_tmod, ← Int.ofNat_tdiv, Nat.reduceLT, Int.cast_ofNat_Int, Int.reduceBEq, Int.reduceBNe, Int.reduceLT, Int.reduceLE, Int.reduceAdd, Int.reduceSub, Int.reduceMul, Int.reduceToNat, Int.reduceNeg, Int.reduceTMod, Int.reduceEq, not_false_eq_true, Int.reducePow, Int.reduceFDiv, Nat.reducePow, Nat.reduceSub, Nat.reduceMul, Nat.min_eq_left, Nat.reduceEqDiff, BEq.rfl, Int.tdiv_one, LN_succ]
  refine CallO.pure (checkWafer_c nl _) ?_
  simp -dsimp only [aqT, aqU, aqN, ↓seqK, ↓blkK, ↓loopK, step, stepBin, Nat.reduceBEq, Nat.reduceBeqDiff, Nat.add_assoc nid, Nat.reduceAdd, reduceCtorEq, ↓reduceIte, Nat.reduceLeDiff, Nat.reduceBneDiff, Option.toList, ← Int.ofNat_tmod, ← Int.ofNat_tdiv, Nat.reduceLT, Int.cast_ofNat_Int, Int.reduceBEq, Int.reduceBNe, Int.reduceLT, Int.reduceLE, Int.reduceAdd, Int.reduceSub, Int.reduceMul, Int.reduceToNat, Int.reduceNeg, Int.reduceTMod, Int.reduceEq, not_false_eq_true, Int.reducePow, Int.reduceFDiv, Nat.reducePow, Nat.reduceSub, Nat.reduceMul, Nat.min_eq_left, Nat.reduceEqDiff, BEq.rfl, Int.tdiv_one, LN_succ]
  refine CallX.pure (places_c nl _) ?_
  simp -dsimp only [aqT, aqU, aqN, ↓seqK, ↓blkK, ↓loopK, step, stepBin, Nat.reduceBEq, Nat.reduceBeqDiff, Nat.add_assoc nid, Nat.reduceAdd, reduceCtorEq, ↓reduceIte, Nat.reduceLeDiff, Nat.reduceBneDiff, Option.toList, ← Int.ofNat_tmod, ← Int.ofNat_tdiv, Nat.reduceLT, Int.cast_ofNat_Int, Int.reduceBEq, Int.reduceBNe, Int.reduceLT, Int.reduceLE, Int.reduceAdd, Int.reduceSub, Int.reduceMul, Int.reduceToNat, Int.reduceNeg, Int.reduceTMod, Int.reduceEq, not_false_eq_true, Int.reducePow, Int.reduceFDiv, Nat.reducePow, Nat.reduceSub, Nat.reduceMul, Nat.min_eq_left, Nat.reduceEqDiff, BEq.rfl, Int.tdiv_one, LN_succ]
  refine CallX.gave [nid + 44] (fun nl' => by
    simp only [lends, lend, aqT, aqU, aqN, ↓seqK, ↓blkK, ↓loopK, step, stepBin, Nat.reduceBEq, Nat.reduceBeqDiff, Nat.add_assoc nid, Nat.reduceAdd, reduceCtorEq, ↓reduceIte, Nat.reduceLeDiff, Nat.reduceBneDiff, Option.toList, ← Int.ofNat_tmod, ← Int.ofNat_tdiv, Nat.reduceLT]
    exact share_c nl (nl' _) _) (by simp [getH]) ?_
  simp -dsimp only [aqT, aqU, aqN, ↓seqK, ↓blkK, ↓loopK, step, stepBin, Nat.reduceBEq, Nat.reduceBeqDiff, Nat.add_assoc nid, Nat.reduceAdd, reduceCtorEq, ↓reduceIte, Nat.reduceLeDiff, Nat.reduceBneDiff, Option.toList, ← Int.ofNat_tmod, ← Int.ofNat_tdiv, Nat.reduceLT, Int.cast_ofNat_Int, Int.reduceBEq, Int.reduceBNe, Int.reduceLT, Int.reduceLE, Int.reduceAdd, Int.reduceSub, Int.reduceMul, Int.reduceToNat, Int.reduceNeg, Int.reduceTMod, Int.reduceEq, not_false_eq_true, Int.reducePow, Int.reduceFDiv, Nat.reducePow, Nat.reduceSub, Nat.reduceMul, Nat.min_eq_left, Nat.reduceEqDiff, BEq.rfl, Int.tdiv_one, LN_succ, kill]
  refine CallO.pure (frac12_c _) ?_
  simp -dsimp only [aqT, aqU, aqN, ↓seqK, ↓blkK, ↓loopK, step, stepBin, Nat.reduceBEq, Nat.reduceBeqDiff, Nat.add_assoc nid, Nat.reduceAdd, reduceCtorEq, ↓reduceIte, Nat.reduceLeDiff, Nat.reduceBneDiff, Option.toList, ← Int.ofNat_tmod, ← Int.ofNat_tdiv, Nat.reduceLT, Int.cast_ofNat_Int, Int.reduceBEq, Int.reduceBNe, Int.reduceLT, Int.reduceLE, Int.reduceAdd, Int.reduceSub, Int.reduceMul, Int.reduceToNat, Int.reduceNeg, Int.reduceTMod, Int.reduceEq, not_false_eq_true, Int.reducePow, Int.reduceFDiv, Nat.reducePow, Nat.reduceSub, Nat.reduceMul, Nat.min_eq_left, Nat.reduceEqDiff, BEq.rfl, Int.tdiv_one, LN_succ]
  refine RetOK.go [] [] (.inl rfl) ?_
  simp [a37, retPV, over, keys, List.map_nil, List.map_cons, List.contains_cons, List.contains_nil, Bool.or_false, Bool.or_true, Bool.true_or, Bool.false_or, beq_self_eq_true, cond_true, cond_false, HeapCov, orNil, nilSz, onBlk, srcOf, getH_hit, getH_miss, getH.eq_1, getS_hit, getS_miss, getS.eq_1, BlkCov, PVCovs, PVCov, ColsEq, AColsEq, ACEq, ColEq.refl, liveIds, SlotsCov, List.all_nil, List.all_cons, List.any_nil, List.any_cons, List.nil_append, List.cons_append, inRange, apart, nilBlk, idS1, idS2, readAll, readRes, onAll, step, res, AX.val, List.drop_zero, List.drop_succ_cons, List.take_succ_cons, List.take_zero]
end Go.Proofs.Ytmgfcjblclanmaa
namespace Go.Proofs.Ytmgfcjblclanmaa
open Go.RowKit
def ten : List Pt := List.replicate 10 (1, 0)
end Go.Proofs.Ytmgfcjblclanmaa
namespace Go.Proofs.Ytmgfcjblclanmaa
open Go.RowKit
end Go.Proofs.Ytmgfcjblclanmaa
namespace Go.Proofs.Ytmgfcjblclanmaa
open Go.RowKit Go.Shelf Go.Sort
attribute [local go_sem] Oper.semAt_some
def comeN {α : Type} (f : Nat → α) (k : Nat) : List α := (List.range k).map f
theorem comeN_succ {α : Type} (f : Nat → α) (k : Nat) : comeN f (k + 1) = comeN f k ++ [f k] := by simp [comeN, List.range_succ]
theorem comeN_length {α : Type} (f : Nat → α) (k : Nat) : (comeN f k).length = k := by simp [comeN]
set_option maxRecDepth 100000 in
set_option maxHeartbeats 2000000 in
theorem values1N_in (F : Fence) (n : Nat) (h7 : F.fn 97) (hro : F.round = none) (hn : 1 ≤ n) (l Bs Os n₀ b off len cap : Nat) (g : Nat → Int) (hreach : len * 8 ≤ 140737488351232) (hb : b < n₀) (J Jx : List Int → World → Prop)
    (hY : ∀ pre x W, J pre W → pre.length < len → YieldAt F (n - 1) Try.prog l #[(Value.int .i64) x] W fun e W' =>
      (e = .returned (.bool true) ∧ J (pre ++ [x]) W' ∧ Below n₀ W W') ∨ (e = .returned (.bool false) ∧ Jx (pre ++ [x]) W'))
    (W : World) (hBs : W.cell? ⟨Bs, Os, none⟩ = some (.slice (some ⟨b, off, none⟩) len cap)) (hc : ∀ j, j < len → W.cell? ⟨b, off + j, none⟩ = some ((Value.int .i64) (g j))) (h0 : J [] W) :
    CallsIn F n Try.prog 97 #[.func (.yield l) #[] #[], .pointer (some ⟨Bs, Os, none⟩)] W fun e W' => (∃ v, e = .returned v) ∧
      ((∃ ys, ys = comeN g len ∧ J ys W') ∨ (∃ pre, (∃ k, k ≤ len ∧ pre = comeN g k) ∧ Jx pre W')) := by
  refine callsIn_of_wp Try.func97 rfl h7 ?_ hro
  simp only [Try.ntmps97, List.size_toArray, List.length_cons, List.length_nil, Nat.reduceAdd, Nat.reduceSub, Array.replicate_succ, Array.replicate_zero, List.push_toArray, List.append_toArray, List.nil_append, List.cons_append]
  gi_wp2
  gi_loopw [7] (fun i wr => ∃ k : Nat, k ≤ len ∧ i = .int .i64 k ∧ J (comeN g k) wr ∧ Below n₀ W wr)
    (fun i _ => len - (intOf i).toNat)
  case atStart => exact ⟨0, Nat.zero_le _, rfl, h0, Below.refl _ _⟩
  case round =>
    obtain ⟨k, hk, rfl, hJs, hnx⟩ := hrel
    have hcx : k < len → wr.cell? ⟨b, off + k, none⟩ = some ((Value.int .i64) (g k)) := fun h => (hnx.cell (p := ⟨b, off + k, none⟩) hb).trans (hc k h)
    by_cases hlt : k < len
    · obtain ⟨fn, tmps, assign, body, hy, hR⟩ := hY _ (g k) wr hJs (by rw [comeN_length]; exact hlt)
      have hcx' := hcx hlt
      gi_wp2
      refine hR.mono ?_
      rintro e W3 (⟨rfl, hJ3, hk3⟩ | ⟨rfl, hJx3⟩)
      · gi_wp2
        go_roundw
        case rel => exact ⟨k + 1, by omega, by simp, by rw [comeN_succ]; exact hJ3, hnx.trans hk3⟩
        case measure => simp [intOf]; omega
      · gi_wp2
        refine bodyPost_ret (results_none rfl _ _ _) rfl ?_
        exact ⟨⟨_, rfl⟩, .inr ⟨_, ⟨k + 1, by omega, (comeN_succ _ _).symm⟩, hJx3⟩⟩
    · obtain rfl : k = len := by omega
      gi_wp2
      go_end0
      exact ⟨⟨_, rfl⟩, .inl ⟨_, rfl, hJs⟩⟩
set_option maxRecDepth 100000 in
set_option maxHeartbeats 1000000 in
theorem values1N_nil_in (F : Fence) (n : Nat) (h7 : F.fn 97) (hro : F.round = none) (l Bs Os : Nat) (J : List Int → World → Prop) (W : World) (A : Option Addr) (cap : Nat) (hBs : W.cell? ⟨Bs, Os, none⟩ = some (.slice A 0 cap)) (h0 : J [] W) :
    CallsIn F n Try.prog 97 #[.func (.yield l) #[] #[], .pointer (some ⟨Bs, Os, none⟩)] W fun e W' => (∃ v, e = .returned v) ∧ J [] W' := by
  refine callsIn_of_wp Try.func97 rfl h7 ?_ hro
  simp only [Try.ntmps97, List.size_toArray, List.length_cons, List.length_nil, Nat.reduceAdd, Nat.reduceSub, Array.replicate_succ, Array.replicate_zero, List.push_toArray, List.append_toArray, List.nil_append, List.cons_append]
  gi_wp2
  gi_loopw [7] (fun i wr => i = .int .i64 0 ∧ J [] wr) (fun _ _ => 0)
  case atStart => exact ⟨rfl, h0⟩
  case round =>
    obtain ⟨rfl, hJs⟩ := hrel
    gi_wp2
    go_end0
    exact ⟨⟨_, rfl⟩, hJs⟩
def IntsN (n₀ : Nat) (W : World) (sv : Value) (n : Nat) (g : Nat → Int) : Prop := ∃ A cap, sv = .slice A n cap ∧ (0 < n → ∃ b o, A = some ⟨b, o, none⟩ ∧ b < n₀ ∧ ∀ j, j < n → W.cell? ⟨b, o + j, none⟩ = some ((Value.int .i64) (g j)))
theorem IntsN.below {n₀ : Nat} {A B : World} (h : Below n₀ A B) {sv : Value} {n : Nat} {g : Nat → Int} : IntsN n₀ A sv n g → IntsN n₀ B sv n g
  | ⟨a, cap, e, hs⟩ => ⟨a, cap, e, fun hn => by
    obtain ⟨b, o, e1, hb, hc⟩ := hs hn
    exact ⟨b, o, e1, hb, fun j hj => (h.cell (p := ⟨b, o + j, none⟩) hb).trans (hc j hj)⟩⟩
theorem valuesN_stops (F : Fence) (n : Nat) (h7 : F.fn 97) (hro : F.round = none) (hn : 1 ≤ n) (Bs Os n₀ : Nat) (sv : Value) (m : Nat) (g : Nat → Int) (hreach : m * 8 ≤ 140737488351232) (w : World) (hBs : Bs < w.heap.size) (hn₀ : n₀ ≤ w.heap.size)
    (hc : w.cell? ⟨Bs, Os, none⟩ = some sv) (hI : IntsN n₀ w sv m g) :
    SeqStopsK F n Try.prog 97 #[.pointer (some ⟨Bs, Os, none⟩)] (fun x : Int => #[(Value.int .i64) x]) (Below n₀) (fun ys => ys = comeN g m) (fun pre => ∃ k, k ≤ m ∧ pre = comeN g k) m w := fun l J Jx W hW _ _ hY h0 => by
  have hc' := (hW.cell (p := ⟨Bs, Os, none⟩) hBs).trans hc
  obtain ⟨A, cap, rfl, hs⟩ := hI.below (hW.mono hn₀)
  by_cases hm : 0 < m
  · obtain ⟨b, o, rfl, hb, hcs⟩ := hs hm
    exact values1N_in F n h7 hro hn l Bs Os n₀ b o m cap g hreach hb J Jx hY W hc' hcs h0
  · obtain rfl : m = 0 := by omega
    exact (values1N_nil_in F n h7 hro l Bs Os J W A cap hc' h0).mono fun e W' ⟨he, hj⟩ => ⟨he, .inl ⟨_, rfl, hj⟩⟩
end Go.Proofs.Ytmgfcjblclanmaa
namespace Go.Proofs.Ytmgfcjblclanmaa
open Go.RowKit Go.Shelf Go.Sort
attribute [local go_sem] Oper.semAt_some
set_option maxRecDepth 100000 in
set_option maxHeartbeats 2000000 in
theorem appendSeqN_in (F : Fence) (n : Nat) (hA : F.fn 129) (h7 : F.fn 97) (hro : F.round = none) (hn : 2 ≤ n) (Bs Os m : Nat) (sv : Value) (g : Nat → Int) (hreach : m * 8 ≤ 140737488351232) (w : World) (hBs : Bs < w.heap.size) (hc : w.cell? ⟨Bs, Os, none⟩ = some sv) (hI : IntsN w.heap.size w sv m g) :
    CallsIn F n Try.prog 129 #[.slice none 0 0, .func (.func 97) #[] #[.pointer (some ⟨Bs, Os, none⟩)]] w fun e w' => ∃ v, e = .returned v ∧ w'.ownsRow w.heap.size 3 1 v m ((comeN g m).map (Value.int .i64)) ∧ Below w.heap.size w w' := by
  have h1 : 1 ≤ n := by omega
  obtain ⟨i0, hi, hz0, hz1, hz2⟩ := info_parts (P := Try.prog) (e := 3) (z := .int .i64 0) (size := 1) (bytes := 8) (by kernel_rfl)
  refine callsIn_of_wp_marks Try.func129 rfl hA ?_ hro
  simp only [Try.ntmps129, List.size_toArray, List.length_cons, List.length_nil, Nat.reduceAdd, Nat.reduceSub, Array.replicate_succ, Array.replicate_zero, List.push_toArray, List.append_toArray, List.nil_append, List.cons_append]
  gi_wp2
  have bO := Boxed.new w 22 (.slice none 0 0)
  have hB0 : Below w.heap.size w (w.alloc (.cells #[.slice none 0 0] 22)) := (Below.refl _ w).alloc (Nat.le_refl _) _
  refine wpIn_rangeFunc_ownG hro h1 (gf := 97) (lb := #[.pointer (some ⟨Bs, Os, none⟩)]) rfl h7 (enters_of Try.func97 (by kernel_rfl) rfl)
    (valuesN_stops F (n - 1) h7 hro (by omega) Bs Os w.heap.size sv m g hreach _ (by simp; omega) (by simp) ((hB0.cell (p := ⟨Bs, Os, none⟩) hBs).trans hc) (hI.below hB0)) belowK_t (belowK_b (by simp)) (Below.refl _ _) (fun _ => rfl)
    (fun (pre : List Int) W => (∃ v, Boxed W w.heap.size 22 v ∧ W.ownsRow w.heap.size 3 1 v pre.length (pre.map (Value.int .i64)) ∧ True) ∧ Below w.heap.size w W)
    (fun _ _ _ => False)
    (OwnFrom.and (Own.from (holdsRow_own w.heap.size w.heap.size 22 3 1 (fun pre : List Int => pre.length) (fun pre => pre.map (Value.int .i64)) (fun _ _ => True)) _) (ownFrom_below (Nat.le_refl _) (by simp)))
    (fun _ _ _ _ _ hs _ _ => hs)
    ⟨⟨_, bO, World.ownsRow_nil _ _ _ _, trivial⟩, hB0⟩
    (fun x => { tmps := #[.slice none 0 0, .func (.func 97) #[] #[.pointer (some ⟨Bs, Os, none⟩)], .pointer (some ⟨w.heap.size, 0, none⟩), undef, .slice none 0 0, (Value.int .i64) x, .func (.func 97) #[] #[.pointer (some ⟨Bs, Os, none⟩)], (Value.int .i64) x, undef, undef, undef, undef, undef], defers := [] }) ?assign ?body ?done ?stop
  case assign =>
    intro l x W K hK
    gi_wp2
    exact hK
  case body =>
    rintro l pre x W ⟨⟨v, hv, hrow, -⟩, hB⟩ hlt
    have hc := hv.cell
    have b1 : pre.length + 1 ≤ maxLen := by unfold maxLen; omega
    have b2 : (pre.length + 1) * 8 ≤ 140737488355328 := by omega
    have b3 : w.heap.size ≤ (W.alloc (.cells #[(Value.int .i64) x] 3)).heap.size := by have := hB.size; simp; omega
    have hu := Try.underlying22
    have h1c : ∀ u ∈ [(Value.int .i64) x], u.oneCell' = true := by simp [Value.oneCell']
    gi_wp2_with (gi_at_builtin; refine wpListIn_append_own _ rfl _ _ 22 rfl w.heap.size 3 i0 (.int .i64 0) 1 8 hu hi hz0 hz1 hz2 rfl (by decide) _ _ _ rfl (hrow.alloc _) ⟨W.heap.size, 0, none⟩ 1 1 [(Value.int .i64) x] rfl rfl (cell_one_new _ _ _) h1c b1 b2 b3 ?_; intro v' w1 hown' hgrow _; obtain ⟨g', cap', rfl⟩ := ownsRow_succ hown'; obtain ⟨hv1, hv2, hr2, hk2, hb2⟩ := hv.appended (by decide) hrow hB.size (Nat.le_refl _) hown' hgrow; have hc1 := hv1.cell; have hf1 := hv1.frozen)
    exact ⟨hk2.from _, hb2, ⟨_, hv2, by simpa using hr2, trivial⟩, hB.trans hb2⟩
  case done =>
    rintro D ys W hD rfl ⟨⟨v, hv, hrow, -⟩, hB⟩ hK
    have hc := hv.cell
    gi_wp2
    refine ⟨by simp, .inl ⟨_, _, rfl, run_takeDeferred hK, ?_⟩⟩
    rw [comeN_length] at hrow
    exact ⟨_, results_tmp rfl _ _ _, v, rfl, ownsRow_putObj hrow _ hK rfl, hB.trans (belowK_b (w := w) (Nat.le_refl _) W D _ _ (by simp at hD; omega) hK rfl rfl)⟩
  case stop =>
    rintro D c pre W _ _ h _
    exact h.elim
end Go.Proofs.Ytmgfcjblclanmaa
namespace Go.Proofs.Ytmgfcjblclanmaa
open Go.RowKit Go.Shelf Go.Sort
attribute [local go_sem] Oper.semAt_some
set_option maxHeartbeats 1000000 in
theorem collectN_in (F : Fence) (n : Nat) (hC : F.fn 95) (hA : F.fn 129) (h7 : F.fn 97) (hro : F.round = none) (hn : 3 ≤ n) (Bs Os m : Nat) (sv : Value) (g : Nat → Int) (hreach : m * 8 ≤ 140737488351232) (w : World) (hBs : Bs < w.heap.size) (hc : w.cell? ⟨Bs, Os, none⟩ = some sv) (hI : IntsN w.heap.size w sv m g) :
    CallsIn F n Try.prog 95 #[.func (.func 97) #[] #[.pointer (some ⟨Bs, Os, none⟩)]] w fun e w' => ∃ v, e = .returned v ∧ w'.ownsRow w.heap.size 3 1 v m ((comeN g m).map (Value.int .i64)) ∧ Below w.heap.size w w' := by
  have h1 : 1 ≤ n := by omega
  refine callsIn_of_wp Try.func95 rfl hC ?_ hro
  simp only [Try.ntmps95, List.size_toArray, List.length_cons, List.length_nil, Nat.reduceAdd, Nat.reduceSub, Array.replicate_succ, Array.replicate_zero, List.push_toArray, List.append_toArray, List.nil_append, List.cons_append]
  gi_wp2_with (gi_at_call 129; refine (appendSeqN_in F (n - 1) hA h7 hro (by omega) Bs Os m sv g hreach _ hBs hc hI).mono ?_; rintro e w' ⟨v, rfl, hrow, hb⟩)
  go_ret
  exact ⟨v, rfl, hrow, hb⟩
end Go.Proofs.Ytmgfcjblclanmaa
namespace Go.Proofs
open Go.Shelf
def Try.lays189_ren : Go.Shelf.Ren := ⟨fun | 189 => 96 | 125 => 118 | 257 => 130 | 128 => 145 | 129 => 146 | 294 => 149 | 295 => 150 | 296 => 151 | 297 => 152 | 298 => 153 | 299 => 154 | 216 => 155 | 300 => 156 | 301 => 157 | 328 => 169 | 329 => 165 | 330 => 166 | 331 => 170 | 332 => 171 | 215 => 147 | 343 => 174 | n => n, fun | 28 => 22 | 3 => 3 | 46 => 88 | 0 => 0 | 51 => 139 | 53 => 142 | 4 => 4 | 183 => 160 | 182 => 159 | 131 => 164 | 5 => 5 | 9 => 9 | 218 => 179 | 222 => 183 | 228 => 190 | 229 => 120 | n => n, fun | n => n⟩
theorem Try.lays189 : Go.Proofs.Lays.n189 Try.prog Try.lays189_ren := {
  mixed := by kernel_rfl
  f125 := Try.func118.trans (congrArg some (by kernel_rfl))
  f128 := Try.func145.trans (congrArg some (by kernel_rfl))
  f129 := Try.func146.trans (congrArg some (by kernel_rfl))
  f189 := Try.func96.trans (congrArg some (by kernel_rfl))
  f215 := Try.func147.trans (congrArg some (by kernel_rfl))
  f216 := Try.func155.trans (congrArg some (by kernel_rfl))
  f257 := Try.func130.trans (congrArg some (by kernel_rfl))
  f294 := Try.func149.trans (congrArg some (by kernel_rfl))
  f295 := Try.func150.trans (congrArg some (by kernel_rfl))
  f296 := Try.func151.trans (congrArg some (by kernel_rfl))
  f297 := Try.func152.trans (congrArg some (by kernel_rfl))
  f298 := Try.func153.trans (congrArg some (by kernel_rfl))
  f299 := Try.func154.trans (congrArg some (by kernel_rfl))
  f300 := Try.func156.trans (congrArg some (by kernel_rfl))
  f301 := Try.func157.trans (congrArg some (by kernel_rfl))
  f328 := Try.func169.trans (congrArg some (by kernel_rfl))
  f329 := Try.func165.trans (congrArg some (by kernel_rfl))
  f330 := Try.func166.trans (congrArg some (by kernel_rfl))
  f331 := Try.func170.trans (congrArg some (by kernel_rfl))
  f332 := Try.func171.trans (congrArg some (by kernel_rfl))
  f343 := Try.func174.trans (congrArg some (by kernel_rfl))
  t0 := Try.underlying0
  a0 := Try.isAgg0
  z0 := Try.sizeOf0
  v0 := Try.zeroValue0
  t3 := Try.underlying3
  a3 := Try.isAgg3
  z3 := Try.sizeOf3
  v3 := Try.zeroValue3
  t4 := Try.underlying4
  a4 := Try.isAgg4
  z4 := Try.sizeOf4
  v4 := Try.zeroValue4
  t5 := Try.underlying5
  a5 := Try.isAgg5
  z5 := Try.sizeOf5
  v5 := Try.zeroValue5
  t9 := Try.underlying9
  a9 := Try.isAgg9
  z9 := Try.sizeOf9
  v9 := Try.zeroValue9
  t28 := Try.underlying22
  a28 := Try.isAgg22
  z28 := Try.sizeOf22
  v28 := Try.zeroValue22
  t46 := Try.underlying88
  a46 := Try.isAgg88
  z46 := Try.sizeOf88
  v46 := Try.zeroValue88
  t51 := Try.underlying139
  a51 := Try.isAgg139
  z51 := Try.sizeOf139
  v51 := Try.zeroValue139
  t53 := Try.underlying142
  a53 := Try.isAgg142
  z53 := Try.sizeOf142
  v53 := Try.zeroValue142
  t131 := Try.underlying164
  a131 := Try.isAgg164
  z131 := Try.sizeOf164
  v131 := Try.zeroValue164
  t182 := Try.underlying159
  a182 := Try.isAgg159
  z182 := Try.sizeOf159
  v182 := Try.zeroValue159
  t183 := Try.underlying160
  a183 := Try.isAgg160
  z183 := Try.sizeOf160
  v183 := Try.zeroValue160
  t218 := Try.underlying179
  a218 := Try.isAgg179
  z218 := Try.sizeOf179
  v218 := Try.zeroValue179
  t222 := Try.underlying183
  a222 := Try.isAgg183
  z222 := Try.sizeOf183
  v222 := Try.zeroValue183
  t228 := Try.underlying190
  a228 := Try.isAgg190
  z228 := Try.sizeOf190
  v228 := Try.zeroValue190
  t229 := Try.underlying120
  a229 := Try.isAgg120
  z229 := Try.sizeOf120
  v229 := Try.zeroValue120 }
end Go.Proofs
namespace Go.Proofs.Ytmgfcjblclanmaa
open Go.RowKit Go.Shelf Go.Sort
def sortN (l : List Int) : List Int := l.mergeSort fun x y => decide (x ≤ y)
theorem sortN_perm (l : List Int) : (sortN l).Perm l := List.mergeSort_perm _ _
theorem sortN_len (l : List Int) : (sortN l).length = l.length := (sortN_perm l).length_eq
theorem sortN_c (ix : Nat) (l : List Int) (nid : Nat) (hpos : 0 < l.length) (hl : l.length < 4611686018427387904) :
    ACall Try.prog 96 [.sl ix 0 l.length] [(ix, arrI l)] nid (.tup []) [(ix, arrI (sortN l))] :=
  acall_sortedN (T := 3) ix nid Try.func96 (by kernel_rfl) (by kernel_rfl) (by decide) hpos (sortN_len l) (fun w blk off cap hH hblk => by
    have h := Any.slices_Sort_int Try.lays189 blk off cap l w hH hblk hl
    have hf : Try.lays189_ren.f 189 = 96 := by kernel_rfl
    rw [hf] at h
    exact h)
theorem getD_ltN {s : List Int} {i : Nat} (h : i < s.length) : s.getD i 0 = s[i] := by
  simp [List.getD_eq_getElem?_getD, h]
def adjN (s : List Int) : Prop := ∀ i, i + 1 < s.length → s.getD (i + 1) 0 ≠ s.getD i 0
theorem sortN_le (l : List Int) : (sortN l).Pairwise fun a b => a ≤ b := by
  have h := List.pairwise_mergeSort (le := fun x y : Int => decide (x ≤ y)) (fun a b c h1 h2 => by
      simp only [decide_eq_true_eq] at *
      exact Int.le_trans h1 h2) (fun a b => by
      simp only [Bool.or_eq_true, decide_eq_true_eq]
      exact Int.le_total a b) l
  exact h.imp fun h => by simpa using h
theorem sortN_nodup (l : List Int) : adjN (sortN l) ↔ l.Nodup := by
  rw [← (sortN_perm l).nodup_iff]
  constructor
  · intro h
    have hs := List.pairwise_iff_getElem.1 (sortN_le l)
    rw [List.nodup_iff_pairwise_ne, List.pairwise_iff_getElem]
    intro i j hi hj hij e
    have h1 := h i (by omega)
    rw [getD_ltN (by omega), getD_ltN hi] at h1
    apply h1
    have a1 := hs i (i + 1) hi (by omega) (by omega)
    by_cases hji : j = i + 1
    · subst hji; exact e.symm
    · have a2 := hs (i + 1) j (by omega) hj (by omega)
      rw [← e] at a2
      exact Int.le_antisymm a2 a1
  · intro h i hi
    rw [List.nodup_iff_pairwise_ne, List.pairwise_iff_getElem] at h
    rw [getD_ltN hi, getD_ltN (by omega)]
    exact fun e => h i (i + 1) (by omega) hi (by omega) e.symm
set_option maxHeartbeats 4000000 in
theorem compactN_no (ix : Nat) (l : List Int) (nid : Nat) (h : ix < nid) (hl : l.length ≤ 1000000) (ha : adjN l) : ACall Try.prog 39 [.sl ix 0 l.length] [(ix, arrI l)] nid (.sl ix 0 l.length) [(ix, arrI l)] := by
  obtain ⟨e1, e2, e3, e4, e5, e6, e7, e8, e9⟩ := id_all h
  refine acall_run c39 (by simp [a39]) ?_
  unfold arrI
  simp -dsimp only [a39, aqT, aqU, aqN, aqS, ↓seqK, ↓blkK, ↓loopK, step, stepBin, Nat.add_assoc nid, ↓reduceIte, Option.toList, ← Int.ofNat_tmod, ← Int.ofNat_tdiv, simprocAttr, BEq.rfl, LN_succ, e1, e2, e3, e4, e5, e6, e7, e8, e9]
  refine S2.dec (fun h3 => ?_) (fun h3 => ?_) <;> simp -dsimp only [aqT, aqU, aqN, aqS, ↓seqK, ↓blkK, ↓loopK, step, stepBin, Nat.add_assoc nid, ↓reduceIte, Option.toList, ← Int.ofNat_tmod, ← Int.ofNat_tdiv, simprocAttr, BEq.rfl, LN_succ, e1, e2, e3, e4, e5, e6, e7, e8, e9]
  · refine RetOK.go [] [] (.inl rfl) ?_
    simp [a39, cvT, step, res, e1, e2, e3, e4, e5, e6, e7, e8, e9, arrI, -List.getD_eq_getElem?_getD]
  refine LP.mkP (fun k : Nat => 1 ≤ k ∧ k ≤ l.length) (fun k : Nat => ⟨[(3, .int .i64 k), (0, .sl ix 0 l.length)], [(ix, arrI l)], nid + 100, nid⟩) (fun k => l.length + 1 - k) 1 ⟨by omega, by omega⟩ (Cov.go [] [] ?_) (fun k hk => ?_)
  · simp [cvT, step, res, e1, e2, e3, e4, e5, e6, e7, e8, e9, arrI]
  obtain ⟨hk0, hk⟩ := hk
  unfold arrI
  simp -dsimp only [aqT, aqU, aqN, aqS, ↓seqK, ↓blkK, ↓loopK, step, stepBin, Nat.add_assoc nid, ↓reduceIte, Option.toList, ← Int.ofNat_tmod, ← Int.ofNat_tdiv, simprocAttr, BEq.rfl, LN_succ, e1, e2, e3, e4, e5, e6, e7, e8, e9]
  refine S2.dec (fun h4 => ?_) (fun h4 => ?_) <;> simp -dsimp only [aqT, aqU, aqN, aqS, ↓seqK, ↓blkK, ↓loopK, step, stepBin, Nat.add_assoc nid, ↓reduceIte, Option.toList, ← Int.ofNat_tmod, ← Int.ofNat_tdiv, simprocAttr, BEq.rfl, LN_succ, e1, e2, e3, e4, e5, e6, e7, e8, e9]
  · have hkl : k < l.length := by omega
    have e : ((k : Nat) : Int) - 1 = ((k - 1 : Nat) : Int) := by omega
    have hne := ha (k - 1) (by omega)
    rw [show k - 1 + 1 = k by omega] at hne
    have hf : (l.getD k 0 == l.getD (k - 1) 0) = false := by simpa using hne
    rw [e]
    refine ⟨by omega, by unfold inI64; omega, by omega, ?_⟩
    rw [Int.toNat_natCast, hf]
    simp -dsimp only [aqT, aqU, aqN, aqS, ↓seqK, ↓blkK, ↓loopK, step, stepBin, Nat.add_assoc nid, ↓reduceIte, Option.toList, ← Int.ofNat_tmod, ← Int.ofNat_tdiv, simprocAttr, BEq.rfl, LN_succ, e1, e2, e3, e4, e5, e6, e7, e8, e9]
    refine ⟨by unfold inI64; omega, k + 1, ⟨⟨by omega, by omega⟩, by omega⟩, Cov.go [] [] ?_⟩
    simp [cvT, step, res, e1, e2, e3, e4, e5, e6, e7, e8, e9, arrI, -List.getD_eq_getElem?_getD]
  · refine RetOK.go [] [] (.inl rfl) ?_
    simp [a39, cvT, step, res, e1, e2, e3, e4, e5, e6, e7, e8, e9, arrI, -List.getD_eq_getElem?_getD]
end Go.Proofs.Ytmgfcjblclanmaa
namespace Go.Proofs.Ytmgfcjblclanmaa
open Go.RowKit Go.Shelf Go.Sort
def boxNv (nl : Bool) (l : List Int) : PV := .elp [.l (fun _ => nl) (fun _ => l.length) (fun _ => [.i .i64 fun i => l.getD i 0])] 0
theorem comeN_getD (l : List Int) : comeN (fun i => l.getD i 0) l.length = l := by
  apply List.ext_getElem
  · simp [comeN]
  · intro i h1 h2
    simp [comeN, h2]
set_option maxHeartbeats 1000000 in
theorem valuesN_in (F : Fence) (n : Nat) (h5 : F.fn 41) (hro : F.round = none) (a : Option Addr) (len cap : Nat) (w : World) :
    CallsIn F n Try.prog 41 #[.slice a len cap] w fun e w' => e = .returned (.func (.func 97) #[] #[.pointer (some ⟨w.heap.size, 0, none⟩)]) ∧ w' = w.alloc (.cells #[.slice a len cap] 22) := by
  refine callsIn_of_wp Try.func41 rfl h5 ?_ hro
  simp only [Try.ntmps41, List.size_toArray, List.length_cons, List.length_nil, Nat.reduceAdd, Nat.reduceSub, Array.replicate_succ, Array.replicate_zero, List.push_toArray, List.append_toArray, List.nil_append, List.cons_append]
  gi_wp2
  go_ret
  exact ⟨rfl, rfl⟩
theorem valuesN_c (nl : Bool) (l : List Int) (nid : Nat) : ACall Try.prog 41 [litI nl l] [] nid (.fn 97 [boxNv nl l]) [] :=
  acall_lib nid Try.func41 (by kernel_rfl) (by kernel_rfl) (fun Y m w vs hvl hrep hG hY => by
    obtain ⟨v0, rfl⟩ : ∃ v0, vs = [v0] := by
      match vs, hvl with
      | [a], _ => exact ⟨a, rfl⟩
    have r0 := hrep 0 _ _ rfl rfl
    unfold litI at r0
    cases r0 with
    | lit hcr =>
      obtain ⟨A, cap, rfl⟩ : ∃ A cap, v0 = .slice A l.length cap := by cases hcr; exact ⟨_, _, rfl⟩
      rw [← callsIn_wide (n := 1)]
      refine (valuesN_in Fence.wide 1 trivial rfl A l.length cap w).mono ?_
      rintro e w' ⟨rfl, rfl⟩
      have hB : Below w.heap.size w (w.alloc (.cells #[.slice A l.length cap] 22)) := (Below.refl _ w).alloc (Nat.le_refl _) _
      refine ⟨_, rfl, ?_, hB⟩
      refine Rep.fn (vs := [.pointer (some ⟨w.heap.size, 0, none⟩)]) rfl (fun i p v hp hv => ?_)
      match i, hp, hv with
      | 0, hp, hv =>
        injection hp with hp; injection hv with hv
        subst hp; subst hv
        refine Rep.elp (fun _ hYb => absurd (hY _ hYb) (Nat.lt_irrefl _)) (fun _ => .slice A l.length cap) (fun j c hj => ?_)
        match j, hj with
        | 0, hj =>
          injection hj with hj; subst hj
          exact ⟨by simp, hcr.ev (Ev.ofBelow (m := m) hB)⟩)
theorem collectN_c (nl : Bool) (l : List Int) (nid : Nat) (hl : l.length ≤ 1000000) : ACall Try.prog 95 [.fn 97 [boxNv nl l]] [] nid (.sl nid 0 l.length) [(nid, arrI l)] :=
  acall_own nid (l.map (Value.int .i64)) Try.func95 (by kernel_rfl) (by kernel_rfl) (fun v hv => by obtain ⟨x, _, rfl⟩ := List.mem_map.1 hv; rfl)
    (fun i j c hi hj => by
      match j, hj with
      | 0, hj =>
        injection hj with hj; subst hj
        refine ⟨(Value.int .i64) (l.getD i 0), by simp [List.getElem?_eq_getElem hi], fun Y w => .i⟩)
    (fun Y m w vs hvl hrep hG hY => by
      obtain ⟨v0, rfl⟩ : ∃ v0, vs = [v0] := by
        match vs, hvl with
        | [a], _ => exact ⟨a, rfl⟩
      obtain ⟨us, rfl, hul, hur⟩ := (hrep 0 _ _ rfl rfl).fn_inv
      obtain ⟨u0, rfl⟩ : ∃ u0, us = [u0] := by
        match us, hul with
        | [a], _ => exact ⟨a, rfl⟩
      have r0 := hur 0 _ _ rfl rfl
      unfold boxNv at r0
      obtain ⟨b, o, u, rfl, hYb, hcr⟩ := r0.elp_inv
      obtain ⟨hcell, hrep1⟩ := hcr 0 _ rfl
      rw [Nat.add_zero] at hcell
      generalize u 0 = sv at hcell hrep1
      have hst : IntsN w.heap.size w sv l.length (fun i => l.getD i 0) := by
        have hr2 : Rep Y m w (.lit nl l.length [.i .i64 fun i => l.getD i 0]) sv := .lit hrep1
        obtain ⟨A, cap, rfl, _, hs⟩ := hr2.ints_inv
        exact ⟨A, cap, rfl, fun hn => by
          obtain ⟨b, o, e, hb, hc⟩ := hs hn
          exact ⟨b, o, e, hb, hc⟩⟩
      rw [← callsIn_wide (n := 3)]
      have h := collectN_in Fence.wide 3 trivial trivial trivial rfl (by omega) b o l.length sv (fun i => l.getD i 0) (by omega) w (World.block_lt_of_cell? w _ hcell) hcell hst
      rw [comeN_getD] at h
      exact h)
theorem sortedN_c (nl : Bool) (l : List Int) (nid : Nat) (h0 : 0 < l.length) (hl : l.length ≤ 1000000) : ACall Try.prog 40 [.fn 97 [boxNv nl l]] [] nid (.sl nid 0 l.length) [(nid, arrI (sortN l))] := by
  have hsl := sortN_len l
  refine acall_run c40 (by simp [a40]) ?_
  simp -dsimp only [aqT, aqU, aqN, aqS, ↓seqK, ↓blkK, ↓loopK, step, stepBin, Nat.add_assoc nid, ↓reduceIte, Option.toList, ← Int.ofNat_tmod, ← Int.ofNat_tdiv, simprocAttr, BEq.rfl, LN_succ, a40]
  refine CallO.pure (collectN_c nl l _ hl) ?_
  simp -dsimp only [aqT, aqU, aqN, aqS, ↓seqK, ↓blkK, ↓loopK, step, stepBin, Nat.add_assoc nid, ↓reduceIte, Option.toList, ← Int.ofNat_tmod, ← Int.ofNat_tdiv, simprocAttr, BEq.rfl, LN_succ]
  refine CallO.on (sortN_c _ l _ h0 (by omega)) (subH_get (by simp only [aqT, aqU, aqN, aqS, ↓seqK, ↓blkK, ↓loopK, step, stepBin, Nat.add_assoc nid, ↓reduceIte, Option.toList, ← Int.ofNat_tmod, ← Int.ofNat_tdiv, simprocAttr, BEq.rfl, LN_succ])) ?_
  unfold arrI
  simp -dsimp only [aqT, aqU, aqN, aqS, ↓seqK, ↓blkK, ↓loopK, step, stepBin, Nat.add_assoc nid, ↓reduceIte, Option.toList, ← Int.ofNat_tmod, ← Int.ofNat_tdiv, simprocAttr, BEq.rfl, LN_succ]
  refine RetOK.go [(nid, nid + 8)] [] (.inl rfl) ?_
  simp [a40, cvT, step, res, arrI, hsl, -List.getD_eq_getElem?_getD]
end Go.Proofs.Ytmgfcjblclanmaa
namespace Go.Proofs.Ytmgfcjblclanmaa
open Go.RowKit
def stT : List (Nat × Nat) := [(1, 0), (1, 2), (3, 9), (4, 5), (4, 5), (6, 8), (6, 7), (4, 8), (1, 2), (10, 0), (11, 12), (11, 12), (13, 15), (13, 14), (11, 15), (1, 2)]
def nextN (s t : Nat) : Nat := if t = 0 then (stT.getD s (0, 0)).1 else (stT.getD s (0, 0)).2
def stCells : List PV := stT.flatMap fun x => [.int .i64 (x.1 : Nat), .int .i64 (x.2 : Nat)]
theorem stCells_get : ∀ s, s < 16 → ∀ t, t < 2 → ∃ r, stCells.drop (s * 2 + t) = .int .i64 (nextN s t : Nat) :: r := by
  intro s hs t ht
  rcases t with _ | _ | t
  · rcases s with _ | _ | _ | _ | _ | _ | _ | _ | _ | _ | _ | _ | _ | _ | _ | _ | s <;> first | exact ⟨_, rfl⟩ | omega
  · rcases s with _ | _ | _ | _ | _ | _ | _ | _ | _ | _ | _ | _ | _ | _ | _ | _ | s <;> first | exact ⟨_, rfl⟩ | omega
  · omega
theorem next_st (s t nid : Nat) (hs : s < 16) (ht : t < 2) : ACall Try.prog 148 [.int .i64 (s : Nat), .int .i64 (t : Nat)] [] nid (.int .i64 (nextN s t : Nat)) [] := by
  refine acall_run c148 (by simp [a148]) ?_
  obtain ⟨r, hr⟩ := stCells_get s hs t ht
  have e : stCells = [.int .i64 1, .int .i64 0, .int .i64 1, .int .i64 2, .int .i64 3, .int .i64 9, .int .i64 4, .int .i64 5, .int .i64 4, .int .i64 5, .int .i64 6, .int .i64 8, .int .i64 6, .int .i64 7, .int .i64 4, .int .i64 8,
    .int .i64 1, .int .i64 2, .int .i64 10, .int .i64 0, .int .i64 11, .int .i64 12, .int .i64 11, .int .i64 12, .int .i64 13, .int .i64 15, .int .i64 13, .int .i64 14, .int .i64 11, .int .i64 15, .int .i64 1, .int .i64 2] := rfl
  rw [e] at hr
  simp -dsimp only [a148, aqT, aqU, aqN, ↓seqK, ↓blkK, ↓loopK, step, stepBin, Nat.reduceBEq, Nat.reduceBeqDiff, Nat.add_assoc nid, Nat.reduceAdd, reduceCtorEq, ↓reduceIte, Nat.reduceLeDiff, Nat.reduceBneDiff, Option.toList, ← Int.ofNat_tmod, ← Int.ofNat_tdiv, Nat.reduceLT]
  refine ⟨by omega, by omega, ?_⟩
  rw [Nat.mul_one, hr]
  simp -dsimp only [aqT, aqU, aqN, ↓seqK, ↓blkK, ↓loopK, step, stepBin, Nat.reduceBEq, Nat.reduceBeqDiff, Nat.add_assoc nid, Nat.reduceAdd, reduceCtorEq, ↓reduceIte, Nat.reduceLeDiff, Nat.reduceBneDiff, Option.toList, ← Int.ofNat_tmod, ← Int.ofNat_tdiv, Nat.reduceLT]
  refine RetOK.pure (.inl rfl) rfl ?_
  simp [cvT, step, res]
def tlook : List (Nat × List UInt8) → MK → Option (List UInt8)
  | [], _ => none
  | (k, v) :: r, q => if q = .i (k : Nat) then some v else tlook r q
def pIn (a t : Nat) (x : List Nat × List (Nat × List UInt8)) : List Nat × List (Nat × List UInt8) :=
  if (tlook x.2 (.i (nextN a t : Nat))).isSome then x else (x.1 ++ [nextN a t], (nextN a t, (tlook x.2 (.i (a : Nat))).getD [] ++ [UInt8.ofNat (48 + t)]) :: x.2)
def pOut (x : List Nat × List (Nat × List UInt8)) : List Nat × List (Nat × List UInt8) := match x.1 with
  | [] => x
  | a :: r => pIn a 1 (pIn a 0 (r, x.2))
def pAt (s : Nat) : Nat → List Nat × List (Nat × List UInt8)
  | 0 => ([s], [(s, [])])
  | n + 1 => pOut (pAt s n)
def pathV (s t : Nat) : List UInt8 := (tlook (pAt s 16).2 (.i (t : Nat))).getD []
theorem pAt_ok : ∀ s, s < 16 → ((pAt s 16).1 = [] ∧ ∀ n, n < 17 → ((pAt s n).1.all (· < 16) = true ∧ (pAt s n).1.length ≤ 16 ∧ (pAt s n).2.all (fun x => decide (x.2.length ≤ 16)) = true)) := by decide
def pInTo (a : Nat) (x : List Nat × List (Nat × List UInt8)) : Nat → List Nat × List (Nat × List UInt8)
  | 0 => x
  | k + 1 => pIn a k (pInTo a x k)
theorem pInTo_len (a : Nat) (x : List Nat × List (Nat × List UInt8)) (k : Nat) : (pInTo a x k).1.length ≤ x.1.length + k := by
  induction k with
  | zero => exact Nat.le_refl _
  | succ k ih =>
    unfold pInTo pIn
    split
    · omega
    · simp; omega
theorem tlook_len {L : Nat} : ∀ {T : List (Nat × List UInt8)}, T.all (fun x => decide (x.2.length ≤ L)) = true → ∀ q, ((tlook T q).getD []).length ≤ L
  | [], _, q => by simp [tlook]
  | (k, v) :: r, h, q => by
    simp only [List.all_cons, Bool.and_eq_true, decide_eq_true_eq] at h
    unfold tlook
    split
    · exact h.1
    · exact tlook_len h.2 q
theorem pInTo_vals {L : Nat} (a : Nat) {x : List Nat × List (Nat × List UInt8)} (h : x.2.all (fun x => decide (x.2.length ≤ L)) = true) : ∀ k, (pInTo a x k).2.all (fun x => decide (x.2.length ≤ L + k)) = true
  | 0 => h
  | k + 1 => by
    have ih := pInTo_vals a h k
    have ih' : (pInTo a x k).2.all (fun x => decide (x.2.length ≤ L + (k + 1))) = true := by
      rw [List.all_eq_true] at ih ⊢
      intro y hy
      have := ih y hy
      simp only [decide_eq_true_eq] at this ⊢
      omega
    unfold pInTo pIn
    split
    · exact ih'
    · simp only [List.all_cons, Bool.and_eq_true, decide_eq_true_eq, ih', and_true, List.length_append, List.length_singleton]
      have := tlook_len ih (.i (a : Nat))
      omega
theorem optD (o : Option (List UInt8)) : (bif o.isSome then o.getD [] else []) = o.getD [] := by cases o <;> rfl
theorem utf8_bit {k : Nat} (hk : k < 2) : (Utf8.encode (IntKind.i32.wrap (48 + (k : Int)))).data.toList = [UInt8.ofNat (48 + k)] := by
  have : k = 0 ∨ k = 1 := by omega
  rcases this with rfl | rfl <;> rfl
theorem getD_snocN (l : List Nat) (x i : Nat) : (l ++ [x]).getD i 0 = if i < l.length then l.getD i 0 else if i = l.length then x else 0 := by
  simp only [List.getD_eq_getElem?_getD, List.getElem?_append]
  split
  · rfl
  · split
    · simp [*]
    · rw [List.getElem?_eq_none (by simp; omega)]; rfl
def mapT (T : List (Nat × List UInt8)) : Option ABlk := some (.map (.i .i64) (fun q => (tlook T q).isSome) (.s fun q => (tlook T q).getD []))
set_option maxHeartbeats 1000000 in
theorem path_st (s t nid : Nat) (hs : s < 16) : ACall Try.prog 123 [.int .i64 (s : Nat), .int .i64 (t : Nat)] [] nid (.str (pathV s t)) [] := by
  refine acall_run c123 (by simp [a123]) ?_
  simp -dsimp only [a123, aqT, aqU, aqN, ↓seqK, ↓blkK, ↓loopK, step, stepBin, Nat.reduceBEq, Nat.reduceBeqDiff, Nat.add_assoc nid, Nat.reduceAdd, reduceCtorEq, ↓reduceIte, Nat.reduceLeDiff, Nat.reduceBneDiff, Option.toList, ← Int.ofNat_tmod, ← Int.ofNat_tdiv, Nat.reduceLT, mNew, mkKey, keyIn, mPut]
  refine LP.mkP (fun x : Nat × Nat × (Nat → Int) => x.1 ≤ 16) (fun x => ⟨[(6, .sl (nid + 4) x.2.1 (pAt s x.1).1.length), (5, .mp (nid + 8)), (1, .int .i64 (t : Nat))],
    [(nid + 4, some (.arr 3 (x.2.1 + (pAt s x.1).1.length) [.i .i64 fun i => if i < x.2.1 then x.2.2 i else (((pAt s x.1).1.getD (i - x.2.1) 0 : Nat) : Int)])), (nid + 8, mapT (pAt s x.1).2)], nid + 100, nid⟩)
    (fun x => 17 - x.1) (0, 0, fun _ => 0) (by simp) (Cov.go [(nid + 4, nid + 28), (nid + 8, nid + 4)] [] ?_) (fun x hx => ?_)
  · simp [cvT, step, res, pAt, mapT]
    refine ⟨ColEq.i fun i hi => ?_, fun q hq => ?_⟩
    · have : i = 0 := by omega
      subst this; rfl
    · unfold tlook tlook
      split <;> simp [*, mVal]
  obtain ⟨n, d, g⟩ := x
  simp only at hx
  obtain ⟨ok1, ok2⟩ := pAt_ok s hs
  have ok := ok2 n (by omega)
  have hst : pAt s (n + 1) = pOut (pAt s n) := rfl
  unfold mapT
  simp -dsimp only [aqT, aqU, aqN, ↓seqK, ↓blkK, ↓loopK, step, stepBin, Nat.reduceBEq, Nat.reduceBeqDiff, Nat.add_assoc nid, Nat.reduceAdd, reduceCtorEq, ↓reduceIte, Nat.reduceLeDiff, Nat.reduceBneDiff, Option.toList, ← Int.ofNat_tmod, ← Int.ofNat_tdiv, Nat.reduceLT]
  refine S2.dec (fun h1 => ?_) (fun h1 => ?_)
  · have hn : n < 16 := by
      rcases Nat.lt_or_ge n 16 with h | h
      · exact h
      · have : n = 16 := by omega
        subst this; rw [ok1] at h1; simp at h1
    rcases hQ : pAt s n with ⟨Q, T⟩
    rw [hQ] at ok hst h1
    rcases Q with _ | ⟨a, r⟩
    · simp at h1
    simp only [List.all_cons, Bool.and_eq_true, decide_eq_true_eq, List.length_cons] at ok
    obtain ⟨⟨ha, hr⟩, hlen, hvl⟩ := ok
    have hst : pAt s (n + 1) = pInTo a (r, T) 2 := hst
    simp -dsimp only [aqT, aqU, aqN, ↓seqK, ↓blkK, ↓loopK, step, stepBin, Nat.reduceBEq, Nat.reduceBeqDiff, Nat.add_assoc nid, Nat.reduceAdd, reduceCtorEq, ↓reduceIte, Nat.reduceLeDiff, Nat.reduceBneDiff, Option.toList, ← Int.ofNat_tmod, ← Int.ofNat_tdiv, Nat.reduceLT]
    refine ⟨by omega, by omega, LP.mkP (fun x : Nat × Nat × (Nat → Int) => x.1 ≤ 2) (fun x => ⟨[(25, .int .i64 (x.1 : Nat)), (7, .int .i64 (a : Nat)), (6, .sl (nid + 4) x.2.1 (pInTo a (r, T) x.1).1.length), (5, .mp (nid + 8)), (1, .int .i64 (t : Nat))],
      [(nid + 4, some (.arr 3 (x.2.1 + (pInTo a (r, T) x.1).1.length) [.i .i64 fun i => if i < x.2.1 then x.2.2 i else (((pInTo a (r, T) x.1).1.getD (i - x.2.1) 0 : Nat) : Int)])), (nid + 8, mapT (pInTo a (r, T) x.1).2)], nid + 200, nid⟩)
      (fun x => 3 - x.1) (0, d + 1, fun i => if i < d then g i else (((a :: r).getD (i - d) 0 : Nat) : Int)) (by simp) (Cov.go [] [] ?_) (fun y hy => ?_)⟩
    · simp [cvT, step, res, pInTo, mapT, -List.getD_eq_getElem?_getD]
      refine ⟨⟨by omega, ColEq.i fun i hi => ?_⟩, by simp⟩
      by_cases hid : i < d + 1
      · rw [if_pos hid]
      · rw [if_neg hid, if_neg (by omega), show i - d = i - (d + 1) + 1 from by omega]
        rfl
    obtain ⟨k, d2, g2⟩ := y
    simp only at hy
    unfold mapT
    have hql := pInTo_len a (r, T) k
    have hqv := pInTo_vals a (x := (r, T)) hvl k
    rcases hX : pInTo a (r, T) k with ⟨Q2, T2⟩
    have hk1 : pInTo a (r, T) (k + 1) = pIn a k (Q2, T2) := by rw [← hX]; rfl
    rw [hX] at hql hqv
    simp only at hql hqv
    have hsl := tlook_len hqv (.i (a : Nat))
    simp -dsimp only [aqT, aqU, aqN, ↓seqK, ↓blkK, ↓loopK, step, stepBin, Nat.reduceBEq, Nat.reduceBeqDiff, Nat.add_assoc nid, Nat.reduceAdd, reduceCtorEq, ↓reduceIte, Nat.reduceLeDiff, Nat.reduceBneDiff, Option.toList, ← Int.ofNat_tmod, ← Int.ofNat_tdiv, Nat.reduceLT, hX]
    refine S2.dec (fun h2 => ?_) (fun h2 => ?_)
    · simp -dsimp only [aqT, aqU, aqN, ↓seqK, ↓blkK, ↓loopK, step, stepBin, Nat.reduceBEq, Nat.reduceBeqDiff, Nat.add_assoc nid, Nat.reduceAdd, reduceCtorEq, ↓reduceIte, Nat.reduceLeDiff, Nat.reduceBneDiff, Option.toList, ← Int.ofNat_tmod, ← Int.ofNat_tdiv, Nat.reduceLT]
      refine CallO.pure (next_st a k _ ha (by omega)) ?_
      simp -dsimp only [aqT, aqU, aqN, ↓seqK, ↓blkK, ↓loopK, step, stepBin, Nat.reduceBEq, Nat.reduceBeqDiff, Nat.add_assoc nid, Nat.reduceAdd, reduceCtorEq, ↓reduceIte, Nat.reduceLeDiff, Nat.reduceBneDiff, Option.toList, ← Int.ofNat_tmod, ← Int.ofNat_tdiv, Nat.reduceLT, mkKey, keyIn, mGet, optD]
      refine S2.intro (fun h3 => ?_) (fun h3 => ?_)
      · have h3' : (tlook T2 (.i (nextN a k : Nat))).isSome = false := by simpa using h3
        rw [show pIn a k (Q2, T2) = (Q2 ++ [nextN a k], (nextN a k, (tlook T2 (.i (a : Nat))).getD [] ++ [UInt8.ofNat (48 + k)]) :: T2) from by unfold pIn; rw [if_neg (by rw [h3']; simp)]] at hk1
        simp -dsimp only [aqT, aqU, aqN, ↓seqK, ↓blkK, ↓loopK, step, stepBin, Nat.reduceBEq, Nat.reduceBeqDiff, Nat.add_assoc nid, Nat.reduceAdd, reduceCtorEq, ↓reduceIte, Nat.reduceLeDiff, Nat.reduceBneDiff, Option.toList, ← Int.ofNat_tmod, ← Int.ofNat_tdiv, Nat.reduceLT, mkKey, keyIn, mGet, mPut, optD, utf8_bit (show k < 2 by omega)]
        refine ⟨by unfold inI64; omega, by simp; omega, ?_⟩
        cases hd2 : d2 == 0
        · simp -dsimp only [aqT, aqU, aqN, ↓seqK, ↓blkK, ↓loopK, step, stepBin, Nat.reduceBEq, Nat.reduceBeqDiff, Nat.add_assoc nid, Nat.reduceAdd, reduceCtorEq, ↓reduceIte, Nat.reduceLeDiff, Nat.reduceBneDiff, Option.toList, ← Int.ofNat_tmod, ← Int.ofNat_tdiv, Nat.reduceLT, Col.shift]
          refine ⟨⟨by omega, by omega⟩, by unfold inI64; omega, (k + 1, 0, fun _ => 0), ⟨by omega, by omega⟩, Cov.go [(nid + 4, nid + 324)] [] ?_⟩
          rw [hk1]
          simp [cvT, step, res, mapT, -List.getD_eq_getElem?_getD]
          refine ⟨ColEq.i fun i hi => ?_, fun q hq => ?_⟩
          · rw [getD_snocN]
            by_cases h : i < Q2.length
            · simp only [if_pos h, if_neg (show ¬ d2 + i < d2 by omega)]
            · have : i = Q2.length := by omega
              subst this
              simp
          · simp only [tlook, mVal]
            by_cases h : q = .i (nextN a k : Nat)
            · simp [h]
            · simp [h]
        · have hd0 : d2 = 0 := by simpa using hd2
          subst hd0
          simp -dsimp only [aqT, aqU, aqN, ↓seqK, ↓blkK, ↓loopK, step, stepBin, Nat.reduceBEq, Nat.reduceBeqDiff, Nat.add_assoc nid, Nat.reduceAdd, reduceCtorEq, ↓reduceIte, Nat.reduceLeDiff, Nat.reduceBneDiff, Option.toList, ← Int.ofNat_tmod, ← Int.ofNat_tdiv, Nat.reduceLT]
          refine ⟨⟨by omega, by omega⟩, by unfold inI64; omega, (k + 1, 0, fun _ => 0), ⟨by omega, by omega⟩, Cov.go [(nid + 4, nid + 324)] [] ?_⟩
          rw [hk1]
          simp [cvT, step, res, mapT, -List.getD_eq_getElem?_getD]
          refine ⟨ColEq.i fun i hi => ?_, fun q hq => ?_⟩
          · rw [getD_snocN]
            by_cases h : i < Q2.length
            · simp only [if_pos h]
            · have : i = Q2.length := by omega
              subst this
              simp
          · simp only [tlook, mVal]
            by_cases h : q = .i (nextN a k : Nat)
            · simp [h]
            · simp [h]
      · have h3' : (tlook T2 (.i (nextN a k : Nat))).isSome = true := by simpa using h3
        rw [show pIn a k (Q2, T2) = (Q2, T2) from by unfold pIn; rw [if_pos h3']] at hk1
        simp -dsimp only [aqT, aqU, aqN, ↓seqK, ↓blkK, ↓loopK, step, stepBin, Nat.reduceBEq, Nat.reduceBeqDiff, Nat.add_assoc nid, Nat.reduceAdd, reduceCtorEq, ↓reduceIte, Nat.reduceLeDiff, Nat.reduceBneDiff, Option.toList, ← Int.ofNat_tmod, ← Int.ofNat_tdiv, Nat.reduceLT]
        refine ⟨by unfold inI64; omega, (k + 1, d2, g2), ⟨by omega, by omega⟩, Cov.go [] [] ?_⟩
        rw [hk1]
        simp [cvT, step, res, mapT]
    · have hk2 : k = 2 := by omega
      subst hk2
      simp -dsimp only [aqT, aqU, aqN, ↓seqK, ↓blkK, ↓loopK, step, stepBin, Nat.reduceBEq, Nat.reduceBeqDiff, Nat.add_assoc nid, Nat.reduceAdd, reduceCtorEq, ↓reduceIte, Nat.reduceLeDiff, Nat.reduceBneDiff, Option.toList, ← Int.ofNat_tmod, ← Int.ofNat_tdiv, Nat.reduceLT]
      refine ⟨(n + 1, d2, g2), ⟨by omega, by omega⟩, Cov.go [] [] ?_⟩
      rw [hst, hX]
      simp [cvT, step, res, mapT]
  · simp -dsimp only [aqT, aqU, aqN, ↓seqK, ↓blkK, ↓loopK, step, stepBin, Nat.reduceBEq, Nat.reduceBeqDiff, Nat.add_assoc nid, Nat.reduceAdd, reduceCtorEq, ↓reduceIte, Nat.reduceLeDiff, Nat.reduceBneDiff, Option.toList, ← Int.ofNat_tmod, ← Int.ofNat_tdiv, Nat.reduceLT, mkKey, keyIn, mGet, optD]
    have h0 : (pAt s n).1 = [] := List.eq_nil_of_length_eq_zero (by omega)
    have h16 : ∀ j, (pAt s (n + j)) = pAt s n := by
      intro j
      induction j with
      | zero => rfl
      | succ j ih =>
        show pOut (pAt s (n + j)) = _
        rw [ih]
        unfold pOut
        rw [h0]
    have := h16 (16 - n)
    rw [show n + (16 - n) = 16 from by omega] at this
    refine RetOK.pure (.inl rfl) rfl ?_
    simp [cvT, step, res, pathV, this]
end Go.Proofs.Ytmgfcjblclanmaa
