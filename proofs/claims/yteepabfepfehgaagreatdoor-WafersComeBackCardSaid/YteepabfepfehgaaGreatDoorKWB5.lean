/-
 The functions' forms for the abstract machine,each checked against the program's form.
-/
import Derived.Test.YteepabfepfehgaaGreatDoorKWB1
import Derived.Test.YteepabfepfehgaaGreatDoorProg
import Derived.Test.YteepabfepfehgaaGreatDoorKWB3
import Derived.Lib.Bytealg
import Derived.Laws.Externs
import Derived.KernelRfl
import Derived.Ground.NamesProg
import Derived.Shelf.SlSortCmp.NoneTotal
import Derived.Shelf.SlicesG.Cmp
import Derived.Shelf.Strings.SlTrimAscii
import Derived.Shelf.Strings.Repeat
import Derived.Shelf.Strings.Search3
import Derived.Shelf.Strings.Split
import Derived.Shelf.Strings.Cut
import Derived.Shelf.Strings.OnBuilder
import Derived.Shelf.Strings.Builder1
import Derived.Shelf.Strings.Count
import Derived.Shelf.Small.Strs
import Derived.Shelf.Strconv.Itoa3
import Derived.Shelf.Strconv.Atoi
import Derived.WalkKit
import Derived.Lib.Agree
import Derived.Lib.AtoiErrMem
import Derived.Test.YteepabfepfehgaaGreatDoorKWB4
set_option linter.unusedVariables false
set_option linter.unusedSimpArgs false
set_option maxRecDepth 100000
namespace Go.Proofs.YteepabfepfehgaaGreatDoor
def a3 : AFn := ⟨70,[.t 2],.seq (.ops [⟨some 2,none,.mv (.c (.bool false))⟩])
 (.seq (.ops [⟨some 16,none,.mv (.t 0)⟩,⟨some 17,none,.build [(.lit true 0 []),(.int .i64 0)] [(0,1,(.t 16))]⟩,⟨some 18,none,.box 25 (.t 17)⟩,⟨some 3,none,.mv (.t 18)⟩])
 (.seq (.ops [⟨some 19,none,.mv (.t 3)⟩,⟨some 20,none,.call 5 [(.t 19)]⟩,⟨some 4,none,.alloc 28 [(.lit true 0 []),(.str [])]⟩,⟨none,none,.store 2 (.t 4) (.t 20)⟩])
 (.seq (.ops [⟨some 22,none,.load (some 2) (.t 4)⟩,⟨some 23,none,.call 6 [(.t 22)]⟩,⟨some 21,none,.mv (.t 23)⟩,⟨some 24,none,.ext (.t 21) 0⟩,⟨some 25,none,.ext (.t 21) 1⟩,⟨some 5,none,.mv (.t 24)⟩,⟨some 6,none,.mv (.t 25)⟩])
 (.seq (.ops [⟨some 27,none,.mv (.t 5)⟩,⟨some 28,none,.call 7 [(.t 27)]⟩,⟨some 26,none,.mv (.t 28)⟩,⟨some 29,none,.ext (.t 26) 0⟩,⟨some 30,none,.ext (.t 26) 1⟩,⟨some 31,none,.ext (.t 26) 2⟩,⟨some 7,none,.alloc 28 [(.lit true 0 []),(.str [])]⟩,⟨none,none,.store 2 (.t 7) (.t 29)⟩,⟨some 8,none,.mv (.t 30)⟩,⟨some 9,none,.mv (.t 31)⟩])
 (.seq (.seq (.ops [⟨some 32,none,.mv (.t 6)⟩,⟨some 33,none,.bin 0 .neq (.t 32) (.c (.int .i64 0))⟩,⟨some 34,none,.mv (.t 33)⟩,⟨some 35,(some (34,false)),.mv (.t 9)⟩,⟨some 36,(some (34,false)),.bin 0 .neq (.t 35) (.c (.int .i64 0))⟩,⟨some 37,none,.pick (.t 34) (.c (.bool true)) (.t 36)⟩,⟨some 38,none,.mv (.t 37)⟩,⟨some 39,(some (38,false)),.load (some 2) (.t 7)⟩,⟨some 40,(some (38,false)),.load (some 2) (.t 4)⟩,⟨some 41,(some (38,false)),.call 8 [(.t 39),(.t 40)]⟩,⟨some 42,(some (38,false)),.un .not (.t 41)⟩,⟨some 43,none,.pick (.t 38) (.c (.bool true)) (.t 42)⟩])
 (.cond (.t 43) (.seq (.ops [⟨some 2,none,.mv (.c (.bool false))⟩])
 (.ret)) (.skip)))
 (.seq (.ops [⟨some 44,none,.mv (.t 3)⟩,⟨some 45,none,.call 9 [(.t 44)]⟩,⟨some 10,none,.mv (.t 45)⟩])
 (.seq (.seq (.ops [⟨some 47,none,.mv (.t 10)⟩,⟨some 48,none,.call 7 [(.t 47)]⟩,⟨some 46,none,.mv (.t 48)⟩,⟨some 49,none,.ext (.t 46) 0⟩,⟨some 50,none,.ext (.t 46) 1⟩,⟨some 51,none,.ext (.t 46) 2⟩,⟨some 11,none,.alloc 28 [(.lit true 0 []),(.str [])]⟩,⟨none,none,.store 2 (.t 11) (.t 49)⟩,⟨some 12,none,.mv (.t 50)⟩,⟨some 13,none,.mv (.t 51)⟩])
 (.seq (.ops [⟨some 52,none,.mv (.t 13)⟩,⟨some 53,none,.bin 0 .eql (.t 52) (.c (.int .i64 0))⟩])
 (.cond (.t 53) (.seq (.ops [⟨some 55,none,.load (some 2) (.t 11)⟩,⟨some 56,none,.call 6 [(.t 55)]⟩,⟨some 54,none,.mv (.t 56)⟩,⟨some 57,none,.ext (.t 54) 0⟩,⟨some 58,none,.ext (.t 54) 1⟩,⟨some 14,none,.mv (.t 57)⟩,⟨some 15,none,.mv (.t 58)⟩])
 (.seq (.ops [⟨some 59,none,.mv (.t 15)⟩,⟨some 60,none,.bin 0 .eql (.t 59) (.c (.int .i64 0))⟩,⟨some 61,none,.mv (.t 60)⟩,⟨some 62,(some (61,true)),.mv (.t 14)⟩,⟨some 63,(some (61,true)),.mv (.t 10)⟩,⟨some 64,(some (61,true)),.bin 1 .eql (.t 62) (.t 63)⟩,⟨some 65,none,.pick (.t 61) (.t 64) (.c (.bool false))⟩,⟨some 66,none,.mv (.t 65)⟩,⟨some 67,(some (66,true)),.call 10 []⟩,⟨some 68,none,.pick (.t 66) (.t 67) (.c (.bool false))⟩,⟨some 2,none,.mv (.t 68)⟩])
 (.ret))) (.skip))))
 (.seq (.ops [⟨some 69,none,.call 10 []⟩,⟨some 2,none,.mv (.t 69)⟩])
 (.ret)))))))))⟩
theorem c3:compF Go.Proofs.Tryz.prog 3=some a3:=by kernel_rfl
def a5 : AFn := ⟨15,[.c 2 (some 2)],.seq (.ops [⟨some 2,none,.alloc 28 [(.lit true 0 []),(.str [])]⟩])
 (.seq (.seq (.ops [⟨some 4,none,.mv (.c (.int .i64 0))⟩])
 (.block 0 (.loop (.seq (.ops [⟨some 5,none,.bin 0 .lss (.t 4) (.c (.int .i64 6))⟩])
 (.seq (.cond (.t 5) (.skip) (.exit 0))
 (.seq (.block 1 (.seq (.ops [⟨some 6,none,.mv (.t 0)⟩,⟨some 7,none,.call 11 [(.t 6)]⟩,⟨some 3,none,.alloc 28 [(.lit true 0 []),(.str [])]⟩,⟨none,none,.store 2 (.t 3) (.t 7)⟩])
 (.seq (.ops [⟨some 8,none,.load (some 2) (.t 3)⟩,⟨some 9,none,.call 13 [(.t 8)]⟩,⟨some 10,none,.bin 0 .eql (.t 9) (.c (.int .i64 0))⟩])
 (.cond (.t 10) (.seq (.ops [⟨some 11,none,.load (some 2) (.t 3)⟩,⟨none,none,.store 2 (.t 2) (.t 11)⟩])
 (.ret)) (.skip)))))
 (.ops [⟨some 12,none,.bin 0 .add (.t 4) (.c (.int .i64 1))⟩,⟨some 4,none,.mv (.t 12)⟩])))))))
 (.seq (.ops [⟨some 13,none,.bslice 9 1 1 [(.str [])] [(0,1,(.c (.str [49])))]⟩,⟨some 14,none,.build [(.lit true 0 []),(.str [])] [(0,1,(.t 13)),(1,1,(.c (.str [49])))]⟩,⟨none,none,.store 2 (.t 2) (.t 14)⟩])
 (.ret)))⟩
theorem c5:compF Go.Proofs.Tryz.prog 5=some a5:=by kernel_rfl
def a6 : AFn := ⟨33,[.t 2,.t 3],.seq (.ops [⟨some 1,none,.box 28 (.t 0)⟩,⟨some 2,none,.mv (.c (.str []))⟩,⟨some 3,none,.mv (.c (.int .i64 0))⟩])
 (.seq (.seq (.ops [⟨some 8,none,.load (some 2) (.t 1)⟩,⟨some 9,none,.call 14 [(.t 8)]⟩,⟨some 4,none,.mv (.t 9)⟩])
 (.seq (.ops [⟨some 10,none,.mv (.t 4)⟩,⟨some 11,none,.bin 0 .neq (.t 10) (.c (.int .i64 0))⟩])
 (.cond (.t 11) (.seq (.ops [⟨some 12,none,.mv (.t 4)⟩,⟨some 2,none,.mv (.c (.str []))⟩,⟨some 3,none,.mv (.t 12)⟩])
 (.ret)) (.skip))))
 (.seq (.ops [⟨some 5,none,.alloc 65 [.nilp,(.lit true 0 [])]⟩])
 (.seq (.ops [⟨some 13,none,.fadr 1 (.t 1)⟩,⟨some 14,none,.load none (.t 13)⟩,⟨some 15,none,.bslice 9 1 2 [(.str [])] [(0,1,(.t 14)),(1,1,(.c (.str [45])))]⟩,⟨some 16,none,.call 27 [(.t 15)]⟩,⟨some 17,none,.bin 1 .add (.c (.str [112,97,115,115,32])) (.t 16)⟩,⟨some 18,none,.bin 1 .add (.t 17) (.c (.str [10]))⟩,⟨some 19,none,.call 26 [(.t 5),(.t 18)]⟩])
 (.seq (.seq (.ops [⟨some 20,none,.fadr 0 (.t 1)⟩,⟨some 21,none,.load none (.t 20)⟩,⟨some 22,none,.len false (.t 21)⟩,⟨some 23,none,.mv (.c (.int .i64 0))⟩])
 (.block 0 (.loop (.seq (.ops [⟨some 24,none,.bin 0 .lss (.t 23) (.t 22)⟩])
 (.seq (.cond (.t 24) (.skip) (.exit 0))
 (.seq (.block 1 (.seq (.ops [⟨some 25,none,.iadr 1 (.t 21) (.t 23)⟩,⟨some 26,none,.load none (.t 25)⟩,⟨some 7,none,.mv (.t 26)⟩])
 (.ops [⟨some 27,none,.mv (.t 7)⟩,⟨some 28,none,.call 28 [(.t 27)]⟩,⟨some 29,none,.bin 1 .add (.t 28) (.c (.str [10]))⟩,⟨some 30,none,.call 26 [(.t 5),(.t 29)]⟩])))
 (.ops [⟨some 31,none,.bin 0 .add (.t 23) (.c (.int .i64 1))⟩,⟨some 23,none,.mv (.t 31)⟩])))))))
 (.seq (.ops [⟨some 32,none,.call 29 [(.t 5)]⟩,⟨some 2,none,.mv (.t 32)⟩,⟨some 3,none,.mv (.c (.int .i64 0))⟩])
 (.ret))))))⟩
theorem c6:compF Go.Proofs.Tryz.prog 6=some a6:=by kernel_rfl
def a7 : AFn := ⟨39,[.c 2 (some 2),.t 3,.t 4],.seq (.ops [⟨some 2,none,.alloc 28 [(.lit true 0 []),(.str [])]⟩,⟨some 3,none,.mv (.c (.int .i64 0))⟩,⟨some 4,none,.mv (.c (.int .i64 0))⟩])
 (.seq (.seq (.ops [⟨some 10,none,.mv (.t 0)⟩,⟨some 11,none,.len true (.t 10)⟩,⟨some 12,none,.bin 0 .gtr (.t 11) (.c (.int .i64 200000))⟩])
 (.cond (.t 12) (.seq (.ops [⟨some 13,none,.build [(.lit true 0 []),(.str [])] []⟩,⟨none,none,.store 2 (.t 2) (.t 13)⟩,⟨some 3,none,.mv (.c (.int .i64 0))⟩,⟨some 4,none,.mv (.c (.int .i64 2))⟩])
 (.ret)) (.skip)))
 (.seq (.ops [⟨some 5,none,.alloc 28 [(.lit true 0 []),(.str [])]⟩])
 (.seq (.ops [⟨some 6,none,.alloc 3 [(.int .i64 0)]⟩,⟨none,none,.store 1 (.t 6) (.c (.int .i64 0))⟩])
 (.seq (.ops [⟨some 15,none,.mv (.t 0)⟩,⟨some 16,none,.mkfn 31 [(.t 6),(.t 5)]⟩,⟨some 17,none,.call 30 [(.t 15),(.t 16)]⟩,⟨some 14,none,.mv (.t 17)⟩,⟨some 18,none,.ext (.t 14) 0⟩,⟨some 19,none,.ext (.t 14) 1⟩,⟨some 7,none,.mv (.t 18)⟩,⟨some 8,none,.mv (.t 19)⟩])
 (.seq (.seq (.ops [⟨some 20,none,.mv (.t 8)⟩,⟨some 21,none,.un .not (.t 20)⟩,⟨some 22,none,.mv (.t 21)⟩,⟨some 23,(some (22,false)),.load none (.t 6)⟩,⟨some 24,(some (22,false)),.bin 0 .eql (.t 23) (.c (.int .i64 0))⟩,⟨some 25,none,.pick (.t 22) (.c (.bool true)) (.t 24)⟩])
 (.cond (.t 25) (.seq (.ops [⟨some 26,none,.build [(.lit true 0 []),(.str [])] []⟩,⟨some 27,none,.mv (.t 7)⟩,⟨none,none,.store 2 (.t 2) (.t 26)⟩,⟨some 3,none,.mv (.t 27)⟩,⟨some 4,none,.mv (.c (.int .i64 9))⟩])
 (.ret)) (.skip)))
 (.seq (.seq (.ops [⟨some 28,none,.fadr 0 (.t 5)⟩,⟨some 29,none,.load none (.t 28)⟩,⟨some 30,none,.call 34 [(.t 29),(.c (.fn 35 []))]⟩])
 (.cond (.t 30) (.seq (.ops [⟨some 31,none,.build [(.lit true 0 []),(.str [])] []⟩,⟨none,none,.store 2 (.t 2) (.t 31)⟩,⟨some 3,none,.mv (.c (.int .i64 0))⟩,⟨some 4,none,.mv (.c (.int .i64 2))⟩])
 (.ret)) (.skip)))
 (.seq (.seq (.ops [⟨some 32,none,.load (some 2) (.t 5)⟩,⟨some 33,none,.call 14 [(.t 32)]⟩,⟨some 9,none,.mv (.t 33)⟩])
 (.seq (.ops [⟨some 34,none,.mv (.t 9)⟩,⟨some 35,none,.bin 0 .neq (.t 34) (.c (.int .i64 0))⟩])
 (.cond (.t 35) (.seq (.ops [⟨some 36,none,.build [(.lit true 0 []),(.str [])] []⟩,⟨some 37,none,.mv (.t 9)⟩,⟨none,none,.store 2 (.t 2) (.t 36)⟩,⟨some 3,none,.mv (.c (.int .i64 0))⟩,⟨some 4,none,.mv (.t 37)⟩])
 (.ret)) (.skip))))
 (.seq (.ops [⟨some 38,none,.load (some 2) (.t 5)⟩,⟨none,none,.store 2 (.t 2) (.t 38)⟩,⟨some 3,none,.mv (.c (.int .i64 0))⟩,⟨some 4,none,.mv (.c (.int .i64 0))⟩])
 (.ret)))))))))⟩
theorem c7:compF Go.Proofs.Tryz.prog 7=some a7:=by kernel_rfl
def a8 : AFn := ⟨17,[.t 4],.seq (.ops [⟨some 2,none,.box 28 (.t 0)⟩,⟨some 3,none,.box 28 (.t 1)⟩,⟨some 4,none,.mv (.c (.bool false))⟩])
 (.seq (.ops [⟨some 5,none,.fadr 0 (.t 2)⟩,⟨some 6,none,.load none (.t 5)⟩,⟨some 7,none,.fadr 0 (.t 3)⟩,⟨some 8,none,.load none (.t 7)⟩,⟨some 9,none,.call 36 [(.t 6),(.t 8)]⟩,⟨some 10,none,.mv (.t 9)⟩,⟨some 11,(some (10,true)),.fadr 1 (.t 2)⟩,⟨some 12,(some (10,true)),.load none (.t 11)⟩,⟨some 13,(some (10,true)),.fadr 1 (.t 3)⟩,⟨some 14,(some (10,true)),.load none (.t 13)⟩,⟨some 15,(some (10,true)),.bin 1 .eql (.t 12) (.t 14)⟩,⟨some 16,none,.pick (.t 10) (.t 15) (.c (.bool false))⟩,⟨some 4,none,.mv (.t 16)⟩])
 (.ret))⟩
theorem c8:compF Go.Proofs.Tryz.prog 8=some a8:=by kernel_rfl
def a9 : AFn := ⟨17,[.t 2],.seq (.ops [⟨some 2,none,.mv (.c (.str []))⟩])
 (.seq (.ops [⟨some 4,none,.mv (.t 0)⟩,⟨some 5,none,.call 5 [(.t 4)]⟩,⟨some 6,none,.call 23 [(.t 5)]⟩,⟨some 3,none,.mv (.t 6)⟩])
 (.seq (.seq (.ops [⟨some 7,none,.mv (.t 0)⟩,⟨some 8,none,.bslice 3 1 4 [(.int .i64 0)] [(0,1,(.c (.int .i64 0))),(1,1,(.c (.int .i64 0))),(2,1,(.c (.int .i64 1))),(3,1,(.c (.int .i64 2)))]⟩,⟨some 9,none,.call 37 [(.t 7),(.t 8)]⟩,⟨some 10,none,.mv (.c (.int .i64 0))⟩])
 (.block 0 (.loop (.seq (.ops [⟨some 11,none,.bin 0 .lss (.t 10) (.t 9)⟩])
 (.seq (.cond (.t 11) (.skip) (.exit 0))
 (.seq (.block 1 (.ops [⟨some 12,none,.mv (.t 0)⟩,⟨some 13,none,.mv (.t 3)⟩,⟨some 14,none,.call 38 [(.t 12),(.t 13),(.c (.str [32,10,49,50,91,93,120,63]))]⟩,⟨some 3,none,.mv (.t 14)⟩]))
 (.ops [⟨some 15,none,.bin 0 .add (.t 10) (.c (.int .i64 1))⟩,⟨some 10,none,.mv (.t 15)⟩])))))))
 (.seq (.ops [⟨some 16,none,.mv (.t 3)⟩,⟨some 2,none,.mv (.t 16)⟩])
 (.ret))))⟩
theorem c9:compF Go.Proofs.Tryz.prog 9=some a9:=by kernel_rfl
def a10 : AFn := ⟨50,[.t 0],.seq (.ops [⟨some 0,none,.mv (.c (.bool false))⟩])
 (.seq (.ops [⟨some 9,none,.call 39 [(.c (.int .i64 4)),(.c (.int .i64 1))]⟩,⟨some 8,none,.mv (.t 9)⟩,⟨some 10,none,.ext (.t 8) 0⟩,⟨some 11,none,.ext (.t 8) 1⟩,⟨some 1,none,.mv (.t 10)⟩,⟨some 2,none,.mv (.t 11)⟩])
 (.seq (.ops [⟨some 13,none,.call 40 [(.c (.int .i64 3))]⟩,⟨some 12,none,.mv (.t 13)⟩,⟨some 14,none,.ext (.t 12) 0⟩,⟨some 15,none,.ext (.t 12) 1⟩,⟨some 3,none,.mv (.t 14)⟩,⟨some 4,none,.mv (.t 15)⟩])
 (.seq (.ops [⟨some 17,none,.bslice 9 1 1 [(.str [])] [(0,1,(.c (.str [49,120])))]⟩,⟨some 18,none,.build [(.lit true 0 []),(.str [])] [(0,1,(.t 17)),(1,1,(.c (.str [49])))]⟩,⟨some 19,none,.call 16 [(.t 18)]⟩,⟨some 16,none,.mv (.t 19)⟩,⟨some 20,none,.ext (.t 16) 0⟩,⟨some 21,none,.ext (.t 16) 1⟩,⟨some 22,none,.ext (.t 16) 2⟩,⟨some 5,none,.alloc 47 [(.int .i64 0),(.int .i64 0)]⟩,⟨none,none,.store 2 (.t 5) (.t 20)⟩,⟨some 6,none,.mv (.t 21)⟩,⟨some 7,none,.mv (.t 22)⟩])
 (.seq (.ops [⟨some 23,none,.mv (.t 2)⟩,⟨some 24,none,.bin 0 .eql (.t 23) (.c (.int .i64 0))⟩,⟨some 25,none,.mv (.t 24)⟩,⟨some 26,(some (25,true)),.mv (.t 1)⟩,⟨some 27,(some (25,true)),.bin 1 .eql (.t 26) (.c (.str [49,49,48]))⟩,⟨some 28,none,.pick (.t 25) (.t 27) (.c (.bool false))⟩,⟨some 29,none,.mv (.t 28)⟩,⟨some 30,(some (29,true)),.mv (.t 4)⟩,⟨some 31,(some (29,true)),.bin 0 .eql (.t 30) (.c (.int .i64 0))⟩,⟨some 32,none,.pick (.t 29) (.t 31) (.c (.bool false))⟩,⟨some 33,none,.mv (.t 32)⟩,⟨some 34,(some (33,true)),.mv (.t 3)⟩,⟨some 35,(some (33,true)),.len false (.t 34)⟩,⟨some 36,(some (33,true)),.bin 0 .eql (.t 35) (.c (.int .i64 3))⟩,⟨some 37,none,.pick (.t 33) (.t 36) (.c (.bool false))⟩,⟨some 38,none,.mv (.t 37)⟩,⟨some 39,(some (38,true)),.mv (.t 7)⟩,⟨some 40,(some (38,true)),.bin 0 .eql (.t 39) (.c (.int .i64 0))⟩,⟨some 41,none,.pick (.t 38) (.t 40) (.c (.bool false))⟩,⟨some 42,none,.mv (.t 41)⟩,⟨some 43,(some (42,true)),.mv (.t 6)⟩,⟨some 44,none,.pick (.t 42) (.t 43) (.c (.bool false))⟩,⟨some 45,none,.mv (.t 44)⟩,⟨some 46,(some (45,true)),.load (some 2) (.t 5)⟩,⟨some 47,(some (45,true)),.build [(.int .i64 0),(.int .i64 0)] [(0,1,(.c (.int .i64 1))),(1,1,(.c (.int .i64 2)))]⟩,⟨some 48,(some (45,true)),.eqs false [0,0] (.t 46) (.t 47)⟩,⟨some 49,none,.pick (.t 45) (.t 48) (.c (.bool false))⟩,⟨some 0,none,.mv (.t 49)⟩])
 (.ret)))))⟩
theorem c10:compF Go.Proofs.Tryz.prog 10=some a10:=by kernel_rfl
def a11 : AFn := ⟨73,[.c 2 (some 2)],.seq (.ops [⟨some 2,none,.alloc 28 [(.lit true 0 []),(.str [])]⟩])
 (.seq (.ops [⟨some 6,none,.mv (.t 0)⟩,⟨some 7,none,.call 41 [(.t 6),(.c (.int .i64 1)),(.c (.int .i64 6))]⟩,⟨some 3,none,.mv (.t 7)⟩])
 (.seq (.ops [⟨some 8,none,.mv (.t 0)⟩,⟨some 9,none,.bslice 9 1 5 [(.str [])] [(0,1,(.c (.str [49]))),(1,1,(.c (.str [49]))),(2,1,(.c (.str [49,50]))),(3,1,(.c (.str [49,97]))),(4,1,(.c (.str [])))]⟩,⟨some 10,none,.call 42 [(.t 8),(.t 9)]⟩,⟨some 11,none,.build [(.lit true 0 []),(.str [])] [(1,1,(.t 10))]⟩,⟨some 4,none,.alloc 28 [(.lit true 0 []),(.str [])]⟩,⟨none,none,.store 2 (.t 4) (.t 11)⟩])
 (.seq (.seq (.ops [⟨some 12,none,.mv (.t 0)⟩,⟨some 13,none,.call 41 [(.t 12),(.c (.int .i64 1)),(.c (.int .i64 6))]⟩,⟨some 14,none,.mv (.c (.int .i64 0))⟩])
 (.block 0 (.loop (.seq (.ops [⟨some 15,none,.bin 0 .lss (.t 14) (.t 13)⟩])
 (.seq (.cond (.t 15) (.skip) (.exit 0))
 (.seq (.block 1 (.seq (.ops [⟨some 5,none,.mv (.c (.str []))⟩])
 (.seq (.seq (.ops [⟨some 16,none,.mv (.t 3)⟩,⟨some 17,none,.mv (.c (.int .i64 0))⟩])
 (.block 2 (.loop (.seq (.ops [⟨some 18,none,.bin 0 .lss (.t 17) (.t 16)⟩])
 (.seq (.cond (.t 18) (.skip) (.exit 2))
 (.seq (.block 3 (.ops [⟨some 19,none,.mv (.t 5)⟩,⟨some 20,none,.mv (.t 0)⟩,⟨some 21,none,.bslice 9 1 10 [(.str [])] [(0,1,(.c (.str [49]))),(1,1,(.c (.str [49]))),(2,1,(.c (.str [49]))),(3,1,(.c (.str [120]))),(4,1,(.c (.str [120]))),(5,1,(.c (.str [63]))),(6,1,(.c (.str [46]))),(7,1,(.c (.str [42]))),(8,1,(.c (.str [50]))),(9,1,(.c (.str [97])))]⟩,⟨some 22,none,.call 42 [(.t 20),(.t 21)]⟩,⟨some 23,none,.bin 1 .add (.t 19) (.t 22)⟩,⟨some 5,none,.mv (.t 23)⟩]))
 (.ops [⟨some 24,none,.bin 0 .add (.t 17) (.c (.int .i64 1))⟩,⟨some 17,none,.mv (.t 24)⟩])))))))
 (.ops [⟨some 25,none,.fadr 0 (.t 4)⟩,⟨some 26,none,.load none (.t 25)⟩,⟨some 27,none,.mv (.t 5)⟩,⟨some 28,none,.bslice 9 1 1 [(.str [])] [(0,1,(.t 27))]⟩,⟨some 29,none,.app 9 1 16 (.t 26) (.t 28)⟩,⟨some 30,none,.fadr 0 (.t 4)⟩,⟨none,none,.store 1 (.t 30) (.t 29)⟩]))))
 (.ops [⟨some 31,none,.bin 0 .add (.t 14) (.c (.int .i64 1))⟩,⟨some 14,none,.mv (.t 31)⟩])))))))
 (.seq (.seq (.ops [⟨some 32,none,.mv (.t 0)⟩,⟨some 33,none,.call 43 [(.t 32),(.c (.int .i64 12))]⟩])
 (.cond (.t 33) (.seq (.ops [⟨some 34,none,.mv (.t 0)⟩,⟨some 35,none,.call 44 [(.t 34),(.c (.int .i64 3))]⟩])
 (.block 4 (.seq (.ops [⟨some 41,none,.bin 0 .eql (.t 35) (.c (.int .i64 0))⟩,⟨some 40,none,.mv (.t 41)⟩])
 (.cond (.t 40) (.any [(⟨some 42,none,.fadr 0 (.t 4)⟩,[]),(⟨some 43,none,.load none (.t 42)⟩,[]),(⟨some 44,none,.mv (.t 0)⟩,[0,1]),(⟨some 45,none,.fadr 0 (.t 4)⟩,[0,1,2]),(⟨some 46,none,.load none (.t 45)⟩,[0,1,2]),(⟨some 47,none,.len false (.t 46)⟩,[0,1,2]),(⟨some 48,none,.call 44 [(.t 44),(.t 47)]⟩,[0,1]),(⟨some 49,none,.iadr 1 (.t 43) (.t 48)⟩,[]),(⟨some 50,none,.load none (.t 49)⟩,[]),(⟨some 51,none,.mv (.t 0)⟩,[0,1,2,3,4,5,6,7,8]),(⟨some 52,none,.bslice 9 1 2 [(.str [])] [(0,1,(.c (.str [49]))),(1,1,(.c (.str [65])))]⟩,[0,1,2,3,4,5,6,7,8,9]),(⟨some 53,none,.call 42 [(.t 51),(.t 52)]⟩,[0,1,7,8]),(⟨some 54,none,.bin 1 .add (.t 50) (.t 53)⟩,[]),(⟨some 55,none,.iadr 1 (.t 43) (.t 48)⟩,[]),(⟨none,none,.store 1 (.t 55) (.t 54)⟩,[])]) (.seq (.ops [⟨some 57,none,.bin 0 .eql (.t 35) (.c (.int .i64 1))⟩,⟨some 56,none,.mv (.t 57)⟩])
 (.cond (.t 56) (.any [(⟨some 58,none,.fadr 0 (.t 4)⟩,[]),(⟨some 59,none,.load none (.t 58)⟩,[]),(⟨some 60,none,.mv (.t 0)⟩,[0,1]),(⟨some 61,none,.fadr 0 (.t 4)⟩,[0,1,2]),(⟨some 62,none,.load none (.t 61)⟩,[0,1,2]),(⟨some 63,none,.len false (.t 62)⟩,[0,1,2]),(⟨some 64,none,.call 44 [(.t 60),(.t 63)]⟩,[0,1]),(⟨some 65,none,.mv (.t 0)⟩,[0,1,2,3,4,5,6]),(⟨some 66,none,.bslice 9 1 3 [(.str [])] [(0,1,(.c (.str []))),(1,1,(.c (.str [65]))),(2,1,(.c (.str [32])))]⟩,[0,1,2,3,4,5,6,7]),(⟨some 67,none,.call 42 [(.t 65),(.t 66)]⟩,[0,1]),(⟨some 68,none,.iadr 1 (.t 59) (.t 64)⟩,[]),(⟨none,none,.store 1 (.t 68) (.t 67)⟩,[])]) (.ops [⟨some 36,none,.mv (.t 0)⟩,⟨some 37,none,.bslice 9 1 4 [(.str [])] [(0,1,(.c (.str [50,49]))),(1,1,(.c (.str [49,49]))),(2,1,(.c (.str [65]))),(3,1,(.c (.str [63])))]⟩,⟨some 38,none,.call 42 [(.t 36),(.t 37)]⟩,⟨some 39,none,.fadr 1 (.t 4)⟩,⟨none,none,.store 1 (.t 39) (.t 38)⟩]))))))) (.skip)))
 (.seq (.seq (.ops [⟨some 69,none,.mv (.t 0)⟩,⟨some 70,none,.call 43 [(.t 69),(.c (.int .i64 60))]⟩])
 (.cond (.t 70) (.ops [⟨some 71,none,.fadr 0 (.t 4)⟩,⟨none,none,.store 1 (.t 71) (.c (.lit true 0 []))⟩]) (.skip)))
 (.seq (.ops [⟨some 72,none,.load (some 2) (.t 4)⟩,⟨none,none,.store 2 (.t 2) (.t 72)⟩])
 (.ret)))))))⟩
theorem c11:compF Go.Proofs.Tryz.prog 11=some a11:=by kernel_rfl
def a13 : AFn := ⟨46,[.t 2],.seq (.ops [⟨some 1,none,.box 28 (.t 0)⟩,⟨some 2,none,.mv (.c (.int .i64 0))⟩])
 (.seq (.block 0 (.seq (.ops [⟨some 6,none,.fadr 0 (.t 1)⟩,⟨some 7,none,.load none (.t 6)⟩,⟨some 8,none,.len false (.t 7)⟩,⟨some 9,none,.bin 0 .eql (.t 8) (.c (.int .i64 0))⟩,⟨some 5,none,.mv (.t 9)⟩])
 (.cond (.t 5) (.seq (.ops [⟨some 2,none,.mv (.c (.int .i64 8))⟩])
 (.ret)) (.seq (.ops [⟨some 11,none,.fadr 0 (.t 1)⟩,⟨some 12,none,.load none (.t 11)⟩,⟨some 13,none,.len false (.t 12)⟩,⟨some 14,none,.bin 0 .gtr (.t 13) (.c (.int .i64 60))⟩,⟨some 10,none,.mv (.t 14)⟩])
 (.cond (.t 10) (.seq (.ops [⟨some 2,none,.mv (.c (.int .i64 2))⟩])
 (.ret)) (.skip))))))
 (.seq (.seq (.ops [⟨some 15,none,.fadr 0 (.t 1)⟩,⟨some 16,none,.load none (.t 15)⟩,⟨some 17,none,.len false (.t 16)⟩,⟨some 18,none,.mv (.c (.int .i64 0))⟩])
 (.block 1 (.loop (.seq (.ops [⟨some 19,none,.bin 0 .lss (.t 18) (.t 17)⟩])
 (.seq (.cond (.t 19) (.skip) (.exit 1))
 (.seq (.block 2 (.seq (.ops [⟨some 20,none,.iadr 1 (.t 16) (.t 18)⟩,⟨some 21,none,.load none (.t 20)⟩,⟨some 4,none,.mv (.t 21)⟩])
 (.block 3 (.seq (.ops [⟨some 23,none,.mv (.t 4)⟩,⟨some 24,none,.bin 1 .eql (.t 23) (.c (.str []))⟩,⟨some 22,none,.mv (.t 24)⟩])
 (.cond (.t 22) (.seq (.ops [⟨some 2,none,.mv (.c (.int .i64 8))⟩])
 (.ret)) (.seq (.ops [⟨some 26,none,.mv (.t 4)⟩,⟨some 27,none,.len true (.t 26)⟩,⟨some 28,none,.bin 0 .gtr (.t 27) (.c (.int .i64 60))⟩,⟨some 25,none,.mv (.t 28)⟩])
 (.cond (.t 25) (.seq (.ops [⟨some 2,none,.mv (.c (.int .i64 2))⟩])
 (.ret)) (.seq (.ops [⟨some 30,none,.mv (.t 4)⟩,⟨some 31,none,.len true (.t 30)⟩,⟨some 32,none,.fadr 0 (.t 1)⟩,⟨some 33,none,.load none (.t 32)⟩,⟨some 34,none,.iadr 1 (.t 33) (.c (.int .i64 0))⟩,⟨some 35,none,.load none (.t 34)⟩,⟨some 36,none,.len true (.t 35)⟩,⟨some 37,none,.bin 0 .neq (.t 31) (.t 36)⟩,⟨some 29,none,.mv (.t 37)⟩])
 (.cond (.t 29) (.seq (.ops [⟨some 2,none,.mv (.c (.int .i64 3))⟩])
 (.ret)) (.seq (.ops [⟨some 39,none,.mv (.t 4)⟩,⟨some 40,none,.s2b (.t 39)⟩,⟨some 41,none,.call 45 [(.t 40),(.c (.fn 46 []))]⟩,⟨some 38,none,.mv (.t 41)⟩])
 (.cond (.t 38) (.seq (.ops [⟨some 2,none,.mv (.c (.int .i64 9))⟩])
 (.ret)) (.skip))))))))))))
 (.ops [⟨some 42,none,.bin 0 .add (.t 18) (.c (.int .i64 1))⟩,⟨some 18,none,.mv (.t 42)⟩])))))))
 (.seq (.ops [⟨some 43,none,.fadr 1 (.t 1)⟩,⟨some 44,none,.load none (.t 43)⟩,⟨some 45,none,.call 48 [(.t 44)]⟩,⟨some 2,none,.mv (.t 45)⟩])
 (.ret))))⟩
theorem c13:compF Go.Proofs.Tryz.prog 13=some a13:=by kernel_rfl
def a14 : AFn := ⟨72,[.t 2],.seq (.ops [⟨some 1,none,.box 28 (.t 0)⟩,⟨some 2,none,.mv (.c (.int .i64 0))⟩])
 (.seq (.block 0 (.seq (.ops [⟨some 7,none,.fadr 0 (.t 1)⟩,⟨some 8,none,.load none (.t 7)⟩,⟨some 9,none,.len false (.t 8)⟩,⟨some 10,none,.bin 0 .eql (.t 9) (.c (.int .i64 0))⟩,⟨some 6,none,.mv (.t 10)⟩])
 (.cond (.t 6) (.seq (.ops [⟨some 2,none,.mv (.c (.int .i64 8))⟩])
 (.ret)) (.seq (.ops [⟨some 12,none,.fadr 0 (.t 1)⟩,⟨some 13,none,.load none (.t 12)⟩,⟨some 14,none,.len false (.t 13)⟩,⟨some 15,none,.bin 0 .gtr (.t 14) (.c (.int .i64 60))⟩,⟨some 11,none,.mv (.t 15)⟩])
 (.cond (.t 11) (.seq (.ops [⟨some 2,none,.mv (.c (.int .i64 2))⟩])
 (.ret)) (.skip))))))
 (.seq (.seq (.ops [⟨some 16,none,.fadr 0 (.t 1)⟩,⟨some 17,none,.load none (.t 16)⟩,⟨some 18,none,.len false (.t 17)⟩,⟨some 19,none,.mv (.c (.int .i64 0))⟩])
 (.block 1 (.loop (.seq (.ops [⟨some 20,none,.bin 0 .lss (.t 19) (.t 18)⟩])
 (.seq (.cond (.t 20) (.skip) (.exit 1))
 (.seq (.block 2 (.seq (.ops [⟨some 21,none,.iadr 1 (.t 17) (.t 19)⟩,⟨some 22,none,.load none (.t 21)⟩,⟨some 4,none,.mv (.t 22)⟩])
 (.block 3 (.seq (.ops [⟨some 24,none,.mv (.t 4)⟩,⟨some 25,none,.bin 1 .eql (.t 24) (.c (.str []))⟩,⟨some 23,none,.mv (.t 25)⟩])
 (.cond (.t 23) (.seq (.ops [⟨some 2,none,.mv (.c (.int .i64 8))⟩])
 (.ret)) (.seq (.ops [⟨some 27,none,.mv (.t 4)⟩,⟨some 28,none,.len true (.t 27)⟩,⟨some 29,none,.bin 0 .gtr (.t 28) (.c (.int .i64 60))⟩,⟨some 26,none,.mv (.t 29)⟩])
 (.cond (.t 26) (.seq (.ops [⟨some 2,none,.mv (.c (.int .i64 2))⟩])
 (.ret)) (.seq (.ops [⟨some 31,none,.mv (.t 4)⟩,⟨some 32,none,.len true (.t 31)⟩,⟨some 33,none,.fadr 0 (.t 1)⟩,⟨some 34,none,.load none (.t 33)⟩,⟨some 35,none,.iadr 1 (.t 34) (.c (.int .i64 0))⟩,⟨some 36,none,.load none (.t 35)⟩,⟨some 37,none,.len true (.t 36)⟩,⟨some 38,none,.bin 0 .neq (.t 32) (.t 37)⟩,⟨some 30,none,.mv (.t 38)⟩])
 (.cond (.t 30) (.seq (.ops [⟨some 2,none,.mv (.c (.int .i64 3))⟩])
 (.ret)) (.seq (.ops [⟨some 40,none,.mv (.t 4)⟩,⟨some 41,none,.call 49 [(.t 40)]⟩,⟨some 39,none,.mv (.t 41)⟩])
 (.cond (.t 39) (.seq (.ops [⟨some 2,none,.mv (.c (.int .i64 9))⟩])
 (.ret)) (.skip))))))))))))
 (.ops [⟨some 42,none,.bin 0 .add (.t 19) (.c (.int .i64 1))⟩,⟨some 19,none,.mv (.t 42)⟩])))))))
 (.seq (.seq (.ops [⟨some 43,none,.fadr 1 (.t 1)⟩,⟨some 44,none,.load none (.t 43)⟩,⟨some 45,none,.len true (.t 44)⟩,⟨some 46,none,.mv (.c (.int .i64 0))⟩])
 (.block 4 (.loop (.seq (.ops [⟨some 47,none,.bin 0 .lss (.t 46) (.t 45)⟩])
 (.seq (.cond (.t 47) (.skip) (.exit 4))
 (.seq (.block 5 (.seq (.ops [⟨some 48,none,.mv (.t 46)⟩,⟨some 5,none,.mv (.t 48)⟩])
 (.block 6 (.seq (.ops [⟨some 50,none,.fadr 1 (.t 1)⟩,⟨some 51,none,.load none (.t 50)⟩,⟨some 52,none,.mv (.t 5)⟩,⟨some 53,none,.idxs (.t 51) (.t 52)⟩,⟨some 54,none,.call 50 [(.t 53)]⟩,⟨some 55,none,.un .not (.t 54)⟩,⟨some 49,none,.mv (.t 55)⟩])
 (.cond (.t 49) (.seq (.ops [⟨some 2,none,.mv (.c (.int .i64 9))⟩])
 (.ret)) (.seq (.any [(⟨some 57,none,.mv (.t 5)⟩,[]),(⟨some 58,none,.bin 0 .gtr (.t 57) (.c (.int .i64 0))⟩,[]),(⟨some 59,none,.mv (.t 58)⟩,[]),(⟨some 60,(some (59,true)),.fadr 1 (.t 1)⟩,[]),(⟨some 61,(some (59,true)),.load none (.t 60)⟩,[]),(⟨some 62,(some (59,true)),.mv (.t 5)⟩,[3,4]),(⟨some 63,(some (59,true)),.idxs (.t 61) (.t 62)⟩,[]),(⟨some 64,(some (59,true)),.fadr 1 (.t 1)⟩,[3,4,5,6]),(⟨some 65,(some (59,true)),.load none (.t 64)⟩,[3,4,5,6]),(⟨some 66,(some (59,true)),.mv (.t 5)⟩,[3,4,5,6,7,8]),(⟨some 67,(some (59,true)),.bin 0 .sub (.t 66) (.c (.int .i64 1))⟩,[3,4,5,6,7,8]),(⟨some 68,(some (59,true)),.idxs (.t 65) (.t 67)⟩,[3,4,5,6]),(⟨some 69,(some (59,true)),.bin 0 .leq (.t 63) (.t 68)⟩,[]),(⟨some 70,none,.pick (.t 59) (.t 69) (.c (.bool false))⟩,[]),(⟨some 56,none,.mv (.t 70)⟩,[])])
 (.cond (.t 56) (.seq (.ops [⟨some 2,none,.mv (.c (.int .i64 7))⟩])
 (.ret)) (.skip))))))))
 (.ops [⟨some 71,none,.bin 0 .add (.t 46) (.c (.int .i64 1))⟩,⟨some 46,none,.mv (.t 71)⟩])))))))
 (.seq (.ops [⟨some 2,none,.mv (.c (.int .i64 0))⟩])
 (.ret)))))⟩
theorem c14:compF Go.Proofs.Tryz.prog 14=some a14:=by kernel_rfl
def a16 : AFn := ⟨27,[.c 2 (some 2),.t 3,.t 4],.seq (.ops [⟨some 1,none,.box 28 (.t 0)⟩,⟨some 2,none,.alloc 47 [(.int .i64 0),(.int .i64 0)]⟩,⟨some 3,none,.mv (.c (.bool false))⟩,⟨some 4,none,.mv (.c (.int .i64 0))⟩])
 (.seq (.seq (.ops [⟨some 8,none,.load (some 2) (.t 1)⟩,⟨some 9,none,.call 14 [(.t 8)]⟩,⟨some 5,none,.mv (.t 9)⟩])
 (.seq (.ops [⟨some 10,none,.mv (.t 5)⟩,⟨some 11,none,.bin 0 .neq (.t 10) (.c (.int .i64 0))⟩])
 (.cond (.t 11) (.seq (.ops [⟨some 12,none,.build [(.int .i64 0),(.int .i64 0)] []⟩,⟨some 13,none,.mv (.t 5)⟩,⟨none,none,.store 2 (.t 2) (.t 12)⟩,⟨some 3,none,.mv (.c (.bool false))⟩,⟨some 4,none,.mv (.t 13)⟩])
 (.ret)) (.skip))))
 (.seq (.any [(⟨some 15,none,.load (some 2) (.t 1)⟩,[]),(⟨some 16,none,.load (some 2) (.t 1)⟩,[0]),(⟨some 17,none,.call 51 [(.t 16)]⟩,[0]),(⟨some 18,none,.call 54 [(.t 15),(.t 17)]⟩,[]),(⟨some 14,none,.mv (.t 18)⟩,[]),(⟨some 19,none,.ext (.t 14) 0⟩,[]),(⟨some 20,none,.ext (.t 14) 1⟩,[5]),(⟨some 6,none,.mv (.t 19)⟩,[6]),(⟨some 7,none,.mv (.t 20)⟩,[])])
 (.seq (.seq (.ops [⟨some 21,none,.mv (.t 7)⟩,⟨some 22,none,.bin 0 .eql (.t 21) (.c (.int .i64 0))⟩])
 (.cond (.t 22) (.seq (.ops [⟨some 23,none,.build [(.int .i64 0),(.int .i64 0)] []⟩,⟨none,none,.store 2 (.t 2) (.t 23)⟩,⟨some 3,none,.mv (.c (.bool false))⟩,⟨some 4,none,.mv (.c (.int .i64 0))⟩])
 (.ret)) (.skip)))
 (.seq (.ops [⟨some 24,none,.mv (.t 6)⟩,⟨some 25,none,.mv (.t 7)⟩,⟨some 26,none,.call 55 [(.t 24),(.t 25)]⟩,⟨none,none,.store 2 (.t 2) (.t 26)⟩,⟨some 3,none,.mv (.c (.bool true))⟩,⟨some 4,none,.mv (.c (.int .i64 0))⟩])
 (.ret)))))⟩
theorem c16:compF Go.Proofs.Tryz.prog 16=some a16:=by kernel_rfl
def a23 : AFn := ⟨28,[.t 2],.seq (.ops [⟨some 1,none,.box 28 (.t 0)⟩,⟨some 2,none,.mv (.c (.str []))⟩])
 (.seq (.ops [⟨some 7,none,.fadr 1 (.t 1)⟩,⟨some 8,none,.load none (.t 7)⟩,⟨some 3,none,.mv (.t 8)⟩])
 (.seq (.seq (.ops [⟨some 9,none,.mv (.t 3)⟩,⟨some 10,none,.bin 1 .eql (.t 9) (.c (.str []))⟩])
 (.cond (.t 10) (.ops [⟨some 3,none,.mv (.c (.str [45]))⟩]) (.skip)))
 (.seq (.ops [⟨some 11,none,.mv (.t 3)⟩,⟨some 12,none,.bin 1 .add (.c (.str [112,97,115,115,32])) (.t 11)⟩,⟨some 13,none,.bin 1 .add (.t 12) (.c (.str [10]))⟩,⟨some 4,none,.mv (.t 13)⟩])
 (.seq (.seq (.ops [⟨some 14,none,.fadr 0 (.t 1)⟩,⟨some 15,none,.load none (.t 14)⟩,⟨some 16,none,.len false (.t 15)⟩,⟨some 17,none,.mv (.c (.int .i64 0))⟩])
 (.block 0 (.loop (.seq (.ops [⟨some 18,none,.bin 0 .lss (.t 17) (.t 16)⟩])
 (.seq (.cond (.t 18) (.skip) (.exit 0))
 (.seq (.block 1 (.seq (.ops [⟨some 19,none,.iadr 1 (.t 15) (.t 17)⟩,⟨some 20,none,.load none (.t 19)⟩,⟨some 6,none,.mv (.t 20)⟩])
 (.ops [⟨some 21,none,.mv (.t 4)⟩,⟨some 22,none,.mv (.t 6)⟩,⟨some 23,none,.call 72 [(.t 22)]⟩,⟨some 24,none,.bin 1 .add (.t 23) (.c (.str [10]))⟩,⟨some 25,none,.bin 1 .add (.t 21) (.t 24)⟩,⟨some 4,none,.mv (.t 25)⟩])))
 (.ops [⟨some 26,none,.bin 0 .add (.t 17) (.c (.int .i64 1))⟩,⟨some 17,none,.mv (.t 26)⟩])))))))
 (.seq (.ops [⟨some 27,none,.mv (.t 4)⟩,⟨some 2,none,.mv (.t 27)⟩])
 (.ret))))))⟩
theorem c23:compF Go.Proofs.Tryz.prog 23=some a23:=by kernel_rfl
def a27 : AFn := ⟨18,[.t 2],.seq (.ops [⟨some 2,none,.mv (.c (.str []))⟩])
 (.seq (.ops [⟨some 3,none,.mv (.c (.str []))⟩])
 (.seq (.seq (.ops [⟨some 6,none,.mv (.t 0)⟩,⟨some 7,none,.len false (.t 6)⟩,⟨some 8,none,.mv (.c (.int .i64 0))⟩])
 (.block 0 (.loop (.seq (.ops [⟨some 9,none,.bin 0 .lss (.t 8) (.t 7)⟩])
 (.seq (.cond (.t 9) (.skip) (.exit 0))
 (.seq (.block 1 (.seq (.ops [⟨some 10,none,.iadr 1 (.t 6) (.t 8)⟩,⟨some 11,none,.load none (.t 10)⟩,⟨some 5,none,.mv (.t 11)⟩])
 (.seq (.ops [⟨some 12,none,.mv (.t 5)⟩,⟨some 13,none,.mv (.t 3)⟩,⟨some 14,none,.bin 1 .neq (.t 12) (.t 13)⟩])
 (.cond (.t 14) (.seq (.ops [⟨some 15,none,.mv (.t 5)⟩,⟨some 2,none,.mv (.t 15)⟩])
 (.ret)) (.skip)))))
 (.ops [⟨some 16,none,.bin 0 .add (.t 8) (.c (.int .i64 1))⟩,⟨some 8,none,.mv (.t 16)⟩])))))))
 (.seq (.ops [⟨some 17,none,.mv (.t 3)⟩,⟨some 2,none,.mv (.t 17)⟩])
 (.ret))))⟩
theorem c27:compF Go.Proofs.Tryz.prog 27=some a27:=by kernel_rfl
def a28 : AFn := ⟨50,[.t 2],.seq (.ops [⟨some 2,none,.mv (.c (.str []))⟩])
 (.seq (.ops [⟨some 3,none,.mv (.c (.lit true 0 []))⟩])
 (.seq (.seq (.ops [⟨some 4,none,.mv (.c (.int .i64 0))⟩])
 (.block 0 (.loop (.seq (.seq (.ops [⟨some 7,none,.mv (.t 4)⟩,⟨some 8,none,.mv (.t 0)⟩,⟨some 9,none,.len true (.t 8)⟩,⟨some 10,none,.bin 0 .lss (.t 7) (.t 9)⟩])
 (.cond (.t 10) (.skip) (.exit 0)))
 (.block 1 (.seq (.ops [⟨some 11,none,.mv (.t 4)⟩,⟨some 5,none,.mv (.t 11)⟩])
 (.seq (.block 2 (.loop (.seq (.seq (.any [(⟨some 12,none,.mv (.t 5)⟩,[]),(⟨some 13,none,.mv (.t 0)⟩,[0]),(⟨some 14,none,.len true (.t 13)⟩,[0]),(⟨some 15,none,.bin 0 .lss (.t 12) (.t 14)⟩,[]),(⟨some 16,none,.mv (.t 15)⟩,[]),(⟨some 17,(some (16,true)),.mv (.t 0)⟩,[]),(⟨some 18,(some (16,true)),.mv (.t 5)⟩,[5]),(⟨some 19,(some (16,true)),.idxs (.t 17) (.t 18)⟩,[]),(⟨some 20,(some (16,true)),.mv (.t 0)⟩,[5,6,7]),(⟨some 21,(some (16,true)),.mv (.t 4)⟩,[5,6,7,8]),(⟨some 22,(some (16,true)),.idxs (.t 20) (.t 21)⟩,[5,6,7]),(⟨some 23,(some (16,true)),.bin 0 .eql (.t 19) (.t 22)⟩,[]),(⟨some 24,none,.pick (.t 16) (.t 23) (.c (.bool false))⟩,[])])
 (.cond (.t 24) (.skip) (.exit 2)))
 (.block 3 (.ops [⟨some 25,none,.mv (.t 5)⟩,⟨some 26,none,.bin 0 .add (.t 25) (.c (.int .i64 1))⟩,⟨some 5,none,.mv (.t 26)⟩])))))
 (.seq (.ops [⟨some 6,none,.mv (.c (.str []))⟩])
 (.seq (.seq (.ops [⟨some 27,none,.mv (.t 5)⟩,⟨some 28,none,.mv (.t 4)⟩,⟨some 29,none,.bin 0 .sub (.t 27) (.t 28)⟩,⟨some 30,none,.bin 0 .gtr (.t 29) (.c (.int .i64 1))⟩])
 (.cond (.t 30) (.ops [⟨some 31,none,.mv (.t 5)⟩,⟨some 32,none,.mv (.t 4)⟩,⟨some 33,none,.bin 0 .sub (.t 31) (.t 32)⟩,⟨some 34,none,.call 53 [(.t 33)]⟩,⟨some 6,none,.mv (.t 34)⟩]) (.skip)))
 (.seq (.ops [⟨some 35,none,.mv (.t 3)⟩,⟨some 36,none,.mv (.t 6)⟩,⟨some 37,none,.bin 1 .add (.t 36) (.c (.str [91]))⟩,⟨some 38,none,.mv (.t 0)⟩,⟨some 39,none,.mv (.t 4)⟩,⟨some 40,none,.mv (.t 4)⟩,⟨some 41,none,.bin 0 .add (.t 40) (.c (.int .i64 1))⟩,⟨some 42,none,.sls (.t 38) (some (.t 39)) (some (.t 41))⟩,⟨some 43,none,.bin 1 .add (.t 37) (.t 42)⟩,⟨some 44,none,.bin 1 .add (.t 43) (.c (.str [93]))⟩,⟨some 45,none,.bslice 9 1 1 [(.str [])] [(0,1,(.t 44))]⟩,⟨some 46,none,.app 9 1 16 (.t 35) (.t 45)⟩,⟨some 3,none,.mv (.t 46)⟩])
 (.ops [⟨some 47,none,.mv (.t 5)⟩,⟨some 4,none,.mv (.t 47)⟩])))))))))))
 (.seq (.ops [⟨some 48,none,.mv (.t 3)⟩,⟨some 49,none,.call 58 [(.t 48),(.c (.str [32]))]⟩,⟨some 2,none,.mv (.t 49)⟩])
 (.ret))))⟩
theorem c28:compF Go.Proofs.Tryz.prog 28=some a28:=by kernel_rfl
def a30 : AFn := ⟨39,[.t 4,.t 5],.seq (.ops [⟨some 4,none,.mv (.c (.int .i64 0))⟩,⟨some 5,none,.mv (.c (.bool false))⟩])
 (.seq (.ops [⟨some 11,none,.mv (.t 0)⟩,⟨some 12,none,.call 80 [(.t 11)]⟩,⟨some 10,none,.mv (.t 12)⟩,⟨some 13,none,.ext (.t 10) 0⟩,⟨some 14,none,.ext (.t 10) 1⟩,⟨some 6,none,.mv (.t 13)⟩,⟨some 7,none,.mv (.t 14)⟩])
 (.seq (.seq (.ops [⟨some 15,none,.mv (.t 6)⟩,⟨some 16,none,.len false (.t 15)⟩,⟨some 17,none,.mv (.c (.int .i64 0))⟩])
 (.block 0 (.loop (.seq (.ops [⟨some 18,none,.bin 0 .lss (.t 17) (.t 16)⟩])
 (.seq (.cond (.t 18) (.skip) (.exit 0))
 (.seq (.block 1 (.seq (.ops [⟨some 19,none,.mv (.t 17)⟩,⟨some 20,none,.iadr 1 (.t 15) (.t 17)⟩,⟨some 21,none,.load none (.t 20)⟩,⟨some 8,none,.mv (.t 19)⟩,⟨some 9,none,.mv (.t 21)⟩])
 (.seq (.ops [⟨some 22,none,.mv (.t 7)⟩,⟨some 23,none,.un .not (.t 22)⟩,⟨some 24,none,.mv (.t 23)⟩,⟨some 25,(some (24,true)),.mv (.t 8)⟩,⟨some 26,(some (24,true)),.mv (.t 6)⟩,⟨some 27,(some (24,true)),.len false (.t 26)⟩,⟨some 28,(some (24,true)),.bin 0 .sub (.t 27) (.c (.int .i64 1))⟩,⟨some 29,(some (24,true)),.bin 0 .eql (.t 25) (.t 28)⟩,⟨some 30,none,.pick (.t 24) (.t 29) (.c (.bool false))⟩,⟨some 31,none,.mv (.t 30)⟩,⟨some 32,(some (31,false)),.mv (.t 1)⟩,⟨some 33,(some (31,false)),.mv (.t 9)⟩,⟨some 34,(some (31,false)),.callv (.t 32) [(.t 33)]⟩,⟨some 35,(some (31,false)),.un .not (.t 34)⟩,⟨some 36,none,.pick (.t 31) (.c (.bool true)) (.t 35)⟩])
 (.cond (.t 36) (.seq (.ops [⟨some 37,none,.mv (.t 8)⟩,⟨some 4,none,.mv (.t 37)⟩,⟨some 5,none,.mv (.c (.bool false))⟩])
 (.ret)) (.skip)))))
 (.ops [⟨some 38,none,.bin 0 .add (.t 17) (.c (.int .i64 1))⟩,⟨some 17,none,.mv (.t 38)⟩])))))))
 (.seq (.ops [⟨some 4,none,.mv (.c (.int .i64 0))⟩,⟨some 5,none,.mv (.c (.bool true))⟩])
 (.ret))))⟩
theorem c30:compF Go.Proofs.Tryz.prog 30=some a30:=by kernel_rfl
def a31 : AFn := ⟨29,[.t 4],.seq (.ops [⟨some 4,none,.mv (.c (.bool false))⟩])
 (.seq (.ops [⟨some 6,none,.load none (.t 1)⟩,⟨some 7,none,.bin 0 .add (.t 6) (.c (.int .i64 1))⟩,⟨none,none,.store 1 (.t 1) (.t 7)⟩])
 (.seq (.seq (.ops [⟨some 8,none,.load none (.t 1)⟩,⟨some 9,none,.bin 0 .eql (.t 8) (.c (.int .i64 1))⟩])
 (.cond (.t 9) (.seq (.ops [⟨some 11,none,.mv (.t 0)⟩,⟨some 12,none,.call 32 [(.t 11)]⟩,⟨some 10,none,.mv (.t 12)⟩,⟨some 13,none,.ext (.t 10) 0⟩,⟨some 14,none,.ext (.t 10) 1⟩,⟨some 15,none,.fadr 1 (.t 2)⟩,⟨none,none,.store 1 (.t 15) (.t 13)⟩,⟨some 4,none,.mv (.t 14)⟩])
 (.seq (.ops [⟨some 16,none,.mv (.t 4)⟩,⟨some 4,none,.mv (.t 16)⟩])
 (.ret))) (.skip)))
 (.seq (.ops [⟨some 18,none,.mv (.t 0)⟩,⟨some 19,none,.call 33 [(.t 18)]⟩,⟨some 17,none,.mv (.t 19)⟩,⟨some 20,none,.ext (.t 17) 0⟩,⟨some 21,none,.ext (.t 17) 1⟩,⟨some 5,none,.mv (.t 20)⟩,⟨some 4,none,.mv (.t 21)⟩])
 (.seq (.ops [⟨some 22,none,.fadr 0 (.t 2)⟩,⟨some 23,none,.load none (.t 22)⟩,⟨some 24,none,.mv (.t 5)⟩,⟨some 25,none,.bslice 9 1 1 [(.str [])] [(0,1,(.t 24))]⟩,⟨some 26,none,.app 9 1 16 (.t 23) (.t 25)⟩,⟨some 27,none,.fadr 0 (.t 2)⟩,⟨none,none,.store 1 (.t 27) (.t 26)⟩])
 (.seq (.ops [⟨some 28,none,.mv (.t 4)⟩,⟨some 4,none,.mv (.t 28)⟩])
 (.ret))))))⟩
theorem c31:compF Go.Proofs.Tryz.prog 31=some a31:=by kernel_rfl
def a32 : AFn := ⟨32,[.t 2,.t 3],.seq (.ops [⟨some 2,none,.mv (.c (.str []))⟩,⟨some 3,none,.mv (.c (.bool false))⟩])
 (.seq (.ops [⟨some 7,none,.mv (.t 0)⟩,⟨some 8,none,.call 81 [(.t 7),(.c (.int .i64 2))]⟩,⟨some 6,none,.mv (.t 8)⟩,⟨some 9,none,.ext (.t 6) 0⟩,⟨some 10,none,.ext (.t 6) 1⟩,⟨some 4,none,.mv (.t 9)⟩,⟨some 5,none,.mv (.t 10)⟩])
 (.seq (.seq (.ops [⟨some 11,none,.mv (.t 5)⟩,⟨some 12,none,.un .not (.t 11)⟩,⟨some 13,none,.mv (.t 12)⟩,⟨some 14,(some (13,false)),.mv (.t 4)⟩,⟨some 15,(some (13,false)),.iadr 1 (.t 14) (.c (.int .i64 0))⟩,⟨some 16,(some (13,false)),.load none (.t 15)⟩,⟨some 17,(some (13,false)),.bin 1 .neq (.t 16) (.c (.str [112,97,115,115]))⟩,⟨some 18,none,.pick (.t 13) (.c (.bool true)) (.t 17)⟩,⟨some 19,none,.mv (.t 18)⟩,⟨some 20,(some (19,false)),.mv (.t 4)⟩,⟨some 21,(some (19,false)),.iadr 1 (.t 20) (.c (.int .i64 1))⟩,⟨some 22,(some (19,false)),.load none (.t 21)⟩,⟨some 23,(some (19,false)),.bin 1 .eql (.t 22) (.c (.str []))⟩,⟨some 24,none,.pick (.t 19) (.c (.bool true)) (.t 23)⟩])
 (.cond (.t 24) (.seq (.ops [⟨some 2,none,.mv (.c (.str []))⟩,⟨some 3,none,.mv (.c (.bool false))⟩])
 (.ret)) (.skip)))
 (.seq (.seq (.ops [⟨some 25,none,.mv (.t 4)⟩,⟨some 26,none,.iadr 1 (.t 25) (.c (.int .i64 1))⟩,⟨some 27,none,.load none (.t 26)⟩,⟨some 28,none,.bin 1 .eql (.t 27) (.c (.str [45]))⟩])
 (.cond (.t 28) (.seq (.ops [⟨some 2,none,.mv (.c (.str []))⟩,⟨some 3,none,.mv (.c (.bool true))⟩])
 (.ret)) (.skip)))
 (.seq (.ops [⟨some 29,none,.mv (.t 4)⟩,⟨some 30,none,.iadr 1 (.t 29) (.c (.int .i64 1))⟩,⟨some 31,none,.load none (.t 30)⟩,⟨some 2,none,.mv (.t 31)⟩,⟨some 3,none,.mv (.c (.bool true))⟩])
 (.ret)))))⟩
theorem c32:compF Go.Proofs.Tryz.prog 32=some a32:=by kernel_rfl
def a33 : AFn := ⟨42,[.t 2,.t 3],.seq (.ops [⟨some 2,none,.mv (.c (.str []))⟩,⟨some 3,none,.mv (.c (.bool false))⟩])
 (.seq (.ops [⟨some 4,none,.mv (.c (.str []))⟩])
 (.seq (.seq (.ops [⟨some 9,none,.mv (.t 0)⟩,⟨some 10,none,.call 82 [(.t 9),(.c (.str [32]))]⟩,⟨some 11,none,.len false (.t 10)⟩,⟨some 12,none,.mv (.c (.int .i64 0))⟩])
 (.block 0 (.loop (.seq (.ops [⟨some 13,none,.bin 0 .lss (.t 12) (.t 11)⟩])
 (.seq (.cond (.t 13) (.skip) (.exit 0))
 (.seq (.block 1 (.seq (.ops [⟨some 14,none,.iadr 1 (.t 10) (.t 12)⟩,⟨some 15,none,.load none (.t 14)⟩,⟨some 6,none,.mv (.t 15)⟩])
 (.seq (.ops [⟨some 17,none,.mv (.t 6)⟩,⟨some 18,none,.call 83 [(.t 17)]⟩,⟨some 16,none,.mv (.t 18)⟩,⟨some 19,none,.ext (.t 16) 0⟩,⟨some 20,none,.ext (.t 16) 1⟩,⟨some 7,none,.mv (.t 19)⟩,⟨some 8,none,.mv (.t 20)⟩])
 (.seq (.seq (.any [(⟨some 21,none,.mv (.t 8)⟩,[]),(⟨some 22,none,.un .not (.t 21)⟩,[]),(⟨some 23,none,.mv (.t 22)⟩,[]),(⟨some 24,(some (23,false)),.mv (.t 4)⟩,[]),(⟨some 25,(some (23,false)),.bin 1 .neq (.t 24) (.c (.str []))⟩,[]),(⟨some 26,(some (23,false)),.mv (.t 25)⟩,[]),(⟨some 27,(some (26,true)),.mv (.t 4)⟩,[]),(⟨some 28,(some (26,true)),.mv (.t 4)⟩,[6]),(⟨some 29,(some (26,true)),.len true (.t 28)⟩,[6]),(⟨some 30,(some (26,true)),.bin 0 .sub (.t 29) (.c (.int .i64 1))⟩,[6]),(⟨some 31,(some (26,true)),.idxs (.t 27) (.t 30)⟩,[]),(⟨some 32,(some (26,true)),.mv (.t 7)⟩,[6,7,8,9,10]),(⟨some 33,(some (26,true)),.idxs (.t 32) (.c (.int .i64 0))⟩,[6,7,8,9,10]),(⟨some 34,(some (26,true)),.bin 0 .eql (.t 31) (.t 33)⟩,[]),(⟨some 35,(some (23,false)),.pick (.t 26) (.t 34) (.c (.bool false))⟩,[]),(⟨some 36,none,.pick (.t 23) (.c (.bool true)) (.t 35)⟩,[])])
 (.cond (.t 36) (.seq (.ops [⟨some 2,none,.mv (.c (.str []))⟩,⟨some 3,none,.mv (.c (.bool false))⟩])
 (.ret)) (.skip)))
 (.ops [⟨some 37,none,.mv (.t 4)⟩,⟨some 38,none,.mv (.t 7)⟩,⟨some 39,none,.bin 1 .add (.t 37) (.t 38)⟩,⟨some 4,none,.mv (.t 39)⟩])))))
 (.ops [⟨some 40,none,.bin 0 .add (.t 12) (.c (.int .i64 1))⟩,⟨some 12,none,.mv (.t 40)⟩])))))))
 (.seq (.ops [⟨some 41,none,.mv (.t 4)⟩,⟨some 2,none,.mv (.t 41)⟩,⟨some 3,none,.mv (.c (.bool true))⟩])
 (.ret))))⟩
theorem c33:compF Go.Proofs.Tryz.prog 33=some a33:=by kernel_rfl
def a34 : AFn := ⟨9,[.t 4],.seq (.ops [⟨some 4,none,.mv (.c (.bool false))⟩])
 (.seq (.ops [⟨some 5,none,.mv (.t 0)⟩,⟨some 6,none,.mv (.t 1)⟩,⟨some 7,none,.call 84 [(.t 5),(.t 6)]⟩,⟨some 8,none,.bin 0 .geq (.t 7) (.c (.int .i64 0))⟩,⟨some 4,none,.mv (.t 8)⟩])
 (.ret))⟩
theorem c34:compF Go.Proofs.Tryz.prog 34=some a34:=by kernel_rfl
def a35 : AFn := ⟨6,[.t 2],.seq (.ops [⟨some 2,none,.mv (.c (.bool false))⟩])
 (.seq (.ops [⟨some 3,none,.mv (.t 0)⟩,⟨some 4,none,.len true (.t 3)⟩,⟨some 5,none,.bin 0 .gtr (.t 4) (.c (.int .i64 60))⟩,⟨some 2,none,.mv (.t 5)⟩])
 (.ret))⟩
theorem c35:compF Go.Proofs.Tryz.prog 35=some a35:=by kernel_rfl
def a36 : AFn := ⟨26,[.t 4],.seq (.ops [⟨some 4,none,.mv (.c (.bool false))⟩])
 (.seq (.seq (.ops [⟨some 6,none,.mv (.t 0)⟩,⟨some 7,none,.len false (.t 6)⟩,⟨some 8,none,.mv (.t 1)⟩,⟨some 9,none,.len false (.t 8)⟩,⟨some 10,none,.bin 0 .neq (.t 7) (.t 9)⟩])
 (.cond (.t 10) (.seq (.ops [⟨some 4,none,.mv (.c (.bool false))⟩])
 (.ret)) (.skip)))
 (.seq (.seq (.ops [⟨some 11,none,.mv (.t 0)⟩,⟨some 12,none,.len false (.t 11)⟩,⟨some 13,none,.mv (.c (.int .i64 0))⟩])
 (.block 0 (.loop (.seq (.ops [⟨some 14,none,.bin 0 .lss (.t 13) (.t 12)⟩])
 (.seq (.cond (.t 14) (.skip) (.exit 0))
 (.seq (.block 1 (.seq (.ops [⟨some 15,none,.mv (.t 13)⟩,⟨some 5,none,.mv (.t 15)⟩])
 (.seq (.any [(⟨some 16,none,.mv (.t 0)⟩,[]),(⟨some 17,none,.mv (.t 5)⟩,[0]),(⟨some 18,none,.iadr 1 (.t 16) (.t 17)⟩,[]),(⟨some 19,none,.load none (.t 18)⟩,[]),(⟨some 20,none,.mv (.t 1)⟩,[0,1,2,3]),(⟨some 21,none,.mv (.t 5)⟩,[0,1,2,3,4]),(⟨some 22,none,.iadr 1 (.t 20) (.t 21)⟩,[0,1,2,3]),(⟨some 23,none,.load none (.t 22)⟩,[0,1,2,3]),(⟨some 24,none,.bin 1 .neq (.t 19) (.t 23)⟩,[])])
 (.cond (.t 24) (.seq (.ops [⟨some 4,none,.mv (.c (.bool false))⟩])
 (.ret)) (.skip)))))
 (.ops [⟨some 25,none,.bin 0 .add (.t 13) (.c (.int .i64 1))⟩,⟨some 13,none,.mv (.t 25)⟩])))))))
 (.seq (.ops [⟨some 4,none,.mv (.c (.bool true))⟩])
 (.ret))))⟩
theorem c36:compF Go.Proofs.Tryz.prog 36=some a36:=by kernel_rfl
def a37 : AFn := ⟨12,[.t 4],.seq (.ops [⟨some 4,none,.mv (.c (.int .i64 0))⟩])
 (.seq (.ops [⟨some 5,none,.mv (.t 1)⟩,⟨some 6,none,.mv (.t 0)⟩,⟨some 7,none,.mv (.t 1)⟩,⟨some 8,none,.len false (.t 7)⟩,⟨some 9,none,.call 44 [(.t 6),(.t 8)]⟩,⟨some 10,none,.iadr 1 (.t 5) (.t 9)⟩,⟨some 11,none,.load none (.t 10)⟩,⟨some 4,none,.mv (.t 11)⟩])
 (.ret))⟩
theorem c37:compF Go.Proofs.Tryz.prog 37=some a37:=by kernel_rfl
def a38 : AFn := ⟨63,[.t 6],.seq (.ops [⟨some 6,none,.mv (.c (.str []))⟩])
 (.seq (.seq (.ops [⟨some 9,none,.mv (.t 1)⟩,⟨some 10,none,.bin 1 .eql (.t 9) (.c (.str []))⟩,⟨some 11,none,.mv (.t 10)⟩,⟨some 12,(some (11,false)),.mv (.t 2)⟩,⟨some 13,(some (11,false)),.bin 1 .eql (.t 12) (.c (.str []))⟩,⟨some 14,none,.pick (.t 11) (.c (.bool true)) (.t 13)⟩])
 (.cond (.t 14) (.seq (.ops [⟨some 15,none,.mv (.t 2)⟩,⟨some 6,none,.mv (.t 15)⟩])
 (.ret)) (.skip)))
 (.seq (.ops [⟨some 16,none,.mv (.t 0)⟩,⟨some 17,none,.mv (.t 1)⟩,⟨some 18,none,.len true (.t 17)⟩,⟨some 19,none,.call 44 [(.t 16),(.t 18)]⟩,⟨some 7,none,.mv (.t 19)⟩])
 (.seq (.ops [⟨some 20,none,.mv (.t 2)⟩,⟨some 21,none,.mv (.t 0)⟩,⟨some 22,none,.mv (.t 2)⟩,⟨some 23,none,.len true (.t 22)⟩,⟨some 24,none,.call 44 [(.t 21),(.t 23)]⟩,⟨some 25,none,.idxs (.t 20) (.t 24)⟩,⟨some 8,none,.mv (.t 25)⟩])
 (.seq (.seq (.ops [⟨some 26,none,.mv (.t 0)⟩,⟨some 27,none,.call 44 [(.t 26),(.c (.int .i64 3))]⟩])
 (.block 0 (.seq (.ops [⟨some 29,none,.bin 0 .eql (.t 27) (.c (.int .i64 0))⟩,⟨some 28,none,.mv (.t 29)⟩])
 (.cond (.t 28) (.seq (.any [(⟨some 30,none,.mv (.t 1)⟩,[]),(⟨some 31,none,.mv (.t 7)⟩,[0]),(⟨some 32,none,.sls (.t 30) none (some (.t 31))⟩,[]),(⟨some 33,none,.mv (.t 8)⟩,[0,1,2]),(⟨some 34,none,.conv .i32 (.t 33)⟩,[0,1,2]),(⟨some 35,none,.i2s (.t 34)⟩,[0,1,2]),(⟨some 36,none,.bin 1 .add (.t 32) (.t 35)⟩,[]),(⟨some 37,none,.mv (.t 1)⟩,[0,1,2,3,4,5,6]),(⟨some 38,none,.mv (.t 7)⟩,[0,1,2,3,4,5,6,7]),(⟨some 39,none,.bin 0 .add (.t 38) (.c (.int .i64 1))⟩,[0,1,2,3,4,5,6,7]),(⟨some 40,none,.sls (.t 37) (some (.t 39)) none⟩,[0,1,2,3,4,5,6]),(⟨some 41,none,.bin 1 .add (.t 36) (.t 40)⟩,[]),(⟨some 6,none,.mv (.t 41)⟩,[])])
 (.ret)) (.seq (.ops [⟨some 43,none,.bin 0 .eql (.t 27) (.c (.int .i64 1))⟩,⟨some 42,none,.mv (.t 43)⟩])
 (.cond (.t 42) (.seq (.any [(⟨some 44,none,.mv (.t 1)⟩,[]),(⟨some 45,none,.mv (.t 7)⟩,[0]),(⟨some 46,none,.sls (.t 44) none (some (.t 45))⟩,[]),(⟨some 47,none,.mv (.t 8)⟩,[0,1,2]),(⟨some 48,none,.conv .i32 (.t 47)⟩,[0,1,2]),(⟨some 49,none,.i2s (.t 48)⟩,[0,1,2]),(⟨some 50,none,.bin 1 .add (.t 46) (.t 49)⟩,[]),(⟨some 51,none,.mv (.t 1)⟩,[0,1,2,3,4,5,6]),(⟨some 52,none,.mv (.t 7)⟩,[0,1,2,3,4,5,6,7]),(⟨some 53,none,.sls (.t 51) (some (.t 52)) none⟩,[0,1,2,3,4,5,6]),(⟨some 54,none,.bin 1 .add (.t 50) (.t 53)⟩,[]),(⟨some 6,none,.mv (.t 54)⟩,[])])
 (.ret)) (.skip)))))))
 (.seq (.any [(⟨some 55,none,.mv (.t 1)⟩,[]),(⟨some 56,none,.mv (.t 7)⟩,[0]),(⟨some 57,none,.sls (.t 55) none (some (.t 56))⟩,[]),(⟨some 58,none,.mv (.t 1)⟩,[0,1,2]),(⟨some 59,none,.mv (.t 7)⟩,[0,1,2,3]),(⟨some 60,none,.bin 0 .add (.t 59) (.c (.int .i64 1))⟩,[0,1,2,3]),(⟨some 61,none,.sls (.t 58) (some (.t 60)) none⟩,[0,1,2]),(⟨some 62,none,.bin 1 .add (.t 57) (.t 61)⟩,[]),(⟨some 6,none,.mv (.t 62)⟩,[])])
 (.ret))))))⟩
theorem c38:compF Go.Proofs.Tryz.prog 38=some a38:=by kernel_rfl
def a39 : AFn := ⟨17,[.t 4,.t 5],.seq (.ops [⟨some 4,none,.mv (.c (.str []))⟩,⟨some 5,none,.mv (.c (.int .i64 0))⟩])
 (.seq (.seq (.ops [⟨some 6,none,.mv (.t 0)⟩,⟨some 7,none,.call 85 [(.t 6)]⟩,⟨some 8,none,.un .not (.t 7)⟩,⟨some 9,none,.mv (.t 8)⟩,⟨some 10,(some (9,false)),.mv (.t 1)⟩,⟨some 11,(some (9,false)),.call 85 [(.t 10)]⟩,⟨some 12,(some (9,false)),.un .not (.t 11)⟩,⟨some 13,none,.pick (.t 9) (.c (.bool true)) (.t 12)⟩])
 (.cond (.t 13) (.seq (.ops [⟨some 4,none,.mv (.c (.str []))⟩,⟨some 5,none,.mv (.c (.int .i64 1))⟩])
 (.ret)) (.skip)))
 (.seq (.ops [⟨some 14,none,.mv (.t 0)⟩,⟨some 15,none,.mv (.t 1)⟩,⟨some 16,none,.call 86 [(.t 14),(.t 15)]⟩,⟨some 4,none,.mv (.t 16)⟩,⟨some 5,none,.mv (.c (.int .i64 0))⟩])
 (.ret)))⟩
theorem c39:compF Go.Proofs.Tryz.prog 39=some a39:=by kernel_rfl
def a40 : AFn := ⟨30,[.t 2,.t 3],.seq (.ops [⟨some 1,none,.box 3 (.t 0)⟩,⟨some 2,none,.mv (.c (.lit true 0 []))⟩,⟨some 3,none,.mv (.c (.int .i64 0))⟩])
 (.seq (.seq (.ops [⟨some 8,none,.load none (.t 1)⟩,⟨some 9,none,.call 87 [(.t 8)]⟩,⟨some 4,none,.mv (.t 9)⟩])
 (.seq (.ops [⟨some 10,none,.mv (.t 4)⟩,⟨some 11,none,.bin 0 .neq (.t 10) (.c (.int .i64 0))⟩])
 (.cond (.t 11) (.seq (.ops [⟨some 12,none,.mv (.t 4)⟩,⟨some 2,none,.mv (.c (.lit true 0 []))⟩,⟨some 3,none,.mv (.t 12)⟩])
 (.ret)) (.skip))))
 (.seq (.ops [⟨some 13,none,.mkfn 89 [(.t 1)]⟩,⟨some 14,none,.call 88 [(.c (.int .i64 0)),(.t 13)]⟩,⟨some 5,none,.mv (.t 14)⟩])
 (.seq (.ops [⟨some 6,none,.mv (.c (.lit true 0 []))⟩])
 (.seq (.seq (.ops [⟨some 15,none,.load none (.t 1)⟩,⟨some 16,none,.mv (.c (.int .i64 0))⟩])
 (.block 0 (.loop (.seq (.ops [⟨some 17,none,.bin 0 .lss (.t 16) (.t 15)⟩])
 (.seq (.cond (.t 17) (.skip) (.exit 0))
 (.seq (.block 1 (.seq (.ops [⟨some 18,none,.mv (.t 16)⟩,⟨some 7,none,.mv (.t 18)⟩])
 (.ops [⟨some 19,none,.mv (.t 6)⟩,⟨some 20,none,.mv (.t 7)⟩,⟨some 21,none,.bin 0 .add (.t 20) (.c (.int .i64 1))⟩,⟨some 22,none,.mv (.t 5)⟩,⟨some 23,none,.call 90 [(.t 21),(.t 22)]⟩,⟨some 24,none,.bslice 9 1 1 [(.str [])] [(0,1,(.t 23))]⟩,⟨some 25,none,.app 9 1 16 (.t 19) (.t 24)⟩,⟨some 6,none,.mv (.t 25)⟩])))
 (.ops [⟨some 26,none,.bin 0 .add (.t 16) (.c (.int .i64 1))⟩,⟨some 16,none,.mv (.t 26)⟩])))))))
 (.seq (.ops [⟨some 27,none,.mv (.t 6)⟩,⟨some 28,none,.mv (.t 5)⟩,⟨some 29,none,.call 91 [(.t 27),(.t 28)]⟩,⟨some 2,none,.mv (.t 29)⟩,⟨some 3,none,.mv (.c (.int .i64 0))⟩])
 (.ret))))))⟩
theorem c40:compF Go.Proofs.Tryz.prog 40=some a40:=by kernel_rfl
def a41 : AFn := ⟨19,[.t 6],.seq (.ops [⟨some 6,none,.mv (.c (.int .i64 0))⟩])
 (.seq (.seq (.ops [⟨some 7,none,.mv (.t 2)⟩,⟨some 8,none,.mv (.t 1)⟩,⟨some 9,none,.bin 0 .lss (.t 7) (.t 8)⟩])
 (.cond (.t 9) (.seq (.ops [⟨some 10,none,.mv (.t 1)⟩,⟨some 6,none,.mv (.t 10)⟩])
 (.ret)) (.skip)))
 (.seq (.ops [⟨some 11,none,.mv (.t 1)⟩,⟨some 12,none,.mv (.t 0)⟩,⟨some 13,none,.mv (.t 2)⟩,⟨some 14,none,.mv (.t 1)⟩,⟨some 15,none,.bin 0 .sub (.t 13) (.t 14)⟩,⟨some 16,none,.bin 0 .add (.t 15) (.c (.int .i64 1))⟩,⟨some 17,none,.call 44 [(.t 12),(.t 16)]⟩,⟨some 18,none,.bin 0 .add (.t 11) (.t 17)⟩,⟨some 6,none,.mv (.t 18)⟩])
 (.ret)))⟩
theorem c41:compF Go.Proofs.Tryz.prog 41=some a41:=by kernel_rfl
def a42 : AFn := ⟨12,[.t 4],.seq (.ops [⟨some 4,none,.mv (.c (.str []))⟩])
 (.seq (.ops [⟨some 5,none,.mv (.t 1)⟩,⟨some 6,none,.mv (.t 0)⟩,⟨some 7,none,.mv (.t 1)⟩,⟨some 8,none,.len false (.t 7)⟩,⟨some 9,none,.call 44 [(.t 6),(.t 8)]⟩,⟨some 10,none,.iadr 1 (.t 5) (.t 9)⟩,⟨some 11,none,.load none (.t 10)⟩,⟨some 4,none,.mv (.t 11)⟩])
 (.ret))⟩
theorem c42:compF Go.Proofs.Tryz.prog 42=some a42:=by kernel_rfl
def a43 : AFn := ⟨9,[.t 4],.seq (.ops [⟨some 4,none,.mv (.c (.bool false))⟩])
 (.seq (.ops [⟨some 5,none,.mv (.t 0)⟩,⟨some 6,none,.mv (.t 1)⟩,⟨some 7,none,.call 44 [(.t 5),(.t 6)]⟩,⟨some 8,none,.bin 0 .eql (.t 7) (.c (.int .i64 0))⟩,⟨some 4,none,.mv (.t 8)⟩])
 (.ret))⟩
theorem c43:compF Go.Proofs.Tryz.prog 43=some a43:=by kernel_rfl
def a44 : AFn := ⟨64,[.t 4],.seq (.ops [⟨some 4,none,.mv (.c (.int .i64 0))⟩])
 (.seq (.ops [⟨some 7,none,.mv (.t 0)⟩,⟨some 8,none,.nilchk (.t 7)⟩,⟨some 9,none,.fadr 1 (.t 8)⟩,⟨some 10,none,.load none (.t 9)⟩,⟨some 11,none,.bin 0 .add (.t 10) (.c (.int .i64 1))⟩,⟨some 12,none,.nilchk (.t 7)⟩,⟨some 13,none,.fadr 1 (.t 12)⟩,⟨none,none,.store 1 (.t 13) (.t 11)⟩])
 (.seq (.seq (.ops [⟨some 14,none,.mv (.t 0)⟩,⟨some 15,none,.nilchk (.t 14)⟩,⟨some 16,none,.fadr 0 (.t 15)⟩,⟨some 17,none,.load none (.t 16)⟩,⟨some 18,none,.len false (.t 17)⟩,⟨some 19,none,.bin 0 .eql (.t 18) (.c (.int .i64 0))⟩])
 (.cond (.t 19) (.seq (.ops [⟨some 20,none,.mv (.t 0)⟩,⟨some 21,none,.nilchk (.t 20)⟩,⟨some 22,none,.fadr 1 (.t 21)⟩,⟨some 23,none,.load none (.t 22)⟩,⟨some 24,none,.bin 0 .mul (.t 23) (.c (.int .i64 7919))⟩,⟨some 25,none,.mv (.t 1)⟩,⟨some 26,none,.call 92 [(.t 24),(.t 25)]⟩,⟨some 4,none,.mv (.t 26)⟩])
 (.ret)) (.skip)))
 (.seq (.any [(⟨some 27,none,.mv (.t 0)⟩,[]),(⟨some 28,none,.nilchk (.t 27)⟩,[]),(⟨some 29,none,.fadr 1 (.t 28)⟩,[]),(⟨some 30,none,.load none (.t 29)⟩,[]),(⟨some 31,none,.bin 0 .sub (.t 30) (.c (.int .i64 1))⟩,[]),(⟨some 32,none,.mv (.t 0)⟩,[0,1,2,3,4]),(⟨some 33,none,.nilchk (.t 32)⟩,[0,1,2,3,4]),(⟨some 34,none,.fadr 0 (.t 33)⟩,[0,1,2,3,4]),(⟨some 35,none,.load none (.t 34)⟩,[0,1,2,3,4]),(⟨some 36,none,.len false (.t 35)⟩,[0,1,2,3,4]),(⟨some 37,none,.bin 0 .rem (.t 31) (.t 36)⟩,[]),(⟨some 5,none,.mv (.t 37)⟩,[])])
 (.seq (.any [(⟨some 38,none,.mv (.t 0)⟩,[]),(⟨some 39,none,.nilchk (.t 38)⟩,[]),(⟨some 40,none,.fadr 1 (.t 39)⟩,[]),(⟨some 41,none,.load none (.t 40)⟩,[]),(⟨some 42,none,.bin 0 .sub (.t 41) (.c (.int .i64 1))⟩,[]),(⟨some 43,none,.mv (.t 0)⟩,[0,1,2,3,4]),(⟨some 44,none,.nilchk (.t 43)⟩,[0,1,2,3,4]),(⟨some 45,none,.fadr 0 (.t 44)⟩,[0,1,2,3,4]),(⟨some 46,none,.load none (.t 45)⟩,[0,1,2,3,4]),(⟨some 47,none,.len false (.t 46)⟩,[0,1,2,3,4]),(⟨some 48,none,.bin 0 .quo (.t 42) (.t 47)⟩,[]),(⟨some 6,none,.mv (.t 48)⟩,[])])
 (.seq (.ops [⟨some 49,none,.mv (.t 0)⟩,⟨some 50,none,.nilchk (.t 49)⟩,⟨some 51,none,.fadr 0 (.t 50)⟩,⟨some 52,none,.load none (.t 51)⟩,⟨some 53,none,.mv (.t 5)⟩,⟨some 54,none,.iadr 1 (.t 52) (.t 53)⟩,⟨some 55,none,.load none (.t 54)⟩,⟨some 56,none,.call 92 [(.t 55),(.c (.int .i64 1073741824))]⟩,⟨some 57,none,.mv (.t 6)⟩,⟨some 58,none,.mv (.t 5)⟩,⟨some 59,none,.bin 0 .add (.c (.int .i64 7919)) (.t 58)⟩,⟨some 60,none,.bin 0 .mul (.t 57) (.t 59)⟩,⟨some 61,none,.bin 0 .add (.t 56) (.t 60)⟩,⟨some 62,none,.mv (.t 1)⟩,⟨some 63,none,.call 92 [(.t 61),(.t 62)]⟩,⟨some 4,none,.mv (.t 63)⟩])
 (.ret))))))⟩
theorem c44:compF Go.Proofs.Tryz.prog 44=some a44:=by kernel_rfl
def a45 : AFn := ⟨9,[.t 4],.seq (.ops [⟨some 4,none,.mv (.c (.bool false))⟩])
 (.seq (.ops [⟨some 5,none,.mv (.t 0)⟩,⟨some 6,none,.mv (.t 1)⟩,⟨some 7,none,.call 93 [(.t 5),(.t 6)]⟩,⟨some 8,none,.bin 0 .geq (.t 7) (.c (.int .i64 0))⟩,⟨some 4,none,.mv (.t 8)⟩])
 (.ret))⟩
theorem c45:compF Go.Proofs.Tryz.prog 45=some a45:=by kernel_rfl
def a46 : AFn := ⟨6,[.t 2],.seq (.ops [⟨some 2,none,.mv (.c (.bool false))⟩])
 (.seq (.ops [⟨some 3,none,.mv (.t 0)⟩,⟨some 4,none,.call 47 [(.t 3)]⟩,⟨some 5,none,.un .not (.t 4)⟩,⟨some 2,none,.mv (.t 5)⟩])
 (.ret))⟩
theorem c46:compF Go.Proofs.Tryz.prog 46=some a46:=by kernel_rfl
def a47 : AFn := ⟨18,[.t 2],.seq (.ops [⟨some 2,none,.mv (.c (.bool false))⟩])
 (.seq (.ops [⟨some 3,none,.mv (.t 0)⟩,⟨some 4,none,.call 94 [(.c (.str [48,49,50,51,52,53,54,55,56,57,97,98,99,100,101,102,103,104,105,106,107,108,109,110,111,112,113,114,115,116,117,118,119,120,121,122])),(.t 3)]⟩,⟨some 5,none,.bin 0 .geq (.t 4) (.c (.int .i64 0))⟩,⟨some 6,none,.mv (.t 5)⟩,⟨some 7,(some (6,false)),.mv (.t 0)⟩,⟨some 8,(some (6,false)),.bin 0 .eql (.t 7) (.c (.int .u8 46))⟩,⟨some 9,none,.pick (.t 6) (.c (.bool true)) (.t 8)⟩,⟨some 10,none,.mv (.t 9)⟩,⟨some 11,(some (10,false)),.mv (.t 0)⟩,⟨some 12,(some (10,false)),.bin 0 .eql (.t 11) (.c (.int .u8 63))⟩,⟨some 13,none,.pick (.t 10) (.c (.bool true)) (.t 12)⟩,⟨some 14,none,.mv (.t 13)⟩,⟨some 15,(some (14,false)),.mv (.t 0)⟩,⟨some 16,(some (14,false)),.bin 0 .eql (.t 15) (.c (.int .u8 42))⟩,⟨some 17,none,.pick (.t 14) (.c (.bool true)) (.t 16)⟩,⟨some 2,none,.mv (.t 17)⟩])
 (.ret))⟩
theorem c47:compF Go.Proofs.Tryz.prog 47=some a47:=by kernel_rfl
def a48 : AFn := ⟨29,[.t 2],.seq (.ops [⟨some 2,none,.mv (.c (.int .i64 0))⟩])
 (.seq (.seq (.ops [⟨some 4,none,.mv (.t 0)⟩,⟨some 5,none,.len true (.t 4)⟩,⟨some 6,none,.mv (.c (.int .i64 0))⟩])
 (.block 0 (.loop (.seq (.ops [⟨some 7,none,.bin 0 .lss (.t 6) (.t 5)⟩])
 (.seq (.cond (.t 7) (.skip) (.exit 0))
 (.seq (.block 1 (.seq (.ops [⟨some 8,none,.mv (.t 6)⟩,⟨some 3,none,.mv (.t 8)⟩])
 (.block 2 (.seq (.ops [⟨some 10,none,.mv (.t 0)⟩,⟨some 11,none,.mv (.t 3)⟩,⟨some 12,none,.idxs (.t 10) (.t 11)⟩,⟨some 13,none,.call 94 [(.c (.str [48,49,50,51,52,53,54,55,56,57,97,98,99,100,101,102,103,104,105,106,107,108,109,110,111,112,113,114,115,116,117,118,119,120,121,122])),(.t 12)]⟩,⟨some 14,none,.bin 0 .lss (.t 13) (.c (.int .i64 0))⟩,⟨some 9,none,.mv (.t 14)⟩])
 (.cond (.t 9) (.seq (.ops [⟨some 2,none,.mv (.c (.int .i64 9))⟩])
 (.ret)) (.seq (.any [(⟨some 16,none,.mv (.t 3)⟩,[]),(⟨some 17,none,.bin 0 .gtr (.t 16) (.c (.int .i64 0))⟩,[]),(⟨some 18,none,.mv (.t 17)⟩,[]),(⟨some 19,(some (18,true)),.mv (.t 0)⟩,[]),(⟨some 20,(some (18,true)),.mv (.t 3)⟩,[3]),(⟨some 21,(some (18,true)),.idxs (.t 19) (.t 20)⟩,[]),(⟨some 22,(some (18,true)),.mv (.t 0)⟩,[3,4,5]),(⟨some 23,(some (18,true)),.mv (.t 3)⟩,[3,4,5,6]),(⟨some 24,(some (18,true)),.bin 0 .sub (.t 23) (.c (.int .i64 1))⟩,[3,4,5,6]),(⟨some 25,(some (18,true)),.idxs (.t 22) (.t 24)⟩,[3,4,5]),(⟨some 26,(some (18,true)),.bin 0 .leq (.t 21) (.t 25)⟩,[]),(⟨some 27,none,.pick (.t 18) (.t 26) (.c (.bool false))⟩,[]),(⟨some 15,none,.mv (.t 27)⟩,[])])
 (.cond (.t 15) (.seq (.ops [⟨some 2,none,.mv (.c (.int .i64 7))⟩])
 (.ret)) (.skip))))))))
 (.ops [⟨some 28,none,.bin 0 .add (.t 6) (.c (.int .i64 1))⟩,⟨some 6,none,.mv (.t 28)⟩])))))))
 (.seq (.ops [⟨some 2,none,.mv (.c (.int .i64 0))⟩])
 (.ret)))⟩
theorem c48:compF Go.Proofs.Tryz.prog 48=some a48:=by kernel_rfl
def a49 : AFn := ⟨6,[.t 2],.seq (.ops [⟨some 2,none,.mv (.c (.bool false))⟩])
 (.seq (.ops [⟨some 3,none,.mv (.t 0)⟩,⟨some 4,none,.s2b (.t 3)⟩,⟨some 5,none,.call 45 [(.t 4),(.c (.fn 95 []))]⟩,⟨some 2,none,.mv (.t 5)⟩])
 (.ret))⟩
theorem c49:compF Go.Proofs.Tryz.prog 49=some a49:=by kernel_rfl
def a50 : AFn := ⟨17,[.t 2],.seq (.ops [⟨some 2,none,.mv (.c (.bool false))⟩])
 (.seq (.ops [⟨some 3,none,.mv (.t 0)⟩,⟨some 4,none,.bin 0 .geq (.t 3) (.c (.int .u8 48))⟩,⟨some 5,none,.mv (.t 4)⟩,⟨some 6,(some (5,true)),.mv (.t 0)⟩,⟨some 7,(some (5,true)),.bin 0 .leq (.t 6) (.c (.int .u8 57))⟩,⟨some 8,none,.pick (.t 5) (.t 7) (.c (.bool false))⟩,⟨some 9,none,.mv (.t 8)⟩,⟨some 10,(some (9,false)),.mv (.t 0)⟩,⟨some 11,(some (9,false)),.bin 0 .geq (.t 10) (.c (.int .u8 97))⟩,⟨some 12,(some (9,false)),.mv (.t 11)⟩,⟨some 13,(some (12,true)),.mv (.t 0)⟩,⟨some 14,(some (12,true)),.bin 0 .leq (.t 13) (.c (.int .u8 122))⟩,⟨some 15,(some (9,false)),.pick (.t 12) (.t 14) (.c (.bool false))⟩,⟨some 16,none,.pick (.t 9) (.c (.bool true)) (.t 15)⟩,⟨some 2,none,.mv (.t 16)⟩])
 (.ret))⟩
theorem c50:compF Go.Proofs.Tryz.prog 50=some a50:=by kernel_rfl
def a51 : AFn := ⟨29,[.t 2],.seq (.ops [⟨some 1,none,.box 28 (.t 0)⟩,⟨some 2,none,.mv (.c (.lit true 0 []))⟩])
 (.seq (.ops [⟨some 3,none,.mv (.c (.lit true 0 []))⟩])
 (.seq (.seq (.ops [⟨some 7,none,.fadr 0 (.t 1)⟩,⟨some 8,none,.load none (.t 7)⟩,⟨some 9,none,.len false (.t 8)⟩,⟨some 10,none,.mv (.c (.int .i64 0))⟩])
 (.block 0 (.loop (.seq (.ops [⟨some 11,none,.bin 0 .lss (.t 10) (.t 9)⟩])
 (.seq (.cond (.t 11) (.skip) (.exit 0))
 (.seq (.block 1 (.seq (.ops [⟨some 12,none,.mv (.t 10)⟩,⟨some 13,none,.iadr 1 (.t 8) (.t 10)⟩,⟨some 14,none,.load none (.t 13)⟩,⟨some 4,none,.mv (.t 12)⟩,⟨some 5,none,.mv (.t 14)⟩])
 (.seq (.ops [⟨some 15,none,.mv (.t 5)⟩,⟨some 16,none,.len true (.t 15)⟩,⟨some 17,none,.mv (.c (.int .i64 0))⟩])
 (.block 2 (.loop (.seq (.ops [⟨some 18,none,.bin 0 .lss (.t 17) (.t 16)⟩])
 (.seq (.cond (.t 18) (.skip) (.exit 2))
 (.seq (.block 3 (.seq (.ops [⟨some 19,none,.mv (.t 17)⟩,⟨some 6,none,.mv (.t 19)⟩])
 (.ops [⟨some 20,none,.mv (.t 3)⟩,⟨some 21,none,.mv (.t 6)⟩,⟨some 22,none,.mv (.t 4)⟩,⟨some 23,none,.build [(.int .i64 0),(.int .i64 0)] [(0,1,(.t 21)),(1,1,(.t 22))]⟩,⟨some 24,none,.bslice 40 2 1 [(.int .i64 0),(.int .i64 0)] [(0,2,(.t 23))]⟩,⟨some 25,none,.app 40 2 16 (.t 20) (.t 24)⟩,⟨some 3,none,.mv (.t 25)⟩])))
 (.ops [⟨some 26,none,.bin 0 .add (.t 17) (.c (.int .i64 1))⟩,⟨some 17,none,.mv (.t 26)⟩])))))))))
 (.ops [⟨some 27,none,.bin 0 .add (.t 10) (.c (.int .i64 1))⟩,⟨some 10,none,.mv (.t 27)⟩])))))))
 (.seq (.ops [⟨some 28,none,.mv (.t 3)⟩,⟨some 2,none,.mv (.t 28)⟩])
 (.ret))))⟩
theorem c51:compF Go.Proofs.Tryz.prog 51=some a51:=by kernel_rfl
def a52 : AFn := ⟨32,[.t 4],.seq (.ops [⟨some 2,none,.box 28 (.t 0)⟩,⟨some 3,none,.box 40 (.t 1)⟩,⟨some 4,none,.mv (.c (.int .u8 0))⟩])
 (.seq (.seq (.any [(⟨some 5,none,.fadr 1 (.t 3)⟩,[]),(⟨some 6,none,.load none (.t 5)⟩,[]),(⟨some 7,none,.fadr 0 (.t 2)⟩,[0,1]),(⟨some 8,none,.load none (.t 7)⟩,[0,1]),(⟨some 9,none,.len false (.t 8)⟩,[0,1]),(⟨some 10,none,.bin 0 .sub (.t 9) (.c (.int .i64 1))⟩,[0,1]),(⟨some 11,none,.call 56 [(.t 6),(.c (.int .i64 0)),(.t 10)]⟩,[]),(⟨some 12,none,.mv (.t 11)⟩,[]),(⟨some 13,(some (12,false)),.fadr 0 (.t 3)⟩,[]),(⟨some 14,(some (12,false)),.load none (.t 13)⟩,[]),(⟨some 15,(some (12,false)),.fadr 0 (.t 2)⟩,[8,9]),(⟨some 16,(some (12,false)),.load none (.t 15)⟩,[8,9]),(⟨some 17,(some (12,false)),.iadr 1 (.t 16) (.c (.int .i64 0))⟩,[8,9]),(⟨some 18,(some (12,false)),.load none (.t 17)⟩,[8,9]),(⟨some 19,(some (12,false)),.len true (.t 18)⟩,[8,9]),(⟨some 20,(some (12,false)),.bin 0 .sub (.t 19) (.c (.int .i64 1))⟩,[8,9]),(⟨some 21,(some (12,false)),.call 56 [(.t 14),(.c (.int .i64 0)),(.t 20)]⟩,[]),(⟨some 22,none,.pick (.t 12) (.c (.bool true)) (.t 21)⟩,[])])
 (.cond (.t 22) (.seq (.ops [⟨some 4,none,.mv (.c (.int .u8 46))⟩])
 (.ret)) (.skip)))
 (.seq (.any [(⟨some 23,none,.fadr 0 (.t 2)⟩,[]),(⟨some 24,none,.load none (.t 23)⟩,[]),(⟨some 25,none,.fadr 1 (.t 3)⟩,[0,1]),(⟨some 26,none,.load none (.t 25)⟩,[0,1]),(⟨some 27,none,.iadr 1 (.t 24) (.t 26)⟩,[]),(⟨some 28,none,.load none (.t 27)⟩,[]),(⟨some 29,none,.fadr 0 (.t 3)⟩,[0,1,2,3,4,5]),(⟨some 30,none,.load none (.t 29)⟩,[0,1,2,3,4,5]),(⟨some 31,none,.idxs (.t 28) (.t 30)⟩,[]),(⟨some 4,none,.mv (.t 31)⟩,[])])
 (.ret)))⟩
theorem c52:compF Go.Proofs.Tryz.prog 52=some a52:=by kernel_rfl
def a54 : AFn := ⟨30,[.t 4,.t 5],.seq (.ops [⟨some 2,none,.box 28 (.t 0)⟩,⟨some 4,none,.mv (.c (.int .i64 0))⟩,⟨some 5,none,.mv (.c (.int .i64 0))⟩])
 (.seq (.seq (.ops [⟨some 9,none,.mv (.t 1)⟩,⟨some 10,none,.len false (.t 9)⟩,⟨some 11,none,.mv (.c (.int .i64 0))⟩])
 (.block 0 (.loop (.seq (.ops [⟨some 12,none,.bin 0 .lss (.t 11) (.t 10)⟩])
 (.seq (.cond (.t 12) (.skip) (.exit 0))
 (.seq (.block 1 (.seq (.ops [⟨some 13,none,.iadr 2 (.t 9) (.t 11)⟩,⟨some 14,none,.load (some 2) (.t 13)⟩,⟨some 7,none,.alloc 40 [(.int .i64 0),(.int .i64 0)]⟩,⟨none,none,.store 2 (.t 7) (.t 14)⟩])
 (.seq (.ops [⟨some 15,none,.load (some 2) (.t 2)⟩,⟨some 16,none,.load (some 2) (.t 7)⟩,⟨some 17,none,.call 52 [(.t 15),(.t 16)]⟩,⟨some 8,none,.mv (.t 17)⟩])
 (.seq (.seq (.ops [⟨some 18,none,.mv (.t 8)⟩,⟨some 19,none,.call 98 [(.t 18)]⟩])
 (.cond (.t 19) (.ops [⟨some 20,none,.mv (.t 5)⟩,⟨some 21,none,.bin 0 .add (.t 20) (.c (.int .i64 1))⟩,⟨some 5,none,.mv (.t 21)⟩]) (.skip)))
 (.seq (.ops [⟨some 22,none,.load (some 2) (.t 2)⟩,⟨some 23,none,.mv (.t 8)⟩,⟨some 24,none,.call 99 [(.t 22),(.t 23)]⟩])
 (.cond (.t 24) (.ops [⟨some 25,none,.mv (.t 4)⟩,⟨some 26,none,.bin 0 .add (.t 25) (.c (.int .i64 1))⟩,⟨some 4,none,.mv (.t 26)⟩]) (.skip)))))))
 (.ops [⟨some 27,none,.bin 0 .add (.t 11) (.c (.int .i64 1))⟩,⟨some 11,none,.mv (.t 27)⟩])))))))
 (.seq (.ops [⟨some 28,none,.mv (.t 4)⟩,⟨some 29,none,.mv (.t 5)⟩,⟨some 4,none,.mv (.t 28)⟩,⟨some 5,none,.mv (.t 29)⟩])
 (.ret)))⟩
theorem c54:compF Go.Proofs.Tryz.prog 54=some a54:=by kernel_rfl
def a55 : AFn := ⟨19,[.c 4 (some 2)],.seq (.ops [⟨some 4,none,.alloc 47 [(.int .i64 0),(.int .i64 0)]⟩])
 (.seq (.ops [⟨some 6,none,.mv (.t 0)⟩,⟨some 7,none,.mv (.t 0)⟩,⟨some 8,none,.un .neg (.t 7)⟩,⟨some 9,none,.mm true (.t 6) [(.t 8)]⟩,⟨some 10,none,.mv (.t 1)⟩,⟨some 11,none,.call 100 [(.t 9),(.t 10)]⟩,⟨some 5,none,.mv (.t 11)⟩])
 (.seq (.any [(⟨some 12,none,.mv (.t 0)⟩,[]),(⟨some 13,none,.mv (.t 5)⟩,[0]),(⟨some 14,none,.bin 0 .quo (.t 12) (.t 13)⟩,[]),(⟨some 15,none,.mv (.t 1)⟩,[0,1,2]),(⟨some 16,none,.mv (.t 5)⟩,[0,1,2,3]),(⟨some 17,none,.bin 0 .quo (.t 15) (.t 16)⟩,[0,1,2]),(⟨some 18,none,.build [(.int .i64 0),(.int .i64 0)] [(0,1,(.t 14)),(1,1,(.t 17))]⟩,[]),(⟨none,none,.store 2 (.t 4) (.t 18)⟩,[])])
 (.ret)))⟩
theorem c55:compF Go.Proofs.Tryz.prog 55=some a55:=by kernel_rfl
def a56 : AFn := ⟨15,[.t 6],.seq (.ops [⟨some 6,none,.mv (.c (.bool false))⟩])
 (.seq (.ops [⟨some 7,none,.mv (.t 0)⟩,⟨some 8,none,.mv (.t 1)⟩,⟨some 9,none,.bin 0 .lss (.t 7) (.t 8)⟩,⟨some 10,none,.mv (.t 9)⟩,⟨some 11,(some (10,false)),.mv (.t 0)⟩,⟨some 12,(some (10,false)),.mv (.t 2)⟩,⟨some 13,(some (10,false)),.bin 0 .gtr (.t 11) (.t 12)⟩,⟨some 14,none,.pick (.t 10) (.c (.bool true)) (.t 13)⟩,⟨some 6,none,.mv (.t 14)⟩])
 (.ret))⟩
theorem c56:compF Go.Proofs.Tryz.prog 56=some a56:=by kernel_rfl
def a72 : AFn := ⟨52,[.t 2],.seq (.ops [⟨some 2,none,.mv (.c (.str []))⟩])
 (.seq (.ops [⟨some 3,none,.mv (.c (.lit true 0 []))⟩])
 (.seq (.seq (.ops [⟨some 4,none,.mv (.c (.int .i64 0))⟩])
 (.block 0 (.loop (.seq (.seq (.ops [⟨some 7,none,.mv (.t 4)⟩,⟨some 8,none,.mv (.t 0)⟩,⟨some 9,none,.len true (.t 8)⟩,⟨some 10,none,.bin 0 .lss (.t 7) (.t 9)⟩])
 (.cond (.t 10) (.skip) (.exit 0)))
 (.block 1 (.seq (.ops [⟨some 5,none,.mv (.c (.int .i64 1))⟩])
 (.seq (.block 2 (.loop (.seq (.seq (.any [(⟨some 11,none,.mv (.t 4)⟩,[]),(⟨some 12,none,.mv (.t 5)⟩,[0]),(⟨some 13,none,.bin 0 .add (.t 11) (.t 12)⟩,[]),(⟨some 14,none,.mv (.t 0)⟩,[0,1,2]),(⟨some 15,none,.len true (.t 14)⟩,[0,1,2]),(⟨some 16,none,.bin 0 .lss (.t 13) (.t 15)⟩,[]),(⟨some 17,none,.mv (.t 16)⟩,[]),(⟨some 18,(some (17,true)),.mv (.t 0)⟩,[]),(⟨some 19,(some (17,true)),.mv (.t 4)⟩,[7]),(⟨some 20,(some (17,true)),.mv (.t 5)⟩,[7,8]),(⟨some 21,(some (17,true)),.bin 0 .add (.t 19) (.t 20)⟩,[7]),(⟨some 22,(some (17,true)),.idxs (.t 18) (.t 21)⟩,[]),(⟨some 23,(some (17,true)),.mv (.t 0)⟩,[7,8,9,10,11]),(⟨some 24,(some (17,true)),.mv (.t 4)⟩,[7,8,9,10,11,12]),(⟨some 25,(some (17,true)),.idxs (.t 23) (.t 24)⟩,[7,8,9,10,11]),(⟨some 26,(some (17,true)),.bin 0 .eql (.t 22) (.t 25)⟩,[]),(⟨some 27,none,.pick (.t 17) (.t 26) (.c (.bool false))⟩,[])])
 (.cond (.t 27) (.skip) (.exit 2)))
 (.block 3 (.ops [⟨some 28,none,.mv (.t 5)⟩,⟨some 29,none,.bin 0 .add (.t 28) (.c (.int .i64 1))⟩,⟨some 5,none,.mv (.t 29)⟩])))))
 (.seq (.ops [⟨some 30,none,.mv (.t 0)⟩,⟨some 31,none,.mv (.t 4)⟩,⟨some 32,none,.mv (.t 4)⟩,⟨some 33,none,.bin 0 .add (.t 32) (.c (.int .i64 1))⟩,⟨some 34,none,.sls (.t 30) (some (.t 31)) (some (.t 33))⟩,⟨some 35,none,.bin 1 .add (.c (.str [91])) (.t 34)⟩,⟨some 36,none,.bin 1 .add (.t 35) (.c (.str [93]))⟩,⟨some 6,none,.mv (.t 36)⟩])
 (.seq (.seq (.ops [⟨some 37,none,.mv (.t 5)⟩,⟨some 38,none,.bin 0 .gtr (.t 37) (.c (.int .i64 1))⟩])
 (.cond (.t 38) (.ops [⟨some 39,none,.mv (.t 5)⟩,⟨some 40,none,.call 53 [(.t 39)]⟩,⟨some 41,none,.mv (.t 6)⟩,⟨some 42,none,.bin 1 .add (.t 40) (.t 41)⟩,⟨some 6,none,.mv (.t 42)⟩]) (.skip)))
 (.seq (.ops [⟨some 43,none,.mv (.t 3)⟩,⟨some 44,none,.mv (.t 6)⟩,⟨some 45,none,.bslice 9 1 1 [(.str [])] [(0,1,(.t 44))]⟩,⟨some 46,none,.app 9 1 16 (.t 43) (.t 45)⟩,⟨some 3,none,.mv (.t 46)⟩])
 (.ops [⟨some 47,none,.mv (.t 4)⟩,⟨some 48,none,.mv (.t 5)⟩,⟨some 49,none,.bin 0 .add (.t 47) (.t 48)⟩,⟨some 4,none,.mv (.t 49)⟩])))))))))))
 (.seq (.ops [⟨some 50,none,.mv (.t 3)⟩,⟨some 51,none,.call 58 [(.t 50),(.c (.str [32]))]⟩,⟨some 2,none,.mv (.t 51)⟩])
 (.ret))))⟩
theorem c72:compF Go.Proofs.Tryz.prog 72=some a72:=by kernel_rfl
def a80 : AFn := ⟨15,[.t 2,.t 3],.seq (.ops [⟨some 2,none,.mv (.c (.lit true 0 []))⟩,⟨some 3,none,.mv (.c (.bool false))⟩])
 (.seq (.seq (.ops [⟨some 5,none,.mv (.t 0)⟩,⟨some 6,none,.bin 1 .eql (.t 5) (.c (.str []))⟩])
 (.cond (.t 6) (.seq (.ops [⟨some 2,none,.mv (.c (.lit true 0 []))⟩,⟨some 3,none,.mv (.c (.bool true))⟩])
 (.ret)) (.skip)))
 (.seq (.ops [⟨some 8,none,.mv (.t 0)⟩,⟨some 9,none,.call 119 [(.t 8),(.c (.str [10]))]⟩,⟨some 7,none,.mv (.t 9)⟩,⟨some 10,none,.ext (.t 7) 0⟩,⟨some 11,none,.ext (.t 7) 1⟩,⟨some 4,none,.mv (.t 10)⟩,⟨some 3,none,.mv (.t 11)⟩])
 (.seq (.ops [⟨some 12,none,.mv (.t 4)⟩,⟨some 13,none,.call 82 [(.t 12),(.c (.str [10]))]⟩,⟨some 14,none,.mv (.t 3)⟩,⟨some 2,none,.mv (.t 13)⟩,⟨some 3,none,.mv (.t 14)⟩])
 (.ret))))⟩
theorem c80:compF Go.Proofs.Tryz.prog 80=some a80:=by kernel_rfl
def a81 : AFn := ⟨25,[.t 4,.t 5],.seq (.ops [⟨some 4,none,.mv (.c (.lit true 0 []))⟩,⟨some 5,none,.mv (.c (.bool false))⟩])
 (.seq (.ops [⟨some 9,none,.mv (.t 0)⟩,⟨some 10,none,.call 82 [(.t 9),(.c (.str [32]))]⟩,⟨some 6,none,.mv (.t 10)⟩])
 (.seq (.seq (.ops [⟨some 11,none,.mv (.t 6)⟩,⟨some 12,none,.len false (.t 11)⟩,⟨some 13,none,.mv (.t 1)⟩,⟨some 14,none,.bin 0 .neq (.t 12) (.t 13)⟩])
 (.cond (.t 14) (.seq (.ops [⟨some 4,none,.mv (.c (.lit true 0 []))⟩,⟨some 5,none,.mv (.c (.bool false))⟩])
 (.ret)) (.skip)))
 (.seq (.seq (.ops [⟨some 15,none,.mv (.t 6)⟩,⟨some 16,none,.len false (.t 15)⟩,⟨some 17,none,.mv (.c (.int .i64 0))⟩])
 (.block 0 (.loop (.seq (.ops [⟨some 18,none,.bin 0 .lss (.t 17) (.t 16)⟩])
 (.seq (.cond (.t 18) (.skip) (.exit 0))
 (.seq (.block 1 (.seq (.ops [⟨some 19,none,.iadr 1 (.t 15) (.t 17)⟩,⟨some 20,none,.load none (.t 19)⟩,⟨some 8,none,.mv (.t 20)⟩])
 (.seq (.ops [⟨some 21,none,.mv (.t 8)⟩,⟨some 22,none,.bin 1 .eql (.t 21) (.c (.str []))⟩])
 (.cond (.t 22) (.seq (.ops [⟨some 4,none,.mv (.c (.lit true 0 []))⟩,⟨some 5,none,.mv (.c (.bool false))⟩])
 (.ret)) (.skip)))))
 (.ops [⟨some 23,none,.bin 0 .add (.t 17) (.c (.int .i64 1))⟩,⟨some 17,none,.mv (.t 23)⟩])))))))
 (.seq (.ops [⟨some 24,none,.mv (.t 6)⟩,⟨some 4,none,.mv (.t 24)⟩,⟨some 5,none,.mv (.c (.bool true))⟩])
 (.ret)))))⟩
theorem c81:compF Go.Proofs.Tryz.prog 81=some a81:=by kernel_rfl
def a83 : AFn := ⟨51,[.t 2,.t 3],.seq (.ops [⟨some 2,none,.mv (.c (.str []))⟩,⟨some 3,none,.mv (.c (.bool false))⟩])
 (.seq (.ops [⟨some 9,none,.mv (.t 0)⟩,⟨some 10,none,.call 113 [(.t 9),(.c (.str [91]))]⟩,⟨some 8,none,.mv (.t 10)⟩,⟨some 11,none,.ext (.t 8) 0⟩,⟨some 12,none,.ext (.t 8) 1⟩,⟨some 13,none,.ext (.t 8) 2⟩,⟨some 4,none,.mv (.t 11)⟩,⟨some 5,none,.mv (.t 12)⟩,⟨some 6,none,.mv (.t 13)⟩])
 (.seq (.seq (.ops [⟨some 14,none,.mv (.t 6)⟩,⟨some 15,none,.un .not (.t 14)⟩,⟨some 16,none,.mv (.t 15)⟩,⟨some 17,(some (16,false)),.mv (.t 5)⟩,⟨some 18,(some (16,false)),.len true (.t 17)⟩,⟨some 19,(some (16,false)),.bin 0 .neq (.t 18) (.c (.int .i64 2))⟩,⟨some 20,none,.pick (.t 16) (.c (.bool true)) (.t 19)⟩,⟨some 21,none,.mv (.t 20)⟩,⟨some 22,(some (21,false)),.mv (.t 5)⟩,⟨some 23,(some (21,false)),.idxs (.t 22) (.c (.int .i64 1))⟩,⟨some 24,(some (21,false)),.bin 0 .neq (.t 23) (.c (.int .u8 93))⟩,⟨some 25,none,.pick (.t 21) (.c (.bool true)) (.t 24)⟩,⟨some 26,none,.mv (.t 25)⟩,⟨some 27,(some (26,false)),.mv (.t 5)⟩,⟨some 28,(some (26,false)),.idxs (.t 27) (.c (.int .i64 0))⟩,⟨some 29,(some (26,false)),.call 96 [(.t 28)]⟩,⟨some 30,(some (26,false)),.un .not (.t 29)⟩,⟨some 31,none,.pick (.t 26) (.c (.bool true)) (.t 30)⟩])
 (.cond (.t 31) (.seq (.ops [⟨some 2,none,.mv (.c (.str []))⟩,⟨some 3,none,.mv (.c (.bool false))⟩])
 (.ret)) (.skip)))
 (.seq (.seq (.ops [⟨some 32,none,.mv (.t 4)⟩,⟨some 33,none,.bin 1 .eql (.t 32) (.c (.str []))⟩])
 (.cond (.t 33) (.seq (.ops [⟨some 34,none,.mv (.t 5)⟩,⟨some 35,none,.sls (.t 34) none (some (.c (.int .i64 1)))⟩,⟨some 2,none,.mv (.t 35)⟩,⟨some 3,none,.mv (.c (.bool true))⟩])
 (.ret)) (.skip)))
 (.seq (.ops [⟨some 37,none,.mv (.t 4)⟩,⟨some 38,none,.call 121 [(.t 37),(.c (.int .i64 2))]⟩,⟨some 36,none,.mv (.t 38)⟩,⟨some 39,none,.ext (.t 36) 0⟩,⟨some 40,none,.ext (.t 36) 1⟩,⟨some 7,none,.mv (.t 39)⟩,⟨some 6,none,.mv (.t 40)⟩])
 (.seq (.seq (.ops [⟨some 41,none,.mv (.t 6)⟩,⟨some 42,none,.un .not (.t 41)⟩,⟨some 43,none,.mv (.t 42)⟩,⟨some 44,(some (43,false)),.mv (.t 7)⟩,⟨some 45,(some (43,false)),.call 56 [(.t 44),(.c (.int .i64 2)),(.c (.int .i64 60))]⟩,⟨some 46,none,.pick (.t 43) (.c (.bool true)) (.t 45)⟩])
 (.cond (.t 46) (.seq (.ops [⟨some 2,none,.mv (.c (.str []))⟩,⟨some 3,none,.mv (.c (.bool false))⟩])
 (.ret)) (.skip)))
 (.seq (.ops [⟨some 47,none,.mv (.t 5)⟩,⟨some 48,none,.sls (.t 47) none (some (.c (.int .i64 1)))⟩,⟨some 49,none,.mv (.t 7)⟩,⟨some 50,none,.call 117 [(.t 48),(.t 49)]⟩,⟨some 2,none,.mv (.t 50)⟩,⟨some 3,none,.mv (.c (.bool true))⟩])
 (.ret)))))))⟩
theorem c83:compF Go.Proofs.Tryz.prog 83=some a83:=by kernel_rfl
def a84 : AFn := ⟨19,[.t 4],.seq (.ops [⟨some 4,none,.mv (.c (.int .i64 0))⟩])
 (.seq (.seq (.ops [⟨some 6,none,.mv (.t 0)⟩,⟨some 7,none,.len false (.t 6)⟩,⟨some 8,none,.mv (.c (.int .i64 0))⟩])
 (.block 0 (.loop (.seq (.ops [⟨some 9,none,.bin 0 .lss (.t 8) (.t 7)⟩])
 (.seq (.cond (.t 9) (.skip) (.exit 0))
 (.seq (.block 1 (.seq (.ops [⟨some 10,none,.mv (.t 8)⟩,⟨some 5,none,.mv (.t 10)⟩])
 (.seq (.ops [⟨some 11,none,.mv (.t 1)⟩,⟨some 12,none,.mv (.t 0)⟩,⟨some 13,none,.mv (.t 5)⟩,⟨some 14,none,.iadr 1 (.t 12) (.t 13)⟩,⟨some 15,none,.load none (.t 14)⟩,⟨some 16,none,.callv (.t 11) [(.t 15)]⟩])
 (.cond (.t 16) (.seq (.ops [⟨some 17,none,.mv (.t 5)⟩,⟨some 4,none,.mv (.t 17)⟩])
 (.ret)) (.skip)))))
 (.ops [⟨some 18,none,.bin 0 .add (.t 8) (.c (.int .i64 1))⟩,⟨some 8,none,.mv (.t 18)⟩])))))))
 (.seq (.ops [⟨some 4,none,.mv (.c (.int .i64 (-1)))⟩])
 (.ret)))⟩
theorem c84:compF Go.Proofs.Tryz.prog 84=some a84:=by kernel_rfl
def a85 : AFn := ⟨6,[.t 2],.seq (.ops [⟨some 2,none,.mv (.c (.bool false))⟩])
 (.seq (.ops [⟨some 3,none,.mv (.t 0)⟩,⟨some 4,none,.call 56 [(.t 3),(.c (.int .i64 0)),(.c (.int .i64 15))]⟩,⟨some 5,none,.un .not (.t 4)⟩,⟨some 2,none,.mv (.t 5)⟩])
 (.ret))⟩
theorem c85:compF Go.Proofs.Tryz.prog 85=some a85:=by kernel_rfl
def a86 : AFn := ⟨57,[.t 4],.seq (.ops [⟨some 4,none,.mv (.c (.str []))⟩])
 (.seq (.ops [⟨some 12,none,.mmk (.i .i64) (.str [])⟩,⟨some 13,none,.mv (.t 0)⟩,⟨none,none,.mup (.i .i64) (.t 12) (.t 13) (.c (.str []))⟩,⟨some 14,none,.mv (.t 12)⟩,⟨some 5,none,.mv (.t 14)⟩])
 (.seq (.ops [⟨some 15,none,.mv (.t 0)⟩,⟨some 16,none,.bslice 3 1 1 [(.int .i64 0)] [(0,1,(.t 15))]⟩,⟨some 6,none,.mv (.t 16)⟩])
 (.seq (.block 0 (.loop (.seq (.seq (.ops [⟨some 17,none,.mv (.t 6)⟩,⟨some 18,none,.len false (.t 17)⟩,⟨some 19,none,.bin 0 .gtr (.t 18) (.c (.int .i64 0))⟩])
 (.cond (.t 19) (.skip) (.exit 0)))
 (.block 1 (.seq (.ops [⟨some 20,none,.mv (.t 6)⟩,⟨some 21,none,.iadr 1 (.t 20) (.c (.int .i64 0))⟩,⟨some 22,none,.load none (.t 21)⟩,⟨some 7,none,.mv (.t 22)⟩])
 (.seq (.ops [⟨some 23,none,.mv (.t 6)⟩,⟨some 24,none,.slc 1 (.t 23) (some (.c (.int .i64 1))) none⟩,⟨some 6,none,.mv (.t 24)⟩])
 (.seq (.ops [⟨some 25,none,.mv (.c (.int .i64 0))⟩])
 (.block 2 (.loop (.seq (.ops [⟨some 26,none,.bin 0 .lss (.t 25) (.c (.int .i64 2))⟩])
 (.seq (.cond (.t 26) (.skip) (.exit 2))
 (.seq (.block 3 (.seq (.ops [⟨some 27,none,.mv (.t 25)⟩,⟨some 8,none,.mv (.t 27)⟩])
 (.seq (.ops [⟨some 28,none,.mv (.t 7)⟩,⟨some 29,none,.mv (.t 8)⟩,⟨some 30,none,.call 122 [(.t 28),(.t 29)]⟩,⟨some 9,none,.mv (.t 30)⟩])
 (.seq (.ops [⟨some 32,none,.mv (.t 5)⟩,⟨some 33,none,.mv (.t 9)⟩,⟨some 34,none,.mlk true (.i .i64) (.str []) (.t 32) (.t 33)⟩,⟨some 31,none,.mv (.t 34)⟩,⟨some 35,none,.ext (.t 31) 0⟩,⟨some 36,none,.ext (.t 31) 1⟩,⟨some 10,none,.mv (.t 35)⟩,⟨some 11,none,.mv (.t 36)⟩])
 (.seq (.ops [⟨some 37,none,.mv (.t 11)⟩,⟨some 38,none,.un .not (.t 37)⟩])
 (.cond (.t 38) (.seq (.ops [⟨some 39,none,.mv (.t 5)⟩,⟨some 40,none,.mv (.t 9)⟩,⟨some 41,none,.mv (.t 5)⟩,⟨some 42,none,.mv (.t 7)⟩,⟨some 43,none,.mlk false (.i .i64) (.str []) (.t 41) (.t 42)⟩,⟨some 44,none,.mv (.t 8)⟩,⟨some 45,none,.bin 0 .add (.c (.int .i64 48)) (.t 44)⟩,⟨some 46,none,.conv .i32 (.t 45)⟩,⟨some 47,none,.i2s (.t 46)⟩,⟨some 48,none,.bin 1 .add (.t 43) (.t 47)⟩,⟨none,none,.mup (.i .i64) (.t 39) (.t 40) (.t 48)⟩])
 (.ops [⟨some 49,none,.mv (.t 6)⟩,⟨some 50,none,.mv (.t 9)⟩,⟨some 51,none,.bslice 3 1 1 [(.int .i64 0)] [(0,1,(.t 50))]⟩,⟨some 52,none,.app 3 1 8 (.t 49) (.t 51)⟩,⟨some 6,none,.mv (.t 52)⟩])) (.skip)))))))
 (.ops [⟨some 53,none,.bin 0 .add (.t 25) (.c (.int .i64 1))⟩,⟨some 25,none,.mv (.t 53)⟩])))))))))))))
 (.seq (.ops [⟨some 54,none,.mv (.t 5)⟩,⟨some 55,none,.mv (.t 1)⟩,⟨some 56,none,.mlk false (.i .i64) (.str []) (.t 54) (.t 55)⟩,⟨some 4,none,.mv (.t 56)⟩])
 (.ret)))))⟩
theorem c86:compF Go.Proofs.Tryz.prog 86=some a86:=by kernel_rfl
def a87 : AFn := ⟨5,[.t 2],.seq (.ops [⟨some 2,none,.mv (.c (.int .i64 0))⟩])
 (.seq (.seq (.ops [⟨some 3,none,.mv (.t 0)⟩,⟨some 4,none,.call 56 [(.t 3),(.c (.int .i64 1)),(.c (.int .i64 100))]⟩])
 (.cond (.t 4) (.seq (.ops [⟨some 2,none,.mv (.c (.int .i64 1))⟩])
 (.ret)) (.skip)))
 (.seq (.ops [⟨some 2,none,.mv (.c (.int .i64 0))⟩])
 (.ret)))⟩
theorem c87:compF Go.Proofs.Tryz.prog 87=some a87:=by kernel_rfl
def a88 : AFn := ⟨12,[.t 4],.seq (.ops [⟨some 4,none,.mv (.c (.int .i64 0))⟩])
 (.seq (.block 0 (.loop (.seq (.seq (.ops [⟨some 5,none,.mv (.t 1)⟩,⟨some 6,none,.mv (.t 0)⟩,⟨some 7,none,.callv (.t 5) [(.t 6)]⟩,⟨some 8,none,.un .not (.t 7)⟩])
 (.cond (.t 8) (.skip) (.exit 0)))
 (.block 1 (.ops [⟨some 9,none,.mv (.t 0)⟩,⟨some 10,none,.bin 0 .add (.t 9) (.c (.int .i64 1))⟩,⟨some 0,none,.mv (.t 10)⟩])))))
 (.seq (.ops [⟨some 11,none,.mv (.t 0)⟩,⟨some 4,none,.mv (.t 11)⟩])
 (.ret)))⟩
theorem c88:compF Go.Proofs.Tryz.prog 88=some a88:=by kernel_rfl
def a89 : AFn := ⟨9,[.t 3],.seq (.ops [⟨some 3,none,.mv (.c (.bool false))⟩])
 (.seq (.any [(⟨some 4,none,.mv (.t 0)⟩,[]),(⟨some 5,none,.bin 0 .shl (.c (.int .i64 1)) (.t 4)⟩,[]),(⟨some 6,none,.bin 0 .sub (.t 5) (.c (.int .i64 2))⟩,[]),(⟨some 7,none,.load none (.t 1)⟩,[0,1,2]),(⟨some 8,none,.bin 0 .geq (.t 6) (.t 7)⟩,[]),(⟨some 3,none,.mv (.t 8)⟩,[])])
 (.ret))⟩
theorem c89:compF Go.Proofs.Tryz.prog 89=some a89:=by kernel_rfl
def a90 : AFn := ⟨24,[.t 4],.seq (.ops [⟨some 4,none,.mv (.c (.str []))⟩])
 (.seq (.ops [⟨some 5,none,.mv (.c (.lit true 0 []))⟩])
 (.seq (.seq (.ops [⟨some 7,none,.mv (.t 1)⟩,⟨some 8,none,.bin 0 .sub (.t 7) (.c (.int .i64 1))⟩,⟨some 6,none,.mv (.t 8)⟩])
 (.block 0 (.loop (.seq (.seq (.ops [⟨some 9,none,.mv (.t 6)⟩,⟨some 10,none,.bin 0 .geq (.t 9) (.c (.int .i64 0))⟩])
 (.cond (.t 10) (.skip) (.exit 0)))
 (.seq (.block 1 (.ops [⟨some 13,none,.mv (.t 5)⟩,⟨some 14,none,.mv (.t 0)⟩,⟨some 15,none,.mv (.t 6)⟩,⟨some 16,none,.bin 0 .shr (.t 14) (.t 15)⟩,⟨some 17,none,.bin 0 .and (.t 16) (.c (.int .i64 1))⟩,⟨some 18,none,.bin 0 .add (.c (.int .i64 48)) (.t 17)⟩,⟨some 19,none,.conv .u8 (.t 18)⟩,⟨some 20,none,.bslice 5 1 1 [(.int .u8 0)] [(0,1,(.t 19))]⟩,⟨some 21,none,.app 5 1 1 (.t 13) (.t 20)⟩,⟨some 5,none,.mv (.t 21)⟩]))
 (.ops [⟨some 11,none,.mv (.t 6)⟩,⟨some 12,none,.bin 0 .sub (.t 11) (.c (.int .i64 1))⟩,⟨some 6,none,.mv (.t 12)⟩]))))))
 (.seq (.ops [⟨some 22,none,.mv (.t 5)⟩,⟨some 23,none,.b2s (.t 22)⟩,⟨some 4,none,.mv (.t 23)⟩])
 (.ret))))⟩
theorem c90:compF Go.Proofs.Tryz.prog 90=some a90:=by kernel_rfl
def a91 : AFn := ⟨38,[.t 4],.seq (.ops [⟨some 4,none,.mv (.c (.lit true 0 []))⟩])
 (.seq (.ops [⟨some 5,none,.mv (.c (.lit true 0 []))⟩])
 (.seq (.seq (.ops [⟨some 10,none,.mv (.t 1)⟩,⟨some 11,none,.mv (.c (.int .i64 0))⟩])
 (.block 0 (.loop (.seq (.ops [⟨some 12,none,.bin 0 .lss (.t 11) (.t 10)⟩])
 (.seq (.cond (.t 12) (.skip) (.exit 0))
 (.seq (.block 1 (.seq (.ops [⟨some 13,none,.mv (.t 11)⟩,⟨some 6,none,.mv (.t 13)⟩])
 (.seq (.ops [⟨some 14,none,.mv (.t 0)⟩,⟨some 15,none,.len false (.t 14)⟩,⟨some 16,none,.mks 5 1 1 [(.int .u8 0)] (.t 15)⟩,⟨some 7,none,.mv (.t 16)⟩])
 (.seq (.seq (.ops [⟨some 17,none,.mv (.t 0)⟩,⟨some 18,none,.len false (.t 17)⟩,⟨some 19,none,.mv (.c (.int .i64 0))⟩])
 (.block 2 (.loop (.seq (.ops [⟨some 20,none,.bin 0 .lss (.t 19) (.t 18)⟩])
 (.seq (.cond (.t 20) (.skip) (.exit 2))
 (.seq (.block 3 (.seq (.ops [⟨some 21,none,.mv (.t 19)⟩,⟨some 22,none,.iadr 1 (.t 17) (.t 19)⟩,⟨some 23,none,.load none (.t 22)⟩,⟨some 8,none,.mv (.t 21)⟩,⟨some 9,none,.mv (.t 23)⟩])
 (.ops [⟨some 24,none,.mv (.t 7)⟩,⟨some 25,none,.mv (.t 8)⟩,⟨some 26,none,.mv (.t 9)⟩,⟨some 27,none,.mv (.t 6)⟩,⟨some 28,none,.idxs (.t 26) (.t 27)⟩,⟨some 29,none,.iadr 1 (.t 24) (.t 25)⟩,⟨none,none,.store 1 (.t 29) (.t 28)⟩])))
 (.ops [⟨some 30,none,.bin 0 .add (.t 19) (.c (.int .i64 1))⟩,⟨some 19,none,.mv (.t 30)⟩])))))))
 (.ops [⟨some 31,none,.mv (.t 5)⟩,⟨some 32,none,.mv (.t 7)⟩,⟨some 33,none,.b2s (.t 32)⟩,⟨some 34,none,.bslice 9 1 1 [(.str [])] [(0,1,(.t 33))]⟩,⟨some 35,none,.app 9 1 16 (.t 31) (.t 34)⟩,⟨some 5,none,.mv (.t 35)⟩])))))
 (.ops [⟨some 36,none,.bin 0 .add (.t 11) (.c (.int .i64 1))⟩,⟨some 11,none,.mv (.t 36)⟩])))))))
 (.seq (.ops [⟨some 37,none,.mv (.t 5)⟩,⟨some 4,none,.mv (.t 37)⟩])
 (.ret))))⟩
theorem c91:compF Go.Proofs.Tryz.prog 91=some a91:=by kernel_rfl
def a92 : AFn := ⟨16,[.t 4],.seq (.ops [⟨some 4,none,.mv (.c (.int .i64 0))⟩])
 (.seq (.seq (.ops [⟨some 5,none,.mv (.t 1)⟩,⟨some 6,none,.bin 0 .lss (.t 5) (.c (.int .i64 1))⟩])
 (.cond (.t 6) (.seq (.ops [⟨some 4,none,.mv (.c (.int .i64 0))⟩])
 (.ret)) (.skip)))
 (.seq (.ops [⟨some 7,none,.mv (.t 0)⟩,⟨some 8,none,.mv (.t 1)⟩,⟨some 9,none,.bin 0 .rem (.t 7) (.t 8)⟩,⟨some 0,none,.mv (.t 9)⟩])
 (.seq (.seq (.ops [⟨some 10,none,.mv (.t 0)⟩,⟨some 11,none,.bin 0 .lss (.t 10) (.c (.int .i64 0))⟩])
 (.cond (.t 11) (.ops [⟨some 12,none,.mv (.t 0)⟩,⟨some 13,none,.mv (.t 1)⟩,⟨some 14,none,.bin 0 .add (.t 12) (.t 13)⟩,⟨some 0,none,.mv (.t 14)⟩]) (.skip)))
 (.seq (.ops [⟨some 15,none,.mv (.t 0)⟩,⟨some 4,none,.mv (.t 15)⟩])
 (.ret)))))⟩
theorem c92:compF Go.Proofs.Tryz.prog 92=some a92:=by kernel_rfl
def a93 : AFn := ⟨19,[.t 4],.seq (.ops [⟨some 4,none,.mv (.c (.int .i64 0))⟩])
 (.seq (.seq (.ops [⟨some 6,none,.mv (.t 0)⟩,⟨some 7,none,.len false (.t 6)⟩,⟨some 8,none,.mv (.c (.int .i64 0))⟩])
 (.block 0 (.loop (.seq (.ops [⟨some 9,none,.bin 0 .lss (.t 8) (.t 7)⟩])
 (.seq (.cond (.t 9) (.skip) (.exit 0))
 (.seq (.block 1 (.seq (.ops [⟨some 10,none,.mv (.t 8)⟩,⟨some 5,none,.mv (.t 10)⟩])
 (.seq (.ops [⟨some 11,none,.mv (.t 1)⟩,⟨some 12,none,.mv (.t 0)⟩,⟨some 13,none,.mv (.t 5)⟩,⟨some 14,none,.iadr 1 (.t 12) (.t 13)⟩,⟨some 15,none,.load none (.t 14)⟩,⟨some 16,none,.callv (.t 11) [(.t 15)]⟩])
 (.cond (.t 16) (.seq (.ops [⟨some 17,none,.mv (.t 5)⟩,⟨some 4,none,.mv (.t 17)⟩])
 (.ret)) (.skip)))))
 (.ops [⟨some 18,none,.bin 0 .add (.t 8) (.c (.int .i64 1))⟩,⟨some 8,none,.mv (.t 18)⟩])))))))
 (.seq (.ops [⟨some 4,none,.mv (.c (.int .i64 (-1)))⟩])
 (.ret)))⟩
theorem c93:compF Go.Proofs.Tryz.prog 93=some a93:=by kernel_rfl
def a94 : AFn := ⟨8,[.t 4],.seq (.ops [⟨some 4,none,.mv (.c (.int .i64 0))⟩])
 (.seq (.ops [⟨some 5,none,.mv (.t 0)⟩,⟨some 6,none,.mv (.t 1)⟩,⟨some 7,none,.call 123 [(.t 5),(.t 6)]⟩,⟨some 4,none,.mv (.t 7)⟩])
 (.ret))⟩
theorem c94:compF Go.Proofs.Tryz.prog 94=some a94:=by kernel_rfl
def a95 : AFn := ⟨6,[.t 2],.seq (.ops [⟨some 2,none,.mv (.c (.bool false))⟩])
 (.seq (.ops [⟨some 3,none,.mv (.t 0)⟩,⟨some 4,none,.call 96 [(.t 3)]⟩,⟨some 5,none,.un .not (.t 4)⟩,⟨some 2,none,.mv (.t 5)⟩])
 (.ret))⟩
theorem c95:compF Go.Proofs.Tryz.prog 95=some a95:=by kernel_rfl
def a96 : AFn := ⟨17,[.t 2],.seq (.ops [⟨some 2,none,.mv (.c (.bool false))⟩])
 (.seq (.ops [⟨some 3,none,.mv (.t 0)⟩,⟨some 4,none,.call 50 [(.t 3)]⟩,⟨some 5,none,.mv (.t 4)⟩,⟨some 6,(some (5,false)),.mv (.t 0)⟩,⟨some 7,(some (5,false)),.bin 0 .eql (.t 6) (.c (.int .u8 46))⟩,⟨some 8,none,.pick (.t 5) (.c (.bool true)) (.t 7)⟩,⟨some 9,none,.mv (.t 8)⟩,⟨some 10,(some (9,false)),.mv (.t 0)⟩,⟨some 11,(some (9,false)),.bin 0 .eql (.t 10) (.c (.int .u8 63))⟩,⟨some 12,none,.pick (.t 9) (.c (.bool true)) (.t 11)⟩,⟨some 13,none,.mv (.t 12)⟩,⟨some 14,(some (13,false)),.mv (.t 0)⟩,⟨some 15,(some (13,false)),.bin 0 .eql (.t 14) (.c (.int .u8 42))⟩,⟨some 16,none,.pick (.t 13) (.c (.bool true)) (.t 15)⟩,⟨some 2,none,.mv (.t 16)⟩])
 (.ret))⟩
theorem c96:compF Go.Proofs.Tryz.prog 96=some a96:=by kernel_rfl
def a98 : AFn := ⟨9,[.t 2],.seq (.ops [⟨some 2,none,.mv (.c (.bool false))⟩])
 (.seq (.ops [⟨some 3,none,.mv (.t 0)⟩,⟨some 4,none,.call 50 [(.t 3)]⟩,⟨some 5,none,.mv (.t 4)⟩,⟨some 6,(some (5,false)),.mv (.t 0)⟩,⟨some 7,(some (5,false)),.bin 0 .eql (.t 6) (.c (.int .u8 42))⟩,⟨some 8,none,.pick (.t 5) (.c (.bool true)) (.t 7)⟩,⟨some 2,none,.mv (.t 8)⟩])
 (.ret))⟩
theorem c98:compF Go.Proofs.Tryz.prog 98=some a98:=by kernel_rfl
def a99 : AFn := ⟨14,[.t 4],.seq (.ops [⟨some 2,none,.box 28 (.t 0)⟩,⟨some 4,none,.mv (.c (.bool false))⟩])
 (.seq (.ops [⟨some 5,none,.mv (.t 1)⟩,⟨some 6,none,.call 50 [(.t 5)]⟩,⟨some 7,none,.mv (.t 6)⟩,⟨some 8,(some (7,true)),.fadr 1 (.t 2)⟩,⟨some 9,(some (7,true)),.load none (.t 8)⟩,⟨some 10,(some (7,true)),.mv (.t 1)⟩,⟨some 11,(some (7,true)),.call 94 [(.t 9),(.t 10)]⟩,⟨some 12,(some (7,true)),.bin 0 .geq (.t 11) (.c (.int .i64 0))⟩,⟨some 13,none,.pick (.t 7) (.t 12) (.c (.bool false))⟩,⟨some 4,none,.mv (.t 13)⟩])
 (.ret))⟩
theorem c99:compF Go.Proofs.Tryz.prog 99=some a99:=by kernel_rfl
def a100 : AFn := ⟨12,[.t 4],.seq (.ops [⟨some 4,none,.mv (.c (.int .i64 0))⟩])
 (.seq (.block 0 (.loop (.seq (.seq (.ops [⟨some 5,none,.mv (.t 1)⟩,⟨some 6,none,.bin 0 .neq (.t 5) (.c (.int .i64 0))⟩])
 (.cond (.t 6) (.skip) (.exit 0)))
 (.block 1 (.any [(⟨some 7,none,.mv (.t 1)⟩,[]),(⟨some 8,none,.mv (.t 0)⟩,[0]),(⟨some 9,none,.mv (.t 1)⟩,[0,1]),(⟨some 10,none,.bin 0 .rem (.t 8) (.t 9)⟩,[0]),(⟨some 0,none,.mv (.t 7)⟩,[2,3]),(⟨some 1,none,.mv (.t 10)⟩,[])])))))
 (.seq (.ops [⟨some 11,none,.mv (.t 0)⟩,⟨some 4,none,.mv (.t 11)⟩])
 (.ret)))⟩
theorem c100:compF Go.Proofs.Tryz.prog 100=some a100:=by kernel_rfl
def a119 : AFn := ⟨11,[.t 4,.t 5],.seq (.ops [⟨some 4,none,.mv (.c (.str []))⟩,⟨some 5,none,.mv (.c (.bool false))⟩])
 (.seq (.ops [⟨some 6,none,.mv (.t 0)⟩,⟨some 7,none,.mv (.t 1)⟩,⟨some 8,none,.call 148 [(.t 6),(.t 7)]⟩,⟨some 9,none,.ext (.t 8) 0⟩,⟨some 10,none,.ext (.t 8) 1⟩,⟨some 4,none,.mv (.t 9)⟩,⟨some 5,none,.mv (.t 10)⟩])
 (.ret))⟩
theorem c119:compF Go.Proofs.Tryz.prog 119=some a119:=by kernel_rfl
def a121 : AFn := ⟨61,[.t 4,.t 5],.seq (.ops [⟨some 4,none,.mv (.c (.int .i64 0))⟩,⟨some 5,none,.mv (.c (.bool false))⟩])
 (.seq (.ops [⟨some 10,none,.mv (.t 0)⟩,⟨some 11,none,.call 141 [(.t 10),(.c (.str [45]))]⟩,⟨some 6,none,.mv (.t 11)⟩])
 (.seq (.seq (.ops [⟨some 12,none,.mv (.t 6)⟩,⟨some 13,none,.bin 1 .eql (.t 12) (.c (.str []))⟩,⟨some 14,none,.mv (.t 13)⟩,⟨some 15,(some (14,false)),.mv (.t 6)⟩,⟨some 16,(some (14,false)),.len true (.t 15)⟩,⟨some 17,(some (14,false)),.mv (.t 1)⟩,⟨some 18,(some (14,false)),.bin 0 .gtr (.t 16) (.t 17)⟩,⟨some 19,none,.pick (.t 14) (.c (.bool true)) (.t 18)⟩,⟨some 20,none,.mv (.t 19)⟩,⟨some 21,(some (20,false)),.mv (.t 6)⟩,⟨some 22,(some (20,false)),.idxs (.t 21) (.c (.int .i64 0))⟩,⟨some 23,(some (20,false)),.bin 0 .eql (.t 22) (.c (.int .u8 48))⟩,⟨some 24,(some (20,false)),.mv (.t 23)⟩,⟨some 25,(some (24,true)),.mv (.t 6)⟩,⟨some 26,(some (24,true)),.len true (.t 25)⟩,⟨some 27,(some (24,true)),.bin 0 .gtr (.t 26) (.c (.int .i64 1))⟩,⟨some 28,(some (24,true)),.mv (.t 27)⟩,⟨some 29,(some (28,false)),.mv (.t 0)⟩,⟨some 30,(some (28,false)),.len true (.t 29)⟩,⟨some 31,(some (28,false)),.mv (.t 6)⟩,⟨some 32,(some (28,false)),.len true (.t 31)⟩,⟨some 33,(some (28,false)),.bin 0 .gtr (.t 30) (.t 32)⟩,⟨some 34,(some (24,true)),.pick (.t 28) (.c (.bool true)) (.t 33)⟩,⟨some 35,(some (20,false)),.pick (.t 24) (.t 34) (.c (.bool false))⟩,⟨some 36,none,.pick (.t 20) (.c (.bool true)) (.t 35)⟩])
 (.cond (.t 36) (.seq (.ops [⟨some 4,none,.mv (.c (.int .i64 0))⟩,⟨some 5,none,.mv (.c (.bool false))⟩])
 (.ret)) (.skip)))
 (.seq (.seq (.ops [⟨some 37,none,.mv (.t 6)⟩,⟨some 38,none,.len true (.t 37)⟩,⟨some 39,none,.mv (.c (.int .i64 0))⟩])
 (.block 0 (.loop (.seq (.ops [⟨some 40,none,.bin 0 .lss (.t 39) (.t 38)⟩])
 (.seq (.cond (.t 40) (.skip) (.exit 0))
 (.seq (.block 1 (.seq (.ops [⟨some 41,none,.mv (.t 39)⟩,⟨some 7,none,.mv (.t 41)⟩])
 (.seq (.ops [⟨some 42,none,.mv (.t 6)⟩,⟨some 43,none,.mv (.t 7)⟩,⟨some 44,none,.idxs (.t 42) (.t 43)⟩,⟨some 45,none,.bin 0 .lss (.t 44) (.c (.int .u8 48))⟩,⟨some 46,none,.mv (.t 45)⟩,⟨some 47,(some (46,false)),.mv (.t 6)⟩,⟨some 48,(some (46,false)),.mv (.t 7)⟩,⟨some 49,(some (46,false)),.idxs (.t 47) (.t 48)⟩,⟨some 50,(some (46,false)),.bin 0 .gtr (.t 49) (.c (.int .u8 57))⟩,⟨some 51,none,.pick (.t 46) (.c (.bool true)) (.t 50)⟩])
 (.cond (.t 51) (.seq (.ops [⟨some 4,none,.mv (.c (.int .i64 0))⟩,⟨some 5,none,.mv (.c (.bool false))⟩])
 (.ret)) (.skip)))))
 (.ops [⟨some 52,none,.bin 0 .add (.t 39) (.c (.int .i64 1))⟩,⟨some 39,none,.mv (.t 52)⟩])))))))
 (.seq (.ops [⟨some 54,none,.mv (.t 0)⟩,⟨some 55,none,.call 143 [(.t 54)]⟩,⟨some 53,none,.mv (.t 55)⟩,⟨some 56,none,.ext (.t 53) 0⟩,⟨some 57,none,.ext (.t 53) 1⟩,⟨some 8,none,.mv (.t 56)⟩,⟨some 9,none,.mv (.t 57)⟩])
 (.seq (.any [(⟨some 58,none,.mv (.t 8)⟩,[]),(⟨some 59,none,.mv (.t 9)⟩,[0]),(⟨some 60,none,.bin 5 .eql (.t 59) (.c .nili)⟩,[0]),(⟨some 4,none,.mv (.t 58)⟩,[1,2]),(⟨some 5,none,.mv (.t 60)⟩,[])])
 (.ret))))))⟩
theorem c121:compF Go.Proofs.Tryz.prog 121=some a121:=by kernel_rfl
def a122 : AFn := ⟨28,[.t 4],.seq (.ops [⟨some 4,none,.mv (.c (.int .i64 0))⟩])
 (.seq (.ops [⟨some 6,none,.build [(.int .i64 0),(.int .i64 0)] [(0,1,(.c (.int .i64 1))),(1,1,(.c (.int .i64 0)))]⟩,⟨some 7,none,.build [(.int .i64 0),(.int .i64 0)] [(0,1,(.c (.int .i64 1))),(1,1,(.c (.int .i64 2)))]⟩,⟨some 8,none,.build [(.int .i64 0),(.int .i64 0)] [(0,1,(.c (.int .i64 3))),(1,1,(.c (.int .i64 9)))]⟩,⟨some 9,none,.build [(.int .i64 0),(.int .i64 0)] [(0,1,(.c (.int .i64 4))),(1,1,(.c (.int .i64 5)))]⟩,⟨some 10,none,.build [(.int .i64 0),(.int .i64 0)] [(0,1,(.c (.int .i64 4))),(1,1,(.c (.int .i64 5)))]⟩,⟨some 11,none,.build [(.int .i64 0),(.int .i64 0)] [(0,1,(.c (.int .i64 6))),(1,1,(.c (.int .i64 8)))]⟩,⟨some 12,none,.build [(.int .i64 0),(.int .i64 0)] [(0,1,(.c (.int .i64 6))),(1,1,(.c (.int .i64 7)))]⟩,⟨some 13,none,.build [(.int .i64 0),(.int .i64 0)] [(0,1,(.c (.int .i64 4))),(1,1,(.c (.int .i64 8)))]⟩,⟨some 14,none,.build [(.int .i64 0),(.int .i64 0)] [(0,1,(.c (.int .i64 1))),(1,1,(.c (.int .i64 2)))]⟩,⟨some 15,none,.build [(.int .i64 0),(.int .i64 0)] [(0,1,(.c (.int .i64 10))),(1,1,(.c (.int .i64 0)))]⟩,⟨some 16,none,.build [(.int .i64 0),(.int .i64 0)] [(0,1,(.c (.int .i64 11))),(1,1,(.c (.int .i64 12)))]⟩,⟨some 17,none,.build [(.int .i64 0),(.int .i64 0)] [(0,1,(.c (.int .i64 11))),(1,1,(.c (.int .i64 12)))]⟩,⟨some 18,none,.build [(.int .i64 0),(.int .i64 0)] [(0,1,(.c (.int .i64 13))),(1,1,(.c (.int .i64 15)))]⟩,⟨some 19,none,.build [(.int .i64 0),(.int .i64 0)] [(0,1,(.c (.int .i64 13))),(1,1,(.c (.int .i64 14)))]⟩,⟨some 20,none,.build [(.int .i64 0),(.int .i64 0)] [(0,1,(.c (.int .i64 11))),(1,1,(.c (.int .i64 15)))]⟩,⟨some 21,none,.build [(.int .i64 0),(.int .i64 0)] [(0,1,(.c (.int .i64 1))),(1,1,(.c (.int .i64 2)))]⟩,⟨some 22,none,.build [(.int .i64 0),(.int .i64 0),(.int .i64 0),(.int .i64 0),(.int .i64 0),(.int .i64 0),(.int .i64 0),(.int .i64 0),(.int .i64 0),(.int .i64 0),(.int .i64 0),(.int .i64 0),(.int .i64 0),(.int .i64 0),(.int .i64 0),(.int .i64 0),(.int .i64 0),(.int .i64 0),(.int .i64 0),(.int .i64 0),(.int .i64 0),(.int .i64 0),(.int .i64 0),(.int .i64 0),(.int .i64 0),(.int .i64 0),(.int .i64 0),(.int .i64 0),(.int .i64 0),(.int .i64 0),(.int .i64 0),(.int .i64 0)] [(0,2,(.t 6)),(2,2,(.t 7)),(4,2,(.t 8)),(6,2,(.t 9)),(8,2,(.t 10)),(10,2,(.t 11)),(12,2,(.t 12)),(14,2,(.t 13)),(16,2,(.t 14)),(18,2,(.t 15)),(20,2,(.t 16)),(22,2,(.t 17)),(24,2,(.t 18)),(26,2,(.t 19)),(28,2,(.t 20)),(30,2,(.t 21))]⟩,⟨some 5,none,.alloc 155 [(.int .i64 0),(.int .i64 0),(.int .i64 0),(.int .i64 0),(.int .i64 0),(.int .i64 0),(.int .i64 0),(.int .i64 0),(.int .i64 0),(.int .i64 0),(.int .i64 0),(.int .i64 0),(.int .i64 0),(.int .i64 0),(.int .i64 0),(.int .i64 0),(.int .i64 0),(.int .i64 0),(.int .i64 0),(.int .i64 0),(.int .i64 0),(.int .i64 0),(.int .i64 0),(.int .i64 0),(.int .i64 0),(.int .i64 0),(.int .i64 0),(.int .i64 0),(.int .i64 0),(.int .i64 0),(.int .i64 0),(.int .i64 0)]⟩,⟨none,none,.store 32 (.t 5) (.t 22)⟩])
 (.seq (.ops [⟨some 23,none,.mv (.t 0)⟩,⟨some 24,none,.mv (.t 1)⟩,⟨some 25,none,.aadr 16 2 (.t 5) (.t 23)⟩,⟨some 26,none,.aadr 2 1 (.t 25) (.t 24)⟩,⟨some 27,none,.load none (.t 26)⟩,⟨some 4,none,.mv (.t 27)⟩])
 (.ret)))⟩
theorem c122:compF Go.Proofs.Tryz.prog 122=some a122:=by kernel_rfl
def a123 : AFn := ⟨8,[.t 4],.seq (.ops [⟨some 4,none,.mv (.c (.int .i64 0))⟩])
 (.seq (.ops [⟨some 5,none,.mv (.t 0)⟩,⟨some 6,none,.mv (.t 1)⟩,⟨some 7,none,.call 150 [(.t 5),(.t 6)]⟩,⟨some 4,none,.mv (.t 7)⟩])
 (.ret))⟩
theorem c123:compF Go.Proofs.Tryz.prog 123=some a123:=by kernel_rfl
def a140 : AFn := ⟨18,[.t 4],.seq (.ops [⟨some 4,none,.mv (.c (.bool false))⟩])
 (.seq (.ops [⟨some 5,none,.mv (.t 0)⟩,⟨some 6,none,.len true (.t 5)⟩,⟨some 7,none,.mv (.t 1)⟩,⟨some 8,none,.len true (.t 7)⟩,⟨some 9,none,.bin 0 .geq (.t 6) (.t 8)⟩,⟨some 10,none,.mv (.t 9)⟩,⟨some 11,(some (10,true)),.mv (.t 0)⟩,⟨some 12,(some (10,true)),.mv (.t 1)⟩,⟨some 13,(some (10,true)),.len true (.t 12)⟩,⟨some 14,(some (10,true)),.sls (.t 11) none (some (.t 13))⟩,⟨some 15,(some (10,true)),.mv (.t 1)⟩,⟨some 16,(some (10,true)),.bin 1 .eql (.t 14) (.t 15)⟩,⟨some 17,none,.pick (.t 10) (.t 16) (.c (.bool false))⟩,⟨some 4,none,.mv (.t 17)⟩])
 (.ret))⟩
theorem c140:compF Go.Proofs.Tryz.prog 140=some a140:=by kernel_rfl
def a141 : AFn := ⟨8,[.t 4],.seq (.ops [⟨some 4,none,.mv (.c (.str []))⟩])
 (.seq (.ops [⟨some 5,none,.mv (.t 0)⟩,⟨some 6,none,.mv (.t 1)⟩,⟨some 7,none,.call 164 [(.t 5),(.t 6)]⟩,⟨some 4,none,.mv (.t 7)⟩])
 (.ret))⟩
theorem c141:compF Go.Proofs.Tryz.prog 141=some a141:=by kernel_rfl
def a144 : AFn := ⟨21,[.t 4],.seq (.ops [⟨some 4,none,.mv (.c (.bool false))⟩])
 (.seq (.ops [⟨some 5,none,.mv (.t 0)⟩,⟨some 6,none,.len true (.t 5)⟩,⟨some 7,none,.mv (.t 1)⟩,⟨some 8,none,.len true (.t 7)⟩,⟨some 9,none,.bin 0 .geq (.t 6) (.t 8)⟩,⟨some 10,none,.mv (.t 9)⟩,⟨some 11,(some (10,true)),.mv (.t 0)⟩,⟨some 12,(some (10,true)),.mv (.t 0)⟩,⟨some 13,(some (10,true)),.len true (.t 12)⟩,⟨some 14,(some (10,true)),.mv (.t 1)⟩,⟨some 15,(some (10,true)),.len true (.t 14)⟩,⟨some 16,(some (10,true)),.bin 0 .sub (.t 13) (.t 15)⟩,⟨some 17,(some (10,true)),.sls (.t 11) (some (.t 16)) none⟩,⟨some 18,(some (10,true)),.mv (.t 1)⟩,⟨some 19,(some (10,true)),.bin 1 .eql (.t 17) (.t 18)⟩,⟨some 20,none,.pick (.t 10) (.t 19) (.c (.bool false))⟩,⟨some 4,none,.mv (.t 20)⟩])
 (.ret))⟩
theorem c144:compF Go.Proofs.Tryz.prog 144=some a144:=by kernel_rfl
def a148 : AFn := ⟨18,[.t 4,.t 5],.seq (.ops [⟨some 4,none,.mv (.c (.str []))⟩,⟨some 5,none,.mv (.c (.bool false))⟩])
 (.seq (.seq (.ops [⟨some 6,none,.mv (.t 0)⟩,⟨some 7,none,.mv (.t 1)⟩,⟨some 8,none,.call 144 [(.t 6),(.t 7)]⟩,⟨some 9,none,.un .not (.t 8)⟩])
 (.cond (.t 9) (.seq (.ops [⟨some 10,none,.mv (.t 0)⟩,⟨some 4,none,.mv (.t 10)⟩,⟨some 5,none,.mv (.c (.bool false))⟩])
 (.ret)) (.skip)))
 (.seq (.ops [⟨some 11,none,.mv (.t 0)⟩,⟨some 12,none,.mv (.t 0)⟩,⟨some 13,none,.len true (.t 12)⟩,⟨some 14,none,.mv (.t 1)⟩,⟨some 15,none,.len true (.t 14)⟩,⟨some 16,none,.bin 0 .sub (.t 13) (.t 15)⟩,⟨some 17,none,.sls (.t 11) none (some (.t 16))⟩,⟨some 4,none,.mv (.t 17)⟩,⟨some 5,none,.mv (.c (.bool true))⟩])
 (.ret)))⟩
theorem c148:compF Go.Proofs.Tryz.prog 148=some a148:=by kernel_rfl
def a164 : AFn := ⟨13,[.t 4],.seq (.ops [⟨some 4,none,.mv (.c (.str []))⟩])
 (.seq (.seq (.ops [⟨some 5,none,.mv (.t 0)⟩,⟨some 6,none,.mv (.t 1)⟩,⟨some 7,none,.call 140 [(.t 5),(.t 6)]⟩])
 (.cond (.t 7) (.seq (.ops [⟨some 8,none,.mv (.t 0)⟩,⟨some 9,none,.mv (.t 1)⟩,⟨some 10,none,.len true (.t 9)⟩,⟨some 11,none,.sls (.t 8) (some (.t 10)) none⟩,⟨some 4,none,.mv (.t 11)⟩])
 (.ret)) (.skip)))
 (.seq (.ops [⟨some 12,none,.mv (.t 0)⟩,⟨some 4,none,.mv (.t 12)⟩])
 (.ret)))⟩
theorem c164:compF Go.Proofs.Tryz.prog 164=some a164:=by kernel_rfl
open Go.RowKit
theorem below_c (x n:Int) (nid:Nat) (hn:n≤9223372036854775807):ACall Tryz.prog 92 [.int .i64 x,.int .i64 n] [] nid (.int .i64 (below x n)) []:=by
 refine acall_run c92 (by simp [a92]) ?_
 simp -dsimp only [a92,aqA,↓seqK,↓blkK,↓loopK,step,stepBin,eqB,Nat.add_assoc nid,simprocAttr,z0]
 refine S2.dec (fun h=>?_) (fun h=>?_)
 ·simp -dsimp only [aqA,↓seqK,↓blkK,↓loopK,step,stepBin,eqB,Nat.add_assoc nid,simprocAttr,z0]
  refine RetOK.pure (.inl rfl) rfl ?_
  simp [retPV,PVCov,getS,below,h]
 simp -dsimp only [aqA,↓seqK,↓blkK,↓loopK,step,stepBin,eqB,Nat.add_assoc nid,simprocAttr,z0]
 refine ⟨by omega,S2.dec (fun h2=>?_) (fun h2=>?_)⟩
 ·simp -dsimp only [aqA,↓seqK,↓blkK,↓loopK,step,stepBin,eqB,Nat.add_assoc nid,simprocAttr,z0]
  have:=Int.lt_tmod_of_pos x (show 0<n by omega)
  refine ⟨by unfold inI64; omega,RetOK.pure (.inl rfl) rfl ?_⟩
  have h3:x.tmod n+n=x % n:=by rw [Int.tmod_eq_emod]; split <;> rw [Int.tmod_eq_emod] at h2 <;> rename_i h6 <;> simp only [h6,if_true,if_false,not_false_eq_true] at h2 <;> have:=Int.emod_nonneg x (show n≠0 by omega) <;> omega
  simp [cvT,step,res,below,h,h3]
 ·simp -dsimp only [aqA,↓seqK,↓blkK,↓loopK,step,stepBin,eqB,Nat.add_assoc nid,simprocAttr,z0]
  refine RetOK.pure (.inl rfl) rfl ?_
  have h3:x.tmod n=x % n:=by rw [Int.tmod_eq_emod]; split <;> rw [Int.tmod_eq_emod] at h2 <;> rename_i h6 <;> simp only [h6,if_true,if_false,not_false_eq_true] at h2 <;> have:=Int.emod_lt_of_pos x (show 0<n by omega) <;> omega
  simp [cvT,step,res,below,h,h3]
def strmC (nl:Bool) (A:List Int) (p:Nat):Option ABlk:=some (.box 25 [.lit nl A.length [.i .i64 fun i=>A.getD i 0],.int .i64 p])
theorem strmC_low (n:Nat) (nl:Bool) (A:List Int) (p:Nat):lowBlk n (strmC nl A p)=true:=rfl
theorem next_c (s nid : Nat) (nl : Bool) (A : List Int) (p : Nat) (n : Int) (h : s < nid) (hp : p ≤ 1099511627775) (hA : A.length ≤ 17592186044416) (hn : n ≤ 9223372036854775807) :
    ACall Tryz.prog 44 [.ptr s 0,.int .i64 n] [(s,strmC nl A p)] nid (.int .i64 (nextV A p n)) [(s,strmC nl A (p + 1))] := by
  obtain ⟨e1,e2,e3,e4,e5,e6,e7,e8,e9⟩ := id_all h
  refine acall_run c44 (by simp [a44]) ?_
  simp -dsimp only [a44,strmC,aqA,↓seqK,↓blkK,↓loopK,step,stepBin,eqB,Nat.add_assoc nid,simprocAttr,z0,e1,e2,e3,e4,e5,e6,e7,e8,e9]
  refine ⟨by unfold inI64; omega,S2.intro (fun h2 => ?_) (fun h2 => ?_)⟩
  · simp -dsimp only [aqA,↓seqK,↓blkK,↓loopK,step,stepBin,eqB,Nat.add_assoc nid,simprocAttr,z0,e1,e2,e3,e4,e5,e6,e7,e8,e9]
    refine ⟨by unfold inI64; omega,CallO.pure (below_c _ _ _ hn) ?_⟩
    simp -dsimp only [aqA,↓seqK,↓blkK,↓loopK,step,stepBin,eqB,Nat.add_assoc nid,simprocAttr,z0,e1,e2,e3,e4,e5,e6,e7,e8,e9]
    have h3 : A.length = 0 := by simpa using h2
    refine RetOK.same (.inl rfl) rfl (by simp [strmC,liveIds]; omega) ?_ ?_
    · simp [cvT,step,res,strmC]
    · simp [cvT,step,res,nextV,h3]
  · simp -dsimp only [aqA,↓seqK,↓blkK,↓loopK,step,stepBin,eqB,Nat.add_assoc nid,simprocAttr,z0,e1,e2,e3,e4,e5,e6,e7,e8,e9]
    have h3 : 0 < A.length := by have : ¬ A.length = 0 := by simpa using h2
                                 omega
    have h4 : ∀ z : Nat,z ≤ 1099511627776 → IntKind.i64.wrap (z : Int) = z := fun z hz => IntWalk.i64_in _ (by omega)
    have h5 : p / A.length ≤ p := Nat.div_le_self _ _
    have h6 : p % A.length < A.length := Nat.mod_lt _ h3
    have h11 := h4 _ (show p / A.length ≤ 1099511627776 by omega)
    refine ⟨by unfold inI64; omega,by omega,by unfold inI64; omega,by omega,by omega,CallO.pure (below_c _ _ _ (by omega)) ?_⟩
    simp -dsimp only [aqA,↓seqK,↓blkK,↓loopK,step,stepBin,eqB,Nat.add_assoc nid,simprocAttr,z0,h11,e1,e2,e3,e4,e5,e6,e7,e8,e9]
    have h7 := round_bd p A.length h3 (by omega)
    have h8 := below_bd (A.getD (p % A.length) 0) (n := 1073741824) (by omega)
    rw [← Int.natCast_emod,← Int.natCast_ediv] at h7
    generalize h9 : ((p / A.length : Nat) : Int) * (7919 + ((p % A.length : Nat) : Int)) = z at h7 ⊢
    refine ⟨by unfold inI64; omega,by unfold inI64; omega,by unfold inI64; omega,CallO.pure (below_c _ _ _ hn) ?_⟩
    simp -dsimp only [aqA,↓seqK,↓blkK,↓loopK,step,stepBin,eqB,Nat.add_assoc nid,simprocAttr,z0,e1,e2,e3,e4,e5,e6,e7,e8,e9]
    refine RetOK.same (.inl rfl) rfl (by simp [strmC,liveIds]; omega) ?_ ?_
    · simp [cvT,step,res,strmC]
    · have h10 : A.length ≠ 0 := by omega
      simp [cvT,step,res,nextV,h10,← h9]
theorem range_c (s nid:Nat) (nl:Bool) (A:List Int) (p:Nat) (lo hi:Int) (h:s<nid) (hp:p≤1099511627775) (hA:A.length≤17592186044416) (h1:lo≤hi) (hl : -1099511627776≤lo) (hh:hi≤1099511627776) :
  ACall Tryz.prog 41 [.ptr s 0,.int .i64 lo,.int .i64 hi] [(s,strmC nl A p)] nid (.int .i64 (rangeV A p lo hi)) [(s,strmC nl A (p+1))]:=by
 obtain ⟨e1,e2,e3,e4,e5,e6,e7,e8,e9⟩:=id_all h
 refine acall_run c41 (by simp [a41]) ?_
 simp -dsimp only [a41,aqA,↓seqK,↓blkK,↓loopK,step,stepBin,eqB,Nat.add_assoc nid,simprocAttr,z0,e1,e2,e3,e4,e5,e6,e7,e8,e9]
 refine S2.dec (fun h=>absurd h (by omega)) (fun h=>?_)
 simp -dsimp only [aqA,↓seqK,↓blkK,↓loopK,step,stepBin,eqB,Nat.add_assoc nid,simprocAttr,z0,e1,e2,e3,e4,e5,e6,e7,e8,e9]
 refine ⟨by unfold inI64; omega,by unfold inI64; omega,CallO.on (next_c _ _ _ _ _ _ (by omega) hp hA (by omega)) (subH_hit _ _ _) ?_⟩
 simp -dsimp only [aqA,↓seqK,↓blkK,↓loopK,step,stepBin,eqB,Nat.add_assoc nid,simprocAttr,z0,e1,e2,e3,e4,e5,e6,e7,e8,e9]
 have:=nextV_bd A p (n:=hi - lo+1) (by omega)
 refine ⟨by unfold inI64; omega,RetOK.same (.inl rfl) rfl (by simp [strmC,liveIds]; omega) ?_ ?_⟩
 ·simp [cvT,step,res,strmC]
 ·simp [cvT,step,res,rangeV]
theorem flip_c (s nid:Nat) (nl:Bool) (A:List Int) (p:Nat) (n:Int) (h:s<nid) (hp:p≤1099511627775) (hA:A.length≤17592186044416) (hn:n≤9223372036854775807) :
  ACall Tryz.prog 43 [.ptr s 0,.int .i64 n] [(s,strmC nl A p)] nid (.bool (flipV A p n)) [(s,strmC nl A (p+1))]:=by
 obtain ⟨e1,e2,e3,e4,e5,e6,e7,e8,e9⟩:=id_all h
 refine acall_run c43 (by simp [a43]) ?_
 simp -dsimp only [a43,aqA,↓seqK,↓blkK,↓loopK,step,stepBin,eqB,Nat.add_assoc nid,simprocAttr,z0,e1,e2,e3,e4,e5,e6,e7,e8,e9]
 refine CallO.on (next_c _ _ _ _ _ _ (by omega) hp hA hn) (subH_hit _ _ _) ?_
 simp -dsimp only [aqA,↓seqK,↓blkK,↓loopK,step,stepBin,eqB,Nat.add_assoc nid,simprocAttr,z0,e1,e2,e3,e4,e5,e6,e7,e8,e9]
 refine RetOK.same (.inl rfl) rfl (by simp [strmC,liveIds]; omega) ?_ ?_
 ·simp [cvT,step,res,strmC]
 ·simp [cvT,step,res,flipV]
theorem pick_c (s nid:Nat) (nl nl':Bool) (A:List Int) (p:Nat) (n:Nat) (g:Nat→Int) (h:s<nid) (hp:p≤1099511627775) (hA:A.length≤17592186044416) (h1:0<n) (hn:n≤1099511627776) :
  ACall Tryz.prog 37 [.ptr s 0,.lit nl' n [.i .i64 g]] [(s,strmC nl A p)] nid (.int .i64 (g (pickI A p n))) [(s,strmC nl A (p+1))]:=by
 obtain ⟨e1,e2,e3,e4,e5,e6,e7,e8,e9⟩:=id_all h
 refine acall_run c37 (by simp [a37]) ?_
 simp -dsimp only [a37,aqA,↓seqK,↓blkK,↓loopK,step,stepBin,eqB,Nat.add_assoc nid,simprocAttr,z0,e1,e2,e3,e4,e5,e6,e7,e8,e9]
 refine CallO.on (next_c _ _ _ _ _ _ (by omega) hp hA (by omega)) (subH_hit _ _ _) ?_
 simp -dsimp only [aqA,↓seqK,↓blkK,↓loopK,step,stepBin,eqB,Nat.add_assoc nid,simprocAttr,z0,e1,e2,e3,e4,e5,e6,e7,e8,e9]
 have:=nextV_bd A p (n:=(n:Int)) (by omega)
 refine ⟨this,RetOK.same (.inl rfl) rfl (by simp [strmC,liveIds]; omega) ?_ ?_⟩
 ·simp [cvT,step,res,strmC]
 ·simp [cvT,step,res,pickI]
theorem CallX.pick_go {s id nid:Nat} {nl:Bool} {A:List Int} {p:Nat} {n T:Nat} {g:Nat→Int} {H:Heap} {K:PV→Heap→List Nat→Prop} (hs:getH H s=strmC nl A p) (hid:getH H id=some (.arr T n [.i .i64 g])) (hne:(s==id)=false) (h:s<nid) (hp:p≤1099511627775) (hA:A.length≤17592186044416) (h1:0<n) (hn:n≤1099511627776)
  (hK:K (.int .i64 (g (pickI A p n))) [(s,strmC nl A (p+1)),(id,none)] [s,id]):CallX Tryz.prog 37 [.ptr s 0,.sl id 0 n] H nid K:=by
 refine CallX.given [id] (u:=[(s,strmC nl A (p+1))]) (fun nl'=>?_) (subH_get hs) (by simp [getH,hne]) hK
 have e:lends H [id] nl' [.ptr s 0,.sl id 0 n]=[.ptr s 0,.lit (nl' id) n [.i .i64 g]]:=by simp [lends,lend,hid,noOs]
 rw [e]
 exact pick_c s _ nl _ A p n _ h hp hA h1 hn
theorem CallO.pick_go {s id nid:Nat} {nl:Bool} {A:List Int} {p:Nat} {n T:Nat} {g:Nat→Int} {H:Heap} {K:PV→Heap→Prop} (hs:getH H s=strmC nl A p) (hid:getH H id=some (.arr T n [.i .i64 g])) (hne:(s==id)=false) (h:s<nid) (hp:p≤1099511627775) (hA:A.length≤17592186044416) (h1:0<n) (hn:n≤1099511627776)
  (hK:K (.int .i64 (g (pickI A p n))) [(s,strmC nl A (p+1)),(id,none)]):CallOK Tryz.prog 37 [.ptr s 0,.sl id 0 n] H nid K :=
 CallO.x (CallX.pick_go hs hid hne h hp hA h1 hn hK)
open Go.RowKit
def litI (nl:Bool) (l:List Int):PV:=.lit nl l.length [.i .i64 fun i=>l.getD i 0]
theorem out_c (x lo hi:Int) (nid:Nat):ACall Tryz.prog 56 [.int .i64 x,.int .i64 lo,.int .i64 hi] [] nid (.bool (outB x lo hi)) []:=by
 refine acall_run c56 (by simp [a56]) ?_
 simp -dsimp only [a56,aqA,↓seqK,↓blkK,↓loopK,step,stepBin,eqB,Nat.add_assoc nid,simprocAttr,z0]
 refine S2.dec (fun h=>?_) (fun h=>?_) <;> simp -dsimp only [aqA,↓seqK,↓blkK,↓loopK,step,stepBin,eqB,Nat.add_assoc nid,simprocAttr,z0] <;> refine RetOK.pure (.inl rfl) rfl ?_ <;> simp [cvT,step,res,outB] <;> omega
open Go.RowKit
def isBinV (c:Int):Bool:=(decide (48≤c) && decide (c≤57)) || (decide (97≤c) && decide (c≤122))
theorem isBin_c (c:Int) (nid:Nat):ACall Tryz.prog 50 [.int .u8 c] [] nid (.bool (isBinV c)) []:=by
 refine acall_run c50 (by simp [a50]) ?_
 unfold isBinV
 simp -dsimp only [a50,aqT,aqU,aqN,aqP,aqM,↓seqK,↓blkK,↓loopK,step,stepBin,eqB,Nat.reduceBEq,Nat.reduceBeqDiff,Nat.add_assoc nid,Nat.reduceAdd,reduceCtorEq,↓reduceIte,Nat.reduceLeDiff,Nat.reduceBneDiff,Option.toList,← Int.ofNat_tmod,← Int.ofNat_tdiv,Nat.reduceLT,z0]
 cases h1:decide (48≤c) <;> simp -dsimp only [aqT,aqU,aqN,aqP,aqM,↓seqK,↓blkK,↓loopK,step,stepBin,eqB,Nat.reduceBEq,Nat.reduceBeqDiff,Nat.add_assoc nid,Nat.reduceAdd,reduceCtorEq,↓reduceIte,Nat.reduceLeDiff,Nat.reduceBneDiff,Option.toList,← Int.ofNat_tmod,← Int.ofNat_tdiv,Nat.reduceLT,z0]
 ·cases h3:decide (97≤c) <;> simp -dsimp only [aqT,aqU,aqN,aqP,aqM,↓seqK,↓blkK,↓loopK,step,stepBin,eqB,Nat.reduceBEq,Nat.reduceBeqDiff,Nat.add_assoc nid,Nat.reduceAdd,reduceCtorEq,↓reduceIte,Nat.reduceLeDiff,Nat.reduceBneDiff,Option.toList,← Int.ofNat_tmod,← Int.ofNat_tdiv,Nat.reduceLT,z0]
  ·refine RetOK.pure (.inl rfl) rfl ?_
   simp [cvT,step,res,h1,h3]
  ·refine RetOK.pure (.inl rfl) rfl ?_
   simp [cvT,step,res,h1,h3]
 ·cases h2:decide (c≤57) <;> simp -dsimp only [aqT,aqU,aqN,aqP,aqM,↓seqK,↓blkK,↓loopK,step,stepBin,eqB,Nat.reduceBEq,Nat.reduceBeqDiff,Nat.add_assoc nid,Nat.reduceAdd,reduceCtorEq,↓reduceIte,Nat.reduceLeDiff,Nat.reduceBneDiff,Option.toList,← Int.ofNat_tmod,← Int.ofNat_tdiv,Nat.reduceLT,z0]
  ·cases h3:decide (97≤c) <;> simp -dsimp only [aqT,aqU,aqN,aqP,aqM,↓seqK,↓blkK,↓loopK,step,stepBin,eqB,Nat.reduceBEq,Nat.reduceBeqDiff,Nat.add_assoc nid,Nat.reduceAdd,reduceCtorEq,↓reduceIte,Nat.reduceLeDiff,Nat.reduceBneDiff,Option.toList,← Int.ofNat_tmod,← Int.ofNat_tdiv,Nat.reduceLT,z0] <;> refine RetOK.pure (.inl rfl) rfl ?_ <;> simp [cvT,step,res,h1,h2,h3]
  ·refine RetOK.pure (.inl rfl) rfl ?_
   simp [cvT,step,res,h1,h2]
theorem isPlace_c (c:Int) (nid:Nat):ACall Tryz.prog 96 [.int .u8 c] [] nid (.bool (isBinV c || c==46 || c==63 || c==42)) []:=by
 refine acall_run c96 (by simp [a96]) ?_
 simp -dsimp only [a96,aqT,aqU,aqN,aqP,aqM,↓seqK,↓blkK,↓loopK,step,stepBin,eqB,Nat.reduceBEq,Nat.reduceBeqDiff,Nat.add_assoc nid,Nat.reduceAdd,reduceCtorEq,↓reduceIte,Nat.reduceLeDiff,Nat.reduceBneDiff,Option.toList,← Int.ofNat_tmod,← Int.ofNat_tdiv,Nat.reduceLT,z0]
 refine CallO.pure (isBin_c _ _) ?_
 simp -dsimp only [aqT,aqU,aqN,aqP,aqM,↓seqK,↓blkK,↓loopK,step,stepBin,eqB,Nat.reduceBEq,Nat.reduceBeqDiff,Nat.add_assoc nid,Nat.reduceAdd,reduceCtorEq,↓reduceIte,Nat.reduceLeDiff,Nat.reduceBneDiff,Option.toList,← Int.ofNat_tmod,← Int.ofNat_tdiv,Nat.reduceLT,z0]
 cases h0:isBinV c <;> simp -dsimp only [aqT,aqU,aqN,aqP,aqM,↓seqK,↓blkK,↓loopK,step,stepBin,eqB,Nat.reduceBEq,Nat.reduceBeqDiff,Nat.add_assoc nid,Nat.reduceAdd,reduceCtorEq,↓reduceIte,Nat.reduceLeDiff,Nat.reduceBneDiff,Option.toList,← Int.ofNat_tmod,← Int.ofNat_tdiv,Nat.reduceLT,z0]
 ·cases h1:(c==46) <;> simp -dsimp only [aqT,aqU,aqN,aqP,aqM,↓seqK,↓blkK,↓loopK,step,stepBin,eqB,Nat.reduceBEq,Nat.reduceBeqDiff,Nat.add_assoc nid,Nat.reduceAdd,reduceCtorEq,↓reduceIte,Nat.reduceLeDiff,Nat.reduceBneDiff,Option.toList,← Int.ofNat_tmod,← Int.ofNat_tdiv,Nat.reduceLT,z0,h1]
  ·cases h2:(c==63) <;> simp -dsimp only [aqT,aqU,aqN,aqP,aqM,↓seqK,↓blkK,↓loopK,step,stepBin,eqB,Nat.reduceBEq,Nat.reduceBeqDiff,Nat.add_assoc nid,Nat.reduceAdd,reduceCtorEq,↓reduceIte,Nat.reduceLeDiff,Nat.reduceBneDiff,Option.toList,← Int.ofNat_tmod,← Int.ofNat_tdiv,Nat.reduceLT,z0,h2] <;> refine RetOK.pure (.inl rfl) rfl ?_ <;> simp [cvT,step,res,h1,h2]
  ·refine RetOK.pure (.inl rfl) rfl ?_
   simp [cvT,step,res]
 ·refine RetOK.pure (.inl rfl) rfl ?_
  simp [cvT,step,res]
theorem oddF_c (c:Int) (nid:Nat):ACall Tryz.prog 95 [.int .u8 c] [] nid (.bool (!(isBinV c || c==46 || c==63 || c==42))) []:=by
 refine acall_run c95 (by simp [a95]) ?_
 simp -dsimp only [a95,aqT,aqU,aqN,aqP,aqM,↓seqK,↓blkK,↓loopK,step,stepBin,eqB,Nat.reduceBEq,Nat.reduceBeqDiff,Nat.add_assoc nid,Nat.reduceAdd,reduceCtorEq,↓reduceIte,Nat.reduceLeDiff,Nat.reduceBneDiff,Option.toList,← Int.ofNat_tmod,← Int.ofNat_tdiv,Nat.reduceLT,z0]
 refine CallO.pure (isPlace_c _ _) ?_
 simp -dsimp only [aqT,aqU,aqN,aqP,aqM,↓seqK,↓blkK,↓loopK,step,stepBin,eqB,Nat.reduceBEq,Nat.reduceBeqDiff,Nat.add_assoc nid,Nat.reduceAdd,reduceCtorEq,↓reduceIte,Nat.reduceLeDiff,Nat.reduceBneDiff,Option.toList,← Int.ofNat_tmod,← Int.ofNat_tdiv,Nat.reduceLT,z0]
 refine RetOK.pure (.inl rfl) rfl ?_
 simp [cvT,step,res]
def placeB (c:Int):Bool:=isBinV c || c==46 || c==63 || c==42
theorem indexF_c (nl:Bool) (n:Nat) (g:Nat→Int) (nid:Nat) (hn:n≤1000000000) (h:∀ i,i<n→placeB (g i)=true):ACall Tryz.prog 93 [.lit nl n [.i .u8 g],.fn 95 []] [] nid (.int .i64 (-1)) []:=by
 refine acall_run c93 (by simp [a93]) ?_
 simp -dsimp only [a93,aqT,aqU,aqN,aqP,aqM,↓seqK,↓blkK,↓loopK,step,stepBin,eqB,Nat.reduceBEq,Nat.reduceBeqDiff,Nat.add_assoc nid,Nat.reduceAdd,reduceCtorEq,↓reduceIte,Nat.reduceLeDiff,Nat.reduceBneDiff,Option.toList,← Int.ofNat_tmod,← Int.ofNat_tdiv,Nat.reduceLT,z0]
 refine LP.mkP (fun k:Nat=>k≤n) (fun k:Nat=>⟨[(8,.int .i64 k),(7,.int .i64 n),(0,.lit nl n [.i .u8 g]),(1,.fn 95 [])],[],nid+100,nid⟩) (fun k=>n+1 - k) 0 (by omega) (Cov.go [] [] ?_) (fun k hk=>?_)
 ·simp [cvT,step,res]
 simp -dsimp only [aqT,aqU,aqN,aqP,aqM,↓seqK,↓blkK,↓loopK,step,stepBin,eqB,Nat.reduceBEq,Nat.reduceBeqDiff,Nat.add_assoc nid,Nat.reduceAdd,reduceCtorEq,↓reduceIte,Nat.reduceLeDiff,Nat.reduceBneDiff,Option.toList,← Int.ofNat_tmod,← Int.ofNat_tdiv,Nat.reduceLT,z0]
 refine S2.dec (fun h3=>?_) (fun h3=>?_) <;> simp -dsimp only [aqT,aqU,aqN,aqP,aqM,↓seqK,↓blkK,↓loopK,step,stepBin,eqB,Nat.reduceBEq,Nat.reduceBeqDiff,Nat.add_assoc nid,Nat.reduceAdd,reduceCtorEq,↓reduceIte,Nat.reduceLeDiff,Nat.reduceBneDiff,Option.toList,← Int.ofNat_tmod,← Int.ofNat_tdiv,Nat.reduceLT,z0]
 ·refine ⟨by omega,CallO.pure (oddF_c _ _) ?_⟩
  have hp:=h k (by omega)
  unfold placeB at hp
  rw [hp]
  simp -dsimp only [aqT,aqU,aqN,aqP,aqM,↓seqK,↓blkK,↓loopK,step,stepBin,eqB,Nat.reduceBEq,Nat.reduceBeqDiff,Nat.add_assoc nid,Nat.reduceAdd,reduceCtorEq,↓reduceIte,Nat.reduceLeDiff,Nat.reduceBneDiff,Option.toList,← Int.ofNat_tmod,← Int.ofNat_tdiv,Nat.reduceLT,z0]
  refine ⟨by unfold inI64; omega,k+1,⟨by omega,by omega⟩,Cov.go [] [] ?_⟩
  simp [cvT,step,res]
 ·refine RetOK.pure (.inl rfl) rfl ?_
  simp [cvT,step,res]
theorem odd_c' (s:List UInt8) (nid:Nat) (hn:s.length≤1000000000) (h:∀ i,i<s.length→placeB ((s.getD i 0).toNat:Nat)=true):ACall Tryz.prog 49 [.str s] [] nid (.bool false) []:=by
 have hcf:∀ nid,ACall Tryz.prog 45 [.lit false s.length [.i .u8 fun i=>((s.getD i 0).toNat:Nat)],.fn 95 []] [] nid (.bool false) []:=fun nid=>by
  refine acall_run c45 (by simp [a45]) ?_
  simp -dsimp only [a45,aqT,aqU,aqN,aqP,aqM,↓seqK,↓blkK,↓loopK,step,stepBin,eqB,Nat.reduceBEq,Nat.reduceBeqDiff,Nat.add_assoc nid,Nat.reduceAdd,reduceCtorEq,↓reduceIte,Nat.reduceLeDiff,Nat.reduceBneDiff,Option.toList,← Int.ofNat_tmod,← Int.ofNat_tdiv,Nat.reduceLT,z0]
  refine CallO.pure (indexF_c _ _ _ _ hn h) ?_
  simp -dsimp only [aqT,aqU,aqN,aqP,aqM,↓seqK,↓blkK,↓loopK,step,stepBin,eqB,Nat.reduceBEq,Nat.reduceBeqDiff,Nat.add_assoc nid,Nat.reduceAdd,reduceCtorEq,↓reduceIte,Nat.reduceLeDiff,Nat.reduceBneDiff,Option.toList,← Int.ofNat_tmod,← Int.ofNat_tdiv,Nat.reduceLT,z0,Int.cast_ofNat_Int,Int.reduceBEq,Int.reduceBNe,Int.reduceLT,Int.reduceLE,Int.reduceAdd,Int.reduceSub,Int.reduceMul,Int.reduceToNat,Int.reduceNeg,Int.reduceTMod,Int.reduceEq,not_false_eq_true,Int.reducePow,Int.reduceFDiv,Nat.reducePow,Nat.reduceSub,Nat.reduceMul,Nat.min_eq_left,Nat.reduceEqDiff,BEq.rfl,Int.tdiv_one,LN_succ]
  refine RetOK.pure (.inl rfl) rfl ?_
  simp [cvT,step,res]
 refine acall_run c49 (by simp [a49]) ?_
 simp -dsimp only [a49,aqT,aqU,aqN,aqP,aqM,↓seqK,↓blkK,↓loopK,step,stepBin,eqB,Nat.reduceBEq,Nat.reduceBeqDiff,Nat.add_assoc nid,Nat.reduceAdd,reduceCtorEq,↓reduceIte,Nat.reduceLeDiff,Nat.reduceBneDiff,Option.toList,← Int.ofNat_tmod,← Int.ofNat_tdiv,Nat.reduceLT,z0]
 refine CallO.pure (hcf _) ?_
 simp -dsimp only [aqT,aqU,aqN,aqP,aqM,↓seqK,↓blkK,↓loopK,step,stepBin,eqB,Nat.reduceBEq,Nat.reduceBeqDiff,Nat.add_assoc nid,Nat.reduceAdd,reduceCtorEq,↓reduceIte,Nat.reduceLeDiff,Nat.reduceBneDiff,Option.toList,← Int.ofNat_tmod,← Int.ofNat_tdiv,Nat.reduceLT,z0]
 refine RetOK.pure (.inl rfl) rfl ?_
 simp [cvT,step,res]
theorem tested_c (c:Int) (nid:Nat):ACall Tryz.prog 98 [.int .u8 c] [] nid (.bool (isBinV c || c==42)) []:=by
 refine acall_run c98 (by simp [a98]) ?_
 simp -dsimp only [a98,aqT,aqU,aqN,aqP,aqM,↓seqK,↓blkK,↓loopK,step,stepBin,eqB,Nat.reduceBEq,Nat.reduceBeqDiff,Nat.add_assoc nid,Nat.reduceAdd,reduceCtorEq,↓reduceIte,Nat.reduceLeDiff,Nat.reduceBneDiff,Option.toList,← Int.ofNat_tmod,← Int.ofNat_tdiv,Nat.reduceLT,z0]
 refine CallO.pure (isBin_c _ _) ?_
 cases h0:isBinV c <;> cases h1:(c==42) <;>
  simp -dsimp only [aqT,aqU,aqN,aqP,aqM,↓seqK,↓blkK,↓loopK,step,stepBin,eqB,Nat.reduceBEq,Nat.reduceBeqDiff,Nat.add_assoc nid,Nat.reduceAdd,reduceCtorEq,↓reduceIte,Nat.reduceLeDiff,Nat.reduceBneDiff,Option.toList,← Int.ofNat_tmod,← Int.ofNat_tdiv,Nat.reduceLT,z0,h0,h1] <;> refine RetOK.pure (.inl rfl) rfl ?_ <;> simp [cvT,step,res]
theorem gcd12_c (nid:Nat):ACall Tryz.prog 100 [.int .i64 1,.int .i64 2] [] nid (.int .i64 1) []:=by
 refine acall_run c100 (by simp [a100]) ?_
 simp -dsimp only [a100,aqT,aqU,aqN,aqP,aqM,↓seqK,↓blkK,↓loopK,step,stepBin,eqB,Nat.reduceBEq,Nat.reduceBeqDiff,Nat.add_assoc nid,Nat.reduceAdd,reduceCtorEq,↓reduceIte,Nat.reduceLeDiff,Nat.reduceBneDiff,Option.toList,← Int.ofNat_tmod,← Int.ofNat_tdiv,Nat.reduceLT,z0]
 refine LP.rounds 5 ?_
 simp -dsimp only [aqT,aqU,aqN,aqP,aqM,↓seqK,↓blkK,↓loopK,step,stepBin,eqB,Nat.reduceBEq,Nat.reduceBeqDiff,Nat.add_assoc nid,Nat.reduceAdd,reduceCtorEq,↓reduceIte,Nat.reduceLeDiff,Nat.reduceBneDiff,Option.toList,← Int.ofNat_tmod,← Int.ofNat_tdiv,Nat.reduceLT,z0,Int.cast_ofNat_Int,Int.reduceBEq,Int.reduceBNe,Int.reduceLT,Int.reduceLE,Int.reduceAdd,Int.reduceSub,Int.reduceMul,Int.reduceToNat,Int.reduceNeg,Int.reduceTMod,Int.reduceEq,not_false_eq_true,Int.reducePow,Int.reduceFDiv,Nat.reducePow,Nat.reduceSub,Nat.reduceMul,Nat.min_eq_left,Nat.reduceEqDiff,BEq.rfl,Int.tdiv_one,LN_succ]
 refine RetOK.pure (.inl rfl) rfl ?_
 simp [cvT,step,res]
theorem frac12_c (nid:Nat):ACall Tryz.prog 55 [.int .i64 1,.int .i64 2] [] nid (.agg [.int .i64 1,.int .i64 2]) []:=by
 refine acall_run c55 (by simp [a55]) ?_
 simp -dsimp only [a55,aqT,aqU,aqN,aqP,aqM,↓seqK,↓blkK,↓loopK,step,stepBin,eqB,Nat.reduceBEq,Nat.reduceBeqDiff,Nat.add_assoc nid,Nat.reduceAdd,reduceCtorEq,↓reduceIte,Nat.reduceLeDiff,Nat.reduceBneDiff,Option.toList,← Int.ofNat_tmod,← Int.ofNat_tdiv,Nat.reduceLT,z0,Int.cast_ofNat_Int,Int.reduceBEq,Int.reduceBNe,Int.reduceLT,Int.reduceLE,Int.reduceAdd,Int.reduceSub,Int.reduceMul,Int.reduceToNat,Int.reduceNeg,Int.reduceTMod,Int.reduceEq,not_false_eq_true,Int.reducePow,Int.reduceFDiv,Nat.reducePow,Nat.reduceSub,Nat.reduceMul,Nat.min_eq_left,Nat.reduceEqDiff,BEq.rfl,Int.tdiv_one,LN_succ]
 have hm:max (1:Int) (-1)=1:=by decide
 rw [hm]
 refine ⟨by unfold inI64; omega,CallO.pure (gcd12_c _) ?_⟩
 simp -dsimp only [aqT,aqU,aqN,aqP,aqM,↓seqK,↓blkK,↓loopK,step,stepBin,eqB,Nat.reduceBEq,Nat.reduceBeqDiff,Nat.add_assoc nid,Nat.reduceAdd,reduceCtorEq,↓reduceIte,Nat.reduceLeDiff,Nat.reduceBneDiff,Option.toList,← Int.ofNat_tmod,← Int.ofNat_tdiv,Nat.reduceLT,z0,Int.cast_ofNat_Int,Int.reduceBEq,Int.reduceBNe,Int.reduceLT,Int.reduceLE,Int.reduceAdd,Int.reduceSub,Int.reduceMul,Int.reduceToNat,Int.reduceNeg,Int.reduceTMod,Int.reduceEq,not_false_eq_true,Int.reducePow,Int.reduceFDiv,Nat.reducePow,Nat.reduceSub,Nat.reduceMul,Nat.min_eq_left,Nat.reduceEqDiff,BEq.rfl,Int.tdiv_one,LN_succ]
 have h1:IntKind.i64.wrap 1=1:=by decide
 have h2:IntKind.i64.wrap 2=2:=by decide
 rw [h1,h2]
 refine RetOK.go [] [] (.inl rfl) ?_
 simp [a55,cvT,step,res]
theorem indexBS_c (s:List UInt8) (c:Int) (nid:Nat):ACall Tryz.prog 150 [.str s,.int .u8 c] [] nid (.int .i64 (Lib.indexByte s c.toNat.toUInt8)) []:=by
 intro C vs hb hl hr hs
 obtain ⟨v0,v1,rfl⟩:∃ a b,vs=[a,b]:=by
  rcases vs with _ | ⟨a,_ | ⟨b,_ | ⟨c,r⟩⟩⟩
  ·simp at hl
  ·simp at hl
  ·exact ⟨a,b,rfl⟩
  ·simp at hl
 have r0:=(hr 0 _ v0 rfl rfl).str_inv
 have r1:=(hr 1 _ v1 rfl rfl).int_inv
 subst r0; subst r1
 refine .inr ⟨.int .i64 (Lib.indexByte s c.toNat.toUInt8),C.w0,?_,C.Y0,C.m0,.int,by simpa using hs.next (show nid≤nid+4 by omega),Ev.refl _ _ _⟩
 rw [run_callFunc_extern (P:=Tryz.prog) (f:=150) (fn:=Tryz.f150) (e:=Extern.BytealgIndexByte.indexByte) Tryz.func150 (by kernel_rfl) (by kernel_rfl) (by kernel_rfl) (by kernel_rfl)]
 have h:=Lib.run_indexByteString (P:=Tryz.prog) ⟨s.toArray⟩ c C.w0
 show ((Extern.BytealgIndexByte.indexByte #[.string ⟨s.toArray⟩,.int .u8 c]).run Tryz.prog C.w0).andThen _=_
 rw [h]
 rfl
theorem indexB_c (s:List UInt8) (c:Int) (nid:Nat):ACall Tryz.prog 94 [.str s,.int .u8 c] [] nid (.int .i64 (Lib.indexByte s c.toNat.toUInt8)) []:=by
 have h1:∀ nid,ACall Tryz.prog 123 [.str s,.int .u8 c] [] nid (.int .i64 (Lib.indexByte s c.toNat.toUInt8)) []:=fun nid=>by
  refine acall_run c123 (by simp [a123]) ?_
  simp -dsimp only [a123,aqT,aqU,aqN,aqP,aqM,↓seqK,↓blkK,↓loopK,step,stepBin,eqB,Nat.reduceBEq,Nat.reduceBeqDiff,Nat.add_assoc nid,Nat.reduceAdd,reduceCtorEq,↓reduceIte,Nat.reduceLeDiff,Nat.reduceBneDiff,Option.toList,← Int.ofNat_tmod,← Int.ofNat_tdiv,Nat.reduceLT,z0]
  refine CallO.pure (indexBS_c s c _) ?_
  simp -dsimp only [aqT,aqU,aqN,aqP,aqM,↓seqK,↓blkK,↓loopK,step,stepBin,eqB,Nat.reduceBEq,Nat.reduceBeqDiff,Nat.add_assoc nid,Nat.reduceAdd,reduceCtorEq,↓reduceIte,Nat.reduceLeDiff,Nat.reduceBneDiff,Option.toList,← Int.ofNat_tmod,← Int.ofNat_tdiv,Nat.reduceLT,z0]
  refine RetOK.pure (.inl rfl) rfl ?_
  simp [cvT,step,res]
 refine acall_run c94 (by simp [a94]) ?_
 simp -dsimp only [a94,aqT,aqU,aqN,aqP,aqM,↓seqK,↓blkK,↓loopK,step,stepBin,eqB,Nat.reduceBEq,Nat.reduceBeqDiff,Nat.add_assoc nid,Nat.reduceAdd,reduceCtorEq,↓reduceIte,Nat.reduceLeDiff,Nat.reduceBneDiff,Option.toList,← Int.ofNat_tmod,← Int.ofNat_tdiv,Nat.reduceLT,z0]
 refine CallO.pure (h1 _) ?_
 simp -dsimp only [aqT,aqU,aqN,aqP,aqM,↓seqK,↓blkK,↓loopK,step,stepBin,eqB,Nat.reduceBEq,Nat.reduceBeqDiff,Nat.add_assoc nid,Nat.reduceAdd,reduceCtorEq,↓reduceIte,Nat.reduceLeDiff,Nat.reduceBneDiff,Option.toList,← Int.ofNat_tmod,← Int.ofNat_tdiv,Nat.reduceLT,z0]
 refine RetOK.pure (.inl rfl) rfl ?_
 simp [cvT,step,res]
def passedV (pass:List UInt8) (c:Int):Bool:=isBinV c && decide (0≤Lib.indexByte pass c.toNat.toUInt8)
theorem passed_c (rows:PV) (pass:List UInt8) (c:Int) (nid:Nat) (nl:Bool) (n:Nat) (cols:List Col) (hr:rows=.lit nl n cols):ACall Tryz.prog 99 [.agg [rows,.str pass],.int .u8 c] [] nid (.bool (passedV pass c)) []:=by
 subst hr
 refine acall_run c99 (by simp [a99]) ?_
 simp -dsimp only [a99,aqT,aqU,aqN,aqP,aqM,↓seqK,↓blkK,↓loopK,step,stepBin,eqB,Nat.reduceBEq,Nat.reduceBeqDiff,Nat.add_assoc nid,Nat.reduceAdd,reduceCtorEq,↓reduceIte,Nat.reduceLeDiff,Nat.reduceBneDiff,Option.toList,← Int.ofNat_tmod,← Int.ofNat_tdiv,Nat.reduceLT,z0]
 refine CallO.pure (isBin_c _ _) ?_
 unfold passedV
 simp -dsimp only [aqT,aqU,aqN,aqP,aqM,↓seqK,↓blkK,↓loopK,step,stepBin,eqB,Nat.reduceBEq,Nat.reduceBeqDiff,Nat.add_assoc nid,Nat.reduceAdd,reduceCtorEq,↓reduceIte,Nat.reduceLeDiff,Nat.reduceBneDiff,Option.toList,← Int.ofNat_tmod,← Int.ofNat_tdiv,Nat.reduceLT,z0]
 cases h0:isBinV c <;> simp -dsimp only [aqT,aqU,aqN,aqP,aqM,↓seqK,↓blkK,↓loopK,step,stepBin,eqB,Nat.reduceBEq,Nat.reduceBeqDiff,Nat.add_assoc nid,Nat.reduceAdd,reduceCtorEq,↓reduceIte,Nat.reduceLeDiff,Nat.reduceBneDiff,Option.toList,← Int.ofNat_tmod,← Int.ofNat_tdiv,Nat.reduceLT,z0]
 ·refine RetOK.pure (.inl rfl) rfl ?_
  simp [cvT,step,res]
 ·refine CallO.pure (indexB_c _ _ _) ?_
  simp -dsimp only [aqT,aqU,aqN,aqP,aqM,↓seqK,↓blkK,↓loopK,step,stepBin,eqB,Nat.reduceBEq,Nat.reduceBeqDiff,Nat.add_assoc nid,Nat.reduceAdd,reduceCtorEq,↓reduceIte,Nat.reduceLeDiff,Nat.reduceBneDiff,Option.toList,← Int.ofNat_tmod,← Int.ofNat_tdiv,Nat.reduceLT,z0]
  refine RetOK.pure (.inl rfl) rfl ?_
  simp [cvT,step,res]
structure Waf where
 rows:List (List UInt8)
 pass:List UInt8
deriving DecidableEq
def byteI (b:UInt8):Int:=(b.toNat:Nat)
def wideOf (W:Waf):Nat:=(W.rows.getD 0 []).length
def oddB (r:List UInt8):Bool:=r.any fun c=>!placeB (byteI c)
def rowBad (wide:Nat) (r:List UInt8):Int:=if r=[] then 8 else if 60<r.length then 2 else if r.length≠wide then 3 else if oddB r=true then 9 else 0
def passBad (p:List UInt8) (i:Nat):Int:=if isBinV (byteI (p.getD i 0))=false then 9 else if 0<i∧byteI (p.getD i 0)≤byteI (p.getD (i - 1) 0) then 7 else 0
def passV (p:List UInt8):Int:=firstBad (passBad p) (List.range p.length)
def waferV (W:Waf):Int:=if W.rows.length=0 then 8 else if 60<W.rows.length then 2 else if firstBad (rowBad (wideOf W)) W.rows≠0 then firstBad (rowBad (wideOf W)) W.rows else passV W.pass
structure WafOk (W:Waf):Prop where
 pos:0<W.rows.length
 len:W.rows.length≤60
 row:∀ r∈W.rows,r≠[]∧r.length≤60∧r.length=wideOf W∧oddB r=false
 bins:∀ b∈W.pass,isBinV (byteI b)=true
theorem waferV_ok {W:Waf} (h:waferV W=0):WafOk W:=by
 unfold waferV at h
 split at h; · cases h
 split at h; · cases h
 split at h; · contradiction
 rename_i h1 h2 h3
 have h3':firstBad (rowBad (wideOf W)) W.rows=0:=by simpa using h3
 refine ⟨by omega,by omega,fun r hr=>?_,fun b hb=>?_⟩
 ·have:=firstBad_all h3' r hr
  unfold rowBad at this
  split at this; · cases this
  split at this; · cases this
  split at this; · cases this
  split at this; · cases this
  rename_i a1 a2 a3 a4
  exact ⟨a1,by omega,by omega,by simpa using a4⟩
 ·obtain ⟨i,hi,rfl⟩:=List.getElem_of_mem hb
  have:=firstBad_all (f:=passBad W.pass) h i (List.mem_range.2 hi)
  unfold passBad at this
  split at this; · cases this
  rename_i a1
  rw [List.getD_eq_getElem?_getD,List.getElem?_eq_getElem hi] at a1
  simpa using a1
theorem WafOk.wide {W:Waf} (h:WafOk W):0<wideOf W∧wideOf W≤60:=by
 have hm:W.rows.getD 0 []∈W.rows:=by
  rw [List.getD_eq_getElem?_getD,List.getElem?_eq_getElem h.pos]; exact List.getElem_mem _
 obtain ⟨h1,h2,h3,_⟩:=h.row _ hm
 have:0<(W.rows.getD 0 []).length:=List.length_pos_iff.2 h1
 exact ⟨this,h2⟩
theorem WafOk.at {W:Waf} (h:WafOk W) {y:Nat} (hy:y<W.rows.length):(W.rows.getD y []).length=wideOf W∧oddB (W.rows.getD y [])=false:=by
 have hm:W.rows.getD y []∈W.rows:=by
  rw [List.getD_eq_getElem?_getD,List.getElem?_eq_getElem hy]; exact List.getElem_mem _
 exact (h.row _ hm).2.2
def binsL:List UInt8:=[48,49,50,51,52,53,54,55,56,57,97,98,99,100,101,102,103,104,105,106,107,108,109,110,111,112,113,114,115,116,117,118,119,120,121,122]
theorem bins_all:((List.range 256).all fun n=>decide (0≤Lib.indexByte binsL n.toUInt8)==isBinV (n:Int))=true:=by kernel_rfl
theorem bins_ok (n:Nat) (hn:n<256):decide (0≤Lib.indexByte binsL n.toUInt8)=isBinV (n:Int):=by
 have:=List.all_eq_true.1 bins_all n (List.mem_range.2 hn)
 exact beq_iff_eq.1 this
def plW (c:UInt8):Bool:=placeB (byteI c)
def passN:List UInt8:=[112,97,115,115]
def passLn (p:List UInt8):List UInt8:=passN++32::(if p=[] then [45] else p)
def wafLn (W:Waf):List (List UInt8):=passLn W.pass::W.rows.map lineR
def wafT (W:Waf):List UInt8:=linesV (wafLn W)
def readPassV (line:List UInt8):Option (List UInt8) :=
 if (wrd line).length≠2∨(wrd line).contains []=true∨(wrd line).getD 0 []≠passN then none else some (if (wrd line).getD 1 []=[45] then [] else (wrd line).getD 1 [])
def goodWl (i:Nat) (line:List UInt8):Bool:=if i=0 then (readPassV line).isSome else (readRowV plW line).isSome
def rdP (L:List (List UInt8)):List UInt8:=(readPassV (L.getD 0 [])).getD []
def rdR (L:List (List UInt8)):List (List UInt8):=(L.drop 1).map fun l=>(readRowV plW l).getD []
def w00:Waf:=⟨[],[]⟩
def readWf (t:List UInt8):Waf × Nat × Int :=
 if 200000<t.length then (w00,0,2) else if t=[] then (w00,0,9) else if (eachW goodWl t).2=false then (w00,(eachW goodWl t).1,9) else
 if ((rdR (spl t).1).any fun s=>decide (60<s.length))=true then (w00,0,2) else if waferV ⟨rdR (spl t).1,rdP (spl t).1⟩=0 then (⟨rdR (spl t).1,rdP (spl t).1⟩,0,0) else (w00,0,waferV ⟨rdR (spl t).1,rdP (spl t).1⟩)
theorem plW_no {c:UInt8} (h:plW c=true):c≠32∧c≠10:=by
 refine ⟨fun e=>?_,fun e=>?_⟩ <;> (subst e; revert h; decide)
theorem bin_no {c:UInt8} (h:isBinV (byteI c)=true):c≠32∧c≠10∧c≠45:=by
 refine ⟨fun e=>?_,fun e=>?_,fun e=>?_⟩ <;> (subst e; revert h; decide)
theorem odd_pl {r:List UInt8} (h:oddB r=false):∀ c∈r,plW c=true:=fun c hc=>by
 have:=List.any_eq_false.1 h c hc
 unfold plW
 simpa using this
theorem line_no10 {s:List UInt8} (h:∀ c∈s,plW c=true) (hl:s.length≤60):(10:UInt8) ∉ lineR s:=by
 unfold lineR
 refine joinW_no 10 (by decide) _ fun w hw=>?_
 obtain ⟨x,hx,rfl⟩:=List.mem_map.1 hw
 obtain ⟨a,b⟩:=runs_ok h hl x hx
 exact word_no10 a (plW_no b).2
theorem wrd_pass {p:List UInt8} (h:∀ c∈p,isBinV (byteI c)=true):wrd (passLn p)=[passN,if p=[] then [45] else p]:=by
 unfold passLn
 rw [wrd_app _ (by decide),wrd_none]
 split
 ·decide
 ·exact fun hm=>(bin_no (h _ hm)).1 rfl
theorem read_pass {p:List UInt8} (h:∀ c∈p,isBinV (byteI c)=true):readPassV (passLn p)=some p:=by
 unfold readPassV
 rw [wrd_pass h]
 by_cases hp:p=[]
 ·subst hp; rfl
 ·rw [if_neg hp]
  have hne:p≠[45]:=fun e=>by
   have:=h 45 (by rw [e]; simp)
   exact absurd rfl (bin_no this).2.2
  rw [if_neg]
  ·show some (if p=[45] then [] else p)=some p
   rw [if_neg hne]
  ·rintro (h1 | h1 | h1)
   ·exact h1 rfl
   ·rw [List.contains_cons,List.contains_cons,List.contains_nil] at h1
    simp only [Bool.or_false,Bool.or_eq_true,beq_iff_eq] at h1
    rcases h1 with h1 | h1
    ·cases h1
    ·exact hp h1.symm
   ·exact h1 rfl
theorem pass_read {line p:List UInt8} (h:readPassV line=some p):passLn p=line:=by
 unfold readPassV at h
 split at h
 ·cases h
 ·rename_i hn
  have h1:(wrd line).length=2:=by
   rcases Nat.decEq (wrd line).length 2 with e | e
   ·exact absurd (.inl e) hn
   ·exact e
  have hj:=join_wrd line
  injection h with h
  match hw:wrd line,h1 with
  | [a,b],_ =>
   rw [hw] at hn h hj
   have ha:a=passN:=by
    rcases (inferInstance:Decidable (a=passN)) with e | e
    ·exact absurd (.inr (.inr e)) hn
    ·exact e
   have hb:b≠[]:=fun e=>hn (.inr (.inl (by rw [e]; simp)))
   have h4:(if b=[45] then [] else b)=p:=h
   clear h
   subst ha
   rw [← hj]
   show passN++32::(if p=[] then [45] else p)=passN++32::b
   by_cases hb2:b=[45]
   ·rw [if_pos hb2] at h4
    have hp:p=[]:=h4.symm
    rw [hp,if_pos rfl,hb2]
   ·rw [if_neg hb2] at h4
    have hp:p=b:=h4.symm
    rw [hp,if_neg hb]
theorem wafT_ne (W:Waf):wafT W≠[]:=by
 unfold wafT wafLn linesV
 simp
theorem spl_waf {W:Waf} (h:waferV W=0):spl (wafT W)=(wafLn W,[]):=by
 have hok:=waferV_ok h
 refine spl_lines _ fun l hl=>?_
 unfold wafLn at hl
 rcases List.mem_cons.1 hl with rfl | hl
 ·unfold passLn
  rw [List.mem_append,List.mem_cons]
  rintro (e | e | e)
  ·revert e; decide
  ·revert e; decide
  ·split at e
   ·revert e; decide
   ·exact (bin_no (hok.bins _ e)).2.1 rfl
 ·obtain ⟨r,hr,rfl⟩:=List.mem_map.1 hl
  obtain ⟨_,b,_,d⟩:=hok.row r hr
  exact line_no10 (odd_pl d) b
theorem read_waf {W:Waf} (h:waferV W=0) (hl:(wafT W).length≤200000):readWf (wafT W)=(W,0,0):=by
 have hok:=waferV_ok h
 have hs:=spl_waf h
 have hrow:∀ r∈W.rows,readRowV plW (lineR r)=some r:=fun r hr=>by
  obtain ⟨a,b,_,d⟩:=hok.row r hr
  exact read_line a (odd_pl d) (by decide) b
 have hg:∀ j,j<(wafLn W).length→goodWl j ((wafLn W).getD j [])=true:=fun j hj=>by
  unfold goodWl
  cases j with
  | zero =>
   have e:(wafLn W).getD 0 []=passLn W.pass:=rfl
   rw [if_pos rfl,e,read_pass hok.bins]
   rfl
  | succ j =>
   have hj':j<W.rows.length:=by unfold wafLn at hj; simp only [List.length_cons,List.length_map] at hj; omega
   have e:(wafLn W).getD (j+1) []=lineR W.rows[j]:=by
    unfold wafLn
    rw [List.getD_cons_succ,List.getD_eq_getElem?_getD,List.getElem?_map,List.getElem?_eq_getElem hj']
    rfl
   rw [if_neg (by omega),e,hrow _ (List.getElem_mem hj')]
   rfl
 have hew:eachW goodWl (wafT W)=(0,true):=eachW_all (by rw [hs]) (by rw [hs]; exact hg)
 have hR:rdR (wafLn W)=W.rows:=by
  unfold rdR
  show (W.rows.map lineR).map _=_
  rw [List.map_map]
  conv=>rhs; rw [← List.map_id W.rows]
  refine List.map_congr_left fun r hr=>?_
  show (readRowV plW (lineR r)).getD []=r
  rw [hrow r hr]
  rfl
 have hP:rdP (wafLn W)=W.pass:=by
  unfold rdP
  show (readPassV (passLn W.pass)).getD []=_
  rw [read_pass hok.bins]
  rfl
 have hany:(W.rows.any fun s=>decide (60<s.length))=false:=by
  rw [List.any_eq_false]
  intro r hr
  have:=(hok.row r hr).2.1
  simp
  omega
 unfold readWf
 rw [if_neg (by omega),if_neg (wafT_ne W),hew,hs,hR,hP,if_neg (by simp),if_neg (by rw [hany]; simp),if_pos h]
theorem waf_read {t:List UInt8} {W:Waf} {i:Nat} (h:readWf t=(W,i,0)):wafT W=t∧waferV W=0:=by
 unfold readWf at h
 split at h
 ·cases h
 split at h
 ·cases h
 rename_i hne
 split at h
 ·cases h
 rename_i hok
 split at h
 ·cases h
 by_cases hv:waferV ⟨rdR (spl t).1,rdP (spl t).1⟩=0
 case neg =>
  rw [if_neg hv] at h
  have h2:=congrArg (fun x=>x.2.2) h
  exact absurd h2 hv
 rw [if_pos hv] at h
 obtain ⟨h2,hall⟩:=eachW_ok (by simpa using hok)
 have h3:=congrArg (fun x=>x.1) h
 have h3:(⟨rdR (spl t).1,rdP (spl t).1⟩:Waf)=W:=h3
 subst h3
 refine ⟨?_,hv⟩
 have hlines:=lines_spl t h2
 have hL:(spl t).1≠[]:=fun e=>by
  rw [e] at hlines
  exact hne hlines.symm
 generalize (spl t).1=L at *
 cases L with
 | nil=>exact absurd rfl hL
 | cons l0 ls =>
  unfold wafT
  rw [← hlines]
  congr 1
  show passLn ((readPassV l0).getD [])::(ls.map fun l=>(readRowV plW l).getD []).map lineR=l0::ls
  have g0:=hall 0 (by simp)
  have g0:(readPassV l0).isSome=true:=g0
  obtain ⟨p,hp⟩:=Option.isSome_iff_exists.1 g0
  rw [hp]
  congr 1
  ·exact pass_read hp
  ·rw [List.map_map]
   conv=>rhs; rw [← List.map_id ls]
   refine List.map_congr_left fun r hr=>?_
   obtain ⟨j,hj,rfl⟩:=List.getElem_of_mem hr
   have g:=hall (j+1) (by simp; omega)
   unfold goodWl at g
   rw [if_neg (by omega),List.getD_cons_succ,List.getD_eq_getElem?_getD,List.getElem?_eq_getElem hj] at g
   have g:(readRowV plW ls[j]).isSome=true:=g
   obtain ⟨s,hs⟩:=Option.isSome_iff_exists.1 g
   show lineR ((readRowV plW ls[j]).getD [])=ls[j]
   rw [hs]
   exact (line_read hs).1
end Go.Proofs.YteepabfepfehgaaGreatDoor
namespace Go.Proofs
open Go.Shelf
def Tryz.lays156_ren:Go.Shelf.Ren:=⟨fun | 156=>58 | 165=>103 | 166=>26 | 169=>29 | 240=>79 | 241=>125 | 276=>118 | 277=>155 | n=>n,fun | 31=>26 | 9=>9 | 3=>3 | 4=>4 | 0=>0 | 20=>20 | 72=>65 | 76=>68 | 70=>62 | 37=>63 | 75=>67 | 127=>112 | 164=>134 | 5=>5 | 80=>36 | n=>n,fun | n=>n⟩
theorem Tryz.lays156:Go.Proofs.Lays.n156 Tryz.prog Tryz.lays156_ren:={
 mixed:=by kernel_rfl
 f156:=Tryz.func58.trans (congrArg some (by kernel_rfl))
 f165:=Tryz.func103.trans (congrArg some (by kernel_rfl))
 f166:=Tryz.func26.trans (congrArg some (by kernel_rfl))
 f169:=Tryz.func29.trans (congrArg some (by kernel_rfl))
 f240:=Tryz.func79.trans (congrArg some (by kernel_rfl))
 f241:=Tryz.func125.trans (congrArg some (by kernel_rfl))
 f276:=Tryz.func118.trans (congrArg some (by kernel_rfl))
 f277:=Tryz.func155.trans (congrArg some (by kernel_rfl))
 t0:=Tryz.underlying0
 a0:=Tryz.isAgg0
 z0:=Tryz.sizeOf0
 v0:=Tryz.zeroValue0
 t3:=Tryz.underlying3
 a3:=Tryz.isAgg3
 z3:=Tryz.sizeOf3
 v3:=Tryz.zeroValue3
 t4:=Tryz.underlying4
 a4:=Tryz.isAgg4
 z4:=Tryz.sizeOf4
 v4:=Tryz.zeroValue4
 t9:=Tryz.underlying9
 a9:=Tryz.isAgg9
 z9:=Tryz.sizeOf9
 v9:=Tryz.zeroValue9
 t20:=Tryz.underlying20
 a20:=Tryz.isAgg20
 z20:=Tryz.sizeOf20
 v20:=Tryz.zeroValue20
 t31:=Tryz.underlying26
 a31:=Tryz.isAgg26
 z31:=Tryz.sizeOf26
 v31:=Tryz.zeroValue26
 t37:=Tryz.underlying63
 a37:=Tryz.isAgg63
 z37:=Tryz.sizeOf63
 v37:=Tryz.zeroValue63
 t70:=Tryz.underlying62
 a70:=Tryz.isAgg62
 z70:=Tryz.sizeOf62
 v70:=Tryz.zeroValue62
 t72:=Tryz.underlying65
 a72:=Tryz.isAgg65
 z72:=Tryz.sizeOf65
 v72:=Tryz.zeroValue65
 t75:=Tryz.underlying67
 a75:=Tryz.isAgg67
 z75:=Tryz.sizeOf67
 v75:=Tryz.zeroValue67
 t76:=Tryz.underlying68
 a76:=Tryz.isAgg68
 z76:=Tryz.sizeOf68
 v76:=Tryz.zeroValue68
 t127:=Tryz.underlying112
 a127:=Tryz.isAgg112
 z127:=Tryz.sizeOf112
 v127:=Tryz.zeroValue112
 t164:=Tryz.underlying134
 a164:=Tryz.isAgg134
 z164:=Tryz.sizeOf134
 v164:=Tryz.zeroValue134 }
def Tryz.lays171_ren:Go.Shelf.Ren:=⟨fun | 171=>53 | 243=>97 | 246=>124 | 283=>151 | 284=>152 | 285=>153 | 286=>154 | 129=>136 | 317=>177 | 318=>178 | 319=>179 | 320=>180 | 337=>192 | 338=>193 | n=>n,fun | 3=>3 | 9=>9 | 2=>2 | 4=>4 | 171=>156 | 0=>0 | 53=>149 | 37=>63 | 5=>5 | 173=>158 | 212=>181 | 51=>147 | 20=>20 | 213=>182 | 46=>129 | 232=>203 | 233=>204 | n=>n,fun | 17=>1 | 18=>6 | 19=>7 | n=>n⟩
theorem Tryz.lays171:Go.Proofs.Lays.n171 Tryz.prog Tryz.lays171_ren:={
 mixed:=by kernel_rfl
 f129:=Tryz.func136.trans (congrArg some (by kernel_rfl))
 f171:=Tryz.func53.trans (congrArg some (by kernel_rfl))
 f243:=Tryz.func97.trans (congrArg some (by kernel_rfl))
 f246:=Tryz.func124.trans (congrArg some (by kernel_rfl))
 f283:=Tryz.func151.trans (congrArg some (by kernel_rfl))
 f284:=Tryz.func152.trans (congrArg some (by kernel_rfl))
 f285:=Tryz.func153.trans (congrArg some (by kernel_rfl))
 f286:=Tryz.func154.trans (congrArg some (by kernel_rfl))
 f317:=Tryz.func177.trans (congrArg some (by kernel_rfl))
 f318:=Tryz.func178.trans (congrArg some (by kernel_rfl))
 f319:=Tryz.func179.trans (congrArg some (by kernel_rfl))
 f320:=Tryz.func180.trans (congrArg some (by kernel_rfl))
 f337:=Tryz.func192.trans (congrArg some (by kernel_rfl))
 f338:=Tryz.func193.trans (congrArg some (by kernel_rfl))
 t0:=Tryz.underlying0
 a0:=Tryz.isAgg0
 z0:=Tryz.sizeOf0
 v0:=Tryz.zeroValue0
 t2:=Tryz.underlying2
 a2:=Tryz.isAgg2
 z2:=Tryz.sizeOf2
 v2:=Tryz.zeroValue2
 t3:=Tryz.underlying3
 a3:=Tryz.isAgg3
 z3:=Tryz.sizeOf3
 v3:=Tryz.zeroValue3
 t4:=Tryz.underlying4
 a4:=Tryz.isAgg4
 z4:=Tryz.sizeOf4
 v4:=Tryz.zeroValue4
 t5:=Tryz.underlying5
 a5:=Tryz.isAgg5
 z5:=Tryz.sizeOf5
 v5:=Tryz.zeroValue5
 t9:=Tryz.underlying9
 a9:=Tryz.isAgg9
 z9:=Tryz.sizeOf9
 v9:=Tryz.zeroValue9
 t20:=Tryz.underlying20
 a20:=Tryz.isAgg20
 z20:=Tryz.sizeOf20
 v20:=Tryz.zeroValue20
 t37:=Tryz.underlying63
 a37:=Tryz.isAgg63
 z37:=Tryz.sizeOf63
 v37:=Tryz.zeroValue63
 t46:=Tryz.underlying129
 a46:=Tryz.isAgg129
 z46:=Tryz.sizeOf129
 v46:=Tryz.zeroValue129
 t51:=Tryz.underlying147
 a51:=Tryz.isAgg147
 z51:=Tryz.sizeOf147
 v51:=Tryz.zeroValue147
 t53:=Tryz.underlying149
 a53:=Tryz.isAgg149
 z53:=Tryz.sizeOf149
 v53:=Tryz.zeroValue149
 t171:=Tryz.underlying156
 a171:=Tryz.isAgg156
 z171:=Tryz.sizeOf156
 v171:=Tryz.zeroValue156
 t173:=Tryz.underlying158
 a173:=Tryz.isAgg158
 z173:=Tryz.sizeOf158
 v173:=Tryz.zeroValue158
 t212:=Tryz.underlying181
 a212:=Tryz.isAgg181
 z212:=Tryz.sizeOf181
 v212:=Tryz.zeroValue181
 t213:=Tryz.underlying182
 a213:=Tryz.isAgg182
 z213:=Tryz.sizeOf182
 t232:=Tryz.underlying203
 a232:=Tryz.isAgg203
 z232:=Tryz.sizeOf203
 v232:=Tryz.zeroValue203
 t233:=Tryz.underlying204
 a233:=Tryz.isAgg204
 z233:=Tryz.sizeOf204
 v233:=Tryz.zeroValue204
 g17:=by kernel_rfl
 g18:=by kernel_rfl
 g19:=by kernel_rfl }
def Tryz.lays105_ren:Go.Shelf.Ren:=⟨fun | 105=>117 | 212=>145 | 99=>146 | 165=>103 | 166=>26 | 170=>147 | 169=>29 | 263=>174 | 264=>175 | 206=>140 | 240=>79 | 241=>125 | 276=>118 | 277=>155 | n=>n,fun | 9=>9 | 3=>3 | 4=>4 | 20=>20 | 0=>0 | 46=>129 | 109=>150 | 5=>5 | 72=>65 | 76=>68 | 51=>147 | 146=>175 | 53=>149 | 148=>177 | 70=>62 | 37=>63 | 75=>67 | 127=>112 | 164=>134 | 80=>36 | n=>n,fun | n=>n⟩
theorem Tryz.lays105:Go.Proofs.Lays.n105 Tryz.prog Tryz.lays105_ren:={
 mixed:=by kernel_rfl
 f99:=Tryz.func146.trans (congrArg some (by kernel_rfl))
 f105:=Tryz.func117.trans (congrArg some (by kernel_rfl))
 f165:=Tryz.func103.trans (congrArg some (by kernel_rfl))
 f166:=Tryz.func26.trans (congrArg some (by kernel_rfl))
 f169:=Tryz.func29.trans (congrArg some (by kernel_rfl))
 f170:=Tryz.func147.trans (congrArg some (by kernel_rfl))
 f206:=Tryz.func140.trans (congrArg some (by kernel_rfl))
 f212:=Tryz.func145.trans (congrArg some (by kernel_rfl))
 f240:=Tryz.func79.trans (congrArg some (by kernel_rfl))
 f241:=Tryz.func125.trans (congrArg some (by kernel_rfl))
 f263:=Tryz.func174.trans (congrArg some (by kernel_rfl))
 f264:=Tryz.func175.trans (congrArg some (by kernel_rfl))
 f276:=Tryz.func118.trans (congrArg some (by kernel_rfl))
 f277:=Tryz.func155.trans (congrArg some (by kernel_rfl))
 t0:=Tryz.underlying0
 a0:=Tryz.isAgg0
 z0:=Tryz.sizeOf0
 v0:=Tryz.zeroValue0
 t3:=Tryz.underlying3
 a3:=Tryz.isAgg3
 z3:=Tryz.sizeOf3
 v3:=Tryz.zeroValue3
 t4:=Tryz.underlying4
 a4:=Tryz.isAgg4
 z4:=Tryz.sizeOf4
 v4:=Tryz.zeroValue4
 t5:=Tryz.underlying5
 a5:=Tryz.isAgg5
 z5:=Tryz.sizeOf5
 v5:=Tryz.zeroValue5
 t9:=Tryz.underlying9
 a9:=Tryz.isAgg9
 z9:=Tryz.sizeOf9
 v9:=Tryz.zeroValue9
 t20:=Tryz.underlying20
 a20:=Tryz.isAgg20
 z20:=Tryz.sizeOf20
 v20:=Tryz.zeroValue20
 t37:=Tryz.underlying63
 a37:=Tryz.isAgg63
 z37:=Tryz.sizeOf63
 v37:=Tryz.zeroValue63
 t46:=Tryz.underlying129
 a46:=Tryz.isAgg129
 z46:=Tryz.sizeOf129
 v46:=Tryz.zeroValue129
 t51:=Tryz.underlying147
 a51:=Tryz.isAgg147
 z51:=Tryz.sizeOf147
 v51:=Tryz.zeroValue147
 t53:=Tryz.underlying149
 a53:=Tryz.isAgg149
 z53:=Tryz.sizeOf149
 v53:=Tryz.zeroValue149
 t70:=Tryz.underlying62
 a70:=Tryz.isAgg62
 z70:=Tryz.sizeOf62
 v70:=Tryz.zeroValue62
 t72:=Tryz.underlying65
 a72:=Tryz.isAgg65
 z72:=Tryz.sizeOf65
 v72:=Tryz.zeroValue65
 t75:=Tryz.underlying67
 a75:=Tryz.isAgg67
 z75:=Tryz.sizeOf67
 v75:=Tryz.zeroValue67
 t76:=Tryz.underlying68
 a76:=Tryz.isAgg68
 z76:=Tryz.sizeOf68
 v76:=Tryz.zeroValue68
 t109:=Tryz.underlying150
 a109:=Tryz.isAgg150
 z109:=Tryz.sizeOf150
 v109:=Tryz.zeroValue150
 t127:=Tryz.underlying112
 a127:=Tryz.isAgg112
 z127:=Tryz.sizeOf112
 v127:=Tryz.zeroValue112
 t146:=Tryz.underlying175
 a146:=Tryz.isAgg175
 z146:=Tryz.sizeOf175
 v146:=Tryz.zeroValue175
 t148:=Tryz.underlying177
 a148:=Tryz.isAgg177
 z148:=Tryz.sizeOf177
 v148:=Tryz.zeroValue177
 t164:=Tryz.underlying134
 a164:=Tryz.isAgg134
 z164:=Tryz.sizeOf134
 v164:=Tryz.zeroValue134 }
def Tryz.lays146_ren:Go.Shelf.Ren:=⟨fun | 146=>82 | 221=>120 | 268=>149 | 138=>59 | 143=>106 | 195=>104 | 197=>176 | 218=>105 | 219=>126 | 260=>191 | 217=>123 | 225=>156 | 224=>157 | 267=>158 | 266=>150 | 314=>181 | n=>n,fun | 9=>9 | 31=>26 | 3=>3 | 4=>4 | 0=>0 | 105=>179 | 21=>21 | 5=>5 | 46=>129 | 119=>199 | 139=>202 | 138=>201 | 146=>175 | 51=>147 | n=>n,fun | 1=>0 | 3=>4 | 4=>5 | n=>n⟩
theorem Tryz.lays146:Go.Proofs.Lays.n146 Tryz.prog Tryz.lays146_ren:={
 mixed:=by kernel_rfl
 f138:=Tryz.func59.trans (congrArg some (by kernel_rfl))
 f143:=Tryz.func106.trans (congrArg some (by kernel_rfl))
 f146:=Tryz.func82.trans (congrArg some (by kernel_rfl))
 f195:=Tryz.func104.trans (congrArg some (by kernel_rfl))
 f197:=Tryz.func176.trans (congrArg some (by kernel_rfl))
 f217:=Tryz.func123.trans (congrArg some (by kernel_rfl))
 f218:=Tryz.func105.trans (congrArg some (by kernel_rfl))
 f219:=Tryz.func126.trans (congrArg some (by kernel_rfl))
 f221:=Tryz.func120.trans (congrArg some (by kernel_rfl))
 f224:=Tryz.func157.trans (congrArg some (by kernel_rfl))
 f225:=Tryz.func156.trans (congrArg some (by kernel_rfl))
 f260:=Tryz.func191.trans (congrArg some (by kernel_rfl))
 f266:=Tryz.func150.trans (congrArg some (by kernel_rfl))
 f267:=Tryz.func158.trans (congrArg some (by kernel_rfl))
 f268:=Tryz.func149.trans (congrArg some (by kernel_rfl))
 f314:=Tryz.func181.trans (congrArg some (by kernel_rfl))
 t0:=Tryz.underlying0
 a0:=Tryz.isAgg0
 z0:=Tryz.sizeOf0
 v0:=Tryz.zeroValue0
 t3:=Tryz.underlying3
 a3:=Tryz.isAgg3
 z3:=Tryz.sizeOf3
 v3:=Tryz.zeroValue3
 t4:=Tryz.underlying4
 a4:=Tryz.isAgg4
 z4:=Tryz.sizeOf4
 v4:=Tryz.zeroValue4
 t5:=Tryz.underlying5
 a5:=Tryz.isAgg5
 z5:=Tryz.sizeOf5
 v5:=Tryz.zeroValue5
 t9:=Tryz.underlying9
 a9:=Tryz.isAgg9
 z9:=Tryz.sizeOf9
 v9:=Tryz.zeroValue9
 t21:=Tryz.underlying21
 a21:=Tryz.isAgg21
 z21:=Tryz.sizeOf21
 v21:=Tryz.zeroValue21
 t31:=Tryz.underlying26
 a31:=Tryz.isAgg26
 z31:=Tryz.sizeOf26
 v31:=Tryz.zeroValue26
 t46:=Tryz.underlying129
 a46:=Tryz.isAgg129
 z46:=Tryz.sizeOf129
 v46:=Tryz.zeroValue129
 t51:=Tryz.underlying147
 a51:=Tryz.isAgg147
 z51:=Tryz.sizeOf147
 v51:=Tryz.zeroValue147
 t105:=Tryz.underlying179
 a105:=Tryz.isAgg179
 z105:=Tryz.sizeOf179
 v105:=Tryz.zeroValue179
 t119:=Tryz.underlying199
 a119:=Tryz.isAgg199
 z119:=Tryz.sizeOf199
 t138:=Tryz.underlying201
 a138:=Tryz.isAgg201
 z138:=Tryz.sizeOf201
 v138:=Tryz.zeroValue201
 t139:=Tryz.underlying202
 a139:=Tryz.isAgg202
 z139:=Tryz.sizeOf202
 v139:=Tryz.zeroValue202
 t146:=Tryz.underlying175
 a146:=Tryz.isAgg175
 z146:=Tryz.sizeOf175
 v146:=Tryz.zeroValue175
 g1:=by kernel_rfl
 g3:=by kernel_rfl
 g4:=by kernel_rfl }
def Tryz.lays145_ren:Go.Shelf.Ren:=⟨fun | 145=>113 | 220=>139 | 219=>126 | 217=>123 | 225=>156 | 224=>157 | 267=>158 | 266=>150 | 314=>181 | n=>n,fun | 9=>9 | 4=>4 | 59=>130 | 3=>3 | 5=>5 | 46=>129 | 146=>175 | 51=>147 | n=>n,fun | 1=>0 | n=>n⟩
theorem Tryz.lays145:Go.Proofs.Lays.n145 Tryz.prog Tryz.lays145_ren:={
 mixed:=by kernel_rfl
 f145:=Tryz.func113.trans (congrArg some (by kernel_rfl))
 f217:=Tryz.func123.trans (congrArg some (by kernel_rfl))
 f219:=Tryz.func126.trans (congrArg some (by kernel_rfl))
 f220:=Tryz.func139.trans (congrArg some (by kernel_rfl))
 f224:=Tryz.func157.trans (congrArg some (by kernel_rfl))
 f225:=Tryz.func156.trans (congrArg some (by kernel_rfl))
 f266:=Tryz.func150.trans (congrArg some (by kernel_rfl))
 f267:=Tryz.func158.trans (congrArg some (by kernel_rfl))
 f314:=Tryz.func181.trans (congrArg some (by kernel_rfl))
 t3:=Tryz.underlying3
 a3:=Tryz.isAgg3
 z3:=Tryz.sizeOf3
 v3:=Tryz.zeroValue3
 t4:=Tryz.underlying4
 a4:=Tryz.isAgg4
 z4:=Tryz.sizeOf4
 v4:=Tryz.zeroValue4
 t5:=Tryz.underlying5
 a5:=Tryz.isAgg5
 z5:=Tryz.sizeOf5
 v5:=Tryz.zeroValue5
 t9:=Tryz.underlying9
 a9:=Tryz.isAgg9
 z9:=Tryz.sizeOf9
 v9:=Tryz.zeroValue9
 t46:=Tryz.underlying129
 a46:=Tryz.isAgg129
 z46:=Tryz.sizeOf129
 v46:=Tryz.zeroValue129
 t51:=Tryz.underlying147
 a51:=Tryz.isAgg147
 z51:=Tryz.sizeOf147
 v51:=Tryz.zeroValue147
 t59:=Tryz.underlying130
 a59:=Tryz.isAgg130
 z59:=Tryz.sizeOf130
 v59:=Tryz.zeroValue130
 t146:=Tryz.underlying175
 a146:=Tryz.isAgg175
 z146:=Tryz.sizeOf175
 v146:=Tryz.zeroValue175
 g1:=by kernel_rfl }
def Tryz.lays172_ren:Go.Shelf.Ren:=⟨fun | 172=>143 | 244=>172 | 245=>173 | 247=>186 | 279=>187 | 280=>188 | 281=>189 | 282=>190 | 287=>196 | 316=>197 | 171=>53 | 205=>198 | 321=>200 | 322=>201 | 243=>97 | 246=>124 | 283=>151 | 284=>152 | 285=>153 | 286=>154 | 129=>136 | 317=>177 | 318=>178 | 319=>179 | 320=>180 | 337=>192 | 338=>193 | n=>n,fun | 9=>9 | 3=>3 | 75=>67 | 76=>68 | 4=>4 | 5=>5 | 167=>187 | 37=>63 | 0=>0 | 85=>188 | 2=>2 | 168=>190 | 53=>149 | 175=>194 | 46=>129 | 210=>197 | 127=>112 | 145=>209 | 143=>207 | 21=>21 | 171=>156 | 173=>158 | 212=>181 | 51=>147 | 20=>20 | 213=>182 | 232=>203 | 233=>204 | 80=>36 | n=>n,fun | 15=>2 | 16=>3 | 17=>1 | 18=>6 | 19=>7 | n=>n⟩
theorem Tryz.lays172:Go.Proofs.Lays.n172 Tryz.prog Tryz.lays172_ren:={
 mixed:=by kernel_rfl
 f129:=Tryz.func136.trans (congrArg some (by kernel_rfl))
 f171:=Tryz.func53.trans (congrArg some (by kernel_rfl))
 f172:=Tryz.func143.trans (congrArg some (by kernel_rfl))
 f205:=Tryz.func198.trans (congrArg some (by kernel_rfl))
 f243:=Tryz.func97.trans (congrArg some (by kernel_rfl))
 f244:=Tryz.func172.trans (congrArg some (by kernel_rfl))
 f245:=Tryz.func173.trans (congrArg some (by kernel_rfl))
 f246:=Tryz.func124.trans (congrArg some (by kernel_rfl))
 f247:=Tryz.func186.trans (congrArg some (by kernel_rfl))
 f279:=Tryz.func187.trans (congrArg some (by kernel_rfl))
 f280:=Tryz.func188.trans (congrArg some (by kernel_rfl))
 f281:=Tryz.func189.trans (congrArg some (by kernel_rfl))
 f282:=Tryz.func190.trans (congrArg some (by kernel_rfl))
 f283:=Tryz.func151.trans (congrArg some (by kernel_rfl))
 f284:=Tryz.func152.trans (congrArg some (by kernel_rfl))
 f285:=Tryz.func153.trans (congrArg some (by kernel_rfl))
 f286:=Tryz.func154.trans (congrArg some (by kernel_rfl))
 f287:=Tryz.func196.trans (congrArg some (by kernel_rfl))
 f316:=Tryz.func197.trans (congrArg some (by kernel_rfl))
 f317:=Tryz.func177.trans (congrArg some (by kernel_rfl))
 f318:=Tryz.func178.trans (congrArg some (by kernel_rfl))
 f319:=Tryz.func179.trans (congrArg some (by kernel_rfl))
 f320:=Tryz.func180.trans (congrArg some (by kernel_rfl))
 f321:=Tryz.func200.trans (congrArg some (by kernel_rfl))
 f322:=Tryz.func201.trans (congrArg some (by kernel_rfl))
 f337:=Tryz.func192.trans (congrArg some (by kernel_rfl))
 f338:=Tryz.func193.trans (congrArg some (by kernel_rfl))
 t0:=Tryz.underlying0
 a0:=Tryz.isAgg0
 z0:=Tryz.sizeOf0
 v0:=Tryz.zeroValue0
 t2:=Tryz.underlying2
 a2:=Tryz.isAgg2
 z2:=Tryz.sizeOf2
 v2:=Tryz.zeroValue2
 t3:=Tryz.underlying3
 a3:=Tryz.isAgg3
 z3:=Tryz.sizeOf3
 v3:=Tryz.zeroValue3
 t4:=Tryz.underlying4
 a4:=Tryz.isAgg4
 z4:=Tryz.sizeOf4
 v4:=Tryz.zeroValue4
 t5:=Tryz.underlying5
 a5:=Tryz.isAgg5
 z5:=Tryz.sizeOf5
 v5:=Tryz.zeroValue5
 t9:=Tryz.underlying9
 a9:=Tryz.isAgg9
 z9:=Tryz.sizeOf9
 v9:=Tryz.zeroValue9
 t20:=Tryz.underlying20
 a20:=Tryz.isAgg20
 z20:=Tryz.sizeOf20
 v20:=Tryz.zeroValue20
 t21:=Tryz.underlying21
 a21:=Tryz.isAgg21
 z21:=Tryz.sizeOf21
 v21:=Tryz.zeroValue21
 t37:=Tryz.underlying63
 a37:=Tryz.isAgg63
 z37:=Tryz.sizeOf63
 v37:=Tryz.zeroValue63
 t46:=Tryz.underlying129
 a46:=Tryz.isAgg129
 z46:=Tryz.sizeOf129
 v46:=Tryz.zeroValue129
 t51:=Tryz.underlying147
 a51:=Tryz.isAgg147
 z51:=Tryz.sizeOf147
 v51:=Tryz.zeroValue147
 t53:=Tryz.underlying149
 a53:=Tryz.isAgg149
 z53:=Tryz.sizeOf149
 v53:=Tryz.zeroValue149
 t75:=Tryz.underlying67
 a75:=Tryz.isAgg67
 z75:=Tryz.sizeOf67
 v75:=Tryz.zeroValue67
 t76:=Tryz.underlying68
 a76:=Tryz.isAgg68
 z76:=Tryz.sizeOf68
 v76:=Tryz.zeroValue68
 t85:=Tryz.underlying188
 a85:=Tryz.isAgg188
 z85:=Tryz.sizeOf188
 v85:=Tryz.zeroValue188
 t127:=Tryz.underlying112
 a127:=Tryz.isAgg112
 z127:=Tryz.sizeOf112
 v127:=Tryz.zeroValue112
 t143:=Tryz.underlying207
 a143:=Tryz.isAgg207
 z143:=Tryz.sizeOf207
 v143:=Tryz.zeroValue207
 t145:=Tryz.underlying209
 a145:=Tryz.isAgg209
 z145:=Tryz.sizeOf209
 v145:=Tryz.zeroValue209
 t167:=Tryz.underlying187
 a167:=Tryz.isAgg187
 z167:=Tryz.sizeOf187
 v167:=Tryz.zeroValue187
 t168:=Tryz.underlying190
 a168:=Tryz.isAgg190
 z168:=Tryz.sizeOf190
 v168:=Tryz.zeroValue190
 t171:=Tryz.underlying156
 a171:=Tryz.isAgg156
 z171:=Tryz.sizeOf156
 v171:=Tryz.zeroValue156
 t173:=Tryz.underlying158
 a173:=Tryz.isAgg158
 z173:=Tryz.sizeOf158
 v173:=Tryz.zeroValue158
 t175:=Tryz.underlying194
 a175:=Tryz.isAgg194
 z175:=Tryz.sizeOf194
 v175:=Tryz.zeroValue194
 t210:=Tryz.underlying197
 a210:=Tryz.isAgg197
 z210:=Tryz.sizeOf197
 v210:=Tryz.zeroValue197
 t212:=Tryz.underlying181
 a212:=Tryz.isAgg181
 z212:=Tryz.sizeOf181
 v212:=Tryz.zeroValue181
 t213:=Tryz.underlying182
 a213:=Tryz.isAgg182
 z213:=Tryz.sizeOf182
 t232:=Tryz.underlying203
 a232:=Tryz.isAgg203
 z232:=Tryz.sizeOf203
 v232:=Tryz.zeroValue203
 t233:=Tryz.underlying204
 a233:=Tryz.isAgg204
 z233:=Tryz.sizeOf204
 v233:=Tryz.zeroValue204
 g15:=by kernel_rfl
 g16:=by kernel_rfl
 g17:=by kernel_rfl
 g18:=by kernel_rfl
 g19:=by kernel_rfl }
end Go.Proofs
namespace Go.Proofs.YteepabfepfehgaaGreatDoor
open Go.RowKit Go.Shelf Go.Lib
theorem extra105:Builder.Extra Tryz.prog Tryz.lays105_ren where
 sizeBuilder:=by kernel_rfl
 liesBuilder:=by kernel_rfl
 t5:=Tryz.lays105.t5
 a5:=Tryz.lays105.a5
 z5:=Tryz.lays105.z5
 v5:=Tryz.lays105.v5
 infoByte:=by kernel_rfl
 cellsByte:=by kernel_rfl
 sizeByte:=by kernel_rfl
 neB5:=by decide
theorem repeat_cc (s:List UInt8) (c:Nat) (nid:Nat) (hc:c≤9223372036854775807) (hlen:s.length * c≤140737488355328):ACall Tryz.prog 117 [.str s,.int .i64 c] [] nid (.str (Lib.repeatL s c)) [] :=
 acall_below (us:=[.string ⟨s.toArray⟩,.int .i64 c]) nid Tryz.func117 (by kernel_rfl) (by kernel_rfl) rfl rfl (fun w=>by
  have h:=Any.strings_Repeat Tryz.lays105 extra105 ⟨s.toArray⟩ c w hc (by simpa [ByteArray.size] using hlen)
  have hf:Tryz.lays105_ren.f 105=117:=by kernel_rfl
  rw [hf] at h
  simpa using h)
open Go.RowKit
open Go.RowKit Go.Shelf Go.Lib
def preW (s p:List UInt8):Bool:=decide (p.length≤s.length) && (s.take p.length==p)
theorem preW_c (s p:List UInt8) (nid:Nat):ACall Tryz.prog 140 [.str s,.str p] [] nid (.bool (preW s p)) []:=by
 refine acall_sr c140 (by simp [a140]) ?_
 unfold a140
 refine SR.run (t:=.mk) ?_
 have q:decide (((p.length:Nat):Int)≤(s.length:Nat))=decide (p.length≤s.length):=by rw [Bool.eq_iff_iff]; simp
 unfold preW
 by_cases h:p.length≤s.length
 ·rw [decide_eq_true h] at q ⊢
  simp -dsimp only [aqA,↓seqK,↓blkK,↓loopK,step,stepBin,eqB,Nat.add_assoc nid,simprocAttr,z0,Int.cast_ofNat_Int,Int.reduceBEq,Int.reduceBNe,Int.reduceLT,Int.reduceLE,Int.reduceAdd,Int.reduceSub,Int.reduceMul,Int.reduceToNat,Int.reduceNeg,Int.reduceTMod,Int.reduceEq,not_false_eq_true,Int.reducePow,Int.reduceFDiv,Nat.reducePow,Nat.reduceSub,Nat.reduceMul,Nat.min_eq_left,Nat.reduceEqDiff,BEq.rfl,Int.tdiv_one,LN_succ,q]
  refine ⟨by omega,?_⟩
  refine RetOK.go [] [] (.inl rfl) ?_
  simp [a140,cvT,step,res]
 ·rw [decide_eq_false h] at q ⊢
  simp -dsimp only [aqA,↓seqK,↓blkK,↓loopK,step,stepBin,eqB,Nat.add_assoc nid,simprocAttr,z0,Int.cast_ofNat_Int,Int.reduceBEq,Int.reduceBNe,Int.reduceLT,Int.reduceLE,Int.reduceAdd,Int.reduceSub,Int.reduceMul,Int.reduceToNat,Int.reduceNeg,Int.reduceTMod,Int.reduceEq,not_false_eq_true,Int.reducePow,Int.reduceFDiv,Nat.reducePow,Nat.reduceSub,Nat.reduceMul,Nat.min_eq_left,Nat.reduceEqDiff,BEq.rfl,Int.tdiv_one,LN_succ,q]
  refine RetOK.go [] [] (.inl rfl) ?_
  simp [a140,cvT,step,res]
def cutP (s p:List UInt8):List UInt8:=if preW s p=true then s.drop p.length else s
theorem trimL_c (s p:List UInt8) (nid:Nat):ACall Tryz.prog 164 [.str s,.str p] [] nid (.str (cutP s p)) []:=by
 refine acall_sr c164 (by simp [a164]) ?_
 unfold a164
 refine SR.seq ?_
 simp -dsimp only [aqA,↓seqK,↓blkK,↓loopK,step,stepBin,eqB,Nat.add_assoc nid,simprocAttr,z0,Int.cast_ofNat_Int,Int.reduceBEq,Int.reduceBNe,Int.reduceLT,Int.reduceLE,Int.reduceAdd,Int.reduceSub,Int.reduceMul,Int.reduceToNat,Int.reduceNeg,Int.reduceTMod,Int.reduceEq,not_false_eq_true,Int.reducePow,Int.reduceFDiv,Nat.reducePow,Nat.reduceSub,Nat.reduceMul,Nat.min_eq_left,Nat.reduceEqDiff,BEq.rfl,Int.tdiv_one,LN_succ]
 refine SR.run (t:=.mk) ?_
 simp -dsimp only [aqA,↓seqK,↓blkK,↓loopK,step,stepBin,eqB,Nat.add_assoc nid,simprocAttr,z0,Int.cast_ofNat_Int,Int.reduceBEq,Int.reduceBNe,Int.reduceLT,Int.reduceLE,Int.reduceAdd,Int.reduceSub,Int.reduceMul,Int.reduceToNat,Int.reduceNeg,Int.reduceTMod,Int.reduceEq,not_false_eq_true,Int.reducePow,Int.reduceFDiv,Nat.reducePow,Nat.reduceSub,Nat.reduceMul,Nat.min_eq_left,Nat.reduceEqDiff,BEq.rfl,Int.tdiv_one,LN_succ]
 refine CallO.pure (preW_c s p _) ?_
 unfold cutP
 cases h:preW s p <;> simp -dsimp only [aqA,↓seqK,↓blkK,↓loopK,step,stepBin,eqB,Nat.add_assoc nid,simprocAttr,z0,Int.cast_ofNat_Int,Int.reduceBEq,Int.reduceBNe,Int.reduceLT,Int.reduceLE,Int.reduceAdd,Int.reduceSub,Int.reduceMul,Int.reduceToNat,Int.reduceNeg,Int.reduceTMod,Int.reduceEq,not_false_eq_true,Int.reducePow,Int.reduceFDiv,Nat.reducePow,Nat.reduceSub,Nat.reduceMul,Nat.min_eq_left,Nat.reduceEqDiff,BEq.rfl,Int.tdiv_one,LN_succ]
 ·refine RetOK.go [] [] (.inl rfl) ?_
  simp [a164,cvT,step,res]
 ·have hl:p.length≤s.length:=by
   unfold preW at h
   simp only [Bool.and_eq_true,decide_eq_true_eq] at h
   exact h.1
  refine ⟨⟨by omega,by omega⟩,?_⟩
  refine RetOK.go [] [] (.inl rfl) ?_
  simp [a164,cvT,step,res]
theorem trimPre_c (s p:List UInt8) (nid:Nat):ACall Tryz.prog 141 [.str s,.str p] [] nid (.str (cutP s p)) []:=by
 refine acall_sr c141 (by simp [a141]) ?_
 unfold a141
 refine SR.run (t:=.mk) ?_
 simp -dsimp only [aqA,↓seqK,↓blkK,↓loopK,step,stepBin,eqB,Nat.add_assoc nid,simprocAttr,z0,Int.cast_ofNat_Int,Int.reduceBEq,Int.reduceBNe,Int.reduceLT,Int.reduceLE,Int.reduceAdd,Int.reduceSub,Int.reduceMul,Int.reduceToNat,Int.reduceNeg,Int.reduceTMod,Int.reduceEq,not_false_eq_true,Int.reducePow,Int.reduceFDiv,Nat.reducePow,Nat.reduceSub,Nat.reduceMul,Nat.min_eq_left,Nat.reduceEqDiff,BEq.rfl,Int.tdiv_one,LN_succ]
 refine CallO.pure (trimL_c s p _) ?_
 simp -dsimp only [aqA,↓seqK,↓blkK,↓loopK,step,stepBin,eqB,Nat.add_assoc nid,simprocAttr,z0,Int.cast_ofNat_Int,Int.reduceBEq,Int.reduceBNe,Int.reduceLT,Int.reduceLE,Int.reduceAdd,Int.reduceSub,Int.reduceMul,Int.reduceToNat,Int.reduceNeg,Int.reduceTMod,Int.reduceEq,not_false_eq_true,Int.reducePow,Int.reduceFDiv,Nat.reducePow,Nat.reduceSub,Nat.reduceMul,Nat.min_eq_left,Nat.reduceEqDiff,BEq.rfl,Int.tdiv_one,LN_succ]
 refine RetOK.go [] [] (.inl rfl) ?_
 simp [a141,cvT,step,res]
theorem atoi_cc (s:List UInt8) (n:Int) (nid:Nat) (hs:s.length≤18) (h:Lib.atoi s=some n):ACall Tryz.prog 143 [.str s] [] nid (.tup [.int .i64 n,.nili]) [] :=
 acall_lib nid Tryz.func143 (by kernel_rfl) (by kernel_rfl) (fun Y m w vs hl hrep hG hY=>by
  obtain ⟨v0,rfl⟩:∃ v0,vs=[v0]:=by
   match vs,hl with
   | [a],_=>exact ⟨a,rfl⟩
  have r0:=(hrep 0 _ _ rfl rfl).str_inv
  subst r0
  have h:=Any.strconv_Atoi Tryz.lays172 ⟨s.toArray⟩ n (by simpa [ByteArray.size] using hs) (by simpa using h) w
  have hf:Tryz.lays172_ren.f 172=143:=by kernel_rfl
  rw [hf] at h
  refine h.mono fun e w' ⟨h1,t,h2⟩=>⟨_,h1,.tup rfl (fun i p v hp hv=>?_),by rw [h2]; exact bytesWorld_below _ _ _⟩
  match i,hp,hv with
  | 0,hp,hv=>simp at hp hv; subst hp; subst hv; exact .int
  | 1,hp,hv=>simp at hp hv; subst hp; subst hv; exact .nili)
def minusD (s:List UInt8):List UInt8:=cutP s [45]
theorem minusD_nil:minusD []=[]:=rfl
theorem minusD_cons (a:UInt8) (r:List UInt8):minusD (a::r)=if a=45 then r else a::r:=by
 unfold minusD cutP preW
 by_cases h:a=45 <;> simp [h]
theorem minusD_len (s:List UInt8):(minusD s).length≤s.length:=by
 cases s with
 | nil=>simp [minusD_nil]
 | cons a r=>rw [minusD_cons]; split <;> simp
theorem minusD_len2 (s:List UInt8):s.length≤(minusD s).length+1:=by
 cases s with
 | nil=>simp
 | cons a r=>rw [minusD_cons]; split <;> simp
def numP (s:List UInt8):Int × Bool :=
 if minusD s=[]∨2<(minusD s).length∨((minusD s).getD 0 0=48∧(1<(minusD s).length∨(minusD s).length<s.length))∨(minusD s).all digV=false then (0,false) else ((Lib.atoi s).getD 0,true)
theorem dig_val {c:UInt8} (h:digV c=true):Lib.digitVal c=some (c.toNat - 48):=by
 unfold digV at h
 simp only [Bool.and_eq_true,decide_eq_true_eq] at h
 unfold Lib.digitVal
 rw [if_pos h]
theorem decFrom_some:∀ (l:List UInt8) (acc:Nat),l.all digV=true→∃ n,Lib.decFrom acc l=some n
 | [],acc,_=>⟨acc,rfl⟩
 | c::l,acc,h=>by
  rw [List.all_cons,Bool.and_eq_true] at h
  obtain ⟨n,hn⟩:=decFrom_some l (acc * 10+(c.toNat - 48)) h.2
  refine ⟨n,?_⟩
  simp only [Lib.decFrom,dig_val h.1]
  exact hn
theorem atoi_some {s:List UInt8} (h0:minusD s≠[]) (h:(minusD s).all digV=true):Lib.atoi s=some ((Lib.atoi s).getD 0):=by
 have key:∀ l:List UInt8,l≠[]→l.all digV=true→∃ n,Lib.decNat l=some n:=fun l hl ha=>by
  unfold Lib.decNat
  rw [if_neg (by simpa using hl)]
  exact decFrom_some l 0 ha
 suffices ∃ n,Lib.atoi s=some n by obtain ⟨n,hn⟩:=this; rw [hn]; rfl
 cases s with
 | nil=>exact absurd minusD_nil h0
 | cons a r =>
  rw [minusD_cons] at h0 h
  unfold Lib.atoi
  by_cases ha:a=45
  ·rw [if_pos ha] at h0 h
   obtain ⟨n,hn⟩:=key r h0 h
   subst ha
   exact ⟨-(n:Int),by simp [hn]⟩
  ·rw [if_neg ha] at h0 h
   obtain ⟨n,hn⟩:=key (a::r) h0 h
   have hd:digV a=true:=by rw [List.all_cons,Bool.and_eq_true] at h; exact h.1
   have h43:¬ a=43:=fun e=>by subst e; revert hd; decide
   exact ⟨(n:Int),by simp [ha,h43,hn]⟩
theorem num_two (s:List UInt8):((numP s).2=true∧2≤(numP s).1∧(numP s).1≤60→numW s=some (numP s).1.toNat)∧(∀ k,numW s=some k→2≤k→k≤60→numP s=((k:Int),true)):=by
 match s with
 | []=>exact ⟨fun h=>by simp [numP,minusD_nil] at h,fun k h=>by simp [numW] at h⟩
 | [a] =>
  unfold numP
  rw [minusD_cons,num1]
  by_cases ha:a=45
  ·subst ha
   refine ⟨fun h=>by simp at h,fun k h=>?_⟩
   rw [if_neg (by decide)] at h
   cases h
  ·rw [if_neg ha]
   by_cases hd:digV a=true
   ·have hv:=dig_val hd
    have h43:¬ a=43:=fun e=>by subst e; revert hd; decide
    have he:Lib.atoi [a]=some ((valV2 a:Nat):Int):=by
     simp [Lib.atoi,ha,h43,Lib.decNat,Lib.decFrom,hv,valV2]
    rw [if_neg (by simp [hd]),if_pos hd,he]
    exact ⟨fun h=>by simp,fun k h _ _=>by simp at h; simp [h]⟩
   ·rw [if_pos (by simp [hd]),if_neg hd]
    exact ⟨fun h=>by simp at h,fun k h=>by simp at h⟩
 | [a,b] =>
  unfold numP
  rw [minusD_cons,num2]
  by_cases ha:a=45
  ·subst ha
   have hn:(if (45:UInt8)≠48∧digV 45=true∧digV b=true then some (10 * valV2 45+valV2 b) else none)=none:=if_neg (fun h=>by have:=h.2.1; revert this; decide)
   rw [if_pos rfl,hn]
   refine ⟨fun h=>?_,fun k h=>by simp at h⟩
   split at h
   ·simp at h
   ·rename_i hc
    simp only [not_or] at hc
    have hd:digV b=true:=by simpa using hc.2.2.2
    have he:Lib.atoi [45,b]=some (-((valV2 b:Nat):Int)):=by
     simp [Lib.atoi,Lib.decNat,Lib.decFrom,dig_val hd,valV2]
    rw [he] at h
    simp at h
    omega
  ·rw [if_neg ha]
   by_cases hz:a=48
   ·rw [if_pos (by simp [hz]),if_neg (by simp [hz])]
    exact ⟨fun h=>by simp at h,fun k h=>by simp at h⟩
   ·by_cases hd:digV a=true∧digV b=true
    ·have h43:¬ a=43:=fun e=>by have:=hd.1; subst e; revert this; decide
     have he:Lib.atoi [a,b]=some ((10 * valV2 a+valV2 b:Nat):Int):=by
      simp [Lib.atoi,ha,h43,Lib.decNat,Lib.decFrom,dig_val hd.1,dig_val hd.2,valV2]
      omega
     rw [if_neg (by simp [hd,hz]),if_pos ⟨hz,hd⟩,he]
     exact ⟨fun h=>by simp; omega,fun k h _ _=>by simp at h; simp [← h]⟩
    ·have hf:[a,b].all digV=false:=by
      rw [Bool.eq_false_iff]
      intro h
      simp at h
      exact hd h
     rw [if_pos (by right; right; right; exact hf),if_neg (fun h=>hd h.2)]
     exact ⟨fun h=>by simp at h,fun k h=>by simp at h⟩
 | a::b::c::r =>
  refine ⟨fun h=>?_,fun k h=>by simp [numW] at h⟩
  unfold numP at h
  rw [minusD_cons] at h
  by_cases ha:a=45
  ·subst ha
   rw [if_pos rfl] at h
   split at h
   ·simp at h
   ·rename_i hc
    simp only [not_or] at hc
    have hd:(b::c::r).all digV=true:=by simpa using hc.2.2.2
    obtain ⟨n,hn⟩:=decFrom_some _ 0 hd
    have he:Lib.atoi (45::b::c::r)=some (-(n:Int)):=by
     simp only [Lib.atoi,Lib.decNat]
     simp [hn]
    rw [he] at h
    simp at h
    omega
  ·rw [if_neg ha,if_pos (by right; left; simp)] at h
   simp at h
set_option maxHeartbeats 4000000 in
theorem numberW_c (s:List UInt8) (nid:Nat) (hs:s.length≤1000000):ACall Tryz.prog 121 [.str s,.int .i64 2] [] nid (.tup [.int .i64 (numP s).1,.bool (numP s).2]) []:=by
 have hdl:=minusD_len s
 have hdl2:=minusD_len2 s
 have htp:=fun m=>trimPre_c s [45] m
 have hdd:cutP s [45]=minusD s:=rfl
 rw [hdd] at htp
 obtain ⟨R,hR⟩:∃ R,numP s=R:=⟨_,rfl⟩
 rw [hR]
 unfold numP at hR
 have hat:=atoi_some (s:=s)
 generalize minusD s=d at *
 refine acall_sr c121 (by simp [a121]) ?_
 unfold a121
 refine SR.seq ?_
 simp -dsimp only [aqA,↓seqK,↓blkK,↓loopK,step,stepBin,eqB,Nat.add_assoc nid,simprocAttr,z0,Int.cast_ofNat_Int,Int.reduceBEq,Int.reduceBNe,Int.reduceLT,Int.reduceLE,Int.reduceAdd,Int.reduceSub,Int.reduceMul,Int.reduceToNat,Int.reduceNeg,Int.reduceTMod,Int.reduceEq,not_false_eq_true,Int.reducePow,Int.reduceFDiv,Nat.reducePow,Nat.reduceSub,Nat.reduceMul,Nat.min_eq_left,Nat.reduceEqDiff,BEq.rfl,Int.tdiv_one,LN_succ]
 refine SR.seqTo ⟨[(6,.str d),(0,.str s),(1,.int .i64 2)],[],nid+100,nid⟩ ?_ ?_
 ·simp -dsimp only [aqA,↓seqK,↓blkK,↓loopK,step,stepBin,eqB,Nat.add_assoc nid,simprocAttr,z0,Int.cast_ofNat_Int,Int.reduceBEq,Int.reduceBNe,Int.reduceLT,Int.reduceLE,Int.reduceAdd,Int.reduceSub,Int.reduceMul,Int.reduceToNat,Int.reduceNeg,Int.reduceTMod,Int.reduceEq,not_false_eq_true,Int.reducePow,Int.reduceFDiv,Nat.reducePow,Nat.reduceSub,Nat.reduceMul,Nat.min_eq_left,Nat.reduceEqDiff,BEq.rfl,Int.tdiv_one,LN_succ]
  refine CallO.pure (htp _) ?_
  simp -dsimp only [aqA,↓seqK,↓blkK,↓loopK,step,stepBin,eqB,Nat.add_assoc nid,simprocAttr,z0,Int.cast_ofNat_Int,Int.reduceBEq,Int.reduceBNe,Int.reduceLT,Int.reduceLE,Int.reduceAdd,Int.reduceSub,Int.reduceMul,Int.reduceToNat,Int.reduceNeg,Int.reduceTMod,Int.reduceEq,not_false_eq_true,Int.reducePow,Int.reduceFDiv,Nat.reducePow,Nat.reduceSub,Nat.reduceMul,Nat.min_eq_left,Nat.reduceEqDiff,BEq.rfl,Int.tdiv_one,LN_succ]
  refine Cov.go [] [] ?_
  simp [cvT,step,res]
 by_cases h1:d=[]
 ·rw [if_pos (.inl h1)] at hR
  subst hR
  subst h1
  refine SR.run (t:=.mk) ?_
  simp -dsimp only [aqA,↓seqK,↓blkK,↓loopK,step,stepBin,eqB,Nat.add_assoc nid,simprocAttr,z0,Int.cast_ofNat_Int,Int.reduceBEq,Int.reduceBNe,Int.reduceLT,Int.reduceLE,Int.reduceAdd,Int.reduceSub,Int.reduceMul,Int.reduceToNat,Int.reduceNeg,Int.reduceTMod,Int.reduceEq,not_false_eq_true,Int.reducePow,Int.reduceFDiv,Nat.reducePow,Nat.reduceSub,Nat.reduceMul,Nat.min_eq_left,Nat.reduceEqDiff,BEq.rfl,Int.tdiv_one,LN_succ]
  refine RetOK.go [] [] (.inl rfl) ?_
  simp [a121,cvT,step,res]
 have d1:(d==[])=false:=by simpa using h1
 have hpos:0<d.length:=List.length_pos_iff.2 h1
 by_cases h2:2<d.length
 ·rw [if_pos (.inr (.inl h2))] at hR
  subst hR
  have d2:decide ((2:Int)<((d.length:Nat):Int))=true:=decide_eq_true (by omega)
  refine SR.run (t:=.mk) ?_
  simp -dsimp only [aqA,↓seqK,↓blkK,↓loopK,step,stepBin,eqB,Nat.add_assoc nid,simprocAttr,z0,Int.cast_ofNat_Int,Int.reduceBEq,Int.reduceBNe,Int.reduceLT,Int.reduceLE,Int.reduceAdd,Int.reduceSub,Int.reduceMul,Int.reduceToNat,Int.reduceNeg,Int.reduceTMod,Int.reduceEq,not_false_eq_true,Int.reducePow,Int.reduceFDiv,Nat.reducePow,Nat.reduceSub,Nat.reduceMul,Nat.min_eq_left,Nat.reduceEqDiff,BEq.rfl,Int.tdiv_one,LN_succ,d1,d2]
  refine RetOK.go [] [] (.inl rfl) ?_
  simp [a121,cvT,step,res]
 have d2:decide ((2:Int)<((d.length:Nat):Int))=false:=decide_eq_false (by omega)
 refine SR.seqEx (ι:=PLift (¬ (d.getD 0 0=48∧(1<d.length∨d.length<s.length)))) (fun _=>⟨[(6,.str d),(0,.str s)],[],nid+200,nid⟩) ?_ (fun ⟨h3⟩=>?_)
 ·by_cases z:d.getD 0 0=48
  ·have d3:((((d.getD 0 0).toNat:Nat):Int)==48)=true:=by rw [z]; rfl
   by_cases l1:1<d.length
   ·have d4:decide ((1:Int)<((d.length:Nat):Int))=true:=decide_eq_true (by omega)
    rw [if_pos (.inr (.inr (.inl ⟨z,.inl l1⟩)))] at hR
    subst hR
    simp -dsimp only [aqA,↓seqK,↓blkK,↓loopK,step,stepBin,eqB,Nat.add_assoc nid,simprocAttr,z0,Int.cast_ofNat_Int,Int.reduceBEq,Int.reduceBNe,Int.reduceLT,Int.reduceLE,Int.reduceAdd,Int.reduceSub,Int.reduceMul,Int.reduceToNat,Int.reduceNeg,Int.reduceTMod,Int.reduceEq,not_false_eq_true,Int.reducePow,Int.reduceFDiv,Nat.reducePow,Nat.reduceSub,Nat.reduceMul,Nat.min_eq_left,Nat.reduceEqDiff,BEq.rfl,Int.tdiv_one,LN_succ,d1,d2,d3,d4]
    refine ⟨by omega,?_⟩
    refine RetOK.go [] [] (.inl rfl) ?_
    simp [a121,cvT,step,res]
   have d4:decide ((1:Int)<((d.length:Nat):Int))=false:=decide_eq_false (by omega)
   by_cases l2:d.length<s.length
   ·have d5:decide (((d.length:Nat):Int)<((s.length:Nat):Int))=true:=decide_eq_true (by omega)
    rw [if_pos (.inr (.inr (.inl ⟨z,.inr l2⟩)))] at hR
    subst hR
    simp -dsimp only [aqA,↓seqK,↓blkK,↓loopK,step,stepBin,eqB,Nat.add_assoc nid,simprocAttr,z0,Int.cast_ofNat_Int,Int.reduceBEq,Int.reduceBNe,Int.reduceLT,Int.reduceLE,Int.reduceAdd,Int.reduceSub,Int.reduceMul,Int.reduceToNat,Int.reduceNeg,Int.reduceTMod,Int.reduceEq,not_false_eq_true,Int.reducePow,Int.reduceFDiv,Nat.reducePow,Nat.reduceSub,Nat.reduceMul,Nat.min_eq_left,Nat.reduceEqDiff,BEq.rfl,Int.tdiv_one,LN_succ,d1,d2,d3,d4,d5]
    refine ⟨by omega,?_⟩
    refine RetOK.go [] [] (.inl rfl) ?_
    simp [a121,cvT,step,res]
   have d5:decide (((d.length:Nat):Int)<((s.length:Nat):Int))=false:=decide_eq_false (by omega)
   simp -dsimp only [aqA,↓seqK,↓blkK,↓loopK,step,stepBin,eqB,Nat.add_assoc nid,simprocAttr,z0,Int.cast_ofNat_Int,Int.reduceBEq,Int.reduceBNe,Int.reduceLT,Int.reduceLE,Int.reduceAdd,Int.reduceSub,Int.reduceMul,Int.reduceToNat,Int.reduceNeg,Int.reduceTMod,Int.reduceEq,not_false_eq_true,Int.reducePow,Int.reduceFDiv,Nat.reducePow,Nat.reduceSub,Nat.reduceMul,Nat.min_eq_left,Nat.reduceEqDiff,BEq.rfl,Int.tdiv_one,LN_succ,d1,d2,d3,d4,d5]
   refine ⟨by omega,⟨fun h=>by rcases h.2 with h | h <;> omega⟩,Cov.go [] [] ?_⟩
   simp [cvT,step,res]
  ·have d3:((((d.getD 0 0).toNat:Nat):Int)==48)=false:=by
    rw [beq_eq_false_iff_ne]
    intro h
    exact z (UInt8.toNat_inj.1 (by rw [show (48:UInt8).toNat=48 from rfl]; omega))
   simp -dsimp only [aqA,↓seqK,↓blkK,↓loopK,step,stepBin,eqB,Nat.add_assoc nid,simprocAttr,z0,Int.cast_ofNat_Int,Int.reduceBEq,Int.reduceBNe,Int.reduceLT,Int.reduceLE,Int.reduceAdd,Int.reduceSub,Int.reduceMul,Int.reduceToNat,Int.reduceNeg,Int.reduceTMod,Int.reduceEq,not_false_eq_true,Int.reducePow,Int.reduceFDiv,Nat.reducePow,Nat.reduceSub,Nat.reduceMul,Nat.min_eq_left,Nat.reduceEqDiff,BEq.rfl,Int.tdiv_one,LN_succ,d1,d2,d3]
   refine ⟨by omega,⟨fun h=>z h.1⟩,Cov.go [] [] ?_⟩
   simp [cvT,step,res]
 refine SR.seqW (ι:=PLift (d.all digV=true)) (fun _=>⟨[(6,.str d),(0,.str s)],[],nid+2000,nid⟩) ?_ (fun ⟨h4⟩=>?_)
 ·refine SR.seqTo ⟨[(39,.int .i64 (0:Nat)),(38,.int .i64 (d.length:Nat)),(6,.str d),(0,.str s)],[],nid+300,nid⟩ ?_ ?_
  ·simp -dsimp only [aqA,↓seqK,↓blkK,↓loopK,step,stepBin,eqB,Nat.add_assoc nid,simprocAttr,z0,Int.cast_ofNat_Int,Int.reduceBEq,Int.reduceBNe,Int.reduceLT,Int.reduceLE,Int.reduceAdd,Int.reduceSub,Int.reduceMul,Int.reduceToNat,Int.reduceNeg,Int.reduceTMod,Int.reduceEq,not_false_eq_true,Int.reducePow,Int.reduceFDiv,Nat.reducePow,Nat.reduceSub,Nat.reduceMul,Nat.min_eq_left,Nat.reduceEqDiff,BEq.rfl,Int.tdiv_one,LN_succ]
   refine Cov.go [] [] ?_
   simp [cvT,step,res]
  refine SR.block ?_
  refine SR.loopP (fun k:Nat=>k≤d.length∧∀ j,j<k→digV (d.getD j 0)=true) (fun k=>⟨[(39,.int .i64 (k:Nat)),(38,.int .i64 (d.length:Nat)),(6,.str d),(0,.str s)],[],nid+400,nid⟩) (fun k=>d.length+1 - k) 0 ⟨by omega,fun j h=>by omega⟩ (Cov.go [] [] ?_) (fun k hk=>?_)
  ·simp [cvT,step,res]
  obtain ⟨hk,hj⟩:=hk
  by_cases hkl:k<d.length
  rotate_left
  ·have d6:decide ((k:Int)<((d.length:Nat):Int))=false:=decide_eq_false (by omega)
   refine SR.run (t:=.mk) ?_
   simp -dsimp only [aqA,↓seqK,↓blkK,↓loopK,step,stepBin,eqB,Nat.add_assoc nid,simprocAttr,z0,Int.cast_ofNat_Int,Int.reduceBEq,Int.reduceBNe,Int.reduceLT,Int.reduceLE,Int.reduceAdd,Int.reduceSub,Int.reduceMul,Int.reduceToNat,Int.reduceNeg,Int.reduceTMod,Int.reduceEq,not_false_eq_true,Int.reducePow,Int.reduceFDiv,Nat.reducePow,Nat.reduceSub,Nat.reduceMul,Nat.min_eq_left,Nat.reduceEqDiff,BEq.rfl,Int.tdiv_one,LN_succ,d6]
   refine ⟨⟨List.all_eq_true.2 fun c hc=>?_⟩,Cov.go [] [] ?_⟩
   ·obtain ⟨j,hjl,e⟩:=List.getElem_of_mem hc
    have:=hj j (by omega)
    rw [List.getD_eq_getElem?_getD,List.getElem?_eq_getElem hjl] at this
    rw [← e]
    exact this
   ·simp [cvT,step,res]
  have d6:decide ((k:Int)<((d.length:Nat):Int))=true:=decide_eq_true (by omega)
  have hdg:digV (d.getD k 0)=(decide (48≤(d.getD k 0).toNat) && decide ((d.getD k 0).toNat≤57)):=rfl
  have hbad:digV (d.getD k 0)=false→d.all digV=false:=fun h=>by
   rw [Bool.eq_false_iff]
   intro ha
   have hm:d.getD k 0∈d:=by rw [List.getD_eq_getElem?_getD,List.getElem?_eq_getElem hkl]; exact List.getElem_mem _
   rw [List.all_eq_true.1 ha _ hm] at h
   cases h
  refine SR.run (t:=.mk) ?_
  by_cases g1:(d.getD k 0).toNat<48
  ·have d7:decide ((((d.getD k 0).toNat:Nat):Int)<48)=true:=decide_eq_true (by omega)
   rw [if_pos (.inr (.inr (.inr (hbad (by rw [hdg,decide_eq_false (by omega)]; rfl)))))] at hR
   subst hR
   simp -dsimp only [aqA,↓seqK,↓blkK,↓loopK,step,stepBin,eqB,Nat.add_assoc nid,simprocAttr,z0,Int.cast_ofNat_Int,Int.reduceBEq,Int.reduceBNe,Int.reduceLT,Int.reduceLE,Int.reduceAdd,Int.reduceSub,Int.reduceMul,Int.reduceToNat,Int.reduceNeg,Int.reduceTMod,Int.reduceEq,not_false_eq_true,Int.reducePow,Int.reduceFDiv,Nat.reducePow,Nat.reduceSub,Nat.reduceMul,Nat.min_eq_left,Nat.reduceEqDiff,BEq.rfl,Int.tdiv_one,LN_succ,d6,d7]
   refine ⟨⟨by omega,by omega⟩,?_⟩
   refine RetOK.go [] [] (.inl rfl) ?_
   simp [a121,cvT,step,res]
  have d7:decide ((((d.getD k 0).toNat:Nat):Int)<48)=false:=decide_eq_false (by omega)
  by_cases g2:57<(d.getD k 0).toNat
  ·have d8:decide ((57:Int)<(((d.getD k 0).toNat:Nat):Int))=true:=decide_eq_true (by omega)
   rw [if_pos (.inr (.inr (.inr (hbad (by rw [hdg,decide_eq_false (p:=(d.getD k 0).toNat≤57) (by omega),Bool.and_false])))))] at hR
   subst hR
   simp -dsimp only [aqA,↓seqK,↓blkK,↓loopK,step,stepBin,eqB,Nat.add_assoc nid,simprocAttr,z0,Int.cast_ofNat_Int,Int.reduceBEq,Int.reduceBNe,Int.reduceLT,Int.reduceLE,Int.reduceAdd,Int.reduceSub,Int.reduceMul,Int.reduceToNat,Int.reduceNeg,Int.reduceTMod,Int.reduceEq,not_false_eq_true,Int.reducePow,Int.reduceFDiv,Nat.reducePow,Nat.reduceSub,Nat.reduceMul,Nat.min_eq_left,Nat.reduceEqDiff,BEq.rfl,Int.tdiv_one,LN_succ,d6,d7,d8]
   refine ⟨⟨by omega,by omega⟩,⟨by omega,by omega⟩,?_⟩
   refine RetOK.go [] [] (.inl rfl) ?_
   simp [a121,cvT,step,res]
  have d8:decide ((57:Int)<(((d.getD k 0).toNat:Nat):Int))=false:=decide_eq_false (by omega)
  simp -dsimp only [aqA,↓seqK,↓blkK,↓loopK,step,stepBin,eqB,Nat.add_assoc nid,simprocAttr,z0,Int.cast_ofNat_Int,Int.reduceBEq,Int.reduceBNe,Int.reduceLT,Int.reduceLE,Int.reduceAdd,Int.reduceSub,Int.reduceMul,Int.reduceToNat,Int.reduceNeg,Int.reduceTMod,Int.reduceEq,not_false_eq_true,Int.reducePow,Int.reduceFDiv,Nat.reducePow,Nat.reduceSub,Nat.reduceMul,Nat.min_eq_left,Nat.reduceEqDiff,BEq.rfl,Int.tdiv_one,LN_succ,d6,d7,d8]
  refine ⟨⟨by omega,by omega⟩,⟨by omega,by omega⟩,by unfold inI64; omega,k+1,⟨⟨by omega,fun j hjk=>?_⟩,by omega⟩,Cov.go [] [] ?_⟩
  ·rcases (by omega:j<k∨j=k) with h | h
   ·exact hj j h
   ·rw [h,hdg,decide_eq_true (by omega),decide_eq_true (by omega)]; rfl
  ·simp [cvT,step,res]
 have hneg:¬ (d=[]∨2<d.length∨(d.getD 0 0=48∧(1<d.length∨d.length<s.length))∨d.all digV=false):=by
  rintro (h | h | h | h)
  ·exact h1 h
  ·exact h2 h
  ·exact h3 h
  ·rw [h4] at h; cases h
 rw [if_neg hneg] at hR
 subst hR
 have hs18:s.length≤18:=by omega
 have hac:=fun m=>atoi_cc s _ m hs18 (hat h1 h4)
 refine SR.seq ?_
 simp -dsimp only [aqA,↓seqK,↓blkK,↓loopK,step,stepBin,eqB,Nat.add_assoc nid,simprocAttr,z0,Int.cast_ofNat_Int,Int.reduceBEq,Int.reduceBNe,Int.reduceLT,Int.reduceLE,Int.reduceAdd,Int.reduceSub,Int.reduceMul,Int.reduceToNat,Int.reduceNeg,Int.reduceTMod,Int.reduceEq,not_false_eq_true,Int.reducePow,Int.reduceFDiv,Nat.reducePow,Nat.reduceSub,Nat.reduceMul,Nat.min_eq_left,Nat.reduceEqDiff,BEq.rfl,Int.tdiv_one,LN_succ]
 refine CallO.pure (hac _) ?_
 simp -dsimp only [aqA,↓seqK,↓blkK,↓loopK,step,stepBin,eqB,Nat.add_assoc nid,simprocAttr,z0,Int.cast_ofNat_Int,Int.reduceBEq,Int.reduceBNe,Int.reduceLT,Int.reduceLE,Int.reduceAdd,Int.reduceSub,Int.reduceMul,Int.reduceToNat,Int.reduceNeg,Int.reduceTMod,Int.reduceEq,not_false_eq_true,Int.reducePow,Int.reduceFDiv,Nat.reducePow,Nat.reduceSub,Nat.reduceMul,Nat.min_eq_left,Nat.reduceEqDiff,BEq.rfl,Int.tdiv_one,LN_succ]
 refine SR.run (t:=.mk) ?_
 simp -dsimp only [aqA,↓seqK,↓blkK,↓loopK,step,stepBin,eqB,Nat.add_assoc nid,simprocAttr,z0,Int.cast_ofNat_Int,Int.reduceBEq,Int.reduceBNe,Int.reduceLT,Int.reduceLE,Int.reduceAdd,Int.reduceSub,Int.reduceMul,Int.reduceToNat,Int.reduceNeg,Int.reduceTMod,Int.reduceEq,not_false_eq_true,Int.reducePow,Int.reduceFDiv,Nat.reducePow,Nat.reduceSub,Nat.reduceMul,Nat.min_eq_left,Nat.reduceEqDiff,BEq.rfl,Int.tdiv_one,LN_succ]
 refine RetOK.go [] [] (.inl rfl) ?_
 simp [a121,cvT,step,res]
open Go.RowKit Go.Shelf Go.Lib
theorem extra156:Builder.Extra Tryz.prog Tryz.lays156_ren where
 sizeBuilder:=by kernel_rfl
 liesBuilder:=by kernel_rfl
 t5:=Tryz.underlying5
 a5:=Tryz.isAgg5
 z5:=Tryz.sizeOf5
 v5:=Tryz.zeroValue5
 infoByte:=by kernel_rfl
 cellsByte:=by kernel_rfl
 sizeByte:=by kernel_rfl
 neB5:=by decide
theorem join_cc (nl:Bool) (l:List (List UInt8)) (sep:List UInt8) (nid:Nat) (hl:l.length≤1000000) (hj:(Lib.join l sep).length≤140737488355328):ACall Tryz.prog 58 [.lit nl l.length [.s fun i=>l.getD i []],.str sep] [] nid (.str (Lib.join l sep)) [] :=
 acall_lib nid Tryz.func58 (by kernel_rfl) (by kernel_rfl) (fun Y m w vs hvl hrep hG hY=>by
  obtain ⟨v0,v1,rfl⟩:∃ v0 v1,vs=[v0,v1]:=by
   match vs,hvl with
   | [a,b],_=>exact ⟨a,b,rfl⟩
  have r0:=hrep 0 _ _ rfl rfl
  have r1:=(hrep 1 _ _ rfl rfl).str_inv
  subst r1
  obtain ⟨A,cap,rfl,hle,hcells⟩:=r0.strs_inv
  have hf:Tryz.lays156_ren.f 156=58:=by kernel_rfl
  rcases Nat.eq_zero_or_pos l.length with h0 | h0
  ·have hl0:l=[]:=List.eq_nil_of_length_eq_zero h0
   subst hl0
   have h:=Any.strings_Join_none Tryz.lays156 extra156 A cap ⟨sep.toArray⟩ w
   rw [hf] at h
   exact h.mono fun e w' ⟨he,hw⟩=>⟨_,he,.str,hw ▸ Below.refl _ _⟩
  ·obtain ⟨b,o,rfl,hb,hc⟩:=hcells h0
   have hmap:(l.map fun s=>(⟨s.toArray⟩:ByteArray)).map (·.data.toList)=l:=by
    rw [List.map_map]
    conv=>rhs; rw [← List.map_id l]
    refine List.map_congr_left fun s _=>by simp
   have h:=Any.strings_Join Tryz.lays156 extra156 b o cap (l.map fun s=>⟨s.toArray⟩) ⟨sep.toArray⟩ w (fun j x hx=>by
    rw [List.getElem?_map] at hx
    rcases Nat.lt_or_ge j l.length with hj | hj
    ·rw [List.getElem?_eq_getElem hj] at hx
     simp only [Option.map_some,Option.some.injEq] at hx
     subst hx
     have:=hc j hj
     rw [List.getD_eq_getElem?_getD,List.getElem?_eq_getElem hj] at this
     exact this
    ·rw [List.getElem?_eq_none hj] at hx; cases hx) hb (by rw [List.length_map]; omega) (by rw [List.length_map]; exact hle) (by rw [hmap]; simpa using hj)
   rw [hf,hmap,List.length_map] at h
   exact h.mono fun e w' ⟨he,hB⟩=>⟨_,he,by simpa using Rep.str,hB⟩)
open Go.RowKit
theorem some_c (s nid:Nat) (nl nl':Bool) (A:List Int) (p:Nat) (n:Nat) (g:Nat→List UInt8) (h:s<nid) (hp:p≤1099511627775) (hA:A.length≤17592186044416) (h1:0<n) (hn:n≤1099511627776) :
  ACall Tryz.prog 42 [.ptr s 0,.lit nl' n [.s g]] [(s,strmC nl A p)] nid (.str (g (pickI A p n))) [(s,strmC nl A (p+1))]:=by
 obtain ⟨e1,e2,e3,e4,e5,e6,e7,e8,e9⟩:=id_all h
 refine acall_run c42 (by simp [a42]) ?_
 simp -dsimp only [aqA,↓seqK,↓blkK,↓loopK,step,stepBin,eqB,Nat.add_assoc nid,simprocAttr,z0,e1,e2,e3,e4,e5,e6,e7,e8,e9,a42]
 refine CallO.on (next_c _ _ _ _ _ _ (by omega) hp hA (by omega)) (subH_hit _ _ _) ?_
 simp -dsimp only [aqA,↓seqK,↓blkK,↓loopK,step,stepBin,eqB,Nat.add_assoc nid,simprocAttr,z0,e1,e2,e3,e4,e5,e6,e7,e8,e9]
 have:=nextV_bd A p (n:=(n:Int)) (by omega)
 refine ⟨this,RetOK.same (.inl rfl) rfl (by simp [strmC,liveIds]; omega) ?_ ?_⟩
 ·simp [cvT,step,res,strmC]
 ·simp [cvT,step,res,pickI]
theorem CallX.some_go {s id nid:Nat} {nl:Bool} {A:List Int} {p:Nat} {n T:Nat} {g:Nat→List UInt8} {H:Heap} {K:PV→Heap→List Nat→Prop} (hs:getH H s=strmC nl A p) (hid:getH H id=some (.arr T n [.s g])) (hne:(s==id)=false) (h:s<nid) (hp:p≤1099511627775) (hA:A.length≤17592186044416) (h1:0<n) (hn:n≤1099511627776)
  (hK:K (.str (g (pickI A p n))) [(s,strmC nl A (p+1)),(id,none)] [s,id]):CallX Tryz.prog 42 [.ptr s 0,.sl id 0 n] H nid K:=by
 refine CallX.given [id] (u:=[(s,strmC nl A (p+1))]) (fun nl'=>?_) (subH_get hs) (by simp [getH,hne]) hK
 have e:lends H [id] nl' [.ptr s 0,.sl id 0 n]=[.ptr s 0,.lit (nl' id) n [.s g]]:=by simp [lends,lend,hid,noOs]
 rw [e]
 exact some_c s _ nl _ A p n _ h hp hA h1 hn
theorem CallO.some_go {s id nid:Nat} {nl:Bool} {A:List Int} {p:Nat} {n T:Nat} {g:Nat→List UInt8} {H:Heap} {K:PV→Heap→Prop} (hs:getH H s=strmC nl A p) (hid:getH H id=some (.arr T n [.s g])) (hne:(s==id)=false) (h:s<nid) (hp:p≤1099511627775) (hA:A.length≤17592186044416) (h1:0<n) (hn:n≤1099511627776)
  (hK:K (.str (g (pickI A p n))) [(s,strmC nl A (p+1)),(id,none)]):CallOK Tryz.prog 42 [.ptr s 0,.sl id 0 n] H nid K :=
 CallO.x (CallX.some_go hs hid hne h hp hA h1 hn hK)
theorem getD_all {α:Type} {P:α→Prop} {l:List α} {d:α} (h:∀ x∈l,P x) {i:Nat} (hi:i<l.length):P (l.getD i d):=by
 rw [List.getD_eq_getElem?_getD,List.getElem?_eq_getElem hi]
 exact h _ (List.getElem_mem _)
theorem enc_all:((List.range 256).all fun n=>decide ((Utf8.encode (IntKind.i32.wrap (n:Int))).data.toList.length≤2))=true:=by kernel_rfl
theorem enc_len (b:UInt8):(Utf8.encode (IntKind.i32.wrap ((b.toNat:Nat):Int))).data.toList.length≤2:=by
 have:=List.all_eq_true.1 enc_all b.toNat (List.mem_range.2 (UInt8.toNat_lt b))
 simpa using this
theorem changedX (s nid:Nat) (nl:Bool) (A:List Int) (p:Nat) (t w:List UInt8) (h:s<nid) (ht:t.length≤1000000000) (hw:w.length≤1000) (hp:p≤1099511627000) (hA:A.length≤17592186044416) :
  ∃ x:List UInt8 × Nat,(x.1.length≤t.length+w.length+2∧x.2≤p+3)∧ACall Tryz.prog 38 [.ptr s 0,.str t,.str w] [(s,strmC nl A p)] nid (.str x.1) [(s,strmC nl A x.2)]:=by
 obtain ⟨e1,e2,e3,e4,e5,e6,e7,e8,e9⟩:=id_all h
 refine acall_ex c38 (by simp [a38]) ?_
 simp -dsimp only [aqT0,ROp0,aqA,↓seqK,↓blkK,↓loopK,step,stepBin,eqB,Nat.add_assoc nid,simprocAttr,z0,Int.cast_ofNat_Int,Int.reduceBEq,Int.reduceBNe,Int.reduceLT,Int.reduceLE,Int.reduceAdd,Int.reduceSub,Int.reduceMul,Int.reduceToNat,Int.reduceNeg,Int.reduceTMod,Int.reduceEq,not_false_eq_true,Int.reducePow,Int.reduceFDiv,Nat.reducePow,Nat.reduceSub,Nat.reduceMul,Nat.min_eq_left,Nat.reduceEqDiff,BEq.rfl,Int.tdiv_one,LN_succ,e1,e2,e3,e4,e5,e6,e7,e8,e9,a38,strmC_low]
 have fin:∀ st:ST,getS st.slots 6=.str w→st.heap=[(s,strmC nl A p)]→EndOK (fun x:List UInt8 × Nat=>x.1.length≤t.length+w.length+2∧x.2≤p+3) (a38).res [(s,strmC nl A p)] nid (fun x=>.str x.1) (fun x=>[(s,strmC nl A x.2)]) .ret st:=fun st hs hh=>by
  refine EndOK.mk (w,p) ⟨by show w.length≤_; omega,by show p≤_; omega⟩ ?_
  refine RetOK.go [] [] (.inl rfl) ?_
  rw [hh]
  simp [a38,cvT,step,res,e1,e2,e3,e4,e5,e6,e7,e8,e9,strmC,hs]
 refine S2.intro (fun h1=>?_) (fun h1=>?_) <;> simp -dsimp only [aqT0,ROp0,aqA,↓seqK,↓blkK,↓loopK,step,stepBin,eqB,Nat.add_assoc nid,simprocAttr,z0,Int.cast_ofNat_Int,Int.reduceBEq,Int.reduceBNe,Int.reduceLT,Int.reduceLE,Int.reduceAdd,Int.reduceSub,Int.reduceMul,Int.reduceToNat,Int.reduceNeg,Int.reduceTMod,Int.reduceEq,not_false_eq_true,Int.reducePow,Int.reduceFDiv,Nat.reducePow,Nat.reduceSub,Nat.reduceMul,Nat.min_eq_left,Nat.reduceEqDiff,BEq.rfl,Int.tdiv_one,LN_succ,e1,e2,e3,e4,e5,e6,e7,e8,e9,strmC_low]
 ·exact fin _ rfl rfl
 refine S2.intro (fun h2=>?_) (fun h2=>?_) <;> simp -dsimp only [aqT0,ROp0,aqA,↓seqK,↓blkK,↓loopK,step,stepBin,eqB,Nat.add_assoc nid,simprocAttr,z0,Int.cast_ofNat_Int,Int.reduceBEq,Int.reduceBNe,Int.reduceLT,Int.reduceLE,Int.reduceAdd,Int.reduceSub,Int.reduceMul,Int.reduceToNat,Int.reduceNeg,Int.reduceTMod,Int.reduceEq,not_false_eq_true,Int.reducePow,Int.reduceFDiv,Nat.reducePow,Nat.reduceSub,Nat.reduceMul,Nat.min_eq_left,Nat.reduceEqDiff,BEq.rfl,Int.tdiv_one,LN_succ,e1,e2,e3,e4,e5,e6,e7,e8,e9,strmC_low]
 ·exact fin _ rfl rfl
 clear fin
 have ht0:0<t.length:=by
  cases t with
  | nil=>simp at h1
  | cons b t=>simp
 have hw0:0<w.length:=by
  cases w with
  | nil=>simp at h2
  | cons b w=>simp
 refine CallX.on (next_c s _ nl A p _ (by omega) (by omega) hA (by omega)) (subH_get (by simp only [aqA,↓seqK,↓blkK,↓loopK,step,stepBin,eqB,Nat.add_assoc nid,simprocAttr,z0,e1,e2,e3,e4,e5,e6,e7,e8,e9])) ?_
 simp -dsimp only [aqT0,ROp0,aqA,↓seqK,↓blkK,↓loopK,step,stepBin,eqB,Nat.add_assoc nid,simprocAttr,z0,Int.cast_ofNat_Int,Int.reduceBEq,Int.reduceBNe,Int.reduceLT,Int.reduceLE,Int.reduceAdd,Int.reduceSub,Int.reduceMul,Int.reduceToNat,Int.reduceNeg,Int.reduceTMod,Int.reduceEq,not_false_eq_true,Int.reducePow,Int.reduceFDiv,Nat.reducePow,Nat.reduceSub,Nat.reduceMul,Nat.min_eq_left,Nat.reduceEqDiff,BEq.rfl,Int.tdiv_one,LN_succ,e1,e2,e3,e4,e5,e6,e7,e8,e9,strmC_low]
 have hb:=nextV_bd A p (n:=(t.length:Int)) (by omega)
 obtain ⟨I,hI⟩:∃ I:Nat,nextV A p (t.length:Int)=I:=⟨_,(Int.toNat_of_nonneg hb.1).symm⟩
 rw [hI] at hb ⊢
 refine CallX.on (next_c s _ nl A (p+1) _ (by omega) (by omega) hA (by omega)) (subH_get (by simp only [aqA,↓seqK,↓blkK,↓loopK,step,stepBin,eqB,Nat.add_assoc nid,simprocAttr,z0,e1,e2,e3,e4,e5,e6,e7,e8,e9])) ?_
 simp -dsimp only [aqT0,ROp0,aqA,↓seqK,↓blkK,↓loopK,step,stepBin,eqB,Nat.add_assoc nid,simprocAttr,z0,Int.cast_ofNat_Int,Int.reduceBEq,Int.reduceBNe,Int.reduceLT,Int.reduceLE,Int.reduceAdd,Int.reduceSub,Int.reduceMul,Int.reduceToNat,Int.reduceNeg,Int.reduceTMod,Int.reduceEq,not_false_eq_true,Int.reducePow,Int.reduceFDiv,Nat.reducePow,Nat.reduceSub,Nat.reduceMul,Nat.min_eq_left,Nat.reduceEqDiff,BEq.rfl,Int.tdiv_one,LN_succ,e1,e2,e3,e4,e5,e6,e7,e8,e9,strmC_low]
 have hb2:=nextV_bd A (p+1) (n:=(w.length:Int)) (by omega)
 obtain ⟨J,hJ⟩:∃ J:Nat,nextV A (p+1) (w.length:Int)=J:=⟨_,(Int.toNat_of_nonneg hb2.1).symm⟩
 rw [hJ] at hb2 ⊢
 refine ⟨by omega,?_⟩
 refine CallX.on (next_c s _ nl A (p+1+1) _ (by omega) (by omega) hA (by omega)) (subH_get (by simp only [aqA,↓seqK,↓blkK,↓loopK,step,stepBin,eqB,Nat.add_assoc nid,simprocAttr,z0,e1,e2,e3,e4,e5,e6,e7,e8,e9])) ?_
 simp -dsimp only [aqT0,ROp0,aqA,↓seqK,↓blkK,↓loopK,step,stepBin,eqB,Nat.add_assoc nid,simprocAttr,z0,Int.cast_ofNat_Int,Int.reduceBEq,Int.reduceBNe,Int.reduceLT,Int.reduceLE,Int.reduceAdd,Int.reduceSub,Int.reduceMul,Int.reduceToNat,Int.reduceNeg,Int.reduceTMod,Int.reduceEq,not_false_eq_true,Int.reducePow,Int.reduceFDiv,Nat.reducePow,Nat.reduceSub,Nat.reduceMul,Nat.min_eq_left,Nat.reduceEqDiff,BEq.rfl,Int.tdiv_one,LN_succ,e1,e2,e3,e4,e5,e6,e7,e8,e9,strmC_low]
 have henc:=enc_len (w.getD J 0)
 have fin:∀ (x:List UInt8) (st:ST),x.length≤t.length+w.length+2→getS st.slots 6=.str x→st.heap=[(s,strmC nl A (p+1+1+1)),(s,strmC nl A (p+1+1)),(s,strmC nl A (p+1)),(s,strmC nl A p)]→EndOK (fun x:List UInt8 × Nat=>x.1.length≤t.length+w.length+2∧x.2≤p+3) (a38).res [(s,strmC nl A p)] nid (fun x=>.str x.1) (fun x=>[(s,strmC nl A x.2)]) .ret st:=fun x st hx hs hh=>by
  refine EndOK.mk (x,p+3) ⟨hx,Nat.le_refl _⟩ ?_
  refine RetOK.go [] [] (.inl rfl) ?_
  rw [hh]
  simp [a38,cvT,step,res,e1,e2,e3,e4,e5,e6,e7,e8,e9,strmC,hs]
  omega
 refine S2.intro (fun h3=>?_) (fun h3=>?_) <;> simp -dsimp only [aqT0,ROp0,aqA,↓seqK,↓blkK,↓loopK,step,stepBin,eqB,Nat.add_assoc nid,simprocAttr,z0,Int.cast_ofNat_Int,Int.reduceBEq,Int.reduceBNe,Int.reduceLT,Int.reduceLE,Int.reduceAdd,Int.reduceSub,Int.reduceMul,Int.reduceToNat,Int.reduceNeg,Int.reduceTMod,Int.reduceEq,not_false_eq_true,Int.reducePow,Int.reduceFDiv,Nat.reducePow,Nat.reduceSub,Nat.reduceMul,Nat.min_eq_left,Nat.reduceEqDiff,BEq.rfl,Int.tdiv_one,LN_succ,e1,e2,e3,e4,e5,e6,e7,e8,e9,strmC_low]
 ·refine ⟨⟨by omega,by omega⟩,by simp only [List.length_take]; omega,by unfold inI64; omega,⟨by omega,by omega⟩,by simp only [List.length_append,List.length_take,List.length_drop]; omega,?_⟩
  exact fin _ _ (by simp only [List.length_append,List.length_take,List.length_drop]; omega) rfl rfl
 refine S2.intro (fun h4=>?_) (fun h4=>?_) <;> simp -dsimp only [aqT0,ROp0,aqA,↓seqK,↓blkK,↓loopK,step,stepBin,eqB,Nat.add_assoc nid,simprocAttr,z0,Int.cast_ofNat_Int,Int.reduceBEq,Int.reduceBNe,Int.reduceLT,Int.reduceLE,Int.reduceAdd,Int.reduceSub,Int.reduceMul,Int.reduceToNat,Int.reduceNeg,Int.reduceTMod,Int.reduceEq,not_false_eq_true,Int.reducePow,Int.reduceFDiv,Nat.reducePow,Nat.reduceSub,Nat.reduceMul,Nat.min_eq_left,Nat.reduceEqDiff,BEq.rfl,Int.tdiv_one,LN_succ,e1,e2,e3,e4,e5,e6,e7,e8,e9,strmC_low]
 ·refine ⟨⟨by omega,by omega⟩,by simp only [List.length_take]; omega,⟨by omega,by omega⟩,by simp only [List.length_append,List.length_take,List.length_drop]; omega,?_⟩
  exact fin _ _ (by simp only [List.length_append,List.length_take,List.length_drop]; omega) rfl rfl
 ·refine ⟨⟨by omega,by omega⟩,by unfold inI64; omega,⟨by omega,by omega⟩,by simp only [List.length_take,List.length_drop]; omega,?_⟩
  exact fin _ _ (by simp only [List.length_append,List.length_take,List.length_drop]; omega) rfl rfl
open Go.RowKit
def arrS (l:List (List UInt8)):Option ABlk:=some (.arr 9 l.length [.s fun i=>l.getD i []])
theorem getD_app1 (l:List (List UInt8)) (x:List UInt8) {n:Nat} (hn:l.length=n):(fun i=>if i<n then l.getD i [] else [x].getD (i - n) [])=fun i=>(l++[x]).getD i []:=by
 subst hn
 funext i
 simp only [List.getD_eq_getElem?_getD,List.getElem?_append]
 split <;> rfl
theorem getD_setS (l:List (List UInt8)) (x:List UInt8) {I:Nat} (hI:I<l.length):(fun j=>if j=I then x else l.getD j [])=fun j=>(l.set I x).getD j []:=by
 funext j
 simp only [List.getD_eq_getElem?_getD,List.getElem?_set]
 by_cases h:j=I
 ·subst h; simp [hI]
 ·rw [if_neg h,if_neg (fun e=>h e.symm)]
def ShortRows (m:Nat) (l:List (List UInt8)):Prop:=∀ r∈l,r.length≤m
theorem ShortRows.at {m:Nat} {l:List (List UInt8)} (h:ShortRows m l) (i:Nat):(l.getD i []).length≤m:=by
 rw [List.getD_eq_getElem?_getD]
 cases hg:l[i]? with
 | none=>simp
 | some x=>exact h x (List.mem_of_getElem? hg)
theorem ShortRows.set {m:Nat} {l:List (List UInt8)} (h:ShortRows m l) (i:Nat) {x:List UInt8} (hx:x.length≤m):ShortRows m (l.set i x):=fun r hr=>by
 rcases List.mem_or_eq_of_mem_set hr with h1 | h1
 ·exact h r h1
 ·rw [h1]; exact hx
theorem ShortRows.snoc {m:Nat} {l:List (List UInt8)} (h:ShortRows m l) {x:List UInt8} (hx:x.length≤m):ShortRows m (l++[x]):=fun r hr=>by
 rcases List.mem_append.1 hr with h1 | h1
 ·exact h r h1
 ·rw [List.mem_singleton.1 h1]; exact hx
theorem ShortRows.mono {m n:Nat} {l:List (List UInt8)} (h:ShortRows m l) (hn:m≤n):ShortRows n l:=fun r hr=>Nat.le_trans (h r hr) hn
def litS (nl:Bool) (l:List (List UInt8)):PV:=.lit nl l.length [.s fun i=>l.getD i []]
theorem take_eqL {l m:List (List UInt8)} {k:Nat} (hl:k<l.length) (hm:k<m.length) (h:l.take k=m.take k) (hx:l.getD k []=m.getD k []):l.take (k+1)=m.take (k+1):=by
 rw [take_snoc (x:=l.getD k []) (by rw [List.getD_eq_getElem?_getD,List.getElem?_eq_getElem hl]; rfl),take_snoc (x:=m.getD k []) (by rw [List.getD_eq_getElem?_getD,List.getElem?_eq_getElem hm]; rfl),h,hx]
theorem equalS_c (nl nl' : Bool) (l m : List (List UInt8)) (nid : Nat) (hl : l.length ≤ 1000000000000) (hm : m.length ≤ 1000000000000) : ACall Tryz.prog 36 [litS nl l,litS nl' m] [] nid (.bool (l == m)) [] := by
  refine acall_run c36 (by simp [a36]) ?_
  unfold litS
  simp -dsimp only [aqA,↓seqK,↓blkK,↓loopK,step,stepBin,eqB,Nat.add_assoc nid,simprocAttr,z0,a36]
  refine S2.intro (fun h => ?_) (fun h => ?_) <;> simp -dsimp only [aqA,↓seqK,↓blkK,↓loopK,step,stepBin,eqB,Nat.add_assoc nid,simprocAttr,z0]
  · refine RetOK.pure (.inl rfl) rfl ?_
    have h1 : l ≠ m := fun e => by subst e; simp at h
    have h2 : (l == m) = false := by simpa using h1
    simp [cvT,step,res,h1]
  have hlm : l.length = m.length := by have : (l.length : Int) = m.length := by simpa using h
                                       omega
  refine LP.mkP (fun k : Nat => k ≤ l.length ∧ l.take k = m.take k) (fun k : Nat => ⟨[(13,.int .i64 k),(12,.int .i64 l.length),(0,litS nl l),(1,litS nl' m)],[],nid + 36,nid⟩) (fun k => l.length + 1 - k) 0 ⟨by omega,rfl⟩ (Cov.go [] [] ?_) (fun k hk => ?_)
  · simp [cvT,step,res,litS]
  unfold litS
  obtain ⟨hk,ht⟩ := hk
  simp -dsimp only [aqA,↓seqK,↓blkK,↓loopK,step,stepBin,eqB,Nat.add_assoc nid,simprocAttr,z0]
  refine S2.dec (fun h3 => ?_) (fun h3 => ?_) <;> simp -dsimp only [aqA,↓seqK,↓blkK,↓loopK,step,stepBin,eqB,Nat.add_assoc nid,simprocAttr,z0]
  · refine ⟨by omega,by omega,S2.intro (fun h4 => ?_) (fun h4 => ?_)⟩ <;> simp -dsimp only [aqA,↓seqK,↓blkK,↓loopK,step,stepBin,eqB,Nat.add_assoc nid,simprocAttr,z0]
    · refine RetOK.pure (.inl rfl) rfl ?_
      have h1 : l ≠ m := fun e => by subst e; simp at h4
      simp [cvT,step,res,h1]
    · have h5 : l.getD k [] = m.getD k [] := by simpa only [Bool.not_eq_false',beq_iff_eq] using h4
      refine ⟨by unfold inI64; omega,k + 1,⟨⟨by omega,take_eqL (by omega) (by omega) ht h5⟩,by omega⟩,Cov.go [] [] ?_⟩
      simp [cvT,step,res,litS]
  · have hkl : k = l.length := by omega
    have h1 : l = m := by rw [hkl] at ht; rw [List.take_length,hlm,List.take_length] at ht; exact ht
    refine RetOK.pure (.inl rfl) rfl ?_
    simp [cvT,step,res,h1]
open Go.RowKit Go.Shelf Go.Lib
theorem itoa_cc (n:Nat) (nid:Nat) (hn:n<100):ACall Tryz.prog 53 [.int .i64 (n:Nat)] [] nid (.str (Lib.decDigits n)) [] :=
 acall_below (us:=[.int .i64 (n:Nat)]) nid Tryz.func53 (by kernel_rfl) (by kernel_rfl) rfl rfl (fun w=>by
  have h:=Any.strconv_Itoa_small Tryz.lays171 n hn w
  have hf:Tryz.lays171_ren.f 171=53:=by kernel_rfl
  rw [hf] at h
  refine h.mono ?_
  rintro e w' ⟨rfl,rfl⟩
  exact ⟨rfl,Below.refl _ _⟩)
open Go.RowKit
theorem runs_step {s:List UInt8} {i k:Nat} (hi:i<s.length) (hik:i<k) (hk:k≤s.length) (h:∀ j,i≤j→j<k→s.getD j 0=s.getD i 0) (he:k=s.length∨s.getD k 0≠s.getD i 0) :
  runsV (s.drop i)=(k - i,s.getD i 0)::runsV (s.drop k):=by
 have e:s.drop i=List.replicate (k - i - 1+1) (s.getD i 0)++s.drop k:=by
  refine List.ext_getElem? fun j=>?_
  rw [List.getElem?_drop]
  by_cases hj:j<k - i
  ·rw [List.getElem?_append_left (by rw [List.length_replicate]; omega),List.getElem?_replicate,if_pos (by omega)]
   have:=h (i+j) (by omega) (by omega)
   rw [List.getD_eq_getElem?_getD,List.getElem?_eq_getElem (by omega)] at this
   rw [List.getElem?_eq_getElem (by omega),← this]
   rfl
  ·rw [List.getElem?_append_right (by rw [List.length_replicate]; omega),List.length_replicate,List.getElem?_drop]
   congr 1
   omega
 have hh:(s.drop k).head?≠some (s.getD i 0):=fun hd=>by
  rw [List.head?_drop] at hd
  rcases he with he | he
  ·rw [he,List.getElem?_eq_none (Nat.le_refl _)] at hd
   cases hd
  ·apply he
   rw [List.getD_eq_getElem?_getD,hd]
   rfl
 rw [e,runs_rep _ _ hh]
 congr 2
 omega
theorem dec_all:(List.range 100).all (fun n=>Lib.decDigits n==decV n)=true:=by kernel_rfl
theorem dec_is {n:Nat} (h:n<100):Lib.decDigits n=decV n:=by
 have:=List.all_eq_true.1 dec_all n (List.mem_range.2 h)
 simpa using this
theorem decV_len (n:Nat):(decV n).length≤2:=by unfold decV; split <;> simp
theorem wordR_len (x:Nat × UInt8):(wordR x).length≤5:=by
 unfold wordR
 have:=decV_len x.1
 split <;> simp <;> omega
theorem runs_len:∀ s:List UInt8,(runsV s).length≤s.length
 | []=>by simp [runsV]
 | c::s=>by
  have ih:=runs_len s
  show (consR c (runsV s)).length≤_
  cases hr:runsV s with
  | nil=>simp [consR]
  | cons x r =>
   obtain ⟨k,d⟩:=x
   rw [consR_cons]
   rw [hr] at ih
   split <;> simp at ih ⊢ <;> omega
theorem join_line (nl:Bool) (s:List UInt8) (nid:Nat) (hs:s.length≤60):ACall Tryz.prog 58 [.lit nl ((runsV s).map wordR).length [.s fun i=>((runsV s).map wordR).getD i []],.str [32]] [] nid (.str (lineR s)) []:=by
 have hl:=runs_len s
 have hw:∀ x∈(runsV s).map wordR,x.length≤5:=fun x hx=>by
  obtain ⟨y,_,rfl⟩:=List.mem_map.1 hx
  exact wordR_len y
 have hj:=joinW_len ((runsV s).map wordR) 5 hw
 rw [List.length_map] at hj
 have h:=join_cc nl ((runsV s).map wordR) [32] nid (by rw [List.length_map]; omega) (by rw [join_joinW]; omega)
 rw [join_joinW] at h
 exact h
set_option maxHeartbeats 8000000 in
theorem rowLine_c (s:List UInt8) (nid:Nat) (hs:s.length≤60):ACall Tryz.prog 28 [.str s] [] nid (.str (lineR s)) []:=by
 refine acall_sr c28 (by simp [a28]) ?_
 unfold a28
 have hjl:=fun nl m=>join_line nl s m hs
 obtain ⟨W,hW⟩:∃ W,(runsV s).map wordR=W:=⟨_,rfl⟩
 have hWl:W.length≤60:=by rw [← hW,List.length_map]; have:=runs_len s; omega
 rw [hW] at hjl
 refine SR.seq ?_
 simp -dsimp only [aqA,↓seqK,↓blkK,↓loopK,step,stepBin,eqB,Nat.add_assoc nid,simprocAttr,z0,Int.cast_ofNat_Int,Int.reduceBEq,Int.reduceBNe,Int.reduceLT,Int.reduceLE,Int.reduceAdd,Int.reduceSub,Int.reduceMul,Int.reduceToNat,Int.reduceNeg,Int.reduceTMod,Int.reduceEq,not_false_eq_true,Int.reducePow,Int.reduceFDiv,Nat.reducePow,Nat.reduceSub,Nat.reduceMul,Nat.min_eq_left,Nat.reduceEqDiff,BEq.rfl,Int.tdiv_one,LN_succ]
 refine SR.seqTo ⟨[(3,.sl (nid+50) 0 0),(0,.str s)],[(nid+50,arrS [])],nid+100,nid⟩ ?_ ?_
 ·simp -dsimp only [aqA,↓seqK,↓blkK,↓loopK,step,stepBin,eqB,Nat.add_assoc nid,simprocAttr,z0,Int.cast_ofNat_Int,Int.reduceBEq,Int.reduceBNe,Int.reduceLT,Int.reduceLE,Int.reduceAdd,Int.reduceSub,Int.reduceMul,Int.reduceToNat,Int.reduceNeg,Int.reduceTMod,Int.reduceEq,not_false_eq_true,Int.reducePow,Int.reduceFDiv,Nat.reducePow,Nat.reduceSub,Nat.reduceMul,Nat.min_eq_left,Nat.reduceEqDiff,BEq.rfl,Int.tdiv_one,LN_succ]
  refine Cov.go [] [(nid+50,1)] ?_
  simp [cvT,step,res,arrS]
 refine SR.seqW (ι:=Unit) (fun _=>⟨[(3,.sl (nid+50) 0 W.length)],[(nid+50,arrS W)],nid+9000,nid⟩) ?_ (fun _=>?_)
 rotate_left
 ·refine SR.run (t:=.mk) ?_
  unfold arrS
  simp -dsimp only [aqA,↓seqK,↓blkK,↓loopK,step,stepBin,eqB,Nat.add_assoc nid,simprocAttr,z0,Int.cast_ofNat_Int,Int.reduceBEq,Int.reduceBNe,Int.reduceLT,Int.reduceLE,Int.reduceAdd,Int.reduceSub,Int.reduceMul,Int.reduceToNat,Int.reduceNeg,Int.reduceTMod,Int.reduceEq,not_false_eq_true,Int.reducePow,Int.reduceFDiv,Nat.reducePow,Nat.reduceSub,Nat.reduceMul,Nat.min_eq_left,Nat.reduceEqDiff,BEq.rfl,Int.tdiv_one,LN_succ]
  refine CallO.lent [nid+50] (fun nl'=>by
   simp only [lends,lend,noOs,aqA,↓seqK,↓blkK,↓loopK,step,stepBin,eqB,Nat.add_assoc nid,simprocAttr,z0,Int.cast_ofNat_Int,Int.reduceBEq,Int.reduceBNe,Int.reduceLT,Int.reduceLE,Int.reduceAdd,Int.reduceSub,Int.reduceMul,Int.reduceToNat,Int.reduceNeg,Int.reduceTMod,Int.reduceEq,not_false_eq_true,Int.reducePow,Int.reduceFDiv,Nat.reducePow,Nat.reduceSub,Nat.reduceMul,Nat.min_eq_left,Nat.reduceEqDiff,BEq.rfl,Int.tdiv_one,LN_succ]
   exact hjl _ _) rfl rfl (by simp [getH]) ?_
  simp -dsimp only [aqA,↓seqK,↓blkK,↓loopK,step,stepBin,eqB,Nat.add_assoc nid,simprocAttr,z0,Int.cast_ofNat_Int,Int.reduceBEq,Int.reduceBNe,Int.reduceLT,Int.reduceLE,Int.reduceAdd,Int.reduceSub,Int.reduceMul,Int.reduceToNat,Int.reduceNeg,Int.reduceTMod,Int.reduceEq,not_false_eq_true,Int.reducePow,Int.reduceFDiv,Nat.reducePow,Nat.reduceSub,Nat.reduceMul,Nat.min_eq_left,Nat.reduceEqDiff,BEq.rfl,Int.tdiv_one,LN_succ]
  refine RetOK.go [] [] (.inl rfl) ?_
  simp [a28,cvT,step,res]
 refine SR.seqTo ⟨[(4,.int .i64 (0:Nat)),(3,.sl (nid+50) 0 0),(0,.str s)],[(nid+50,arrS [])],nid+150,nid⟩ ?_ ?_
 ·unfold arrS
  simp -dsimp only [aqA,↓seqK,↓blkK,↓loopK,step,stepBin,eqB,Nat.add_assoc nid,simprocAttr,z0,Int.cast_ofNat_Int,Int.reduceBEq,Int.reduceBNe,Int.reduceLT,Int.reduceLE,Int.reduceAdd,Int.reduceSub,Int.reduceMul,Int.reduceToNat,Int.reduceNeg,Int.reduceTMod,Int.reduceEq,not_false_eq_true,Int.reducePow,Int.reduceFDiv,Nat.reducePow,Nat.reduceSub,Nat.reduceMul,Nat.min_eq_left,Nat.reduceEqDiff,BEq.rfl,Int.tdiv_one,LN_succ]
  refine Cov.go [] [] ?_
  simp [cvT,step,res,arrS]
 refine SR.block ?_
 refine SR.loopP (fun x:Nat × List (List UInt8)=>x.1≤s.length∧x.2++(runsV (s.drop x.1)).map wordR=W) (fun x=>⟨[(4,.int .i64 (x.1:Nat)),(3,.sl (nid+50) 0 x.2.length),(0,.str s)],[(nid+50,arrS x.2)],nid+200,nid⟩) (fun x=>s.length - x.1) (0,[]) ⟨by simp,by simpa using hW⟩ (Cov.go [] [] ?_) (fun x hx=>?_)
 ·simp [cvT,step,res,arrS]
 obtain ⟨i,L⟩:=x
 obtain ⟨hi,hL⟩:=hx
 simp only at hi hL ⊢
 have hLl:L.length≤60:=by have:=congrArg List.length hL; rw [List.length_append] at this; omega
 by_cases hil:i<s.length
 rotate_left
 ·have hie:s.drop i=[]:=List.drop_eq_nil_of_le (by omega)
  have d1:decide ((i:Int)<(s.length:Nat))=false:=decide_eq_false (by omega)
  rw [hie] at hL
  have hLW:L=W:=by simpa [runsV] using hL
  subst hLW
  refine SR.run (t:=.mk) ?_
  unfold arrS
  simp -dsimp only [aqA,↓seqK,↓blkK,↓loopK,step,stepBin,eqB,Nat.add_assoc nid,simprocAttr,z0,Int.cast_ofNat_Int,Int.reduceBEq,Int.reduceBNe,Int.reduceLT,Int.reduceLE,Int.reduceAdd,Int.reduceSub,Int.reduceMul,Int.reduceToNat,Int.reduceNeg,Int.reduceTMod,Int.reduceEq,not_false_eq_true,Int.reducePow,Int.reduceFDiv,Nat.reducePow,Nat.reduceSub,Nat.reduceMul,Nat.min_eq_left,Nat.reduceEqDiff,BEq.rfl,Int.tdiv_one,LN_succ,d1]
  refine ⟨(),Cov.go [] [] ?_⟩
  simp [cvT,step,res,arrS,-List.getD_eq_getElem?_getD]
 have d1:decide ((i:Int)<(s.length:Nat))=true:=decide_eq_true (by omega)
 refine SR.seq ?_
 unfold arrS
 simp -dsimp only [aqA,↓seqK,↓blkK,↓loopK,step,stepBin,eqB,Nat.add_assoc nid,simprocAttr,z0,Int.cast_ofNat_Int,Int.reduceBEq,Int.reduceBNe,Int.reduceLT,Int.reduceLE,Int.reduceAdd,Int.reduceSub,Int.reduceMul,Int.reduceToNat,Int.reduceNeg,Int.reduceTMod,Int.reduceEq,not_false_eq_true,Int.reducePow,Int.reduceFDiv,Nat.reducePow,Nat.reduceSub,Nat.reduceMul,Nat.min_eq_left,Nat.reduceEqDiff,BEq.rfl,Int.tdiv_one,LN_succ,d1]
 refine SR.block ?_
 refine SR.seq ?_
 simp -dsimp only [aqA,↓seqK,↓blkK,↓loopK,step,stepBin,eqB,Nat.add_assoc nid,simprocAttr,z0,Int.cast_ofNat_Int,Int.reduceBEq,Int.reduceBNe,Int.reduceLT,Int.reduceLE,Int.reduceAdd,Int.reduceSub,Int.reduceMul,Int.reduceToNat,Int.reduceNeg,Int.reduceTMod,Int.reduceEq,not_false_eq_true,Int.reducePow,Int.reduceFDiv,Nat.reducePow,Nat.reduceSub,Nat.reduceMul,Nat.min_eq_left,Nat.reduceEqDiff,BEq.rfl,Int.tdiv_one,LN_succ]
 refine SR.seqW (ι:={k:Nat // (i<k∧k≤s.length)∧(∀ j,i≤j→j<k→s.getD j 0=s.getD i 0)∧(k=s.length∨s.getD k 0≠s.getD i 0)}) (fun k=>⟨[(5,.int .i64 (k.1:Nat)),(4,.int .i64 (i:Nat)),(3,.sl (nid+50) 0 L.length),(0,.str s)],[(nid+50,arrS L)],nid+1000,nid⟩) ?_ (fun ⟨k,⟨hik,hk⟩,hsame,hend⟩=>?_)
 ·refine SR.block ?_
  refine SR.loopP (fun k:Nat=>(i≤k∧k≤s.length)∧(∀ j,i≤j→j<k→s.getD j 0=s.getD i 0)) (fun k=>⟨[(5,.int .i64 (k:Nat)),(4,.int .i64 (i:Nat)),(3,.sl (nid+50) 0 L.length),(0,.str s)],[(nid+50,arrS L)],nid+400,nid⟩) (fun k=>s.length - k) i ⟨by omega,fun j h1 h2=>by omega⟩ (Cov.go [] [] ?_) (fun k hk=>?_)
  ·simp [cvT,step,res,arrS,-List.getD_eq_getElem?_getD]
  obtain ⟨⟨hik,hk⟩,hsame⟩:=hk
  unfold arrS
  by_cases hkl:k<s.length
  rotate_left
  ·have d2:decide ((k:Int)<(s.length:Nat))=false:=decide_eq_false (by omega)
   refine SR.run (t:=.mk) ?_
   simp -dsimp only [aqA,↓seqK,↓blkK,↓loopK,step,stepBin,eqB,Nat.add_assoc nid,simprocAttr,z0,Int.cast_ofNat_Int,Int.reduceBEq,Int.reduceBNe,Int.reduceLT,Int.reduceLE,Int.reduceAdd,Int.reduceSub,Int.reduceMul,Int.reduceToNat,Int.reduceNeg,Int.reduceTMod,Int.reduceEq,not_false_eq_true,Int.reducePow,Int.reduceFDiv,Nat.reducePow,Nat.reduceSub,Nat.reduceMul,Nat.min_eq_left,Nat.reduceEqDiff,BEq.rfl,Int.tdiv_one,LN_succ,d2]
   refine ⟨⟨k,⟨by omega,hk⟩,hsame,.inl (by omega)⟩,Cov.go [] [] ?_⟩
   simp [cvT,step,res,arrS,-List.getD_eq_getElem?_getD]
  have d2:decide ((k:Int)<(s.length:Nat))=true:=decide_eq_true (by omega)
  by_cases hc:s.getD k 0=s.getD i 0
  ·have d3:((((s.getD k 0).toNat:Nat):Int)==(((s.getD i 0).toNat:Nat):Int))=true:=by rw [hc]; simp
   refine SR.run (t:=.mk) ?_
   simp -dsimp only [aqA,↓seqK,↓blkK,↓loopK,step,stepBin,eqB,Nat.add_assoc nid,simprocAttr,z0,Int.cast_ofNat_Int,Int.reduceBEq,Int.reduceBNe,Int.reduceLT,Int.reduceLE,Int.reduceAdd,Int.reduceSub,Int.reduceMul,Int.reduceToNat,Int.reduceNeg,Int.reduceTMod,Int.reduceEq,not_false_eq_true,Int.reducePow,Int.reduceFDiv,Nat.reducePow,Nat.reduceSub,Nat.reduceMul,Nat.min_eq_left,Nat.reduceEqDiff,BEq.rfl,Int.tdiv_one,LN_succ,d2,d3]
   refine ⟨⟨by omega,by omega⟩,⟨by omega,by omega⟩,by unfold inI64; omega,k+1,⟨⟨by omega,fun j h1 h2=>?_⟩,by omega⟩,Cov.go [] [] ?_⟩
   ·rcases (by omega:j<k∨j=k) with h | h
    ·exact hsame j h1 h
    ·rw [h]; exact hc
   ·simp [cvT,step,res,arrS,-List.getD_eq_getElem?_getD]
  ·have d3:((((s.getD k 0).toNat:Nat):Int)==(((s.getD i 0).toNat:Nat):Int))=false:=by
    rw [beq_eq_false_iff_ne]
    intro h
    exact hc (UInt8.toNat_inj.1 (by omega))
   have hne:i≠k:=fun e=>hc (by rw [e])
   refine SR.run (t:=.mk) ?_
   simp -dsimp only [aqA,↓seqK,↓blkK,↓loopK,step,stepBin,eqB,Nat.add_assoc nid,simprocAttr,z0,Int.cast_ofNat_Int,Int.reduceBEq,Int.reduceBNe,Int.reduceLT,Int.reduceLE,Int.reduceAdd,Int.reduceSub,Int.reduceMul,Int.reduceToNat,Int.reduceNeg,Int.reduceTMod,Int.reduceEq,not_false_eq_true,Int.reducePow,Int.reduceFDiv,Nat.reducePow,Nat.reduceSub,Nat.reduceMul,Nat.min_eq_left,Nat.reduceEqDiff,BEq.rfl,Int.tdiv_one,LN_succ,d2,d3]
   refine ⟨⟨by omega,by omega⟩,⟨by omega,by omega⟩,⟨k,⟨by omega,hk⟩,hsame,.inr hc⟩,Cov.go [] [] ?_⟩
   simp [cvT,step,res,arrS,-List.getD_eq_getElem?_getD]
 simp only
 have hst:=runs_step hil hik hk hsame hend
 rw [hst,List.map_cons] at hL
 clear hst hsame hend
 generalize hm:k - i=m at *
 have hki:(k:Int) - (i:Int)=(m:Nat):=by omega
 have hcw:wordR (m,s.getD i 0)=(if 1<m then decV m else [])++[91,s.getD i 0,93]:=rfl
 refine SR.seq ?_
 unfold arrS
 simp -dsimp only [aqA,↓seqK,↓blkK,↓loopK,step,stepBin,eqB,Nat.add_assoc nid,simprocAttr,z0,Int.cast_ofNat_Int,Int.reduceBEq,Int.reduceBNe,Int.reduceLT,Int.reduceLE,Int.reduceAdd,Int.reduceSub,Int.reduceMul,Int.reduceToNat,Int.reduceNeg,Int.reduceTMod,Int.reduceEq,not_false_eq_true,Int.reducePow,Int.reduceFDiv,Nat.reducePow,Nat.reduceSub,Nat.reduceMul,Nat.min_eq_left,Nat.reduceEqDiff,BEq.rfl,Int.tdiv_one,LN_succ]
 refine SR.seqTo ⟨[(6,.str (if 1<m then decV m else [])),(5,.int .i64 (k:Nat)),(4,.int .i64 (i:Nat)),(3,.sl (nid+50) 0 L.length),(0,.str s)],[(nid+50,arrS L)],nid+1200,nid⟩ ?_ ?_
 ·by_cases h1:1<m
  ·have d4:decide ((1:Int)<(m:Nat))=true:=decide_eq_true (by omega)
   have hit:=fun n=>itoa_cc m n (by omega)
   rw [dec_is (by omega)] at hit
   rw [if_pos h1]
   simp -dsimp only [aqA,↓seqK,↓blkK,↓loopK,step,stepBin,eqB,Nat.add_assoc nid,simprocAttr,z0,Int.cast_ofNat_Int,Int.reduceBEq,Int.reduceBNe,Int.reduceLT,Int.reduceLE,Int.reduceAdd,Int.reduceSub,Int.reduceMul,Int.reduceToNat,Int.reduceNeg,Int.reduceTMod,Int.reduceEq,not_false_eq_true,Int.reducePow,Int.reduceFDiv,Nat.reducePow,Nat.reduceSub,Nat.reduceMul,Nat.min_eq_left,Nat.reduceEqDiff,BEq.rfl,Int.tdiv_one,LN_succ,hki,d4]
   refine ⟨by unfold inI64; omega,by unfold inI64; omega,?_⟩
   refine CallO.pure (hit _) ?_
   simp -dsimp only [aqA,↓seqK,↓blkK,↓loopK,step,stepBin,eqB,Nat.add_assoc nid,simprocAttr,z0,Int.cast_ofNat_Int,Int.reduceBEq,Int.reduceBNe,Int.reduceLT,Int.reduceLE,Int.reduceAdd,Int.reduceSub,Int.reduceMul,Int.reduceToNat,Int.reduceNeg,Int.reduceTMod,Int.reduceEq,not_false_eq_true,Int.reducePow,Int.reduceFDiv,Nat.reducePow,Nat.reduceSub,Nat.reduceMul,Nat.min_eq_left,Nat.reduceEqDiff,BEq.rfl,Int.tdiv_one,LN_succ]
   refine Cov.go [] [] ?_
   simp [cvT,step,res,arrS,-List.getD_eq_getElem?_getD]
  ·have d4:decide ((1:Int)<(m:Nat))=false:=decide_eq_false (by omega)
   rw [if_neg h1]
   simp -dsimp only [aqA,↓seqK,↓blkK,↓loopK,step,stepBin,eqB,Nat.add_assoc nid,simprocAttr,z0,Int.cast_ofNat_Int,Int.reduceBEq,Int.reduceBNe,Int.reduceLT,Int.reduceLE,Int.reduceAdd,Int.reduceSub,Int.reduceMul,Int.reduceToNat,Int.reduceNeg,Int.reduceTMod,Int.reduceEq,not_false_eq_true,Int.reducePow,Int.reduceFDiv,Nat.reducePow,Nat.reduceSub,Nat.reduceMul,Nat.min_eq_left,Nat.reduceEqDiff,BEq.rfl,Int.tdiv_one,LN_succ,hki,d4]
   refine ⟨by unfold inI64; omega,Cov.go [] [] ?_⟩
   simp [cvT,step,res,arrS,-List.getD_eq_getElem?_getD]
 rw [hcw] at hL
 have hwl:(if 1<m then decV m else []).length≤2:=by have:=decV_len m; split <;> simp <;> omega
 generalize (if 1<m then decV m else [])=pre at *
 unfold arrS
 refine SR.seq ?_
 simp -dsimp only [aqA,↓seqK,↓blkK,↓loopK,step,stepBin,eqB,Nat.add_assoc nid,simprocAttr,z0,Int.cast_ofNat_Int,Int.reduceBEq,Int.reduceBNe,Int.reduceLT,Int.reduceLE,Int.reduceAdd,Int.reduceSub,Int.reduceMul,Int.reduceToNat,Int.reduceNeg,Int.reduceTMod,Int.reduceEq,not_false_eq_true,Int.reducePow,Int.reduceFDiv,Nat.reducePow,Nat.reduceSub,Nat.reduceMul,Nat.min_eq_left,Nat.reduceEqDiff,BEq.rfl,Int.tdiv_one,LN_succ]
 have hone:(s.drop i).take (((i:Int)+1).toNat - i)=[s.getD i 0]:=by
  rw [show ((i:Int)+1).toNat - i=1 by omega,List.drop_eq_getElem_cons hil,List.getD_eq_getElem?_getD,List.getElem?_eq_getElem hil]
  rfl
 rw [hone]
 generalize s.getD i 0=c at *
 have hwd:pre++[91]++[c]++[93]=pre++[91,c,93]:=by simp
 have hap:=getD_app1 L (pre++[91,c,93]) (n:=L.length) rfl
 rw [hwd,hap]
 refine ⟨by omega,by unfold inI64; omega,⟨by omega,by omega,by omega⟩,by simp only [List.length_append,List.length_cons,List.length_nil]; omega,by simp only [List.length_append,List.length_cons,List.length_nil]; omega,⟨by omega,by omega⟩,?_⟩
 refine SR.run (t:=.mk) ?_
 simp -dsimp only [aqA,↓seqK,↓blkK,↓loopK,step,stepBin,eqB,Nat.add_assoc nid,simprocAttr,z0,Int.cast_ofNat_Int,Int.reduceBEq,Int.reduceBNe,Int.reduceLT,Int.reduceLE,Int.reduceAdd,Int.reduceSub,Int.reduceMul,Int.reduceToNat,Int.reduceNeg,Int.reduceTMod,Int.reduceEq,not_false_eq_true,Int.reducePow,Int.reduceFDiv,Nat.reducePow,Nat.reduceSub,Nat.reduceMul,Nat.min_eq_left,Nat.reduceEqDiff,BEq.rfl,Int.tdiv_one,LN_succ]
 refine ⟨(k,L++[pre++[91,c,93]]),⟨⟨by simp only; omega,by simp only; rw [List.append_assoc]; exact hL⟩,by simp only; omega⟩,Cov.go [(nid+50,nid+1244)] [] ?_⟩
 simp [cvT,step,res,arrS,-List.getD_eq_getElem?_getD]
open Go.RowKit Go.Shelf Go.Lib
theorem lays166:Lays.n166 Tryz.prog Tryz.lays105_ren:={ Tryz.lays105 with }
theorem lays169:Lays.n169 Tryz.prog Tryz.lays105_ren:={ Tryz.lays105 with }
def bld0:Option ABlk:=some (.box 65 [.nilp,.lit true 0 []])
def bld (id ob:Nat) (l:List UInt8):Option ABlk:=some (.box 65 [.ptr id 0,.sl ob 0 l.length])
def arrBy (l:List UInt8):Option ABlk:=some (.arr 5 l.length (byteC l))
theorem wr0_c (id nid:Nat) (hid:id<nid) (s:List UInt8) (hlen:s.length≤140737488355328) :
  ACall Tryz.prog 26 [.ptr id 0,.str s] [(id,bld0)] nid (.tup [.int .i64 s.length,.any]) [(id,bld id nid s),(nid,arrBy s)] :=
 acall_wr0 lays166 extra105 (by decide) (by kernel_rfl) (by kernel_rfl) (by kernel_rfl) Tryz.func26 (by kernel_rfl) (by kernel_rfl) id nid hid s hlen
theorem wr_c (id ob nid:Nat) (hid:id<nid) (hob:ob<nid) (hne:(id==ob)=false) (l s:List UInt8) (hlen:l.length+s.length≤140737488355328) :
  ACall Tryz.prog 26 [.ptr id 0,.str s] [(id,bld id ob l),(ob,arrBy l)] nid (.tup [.int .i64 s.length,.any]) [(id,bld id nid (l++s)),(nid,arrBy (l++s)),(ob,none)] :=
 acall_wr lays166 extra105 (by decide) (by kernel_rfl) (by kernel_rfl) (by kernel_rfl) Tryz.func26 (by kernel_rfl) (by kernel_rfl) id ob nid hid hob hne l s hlen
theorem bstr_c (id ob nid:Nat) (hne:(id==ob)=false) (l:List UInt8) (h0:l≠[]):ACall Tryz.prog 29 [.ptr id 0] [(id,bld id ob l),(ob,arrBy l)] nid (.str l) [(id,none),(ob,none)] :=
 acall_str lays169 extra105 (by decide) (by kernel_rfl) (by kernel_rfl) (by kernel_rfl) Tryz.func29 (by kernel_rfl) (by kernel_rfl) id ob nid hne l h0
open Go.RowKit
set_option maxHeartbeats 8000000 in
theorem rowLineR_c (s:List UInt8) (nid:Nat) (hs:s.length≤60):ACall Tryz.prog 72 [.str s] [] nid (.str (lineR s)) []:=by
 refine acall_sr c72 (by simp [a72]) ?_
 unfold a72
 have hjl:=fun nl m=>join_line nl s m hs
 obtain ⟨W,hW⟩:∃ W,(runsV s).map wordR=W:=⟨_,rfl⟩
 have hWl:W.length≤60:=by rw [← hW,List.length_map]; have:=runs_len s; omega
 rw [hW] at hjl
 refine SR.seq ?_
 simp -dsimp only [aqA,↓seqK,↓blkK,↓loopK,step,stepBin,eqB,Nat.add_assoc nid,simprocAttr,z0,Int.cast_ofNat_Int,Int.reduceBEq,Int.reduceBNe,Int.reduceLT,Int.reduceLE,Int.reduceAdd,Int.reduceSub,Int.reduceMul,Int.reduceToNat,Int.reduceNeg,Int.reduceTMod,Int.reduceEq,not_false_eq_true,Int.reducePow,Int.reduceFDiv,Nat.reducePow,Nat.reduceSub,Nat.reduceMul,Nat.min_eq_left,Nat.reduceEqDiff,BEq.rfl,Int.tdiv_one,LN_succ]
 refine SR.seqTo ⟨[(3,.sl (nid+50) 0 0),(0,.str s)],[(nid+50,arrS [])],nid+100,nid⟩ ?_ ?_
 ·simp -dsimp only [aqA,↓seqK,↓blkK,↓loopK,step,stepBin,eqB,Nat.add_assoc nid,simprocAttr,z0,Int.cast_ofNat_Int,Int.reduceBEq,Int.reduceBNe,Int.reduceLT,Int.reduceLE,Int.reduceAdd,Int.reduceSub,Int.reduceMul,Int.reduceToNat,Int.reduceNeg,Int.reduceTMod,Int.reduceEq,not_false_eq_true,Int.reducePow,Int.reduceFDiv,Nat.reducePow,Nat.reduceSub,Nat.reduceMul,Nat.min_eq_left,Nat.reduceEqDiff,BEq.rfl,Int.tdiv_one,LN_succ]
  refine Cov.go [] [(nid+50,1)] ?_
  simp [cvT,step,res,arrS]
 refine SR.seqW (ι:=Unit) (fun _=>⟨[(3,.sl (nid+50) 0 W.length)],[(nid+50,arrS W)],nid+9000,nid⟩) ?_ (fun _=>?_)
 rotate_left
 ·refine SR.run (t:=.mk) ?_
  unfold arrS
  simp -dsimp only [aqA,↓seqK,↓blkK,↓loopK,step,stepBin,eqB,Nat.add_assoc nid,simprocAttr,z0,Int.cast_ofNat_Int,Int.reduceBEq,Int.reduceBNe,Int.reduceLT,Int.reduceLE,Int.reduceAdd,Int.reduceSub,Int.reduceMul,Int.reduceToNat,Int.reduceNeg,Int.reduceTMod,Int.reduceEq,not_false_eq_true,Int.reducePow,Int.reduceFDiv,Nat.reducePow,Nat.reduceSub,Nat.reduceMul,Nat.min_eq_left,Nat.reduceEqDiff,BEq.rfl,Int.tdiv_one,LN_succ]
  refine CallO.lent [nid+50] (fun nl'=>by
   simp only [lends,lend,noOs,aqA,↓seqK,↓blkK,↓loopK,step,stepBin,eqB,Nat.add_assoc nid,simprocAttr,z0,Int.cast_ofNat_Int,Int.reduceBEq,Int.reduceBNe,Int.reduceLT,Int.reduceLE,Int.reduceAdd,Int.reduceSub,Int.reduceMul,Int.reduceToNat,Int.reduceNeg,Int.reduceTMod,Int.reduceEq,not_false_eq_true,Int.reducePow,Int.reduceFDiv,Nat.reducePow,Nat.reduceSub,Nat.reduceMul,Nat.min_eq_left,Nat.reduceEqDiff,BEq.rfl,Int.tdiv_one,LN_succ]
   exact hjl _ _) rfl rfl (by simp [getH]) ?_
  simp -dsimp only [aqA,↓seqK,↓blkK,↓loopK,step,stepBin,eqB,Nat.add_assoc nid,simprocAttr,z0,Int.cast_ofNat_Int,Int.reduceBEq,Int.reduceBNe,Int.reduceLT,Int.reduceLE,Int.reduceAdd,Int.reduceSub,Int.reduceMul,Int.reduceToNat,Int.reduceNeg,Int.reduceTMod,Int.reduceEq,not_false_eq_true,Int.reducePow,Int.reduceFDiv,Nat.reducePow,Nat.reduceSub,Nat.reduceMul,Nat.min_eq_left,Nat.reduceEqDiff,BEq.rfl,Int.tdiv_one,LN_succ]
  refine RetOK.go [] [] (.inl rfl) ?_
  simp [a72,cvT,step,res]
 refine SR.seqTo ⟨[(4,.int .i64 (0:Nat)),(3,.sl (nid+50) 0 0),(0,.str s)],[(nid+50,arrS [])],nid+150,nid⟩ ?_ ?_
 ·unfold arrS
  simp -dsimp only [aqA,↓seqK,↓blkK,↓loopK,step,stepBin,eqB,Nat.add_assoc nid,simprocAttr,z0,Int.cast_ofNat_Int,Int.reduceBEq,Int.reduceBNe,Int.reduceLT,Int.reduceLE,Int.reduceAdd,Int.reduceSub,Int.reduceMul,Int.reduceToNat,Int.reduceNeg,Int.reduceTMod,Int.reduceEq,not_false_eq_true,Int.reducePow,Int.reduceFDiv,Nat.reducePow,Nat.reduceSub,Nat.reduceMul,Nat.min_eq_left,Nat.reduceEqDiff,BEq.rfl,Int.tdiv_one,LN_succ]
  refine Cov.go [] [] ?_
  simp [cvT,step,res,arrS]
 refine SR.block ?_
 refine SR.loopP (fun x:Nat × List (List UInt8)=>x.1≤s.length∧x.2++(runsV (s.drop x.1)).map wordR=W) (fun x=>⟨[(4,.int .i64 (x.1:Nat)),(3,.sl (nid+50) 0 x.2.length),(0,.str s)],[(nid+50,arrS x.2)],nid+200,nid⟩) (fun x=>s.length - x.1) (0,[]) ⟨by simp,by simpa using hW⟩ (Cov.go [] [] ?_) (fun x hx=>?_)
 ·simp [cvT,step,res,arrS]
 obtain ⟨i,L⟩:=x
 obtain ⟨hi,hL⟩:=hx
 simp only at hi hL ⊢
 have hLl:L.length≤60:=by have:=congrArg List.length hL; rw [List.length_append] at this; omega
 by_cases hil:i<s.length
 rotate_left
 ·have hie:s.drop i=[]:=List.drop_eq_nil_of_le (by omega)
  have d1:decide ((i:Int)<(s.length:Nat))=false:=decide_eq_false (by omega)
  rw [hie] at hL
  have hLW:L=W:=by simpa [runsV] using hL
  subst hLW
  refine SR.run (t:=.mk) ?_
  unfold arrS
  simp -dsimp only [aqA,↓seqK,↓blkK,↓loopK,step,stepBin,eqB,Nat.add_assoc nid,simprocAttr,z0,Int.cast_ofNat_Int,Int.reduceBEq,Int.reduceBNe,Int.reduceLT,Int.reduceLE,Int.reduceAdd,Int.reduceSub,Int.reduceMul,Int.reduceToNat,Int.reduceNeg,Int.reduceTMod,Int.reduceEq,not_false_eq_true,Int.reducePow,Int.reduceFDiv,Nat.reducePow,Nat.reduceSub,Nat.reduceMul,Nat.min_eq_left,Nat.reduceEqDiff,BEq.rfl,Int.tdiv_one,LN_succ,d1]
  refine ⟨(),Cov.go [] [] ?_⟩
  simp [cvT,step,res,arrS,-List.getD_eq_getElem?_getD]
 have d1:decide ((i:Int)<(s.length:Nat))=true:=decide_eq_true (by omega)
 refine SR.seq ?_
 unfold arrS
 simp -dsimp only [aqA,↓seqK,↓blkK,↓loopK,step,stepBin,eqB,Nat.add_assoc nid,simprocAttr,z0,Int.cast_ofNat_Int,Int.reduceBEq,Int.reduceBNe,Int.reduceLT,Int.reduceLE,Int.reduceAdd,Int.reduceSub,Int.reduceMul,Int.reduceToNat,Int.reduceNeg,Int.reduceTMod,Int.reduceEq,not_false_eq_true,Int.reducePow,Int.reduceFDiv,Nat.reducePow,Nat.reduceSub,Nat.reduceMul,Nat.min_eq_left,Nat.reduceEqDiff,BEq.rfl,Int.tdiv_one,LN_succ,d1]
 refine SR.block ?_
 refine SR.seq ?_
 simp -dsimp only [aqA,↓seqK,↓blkK,↓loopK,step,stepBin,eqB,Nat.add_assoc nid,simprocAttr,z0,Int.cast_ofNat_Int,Int.reduceBEq,Int.reduceBNe,Int.reduceLT,Int.reduceLE,Int.reduceAdd,Int.reduceSub,Int.reduceMul,Int.reduceToNat,Int.reduceNeg,Int.reduceTMod,Int.reduceEq,not_false_eq_true,Int.reducePow,Int.reduceFDiv,Nat.reducePow,Nat.reduceSub,Nat.reduceMul,Nat.min_eq_left,Nat.reduceEqDiff,BEq.rfl,Int.tdiv_one,LN_succ]
 refine SR.seqW (ι:={n:Nat // (0<n∧i+n≤s.length)∧(∀ j,i≤j→j<i+n→s.getD j 0=s.getD i 0)∧(i+n=s.length∨s.getD (i+n) 0≠s.getD i 0)}) (fun n=>⟨[(5,.int .i64 (n.1:Nat)),(4,.int .i64 (i:Nat)),(3,.sl (nid+50) 0 L.length),(0,.str s)],[(nid+50,arrS L)],nid+1000,nid⟩) ?_ (fun ⟨m,⟨hm0,hk⟩,hsame,hend⟩=>?_)
 ·refine SR.block ?_
  refine SR.loopP (fun n:Nat=>(0<n∧i+n≤s.length)∧(∀ j,i≤j→j<i+n→s.getD j 0=s.getD i 0)) (fun n=>⟨[(5,.int .i64 (n:Nat)),(4,.int .i64 (i:Nat)),(3,.sl (nid+50) 0 L.length),(0,.str s)],[(nid+50,arrS L)],nid+400,nid⟩) (fun n=>s.length - n) 1 ⟨by omega,fun j h1 h2=>by rw [show j=i by omega]⟩ (Cov.go [] [] ?_) (fun n hk=>?_)
  ·simp [cvT,step,res,arrS,-List.getD_eq_getElem?_getD]
  obtain ⟨⟨hn0,hk⟩,hsame⟩:=hk
  have hadd:(i:Int)+(n:Nat)=((i+n:Nat):Int):=by omega
  unfold arrS
  by_cases hkl:i+n<s.length
  rotate_left
  ·have d2:decide (((i+n:Nat):Int)<(s.length:Nat))=false:=decide_eq_false (by omega)
   refine SR.run (t:=.mk) ?_
   simp -dsimp only [aqA,↓seqK,↓blkK,↓loopK,step,stepBin,eqB,Nat.add_assoc nid,simprocAttr,z0,Int.cast_ofNat_Int,Int.reduceBEq,Int.reduceBNe,Int.reduceLT,Int.reduceLE,Int.reduceAdd,Int.reduceSub,Int.reduceMul,Int.reduceToNat,Int.reduceNeg,Int.reduceTMod,Int.reduceEq,not_false_eq_true,Int.reducePow,Int.reduceFDiv,Nat.reducePow,Nat.reduceSub,Nat.reduceMul,Nat.min_eq_left,Nat.reduceEqDiff,BEq.rfl,Int.tdiv_one,LN_succ,hadd,d2]
   refine ⟨by unfold inI64; omega,⟨n,⟨hn0,hk⟩,hsame,.inl (by omega)⟩,Cov.go [] [] ?_⟩
   simp [cvT,step,res,arrS,-List.getD_eq_getElem?_getD]
  have d2:decide (((i+n:Nat):Int)<(s.length:Nat))=true:=decide_eq_true (by omega)
  by_cases hc:s.getD (i+n) 0=s.getD i 0
  ·have d3:((((s.getD (i+n) 0).toNat:Nat):Int)==(((s.getD i 0).toNat:Nat):Int))=true:=by rw [hc]; simp
   refine SR.run (t:=.mk) ?_
   simp -dsimp only [aqA,↓seqK,↓blkK,↓loopK,step,stepBin,eqB,Nat.add_assoc nid,simprocAttr,z0,Int.cast_ofNat_Int,Int.reduceBEq,Int.reduceBNe,Int.reduceLT,Int.reduceLE,Int.reduceAdd,Int.reduceSub,Int.reduceMul,Int.reduceToNat,Int.reduceNeg,Int.reduceTMod,Int.reduceEq,not_false_eq_true,Int.reducePow,Int.reduceFDiv,Nat.reducePow,Nat.reduceSub,Nat.reduceMul,Nat.min_eq_left,Nat.reduceEqDiff,BEq.rfl,Int.tdiv_one,LN_succ,hadd,d2,d3]
   refine ⟨by unfold inI64; omega,by unfold inI64; omega,⟨by omega,by omega⟩,⟨by omega,by omega⟩,by unfold inI64; omega,n+1,⟨⟨by omega,fun j h1 h2=>?_⟩,by omega⟩,Cov.go [] [] ?_⟩
   ·rcases (by omega:j<i+n∨j=i+n) with h | h
    ·exact hsame j h1 h
    ·rw [h]; exact hc
   ·simp [cvT,step,res,arrS,-List.getD_eq_getElem?_getD]
  ·have d3:((((s.getD (i+n) 0).toNat:Nat):Int)==(((s.getD i 0).toNat:Nat):Int))=false:=by
    rw [beq_eq_false_iff_ne]
    intro h
    exact hc (UInt8.toNat_inj.1 (by omega))
   refine SR.run (t:=.mk) ?_
   simp -dsimp only [aqA,↓seqK,↓blkK,↓loopK,step,stepBin,eqB,Nat.add_assoc nid,simprocAttr,z0,Int.cast_ofNat_Int,Int.reduceBEq,Int.reduceBNe,Int.reduceLT,Int.reduceLE,Int.reduceAdd,Int.reduceSub,Int.reduceMul,Int.reduceToNat,Int.reduceNeg,Int.reduceTMod,Int.reduceEq,not_false_eq_true,Int.reducePow,Int.reduceFDiv,Nat.reducePow,Nat.reduceSub,Nat.reduceMul,Nat.min_eq_left,Nat.reduceEqDiff,BEq.rfl,Int.tdiv_one,LN_succ,hadd,d2,d3]
   refine ⟨by unfold inI64; omega,by unfold inI64; omega,⟨by omega,by omega⟩,⟨by omega,by omega⟩,⟨n,⟨hn0,hk⟩,hsame,.inr hc⟩,Cov.go [] [] ?_⟩
   simp [cvT,step,res,arrS,-List.getD_eq_getElem?_getD]
 simp only
 have hst:=runs_step hil (k:=i+m) (by omega) hk hsame hend
 rw [hst,List.map_cons,Nat.add_sub_cancel_left] at hL
 clear hst hsame hend
 have hcw:wordR (m,s.getD i 0)=(if 1<m then decV m else [])++[91,s.getD i 0,93]:=rfl
 have hone:(s.drop i).take (((i:Int)+1).toNat - i)=[s.getD i 0]:=by
  rw [show ((i:Int)+1).toNat - i=1 by omega,List.drop_eq_getElem_cons hil,List.getD_eq_getElem?_getD,List.getElem?_eq_getElem hil]
  rfl
 rw [hcw] at hL
 refine SR.seqTo ⟨[(6,.str [91,s.getD i 0,93]),(5,.int .i64 (m:Nat)),(4,.int .i64 (i:Nat)),(3,.sl (nid+50) 0 L.length),(0,.str s)],[(nid+50,arrS L)],nid+1200,nid⟩ ?_ ?_
 ·unfold arrS
  simp -dsimp only [aqA,↓seqK,↓blkK,↓loopK,step,stepBin,eqB,Nat.add_assoc nid,simprocAttr,z0,Int.cast_ofNat_Int,Int.reduceBEq,Int.reduceBNe,Int.reduceLT,Int.reduceLE,Int.reduceAdd,Int.reduceSub,Int.reduceMul,Int.reduceToNat,Int.reduceNeg,Int.reduceTMod,Int.reduceEq,not_false_eq_true,Int.reducePow,Int.reduceFDiv,Nat.reducePow,Nat.reduceSub,Nat.reduceMul,Nat.min_eq_left,Nat.reduceEqDiff,BEq.rfl,Int.tdiv_one,LN_succ]
  rw [hone]
  refine ⟨by unfold inI64; omega,⟨by omega,by omega,by omega⟩,by simp only [List.length_append,List.length_cons,List.length_nil]; omega,by simp only [List.length_append,List.length_cons,List.length_nil]; omega,Cov.go [] [] ?_⟩
  simp [cvT,step,res,arrS,-List.getD_eq_getElem?_getD]
 refine SR.seqTo ⟨[(6,.str ((if 1<m then decV m else [])++[91,s.getD i 0,93])),(5,.int .i64 (m:Nat)),(4,.int .i64 (i:Nat)),(3,.sl (nid+50) 0 L.length),(0,.str s)],[(nid+50,arrS L)],nid+1300,nid⟩ ?_ ?_
 ·unfold arrS
  by_cases h1:1<m
  ·have d4:decide ((1:Int)<(m:Nat))=true:=decide_eq_true (by omega)
   have hit:=fun n=>itoa_cc m n (by omega)
   rw [dec_is (by omega)] at hit
   have:=decV_len m
   rw [if_pos h1]
   simp -dsimp only [aqA,↓seqK,↓blkK,↓loopK,step,stepBin,eqB,Nat.add_assoc nid,simprocAttr,z0,Int.cast_ofNat_Int,Int.reduceBEq,Int.reduceBNe,Int.reduceLT,Int.reduceLE,Int.reduceAdd,Int.reduceSub,Int.reduceMul,Int.reduceToNat,Int.reduceNeg,Int.reduceTMod,Int.reduceEq,not_false_eq_true,Int.reducePow,Int.reduceFDiv,Nat.reducePow,Nat.reduceSub,Nat.reduceMul,Nat.min_eq_left,Nat.reduceEqDiff,BEq.rfl,Int.tdiv_one,LN_succ,d4]
   refine CallO.pure (hit _) ?_
   simp -dsimp only [aqA,↓seqK,↓blkK,↓loopK,step,stepBin,eqB,Nat.add_assoc nid,simprocAttr,z0,Int.cast_ofNat_Int,Int.reduceBEq,Int.reduceBNe,Int.reduceLT,Int.reduceLE,Int.reduceAdd,Int.reduceSub,Int.reduceMul,Int.reduceToNat,Int.reduceNeg,Int.reduceTMod,Int.reduceEq,not_false_eq_true,Int.reducePow,Int.reduceFDiv,Nat.reducePow,Nat.reduceSub,Nat.reduceMul,Nat.min_eq_left,Nat.reduceEqDiff,BEq.rfl,Int.tdiv_one,LN_succ]
   refine ⟨by omega,Cov.go [] [] ?_⟩
   simp [cvT,step,res,arrS,-List.getD_eq_getElem?_getD]
  ·have d4:decide ((1:Int)<(m:Nat))=false:=decide_eq_false (by omega)
   rw [if_neg h1,List.nil_append]
   simp -dsimp only [aqA,↓seqK,↓blkK,↓loopK,step,stepBin,eqB,Nat.add_assoc nid,simprocAttr,z0,Int.cast_ofNat_Int,Int.reduceBEq,Int.reduceBNe,Int.reduceLT,Int.reduceLE,Int.reduceAdd,Int.reduceSub,Int.reduceMul,Int.reduceToNat,Int.reduceNeg,Int.reduceTMod,Int.reduceEq,not_false_eq_true,Int.reducePow,Int.reduceFDiv,Nat.reducePow,Nat.reduceSub,Nat.reduceMul,Nat.min_eq_left,Nat.reduceEqDiff,BEq.rfl,Int.tdiv_one,LN_succ,d4]
   refine Cov.go [] [] ?_
   simp [cvT,step,res,arrS,-List.getD_eq_getElem?_getD]
 generalize ((if 1<m then decV m else [])++[91,s.getD i 0,93])=wd at *
 have hap:=getD_app1 L wd (n:=L.length) rfl
 have hadd:(i:Int)+(m:Nat)=((i+m:Nat):Int):=by omega
 unfold arrS
 refine SR.seq ?_
 simp -dsimp only [aqA,↓seqK,↓blkK,↓loopK,step,stepBin,eqB,Nat.add_assoc nid,simprocAttr,z0,Int.cast_ofNat_Int,Int.reduceBEq,Int.reduceBNe,Int.reduceLT,Int.reduceLE,Int.reduceAdd,Int.reduceSub,Int.reduceMul,Int.reduceToNat,Int.reduceNeg,Int.reduceTMod,Int.reduceEq,not_false_eq_true,Int.reducePow,Int.reduceFDiv,Nat.reducePow,Nat.reduceSub,Nat.reduceMul,Nat.min_eq_left,Nat.reduceEqDiff,BEq.rfl,Int.tdiv_one,LN_succ]
 rw [hap]
 refine ⟨⟨by omega,by omega⟩,?_⟩
 refine SR.run (t:=.mk) ?_
 simp -dsimp only [aqA,↓seqK,↓blkK,↓loopK,step,stepBin,eqB,Nat.add_assoc nid,simprocAttr,z0,Int.cast_ofNat_Int,Int.reduceBEq,Int.reduceBNe,Int.reduceLT,Int.reduceLE,Int.reduceAdd,Int.reduceSub,Int.reduceMul,Int.reduceToNat,Int.reduceNeg,Int.reduceTMod,Int.reduceEq,not_false_eq_true,Int.reducePow,Int.reduceFDiv,Nat.reducePow,Nat.reduceSub,Nat.reduceMul,Nat.min_eq_left,Nat.reduceEqDiff,BEq.rfl,Int.tdiv_one,LN_succ,hadd]
 refine ⟨by unfold inI64; omega,(i+m,L++[wd]),⟨⟨by simp only; omega,by simp only; rw [List.append_assoc]; exact hL⟩,by simp only; omega⟩,Cov.go [(nid+50,nid+1312)] [] ?_⟩
 simp [cvT,step,res,arrS,-List.getD_eq_getElem?_getD]
end Go.Proofs.YteepabfepfehgaaGreatDoor
