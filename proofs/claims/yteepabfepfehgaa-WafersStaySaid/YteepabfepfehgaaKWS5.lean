/-
 The functions' forms for the abstract machine,each checked against the program's form.
-/
import Derived.Test.YteepabfepfehgaaKWS4
import Derived.Test.YteepabfepfehgaaKWS1
import Derived.Test.YteepabfepfehgaaProg
import Derived.Test.YteepabfepfehgaaKWS3
import Derived.Lib.Bytealg
import Derived.Laws.Externs
import Derived.KernelRfl
set_option linter.unusedVariables false
set_option linter.unusedSimpArgs false
set_option maxRecDepth 100000
namespace Go.Proofs.Yteepabfepfehgaa
def a4 : AFn := ⟨133,[.t 2],.seq (.ops [⟨some 2,none,.mv (.c (.bool false))⟩])
 (.seq (.ops [⟨some 24,none,.mv (.t 0)⟩,⟨some 25,none,.build [(.lit true 0 []),(.int .i64 0)] [(0,1,(.t 24))]⟩,⟨some 26,none,.box 25 (.t 25)⟩,⟨some 27,none,.mv (.t 0)⟩,⟨some 28,none,.build [(.lit true 0 []),(.int .i64 0)] [(0,1,(.t 27))]⟩,⟨some 29,none,.box 25 (.t 28)⟩,⟨some 3,none,.mv (.t 26)⟩,⟨some 4,none,.mv (.t 29)⟩])
 (.seq (.ops [⟨some 30,none,.mv (.t 3)⟩,⟨some 31,none,.call 24 [(.t 30)]⟩,⟨some 32,none,.mv (.t 4)⟩,⟨some 33,none,.call 24 [(.t 32)]⟩,⟨some 5,none,.alloc 28 [(.lit true 0 []),(.str [])]⟩,⟨some 6,none,.alloc 28 [(.lit true 0 []),(.str [])]⟩,⟨none,none,.store 2 (.t 5) (.t 31)⟩,⟨none,none,.store 2 (.t 6) (.t 33)⟩])
 (.seq (.ops [⟨some 34,none,.mv (.t 3)⟩,⟨some 35,none,.call 25 [(.t 34)]⟩,⟨some 36,none,.mv (.t 4)⟩,⟨some 37,none,.call 25 [(.t 36)]⟩,⟨some 7,none,.mv (.t 35)⟩,⟨some 8,none,.mv (.t 37)⟩])
 (.seq (.ops [⟨some 39,none,.load (some 2) (.t 5)⟩,⟨some 40,none,.call 26 [(.t 39)]⟩,⟨some 38,none,.mv (.t 40)⟩,⟨some 41,none,.ext (.t 38) 0⟩,⟨some 42,none,.ext (.t 38) 1⟩,⟨some 9,none,.alloc 28 [(.lit true 0 []),(.str [])]⟩,⟨none,none,.store 2 (.t 9) (.t 41)⟩,⟨some 10,none,.mv (.t 42)⟩])
 (.seq (.ops [⟨some 44,none,.load (some 2) (.t 5)⟩,⟨some 45,none,.call 27 [(.t 44),(.c (.int .i64 1))]⟩,⟨some 43,none,.mv (.t 45)⟩,⟨some 46,none,.ext (.t 43) 0⟩,⟨some 47,none,.ext (.t 43) 1⟩,⟨some 48,none,.ext (.t 43) 2⟩,⟨some 11,none,.alloc 28 [(.lit true 0 []),(.str [])]⟩,⟨none,none,.store 2 (.t 11) (.t 46)⟩,⟨some 12,none,.mv (.t 47)⟩,⟨some 13,none,.mv (.t 48)⟩])
 (.seq (.ops [⟨some 50,none,.load (some 2) (.t 5)⟩,⟨some 51,none,.load (some 2) (.t 5)⟩,⟨some 52,none,.call 17 [(.t 50),(.t 51)]⟩,⟨some 49,none,.mv (.t 52)⟩,⟨some 53,none,.ext (.t 49) 0⟩,⟨some 54,none,.ext (.t 49) 1⟩,⟨some 14,none,.alloc 28 [(.lit true 0 []),(.str [])]⟩,⟨none,none,.store 2 (.t 14) (.t 53)⟩,⟨some 15,none,.mv (.t 54)⟩])
 (.seq (.ops [⟨some 56,none,.load (some 2) (.t 5)⟩,⟨some 57,none,.call 28 [(.t 56),(.c (.int .i64 1))]⟩,⟨some 55,none,.mv (.t 57)⟩,⟨some 58,none,.ext (.t 55) 0⟩,⟨some 59,none,.ext (.t 55) 1⟩,⟨some 16,none,.mv (.t 58)⟩,⟨some 17,none,.mv (.t 59)⟩])
 (.seq (.seq (.ops [⟨some 60,none,.mv (.t 10)⟩,⟨some 61,none,.bin 0 .neq (.t 60) (.c (.int .i64 0))⟩,⟨some 62,none,.mv (.t 61)⟩,⟨some 63,(some (62,false)),.mv (.t 13)⟩,⟨some 64,(some (62,false)),.bin 0 .neq (.t 63) (.c (.int .i64 0))⟩,⟨some 65,none,.pick (.t 62) (.c (.bool true)) (.t 64)⟩,⟨some 66,none,.mv (.t 65)⟩,⟨some 67,(some (66,false)),.mv (.t 15)⟩,⟨some 68,(some (66,false)),.bin 0 .neq (.t 67) (.c (.int .i64 0))⟩,⟨some 69,none,.pick (.t 66) (.c (.bool true)) (.t 68)⟩,⟨some 70,none,.mv (.t 69)⟩,⟨some 71,(some (70,false)),.mv (.t 17)⟩,⟨some 72,(some (70,false)),.bin 0 .neq (.t 71) (.c (.int .i64 0))⟩,⟨some 73,none,.pick (.t 70) (.c (.bool true)) (.t 72)⟩,⟨some 74,none,.mv (.t 73)⟩,⟨some 75,(some (74,false)),.mv (.t 12)⟩,⟨some 76,(some (74,false)),.bin 0 .lss (.t 75) (.c (.int .i64 0))⟩,⟨some 77,none,.pick (.t 74) (.c (.bool true)) (.t 76)⟩,⟨some 78,none,.mv (.t 77)⟩,⟨some 79,(some (78,false)),.load (some 2) (.t 14)⟩,⟨some 80,(some (78,false)),.load (some 2) (.t 6)⟩,⟨some 81,(some (78,false)),.call 20 [(.t 79),(.t 80)]⟩,⟨some 82,(some (78,false)),.un .not (.t 81)⟩,⟨some 83,none,.pick (.t 78) (.c (.bool true)) (.t 82)⟩])
 (.cond (.t 83) (.seq (.ops [⟨some 2,none,.mv (.c (.bool false))⟩])
 (.ret)) (.skip)))
 (.seq (.ops [⟨some 85,none,.mv (.t 7)⟩,⟨some 86,none,.call 29 [(.t 85)]⟩,⟨some 84,none,.mv (.t 86)⟩,⟨some 87,none,.ext (.t 84) 0⟩,⟨some 88,none,.ext (.t 84) 1⟩,⟨some 89,none,.ext (.t 84) 2⟩,⟨some 18,none,.mv (.t 87)⟩,⟨some 19,none,.mv (.t 88)⟩,⟨some 20,none,.mv (.t 89)⟩])
 (.seq (.seq (.ops [⟨some 90,none,.mv (.t 20)⟩,⟨some 91,none,.mv (.t 8)⟩,⟨some 92,none,.call 30 [(.t 91)]⟩,⟨some 93,none,.bin 0 .neq (.t 90) (.t 92)⟩])
 (.cond (.t 93) (.seq (.ops [⟨some 2,none,.mv (.c (.bool false))⟩])
 (.ret)) (.skip)))
 (.seq (.ops [⟨some 94,none,.fadr 0 (.t 9)⟩,⟨some 95,none,.load none (.t 94)⟩,⟨some 96,none,.call 31 [(.t 95)]⟩])
 (.seq (.ops [⟨some 97,none,.fadr 0 (.t 11)⟩,⟨some 98,none,.load none (.t 97)⟩,⟨some 99,none,.call 31 [(.t 98)]⟩])
 (.seq (.ops [⟨some 100,none,.fadr 0 (.t 14)⟩,⟨some 101,none,.load none (.t 100)⟩,⟨some 102,none,.call 31 [(.t 101)]⟩])
 (.seq (.ops [⟨some 103,none,.mv (.t 18)⟩,⟨some 104,none,.call 32 [(.t 103)]⟩])
 (.seq (.seq (.ops [⟨some 105,none,.mv (.t 16)⟩,⟨some 106,none,.len false (.t 105)⟩,⟨some 107,none,.mv (.c (.int .i64 0))⟩])
 (.block 0 (.loop (.seq (.ops [⟨some 108,none,.bin 0 .lss (.t 107) (.t 106)⟩])
 (.seq (.cond (.t 108) (.skip) (.exit 0))
 (.seq (.block 1 (.seq (.ops [⟨some 109,none,.iadr 1 (.t 105) (.t 107)⟩,⟨some 110,none,.load none (.t 109)⟩,⟨some 22,none,.mv (.t 110)⟩])
 (.seq (.ops [⟨some 111,none,.mv (.t 22)⟩,⟨some 112,none,.len false (.t 111)⟩,⟨some 113,none,.mv (.c (.int .i64 0))⟩])
 (.block 2 (.loop (.seq (.ops [⟨some 114,none,.bin 0 .lss (.t 113) (.t 112)⟩])
 (.seq (.cond (.t 114) (.skip) (.exit 2))
 (.seq (.block 3 (.seq (.ops [⟨some 115,none,.mv (.t 113)⟩,⟨some 23,none,.mv (.t 115)⟩])
 (.ops [⟨some 116,none,.mv (.t 22)⟩,⟨some 117,none,.mv (.t 23)⟩,⟨some 118,none,.build [(.int .i64 0),(.int .i64 0)] [(0,1,(.c (.int .i64 777)))]⟩,⟨some 119,none,.iadr 2 (.t 116) (.t 117)⟩,⟨none,none,.store 2 (.t 119) (.t 118)⟩])))
 (.ops [⟨some 120,none,.bin 0 .add (.t 113) (.c (.int .i64 1))⟩,⟨some 113,none,.mv (.t 120)⟩])))))))))
 (.ops [⟨some 121,none,.bin 0 .add (.t 107) (.c (.int .i64 1))⟩,⟨some 107,none,.mv (.t 121)⟩])))))))
 (.seq (.ops [⟨some 122,none,.load (some 2) (.t 5)⟩,⟨some 123,none,.load (some 2) (.t 6)⟩,⟨some 124,none,.call 20 [(.t 122),(.t 123)]⟩,⟨some 125,none,.mv (.t 124)⟩,⟨some 126,(some (125,true)),.mv (.t 7)⟩,⟨some 127,(some (125,true)),.mv (.t 8)⟩,⟨some 128,(some (125,true)),.call 15 [(.t 126),(.t 127)]⟩,⟨some 129,none,.pick (.t 125) (.t 128) (.c (.bool false))⟩,⟨some 130,none,.mv (.t 129)⟩,⟨some 131,(some (130,true)),.call 33 []⟩,⟨some 132,none,.pick (.t 130) (.t 131) (.c (.bool false))⟩,⟨some 2,none,.mv (.t 132)⟩])
 (.ret)))))))))))))))))⟩
theorem c4:compF Go.Proofs.Try.prog 4=some a4:=by kernel_rfl
def a5 : AFn := ⟨73,[.c 2 (some 2)],.seq (.ops [⟨some 2,none,.alloc 28 [(.lit true 0 []),(.str [])]⟩])
 (.seq (.ops [⟨some 6,none,.mv (.t 0)⟩,⟨some 7,none,.call 34 [(.t 6),(.c (.int .i64 1)),(.c (.int .i64 6))]⟩,⟨some 3,none,.mv (.t 7)⟩])
 (.seq (.ops [⟨some 8,none,.mv (.t 0)⟩,⟨some 9,none,.bslice 9 1 5 [(.str [])] [(0,1,(.c (.str [49]))),(1,1,(.c (.str [49]))),(2,1,(.c (.str [49,50]))),(3,1,(.c (.str [49,97]))),(4,1,(.c (.str [])))]⟩,⟨some 10,none,.call 8 [(.t 8),(.t 9)]⟩,⟨some 11,none,.build [(.lit true 0 []),(.str [])] [(1,1,(.t 10))]⟩,⟨some 4,none,.alloc 28 [(.lit true 0 []),(.str [])]⟩,⟨none,none,.store 2 (.t 4) (.t 11)⟩])
 (.seq (.seq (.ops [⟨some 12,none,.mv (.t 0)⟩,⟨some 13,none,.call 34 [(.t 12),(.c (.int .i64 1)),(.c (.int .i64 6))]⟩,⟨some 14,none,.mv (.c (.int .i64 0))⟩])
 (.block 0 (.loop (.seq (.ops [⟨some 15,none,.bin 0 .lss (.t 14) (.t 13)⟩])
 (.seq (.cond (.t 15) (.skip) (.exit 0))
 (.seq (.block 1 (.seq (.ops [⟨some 5,none,.mv (.c (.str []))⟩])
 (.seq (.seq (.ops [⟨some 16,none,.mv (.t 3)⟩,⟨some 17,none,.mv (.c (.int .i64 0))⟩])
 (.block 2 (.loop (.seq (.ops [⟨some 18,none,.bin 0 .lss (.t 17) (.t 16)⟩])
 (.seq (.cond (.t 18) (.skip) (.exit 2))
 (.seq (.block 3 (.ops [⟨some 19,none,.mv (.t 5)⟩,⟨some 20,none,.mv (.t 0)⟩,⟨some 21,none,.bslice 9 1 10 [(.str [])] [(0,1,(.c (.str [49]))),(1,1,(.c (.str [49]))),(2,1,(.c (.str [49]))),(3,1,(.c (.str [120]))),(4,1,(.c (.str [120]))),(5,1,(.c (.str [63]))),(6,1,(.c (.str [46]))),(7,1,(.c (.str [42]))),(8,1,(.c (.str [50]))),(9,1,(.c (.str [97])))]⟩,⟨some 22,none,.call 8 [(.t 20),(.t 21)]⟩,⟨some 23,none,.bin 1 .add (.t 19) (.t 22)⟩,⟨some 5,none,.mv (.t 23)⟩]))
 (.ops [⟨some 24,none,.bin 0 .add (.t 17) (.c (.int .i64 1))⟩,⟨some 17,none,.mv (.t 24)⟩])))))))
 (.ops [⟨some 25,none,.fadr 0 (.t 4)⟩,⟨some 26,none,.load none (.t 25)⟩,⟨some 27,none,.mv (.t 5)⟩,⟨some 28,none,.bslice 9 1 1 [(.str [])] [(0,1,(.t 27))]⟩,⟨some 29,none,.app 9 1 16 (.t 26) (.t 28)⟩,⟨some 30,none,.fadr 0 (.t 4)⟩,⟨none,none,.store 1 (.t 30) (.t 29)⟩]))))
 (.ops [⟨some 31,none,.bin 0 .add (.t 14) (.c (.int .i64 1))⟩,⟨some 14,none,.mv (.t 31)⟩])))))))
 (.seq (.seq (.ops [⟨some 32,none,.mv (.t 0)⟩,⟨some 33,none,.call 7 [(.t 32),(.c (.int .i64 12))]⟩])
 (.cond (.t 33) (.seq (.ops [⟨some 34,none,.mv (.t 0)⟩,⟨some 35,none,.call 35 [(.t 34),(.c (.int .i64 3))]⟩])
 (.block 4 (.seq (.ops [⟨some 41,none,.bin 0 .eql (.t 35) (.c (.int .i64 0))⟩,⟨some 40,none,.mv (.t 41)⟩])
 (.cond (.t 40) (.any [(⟨some 42,none,.fadr 0 (.t 4)⟩,[]),(⟨some 43,none,.load none (.t 42)⟩,[]),(⟨some 44,none,.mv (.t 0)⟩,[0,1]),(⟨some 45,none,.fadr 0 (.t 4)⟩,[0,1,2]),(⟨some 46,none,.load none (.t 45)⟩,[0,1,2]),(⟨some 47,none,.len false (.t 46)⟩,[0,1,2]),(⟨some 48,none,.call 35 [(.t 44),(.t 47)]⟩,[0,1]),(⟨some 49,none,.iadr 1 (.t 43) (.t 48)⟩,[]),(⟨some 50,none,.load none (.t 49)⟩,[]),(⟨some 51,none,.mv (.t 0)⟩,[0,1,2,3,4,5,6,7,8]),(⟨some 52,none,.bslice 9 1 2 [(.str [])] [(0,1,(.c (.str [49]))),(1,1,(.c (.str [65])))]⟩,[0,1,2,3,4,5,6,7,8,9]),(⟨some 53,none,.call 8 [(.t 51),(.t 52)]⟩,[0,1,7,8]),(⟨some 54,none,.bin 1 .add (.t 50) (.t 53)⟩,[]),(⟨some 55,none,.iadr 1 (.t 43) (.t 48)⟩,[]),(⟨none,none,.store 1 (.t 55) (.t 54)⟩,[])]) (.seq (.ops [⟨some 57,none,.bin 0 .eql (.t 35) (.c (.int .i64 1))⟩,⟨some 56,none,.mv (.t 57)⟩])
 (.cond (.t 56) (.any [(⟨some 58,none,.fadr 0 (.t 4)⟩,[]),(⟨some 59,none,.load none (.t 58)⟩,[]),(⟨some 60,none,.mv (.t 0)⟩,[0,1]),(⟨some 61,none,.fadr 0 (.t 4)⟩,[0,1,2]),(⟨some 62,none,.load none (.t 61)⟩,[0,1,2]),(⟨some 63,none,.len false (.t 62)⟩,[0,1,2]),(⟨some 64,none,.call 35 [(.t 60),(.t 63)]⟩,[0,1]),(⟨some 65,none,.mv (.t 0)⟩,[0,1,2,3,4,5,6]),(⟨some 66,none,.bslice 9 1 3 [(.str [])] [(0,1,(.c (.str []))),(1,1,(.c (.str [65]))),(2,1,(.c (.str [32])))]⟩,[0,1,2,3,4,5,6,7]),(⟨some 67,none,.call 8 [(.t 65),(.t 66)]⟩,[0,1]),(⟨some 68,none,.iadr 1 (.t 59) (.t 64)⟩,[]),(⟨none,none,.store 1 (.t 68) (.t 67)⟩,[])]) (.ops [⟨some 36,none,.mv (.t 0)⟩,⟨some 37,none,.bslice 9 1 4 [(.str [])] [(0,1,(.c (.str [50,49]))),(1,1,(.c (.str [49,49]))),(2,1,(.c (.str [65]))),(3,1,(.c (.str [63])))]⟩,⟨some 38,none,.call 8 [(.t 36),(.t 37)]⟩,⟨some 39,none,.fadr 1 (.t 4)⟩,⟨none,none,.store 1 (.t 39) (.t 38)⟩]))))))) (.skip)))
 (.seq (.seq (.ops [⟨some 69,none,.mv (.t 0)⟩,⟨some 70,none,.call 7 [(.t 69),(.c (.int .i64 60))]⟩])
 (.cond (.t 70) (.ops [⟨some 71,none,.fadr 0 (.t 4)⟩,⟨none,none,.store 1 (.t 71) (.c (.lit true 0 []))⟩]) (.skip)))
 (.seq (.ops [⟨some 72,none,.load (some 2) (.t 4)⟩,⟨none,none,.store 2 (.t 2) (.t 72)⟩])
 (.ret)))))))⟩
theorem c5:compF Go.Proofs.Try.prog 5=some a5:=by kernel_rfl
def a6 : AFn := ⟨8,[.t 2],.seq (.ops [⟨some 2,none,.mv (.c (.lit true 0 []))⟩])
 (.seq (.seq (.ops [⟨some 3,none,.mv (.t 0)⟩,⟨some 4,none,.bin 3 .eql (.t 3) (.c (.lit true 0 []))⟩])
 (.cond (.t 4) (.seq (.ops [⟨some 2,none,.mv (.c (.lit true 0 []))⟩])
 (.ret)) (.skip)))
 (.seq (.ops [⟨some 5,none,.bslice 9 1 0 [(.str [])] []⟩,⟨some 6,none,.mv (.t 0)⟩,⟨some 7,none,.app 9 1 16 (.t 5) (.t 6)⟩,⟨some 2,none,.mv (.t 7)⟩])
 (.ret)))⟩
def a7 : AFn := ⟨9,[.t 4],.seq (.ops [⟨some 4,none,.mv (.c (.bool false))⟩])
 (.seq (.ops [⟨some 5,none,.mv (.t 0)⟩,⟨some 6,none,.mv (.t 1)⟩,⟨some 7,none,.call 35 [(.t 5),(.t 6)]⟩,⟨some 8,none,.bin 0 .eql (.t 7) (.c (.int .i64 0))⟩,⟨some 4,none,.mv (.t 8)⟩])
 (.ret))⟩
theorem c7:compF Go.Proofs.Try.prog 7=some a7:=by kernel_rfl
def a8 : AFn := ⟨12,[.t 4],.seq (.ops [⟨some 4,none,.mv (.c (.str []))⟩])
 (.seq (.ops [⟨some 5,none,.mv (.t 1)⟩,⟨some 6,none,.mv (.t 0)⟩,⟨some 7,none,.mv (.t 1)⟩,⟨some 8,none,.len false (.t 7)⟩,⟨some 9,none,.call 35 [(.t 6),(.t 8)]⟩,⟨some 10,none,.iadr 1 (.t 5) (.t 9)⟩,⟨some 11,none,.load none (.t 10)⟩,⟨some 4,none,.mv (.t 11)⟩])
 (.ret))⟩
theorem c8:compF Go.Proofs.Try.prog 8=some a8:=by kernel_rfl
def a9 : AFn := ⟨12,[.t 4],.seq (.ops [⟨some 4,none,.mv (.c (.int .i64 0))⟩])
 (.seq (.ops [⟨some 5,none,.mv (.t 1)⟩,⟨some 6,none,.mv (.t 0)⟩,⟨some 7,none,.mv (.t 1)⟩,⟨some 8,none,.len false (.t 7)⟩,⟨some 9,none,.call 35 [(.t 6),(.t 8)]⟩,⟨some 10,none,.iadr 1 (.t 5) (.t 9)⟩,⟨some 11,none,.load none (.t 10)⟩,⟨some 4,none,.mv (.t 11)⟩])
 (.ret))⟩
theorem c9:compF Go.Proofs.Try.prog 9=some a9:=by kernel_rfl
def a11 : AFn := ⟨46,[.t 2],.seq (.ops [⟨some 1,none,.box 28 (.t 0)⟩,⟨some 2,none,.mv (.c (.int .i64 0))⟩])
 (.seq (.block 0 (.seq (.ops [⟨some 6,none,.fadr 0 (.t 1)⟩,⟨some 7,none,.load none (.t 6)⟩,⟨some 8,none,.len false (.t 7)⟩,⟨some 9,none,.bin 0 .eql (.t 8) (.c (.int .i64 0))⟩,⟨some 5,none,.mv (.t 9)⟩])
 (.cond (.t 5) (.seq (.ops [⟨some 2,none,.mv (.c (.int .i64 8))⟩])
 (.ret)) (.seq (.ops [⟨some 11,none,.fadr 0 (.t 1)⟩,⟨some 12,none,.load none (.t 11)⟩,⟨some 13,none,.len false (.t 12)⟩,⟨some 14,none,.bin 0 .gtr (.t 13) (.c (.int .i64 60))⟩,⟨some 10,none,.mv (.t 14)⟩])
 (.cond (.t 10) (.seq (.ops [⟨some 2,none,.mv (.c (.int .i64 2))⟩])
 (.ret)) (.skip))))))
 (.seq (.seq (.ops [⟨some 15,none,.fadr 0 (.t 1)⟩,⟨some 16,none,.load none (.t 15)⟩,⟨some 17,none,.len false (.t 16)⟩,⟨some 18,none,.mv (.c (.int .i64 0))⟩])
 (.block 1 (.loop (.seq (.ops [⟨some 19,none,.bin 0 .lss (.t 18) (.t 17)⟩])
 (.seq (.cond (.t 19) (.skip) (.exit 1))
 (.seq (.block 2 (.seq (.ops [⟨some 20,none,.iadr 1 (.t 16) (.t 18)⟩,⟨some 21,none,.load none (.t 20)⟩,⟨some 4,none,.mv (.t 21)⟩])
 (.block 3 (.seq (.ops [⟨some 23,none,.mv (.t 4)⟩,⟨some 24,none,.bin 1 .eql (.t 23) (.c (.str []))⟩,⟨some 22,none,.mv (.t 24)⟩])
 (.cond (.t 22) (.seq (.ops [⟨some 2,none,.mv (.c (.int .i64 8))⟩])
 (.ret)) (.seq (.ops [⟨some 26,none,.mv (.t 4)⟩,⟨some 27,none,.len true (.t 26)⟩,⟨some 28,none,.bin 0 .gtr (.t 27) (.c (.int .i64 60))⟩,⟨some 25,none,.mv (.t 28)⟩])
 (.cond (.t 25) (.seq (.ops [⟨some 2,none,.mv (.c (.int .i64 2))⟩])
 (.ret)) (.seq (.ops [⟨some 30,none,.mv (.t 4)⟩,⟨some 31,none,.len true (.t 30)⟩,⟨some 32,none,.fadr 0 (.t 1)⟩,⟨some 33,none,.load none (.t 32)⟩,⟨some 34,none,.iadr 1 (.t 33) (.c (.int .i64 0))⟩,⟨some 35,none,.load none (.t 34)⟩,⟨some 36,none,.len true (.t 35)⟩,⟨some 37,none,.bin 0 .neq (.t 31) (.t 36)⟩,⟨some 29,none,.mv (.t 37)⟩])
 (.cond (.t 29) (.seq (.ops [⟨some 2,none,.mv (.c (.int .i64 3))⟩])
 (.ret)) (.seq (.ops [⟨some 39,none,.mv (.t 4)⟩,⟨some 40,none,.s2b (.t 39)⟩,⟨some 41,none,.call 36 [(.t 40),(.c (.fn 37 []))]⟩,⟨some 38,none,.mv (.t 41)⟩])
 (.cond (.t 38) (.seq (.ops [⟨some 2,none,.mv (.c (.int .i64 9))⟩])
 (.ret)) (.skip))))))))))))
 (.ops [⟨some 42,none,.bin 0 .add (.t 18) (.c (.int .i64 1))⟩,⟨some 18,none,.mv (.t 42)⟩])))))))
 (.seq (.ops [⟨some 43,none,.fadr 1 (.t 1)⟩,⟨some 44,none,.load none (.t 43)⟩,⟨some 45,none,.call 39 [(.t 44)]⟩,⟨some 2,none,.mv (.t 45)⟩])
 (.ret))))⟩
theorem c11:compF Go.Proofs.Try.prog 11=some a11:=by kernel_rfl
def a15 : AFn := ⟨26,[.t 4],.seq (.ops [⟨some 4,none,.mv (.c (.bool false))⟩])
 (.seq (.seq (.ops [⟨some 6,none,.mv (.t 0)⟩,⟨some 7,none,.len false (.t 6)⟩,⟨some 8,none,.mv (.t 1)⟩,⟨some 9,none,.len false (.t 8)⟩,⟨some 10,none,.bin 0 .neq (.t 7) (.t 9)⟩])
 (.cond (.t 10) (.seq (.ops [⟨some 4,none,.mv (.c (.bool false))⟩])
 (.ret)) (.skip)))
 (.seq (.seq (.ops [⟨some 11,none,.mv (.t 0)⟩,⟨some 12,none,.len false (.t 11)⟩,⟨some 13,none,.mv (.c (.int .i64 0))⟩])
 (.block 0 (.loop (.seq (.ops [⟨some 14,none,.bin 0 .lss (.t 13) (.t 12)⟩])
 (.seq (.cond (.t 14) (.skip) (.exit 0))
 (.seq (.block 1 (.seq (.ops [⟨some 15,none,.mv (.t 13)⟩,⟨some 5,none,.mv (.t 15)⟩])
 (.seq (.any [(⟨some 16,none,.mv (.t 0)⟩,[]),(⟨some 17,none,.mv (.t 5)⟩,[0]),(⟨some 18,none,.iadr 2 (.t 16) (.t 17)⟩,[]),(⟨some 19,none,.load (some 2) (.t 18)⟩,[]),(⟨some 20,none,.mv (.t 1)⟩,[0,1,2,3]),(⟨some 21,none,.mv (.t 5)⟩,[0,1,2,3,4]),(⟨some 22,none,.iadr 2 (.t 20) (.t 21)⟩,[0,1,2,3]),(⟨some 23,none,.load (some 2) (.t 22)⟩,[0,1,2,3]),(⟨some 24,none,.eqs true [0,0] (.t 19) (.t 23)⟩,[])])
 (.cond (.t 24) (.seq (.ops [⟨some 4,none,.mv (.c (.bool false))⟩])
 (.ret)) (.skip)))))
 (.ops [⟨some 25,none,.bin 0 .add (.t 13) (.c (.int .i64 1))⟩,⟨some 13,none,.mv (.t 25)⟩])))))))
 (.seq (.ops [⟨some 4,none,.mv (.c (.bool true))⟩])
 (.ret))))⟩
theorem c15:compF Go.Proofs.Try.prog 15=some a15:=by kernel_rfl
def a17 : AFn := ⟨23,[.c 4 (some 2),.t 5],.seq (.ops [⟨some 2,none,.box 28 (.t 0)⟩,⟨some 3,none,.box 28 (.t 1)⟩,⟨some 4,none,.alloc 28 [(.lit true 0 []),(.str [])]⟩,⟨some 5,none,.mv (.c (.int .i64 0))⟩])
 (.seq (.seq (.ops [⟨some 9,none,.load (some 2) (.t 2)⟩,⟨some 10,none,.load (some 2) (.t 3)⟩,⟨some 11,none,.call 54 [(.t 9),(.t 10)]⟩,⟨some 6,none,.mv (.t 11)⟩])
 (.seq (.ops [⟨some 12,none,.mv (.t 6)⟩,⟨some 13,none,.bin 0 .neq (.t 12) (.c (.int .i64 0))⟩])
 (.cond (.t 13) (.seq (.ops [⟨some 14,none,.build [(.lit true 0 []),(.str [])] []⟩,⟨some 15,none,.mv (.t 6)⟩,⟨none,none,.store 2 (.t 4) (.t 14)⟩,⟨some 5,none,.mv (.t 15)⟩])
 (.ret)) (.skip))))
 (.seq (.ops [⟨some 7,none,.alloc 4 [(.bool false)]⟩,⟨none,none,.store 1 (.t 7) (.c (.bool true))⟩])
 (.seq (.ops [⟨some 16,none,.load (some 2) (.t 2)⟩,⟨some 17,none,.mkfn 56 [(.t 3),(.t 7)]⟩,⟨some 18,none,.call 55 [(.t 16),(.t 17)]⟩,⟨some 8,none,.alloc 28 [(.lit true 0 []),(.str [])]⟩,⟨none,none,.store 2 (.t 8) (.t 18)⟩])
 (.seq (.seq (.ops [⟨some 19,none,.load none (.t 7)⟩,⟨some 20,none,.un .not (.t 19)⟩])
 (.cond (.t 20) (.seq (.ops [⟨some 21,none,.build [(.lit true 0 []),(.str [])] []⟩,⟨none,none,.store 2 (.t 4) (.t 21)⟩,⟨some 5,none,.mv (.c (.int .i64 13))⟩])
 (.ret)) (.skip)))
 (.seq (.ops [⟨some 22,none,.load (some 2) (.t 8)⟩,⟨none,none,.store 2 (.t 4) (.t 22)⟩,⟨some 5,none,.mv (.c (.int .i64 0))⟩])
 (.ret))))))⟩
theorem c17:compF Go.Proofs.Try.prog 17=some a17:=by kernel_rfl
def a20 : AFn := ⟨17,[.t 4],.seq (.ops [⟨some 2,none,.box 28 (.t 0)⟩,⟨some 3,none,.box 28 (.t 1)⟩,⟨some 4,none,.mv (.c (.bool false))⟩])
 (.seq (.ops [⟨some 5,none,.fadr 0 (.t 2)⟩,⟨some 6,none,.load none (.t 5)⟩,⟨some 7,none,.fadr 0 (.t 3)⟩,⟨some 8,none,.load none (.t 7)⟩,⟨some 9,none,.call 59 [(.t 6),(.t 8)]⟩,⟨some 10,none,.mv (.t 9)⟩,⟨some 11,(some (10,true)),.fadr 1 (.t 2)⟩,⟨some 12,(some (10,true)),.load none (.t 11)⟩,⟨some 13,(some (10,true)),.fadr 1 (.t 3)⟩,⟨some 14,(some (10,true)),.load none (.t 13)⟩,⟨some 15,(some (10,true)),.bin 1 .eql (.t 12) (.t 14)⟩,⟨some 16,none,.pick (.t 10) (.t 15) (.c (.bool false))⟩,⟨some 4,none,.mv (.t 16)⟩])
 (.ret))⟩
theorem c20:compF Go.Proofs.Try.prog 20=some a20:=by kernel_rfl
def a24 : AFn := ⟨15,[.c 2 (some 2)],.seq (.ops [⟨some 2,none,.alloc 28 [(.lit true 0 []),(.str [])]⟩])
 (.seq (.seq (.ops [⟨some 4,none,.mv (.c (.int .i64 0))⟩])
 (.block 0 (.loop (.seq (.ops [⟨some 5,none,.bin 0 .lss (.t 4) (.c (.int .i64 6))⟩])
 (.seq (.cond (.t 5) (.skip) (.exit 0))
 (.seq (.block 1 (.seq (.ops [⟨some 6,none,.mv (.t 0)⟩,⟨some 7,none,.call 5 [(.t 6)]⟩,⟨some 3,none,.alloc 28 [(.lit true 0 []),(.str [])]⟩,⟨none,none,.store 2 (.t 3) (.t 7)⟩])
 (.seq (.ops [⟨some 8,none,.load (some 2) (.t 3)⟩,⟨some 9,none,.call 11 [(.t 8)]⟩,⟨some 10,none,.bin 0 .eql (.t 9) (.c (.int .i64 0))⟩])
 (.cond (.t 10) (.seq (.ops [⟨some 11,none,.load (some 2) (.t 3)⟩,⟨none,none,.store 2 (.t 2) (.t 11)⟩])
 (.ret)) (.skip)))))
 (.ops [⟨some 12,none,.bin 0 .add (.t 4) (.c (.int .i64 1))⟩,⟨some 4,none,.mv (.t 12)⟩])))))))
 (.seq (.ops [⟨some 13,none,.bslice 9 1 1 [(.str [])] [(0,1,(.c (.str [49])))]⟩,⟨some 14,none,.build [(.lit true 0 []),(.str [])] [(0,1,(.t 13)),(1,1,(.c (.str [49])))]⟩,⟨none,none,.store 2 (.t 2) (.t 14)⟩])
 (.ret)))⟩
theorem c24:compF Go.Proofs.Try.prog 24=some a24:=by kernel_rfl
def a25 : AFn := ⟨34,[.t 2],.seq (.ops [⟨some 2,none,.mv (.c (.lit true 0 []))⟩])
 (.seq (.ops [⟨some 3,none,.mv (.c (.lit true 0 []))⟩])
 (.seq (.seq (.ops [⟨some 4,none,.mv (.t 0)⟩,⟨some 5,none,.bslice 3 1 6 [(.int .i64 0)] [(0,1,(.c (.int .i64 1))),(1,1,(.c (.int .i64 2))),(2,1,(.c (.int .i64 3))),(3,1,(.c (.int .i64 4))),(4,1,(.c (.int .i64 5))),(5,1,(.c (.int .i64 6)))]⟩,⟨some 6,none,.call 9 [(.t 4),(.t 5)]⟩,⟨some 7,none,.mv (.c (.int .i64 0))⟩])
 (.block 0 (.loop (.seq (.ops [⟨some 8,none,.bin 0 .lss (.t 7) (.t 6)⟩])
 (.seq (.cond (.t 8) (.skip) (.exit 0))
 (.seq (.block 1 (.ops [⟨some 9,none,.mv (.t 3)⟩,⟨some 10,none,.mv (.t 0)⟩,⟨some 11,none,.call 34 [(.t 10),(.c (.int .i64 (-3))),(.c (.int .i64 9))]⟩,⟨some 12,none,.mv (.t 0)⟩,⟨some 13,none,.bslice 3 1 5 [(.int .i64 0)] [(0,1,(.c (.int .i64 0))),(1,1,(.c (.int .i64 0))),(2,1,(.c (.int .i64 1))),(3,1,(.c (.int .i64 5))),(4,1,(.c (.int .i64 (-7))))]⟩,⟨some 14,none,.call 9 [(.t 12),(.t 13)]⟩,⟨some 15,none,.build [(.int .i64 0),(.int .i64 0)] [(0,1,(.t 11)),(1,1,(.t 14))]⟩,⟨some 16,none,.bslice 46 2 1 [(.int .i64 0),(.int .i64 0)] [(0,2,(.t 15))]⟩,⟨some 17,none,.app 46 2 16 (.t 9) (.t 16)⟩,⟨some 3,none,.mv (.t 17)⟩]))
 (.ops [⟨some 18,none,.bin 0 .add (.t 7) (.c (.int .i64 1))⟩,⟨some 7,none,.mv (.t 18)⟩])))))))
 (.seq (.seq (.ops [⟨some 19,none,.mv (.t 0)⟩,⟨some 20,none,.call 7 [(.t 19),(.c (.int .i64 15))]⟩])
 (.cond (.t 20) (.ops [⟨some 21,none,.mv (.t 3)⟩,⟨some 22,none,.mv (.t 0)⟩,⟨some 23,none,.mv (.t 3)⟩,⟨some 24,none,.len false (.t 23)⟩,⟨some 25,none,.call 35 [(.t 22),(.t 24)]⟩,⟨some 26,none,.mv (.t 0)⟩,⟨some 27,none,.bslice 3 1 3 [(.int .i64 0)] [(0,1,(.c (.int .i64 (-1001)))),(1,1,(.c (.int .i64 1001))),(2,1,(.c (.int .i64 1000)))]⟩,⟨some 28,none,.call 9 [(.t 26),(.t 27)]⟩,⟨some 29,none,.iadr 2 (.t 21) (.t 25)⟩,⟨some 30,none,.fadr 0 (.t 29)⟩,⟨none,none,.store 1 (.t 30) (.t 28)⟩]) (.skip)))
 (.seq (.seq (.ops [⟨some 31,none,.mv (.t 0)⟩,⟨some 32,none,.call 7 [(.t 31),(.c (.int .i64 40))]⟩])
 (.cond (.t 32) (.ops [⟨some 3,none,.mv (.c (.lit true 0 []))⟩]) (.skip)))
 (.seq (.ops [⟨some 33,none,.mv (.t 3)⟩,⟨some 2,none,.mv (.t 33)⟩])
 (.ret))))))⟩
theorem c25:compF Go.Proofs.Try.prog 25=some a25:=by kernel_rfl
def a26 : AFn := ⟨53,[.c 2 (some 2),.t 3],.seq (.ops [⟨some 1,none,.box 28 (.t 0)⟩,⟨some 2,none,.alloc 28 [(.lit true 0 []),(.str [])]⟩,⟨some 3,none,.mv (.c (.int .i64 0))⟩])
 (.seq (.seq (.ops [⟨some 9,none,.load (some 2) (.t 1)⟩,⟨some 10,none,.call 40 [(.t 9)]⟩,⟨some 4,none,.mv (.t 10)⟩])
 (.seq (.ops [⟨some 11,none,.mv (.t 4)⟩,⟨some 12,none,.bin 0 .neq (.t 11) (.c (.int .i64 0))⟩])
 (.cond (.t 12) (.seq (.ops [⟨some 13,none,.build [(.lit true 0 []),(.str [])] []⟩,⟨some 14,none,.mv (.t 4)⟩,⟨none,none,.store 2 (.t 2) (.t 13)⟩,⟨some 3,none,.mv (.t 14)⟩])
 (.ret)) (.skip))))
 (.seq (.ops [⟨some 15,none,.fadr 1 (.t 1)⟩,⟨some 16,none,.load none (.t 15)⟩,⟨some 17,none,.build [(.lit true 0 []),(.str [])] [(1,1,(.t 16))]⟩,⟨some 5,none,.alloc 28 [(.lit true 0 []),(.str [])]⟩,⟨none,none,.store 2 (.t 5) (.t 17)⟩])
 (.seq (.seq (.ops [⟨some 18,none,.fadr 0 (.t 1)⟩,⟨some 19,none,.load none (.t 18)⟩,⟨some 20,none,.iadr 1 (.t 19) (.c (.int .i64 0))⟩,⟨some 21,none,.load none (.t 20)⟩,⟨some 22,none,.len true (.t 21)⟩,⟨some 23,none,.mv (.c (.int .i64 0))⟩])
 (.block 0 (.loop (.seq (.ops [⟨some 24,none,.bin 0 .lss (.t 23) (.t 22)⟩])
 (.seq (.cond (.t 24) (.skip) (.exit 0))
 (.seq (.block 1 (.seq (.ops [⟨some 25,none,.mv (.t 23)⟩,⟨some 6,none,.mv (.t 25)⟩])
 (.seq (.ops [⟨some 7,none,.mv (.c (.lit true 0 []))⟩])
 (.seq (.seq (.ops [⟨some 26,none,.fadr 0 (.t 1)⟩,⟨some 27,none,.load none (.t 26)⟩,⟨some 28,none,.len false (.t 27)⟩,⟨some 29,none,.bin 0 .sub (.t 28) (.c (.int .i64 1))⟩,⟨some 8,none,.mv (.t 29)⟩])
 (.block 2 (.loop (.seq (.seq (.ops [⟨some 30,none,.mv (.t 8)⟩,⟨some 31,none,.bin 0 .geq (.t 30) (.c (.int .i64 0))⟩])
 (.cond (.t 31) (.skip) (.exit 2)))
 (.seq (.block 3 (.ops [⟨some 34,none,.mv (.t 7)⟩,⟨some 35,none,.fadr 0 (.t 1)⟩,⟨some 36,none,.load none (.t 35)⟩,⟨some 37,none,.mv (.t 8)⟩,⟨some 38,none,.iadr 1 (.t 36) (.t 37)⟩,⟨some 39,none,.load none (.t 38)⟩,⟨some 40,none,.mv (.t 6)⟩,⟨some 41,none,.idxs (.t 39) (.t 40)⟩,⟨some 42,none,.bslice 5 1 1 [(.int .u8 0)] [(0,1,(.t 41))]⟩,⟨some 43,none,.app 5 1 1 (.t 34) (.t 42)⟩,⟨some 7,none,.mv (.t 43)⟩]))
 (.ops [⟨some 32,none,.mv (.t 8)⟩,⟨some 33,none,.bin 0 .sub (.t 32) (.c (.int .i64 1))⟩,⟨some 8,none,.mv (.t 33)⟩]))))))
 (.ops [⟨some 44,none,.fadr 0 (.t 5)⟩,⟨some 45,none,.load none (.t 44)⟩,⟨some 46,none,.mv (.t 7)⟩,⟨some 47,none,.b2s (.t 46)⟩,⟨some 48,none,.bslice 9 1 1 [(.str [])] [(0,1,(.t 47))]⟩,⟨some 49,none,.app 9 1 16 (.t 45) (.t 48)⟩,⟨some 50,none,.fadr 0 (.t 5)⟩,⟨none,none,.store 1 (.t 50) (.t 49)⟩])))))
 (.ops [⟨some 51,none,.bin 0 .add (.t 23) (.c (.int .i64 1))⟩,⟨some 23,none,.mv (.t 51)⟩])))))))
 (.seq (.ops [⟨some 52,none,.load (some 2) (.t 5)⟩,⟨none,none,.store 2 (.t 2) (.t 52)⟩,⟨some 3,none,.mv (.c (.int .i64 0))⟩])
 (.ret)))))⟩
theorem c26:compF Go.Proofs.Try.prog 26=some a26:=by kernel_rfl
def a27 : AFn := ⟨24,[.c 4 (some 2),.t 5,.t 6],.seq (.ops [⟨some 2,none,.box 28 (.t 0)⟩,⟨some 3,none,.box 3 (.t 1)⟩,⟨some 4,none,.alloc 28 [(.lit true 0 []),(.str [])]⟩,⟨some 5,none,.mv (.c (.int .i64 0))⟩,⟨some 6,none,.mv (.c (.int .i64 0))⟩])
 (.seq (.seq (.ops [⟨some 10,none,.load (some 2) (.t 2)⟩,⟨some 11,none,.call 40 [(.t 10)]⟩,⟨some 7,none,.mv (.t 11)⟩])
 (.seq (.ops [⟨some 12,none,.mv (.t 7)⟩,⟨some 13,none,.bin 0 .neq (.t 12) (.c (.int .i64 0))⟩])
 (.cond (.t 13) (.seq (.ops [⟨some 14,none,.build [(.lit true 0 []),(.str [])] []⟩,⟨some 15,none,.mv (.t 7)⟩,⟨none,none,.store 2 (.t 4) (.t 14)⟩,⟨some 5,none,.mv (.c (.int .i64 0))⟩,⟨some 6,none,.mv (.t 15)⟩])
 (.ret)) (.skip))))
 (.seq (.seq (.ops [⟨some 16,none,.load none (.t 3)⟩,⟨some 17,none,.call 41 [(.t 16),(.c (.int .i64 1)),(.c (.int .i64 8))]⟩])
 (.cond (.t 17) (.seq (.ops [⟨some 18,none,.build [(.lit true 0 []),(.str [])] []⟩,⟨none,none,.store 2 (.t 4) (.t 18)⟩,⟨some 5,none,.mv (.c (.int .i64 0))⟩,⟨some 6,none,.mv (.c (.int .i64 1))⟩])
 (.ret)) (.skip)))
 (.seq (.ops [⟨some 8,none,.alloc 3 [(.int .i64 0)]⟩,⟨none,none,.store 1 (.t 8) (.c (.int .i64 0))⟩])
 (.seq (.ops [⟨some 19,none,.load (some 2) (.t 2)⟩,⟨some 20,none,.mkfn 64 [(.t 2),(.t 3),(.t 8)]⟩,⟨some 21,none,.call 55 [(.t 19),(.t 20)]⟩,⟨some 9,none,.alloc 28 [(.lit true 0 []),(.str [])]⟩,⟨none,none,.store 2 (.t 9) (.t 21)⟩])
 (.seq (.any [(⟨some 22,none,.load (some 2) (.t 9)⟩,[]),(⟨some 23,none,.load none (.t 8)⟩,[0]),(⟨none,none,.store 2 (.t 4) (.t 22)⟩,[1]),(⟨some 5,none,.mv (.t 23)⟩,[]),(⟨some 6,none,.mv (.c (.int .i64 0))⟩,[])])
 (.ret))))))⟩
theorem c27:compF Go.Proofs.Try.prog 27=some a27:=by kernel_rfl
def a28 : AFn := ⟨91,[.t 4,.t 5],.seq (.ops [⟨some 2,none,.box 28 (.t 0)⟩,⟨some 4,none,.mv (.c (.lit true 0 []))⟩,⟨some 5,none,.mv (.c (.int .i64 0))⟩])
 (.seq (.seq (.ops [⟨some 15,none,.load (some 2) (.t 2)⟩,⟨some 16,none,.call 40 [(.t 15)]⟩,⟨some 6,none,.mv (.t 16)⟩])
 (.seq (.ops [⟨some 17,none,.mv (.t 6)⟩,⟨some 18,none,.bin 0 .neq (.t 17) (.c (.int .i64 0))⟩])
 (.cond (.t 18) (.seq (.ops [⟨some 19,none,.mv (.t 6)⟩,⟨some 4,none,.mv (.c (.lit true 0 []))⟩,⟨some 5,none,.mv (.t 19)⟩])
 (.ret)) (.skip))))
 (.seq (.seq (.ops [⟨some 20,none,.mv (.t 1)⟩,⟨some 21,none,.call 41 [(.t 20),(.c (.int .i64 1)),(.c (.int .i64 3600))]⟩])
 (.cond (.t 21) (.seq (.ops [⟨some 4,none,.mv (.c (.lit true 0 []))⟩,⟨some 5,none,.mv (.c (.int .i64 1))⟩])
 (.ret)) (.skip)))
 (.seq (.ops [⟨some 22,none,.mmk .p (.bool false)⟩,⟨some 7,none,.mv (.t 22)⟩])
 (.seq (.ops [⟨some 8,none,.mv (.c (.lit true 0 []))⟩])
 (.seq (.seq (.ops [⟨some 23,none,.load (some 2) (.t 2)⟩,⟨some 24,none,.call 43 [(.t 23)]⟩,⟨some 25,none,.len false (.t 24)⟩,⟨some 26,none,.mv (.c (.int .i64 0))⟩])
 (.block 0 (.loop (.seq (.ops [⟨some 27,none,.bin 0 .lss (.t 26) (.t 25)⟩])
 (.seq (.cond (.t 27) (.skip) (.exit 0))
 (.seq (.block 1 (.seq (.ops [⟨some 28,none,.iadr 2 (.t 24) (.t 26)⟩,⟨some 29,none,.load (some 2) (.t 28)⟩,⟨some 10,none,.alloc 46 [(.int .i64 0),(.int .i64 0)]⟩,⟨none,none,.store 2 (.t 10) (.t 29)⟩])
 (.seq (.seq (.any [(⟨some 30,none,.mv (.t 7)⟩,[]),(⟨some 31,none,.load (some 2) (.t 10)⟩,[0]),(⟨some 32,none,.mlk false .p (.bool false) (.t 30) (.t 31)⟩,[]),(⟨some 33,none,.mv (.t 32)⟩,[]),(⟨some 34,(some (33,false)),.load (some 2) (.t 2)⟩,[]),(⟨some 35,(some (33,false)),.load (some 2) (.t 2)⟩,[4]),(⟨some 36,(some (33,false)),.load (some 2) (.t 10)⟩,[4,5]),(⟨some 37,(some (33,false)),.call 44 [(.t 35),(.t 36)]⟩,[4]),(⟨some 38,(some (33,false)),.call 46 [(.t 34),(.t 37)]⟩,[]),(⟨some 39,(some (33,false)),.un .not (.t 38)⟩,[]),(⟨some 40,none,.pick (.t 33) (.c (.bool true)) (.t 39)⟩,[])])
 (.cond (.t 40) (.exit 1) (.skip)))
 (.seq (.ops [⟨some 41,none,.mv (.t 7)⟩,⟨some 42,none,.load (some 2) (.t 10)⟩,⟨none,none,.mup .p (.t 41) (.t 42) (.c (.bool true))⟩])
 (.seq (.ops [⟨some 43,none,.load (some 2) (.t 10)⟩,⟨some 44,none,.bslice 46 2 1 [(.int .i64 0),(.int .i64 0)] [(0,2,(.t 43))]⟩,⟨some 11,none,.mv (.t 44)⟩])
 (.seq (.seq (.ops [⟨some 12,none,.mv (.c (.int .i64 0))⟩])
 (.block 2 (.loop (.seq (.seq (.ops [⟨some 45,none,.mv (.t 12)⟩,⟨some 46,none,.mv (.t 11)⟩,⟨some 47,none,.len false (.t 46)⟩,⟨some 48,none,.bin 0 .lss (.t 45) (.t 47)⟩])
 (.cond (.t 48) (.skip) (.exit 2)))
 (.seq (.block 3 (.seq (.ops [⟨some 51,none,.mv (.t 11)⟩,⟨some 52,none,.mv (.t 12)⟩,⟨some 53,none,.iadr 2 (.t 51) (.t 52)⟩,⟨some 54,none,.load (some 2) (.t 53)⟩,⟨some 55,none,.call 67 [(.t 54)]⟩,⟨some 56,none,.len false (.t 55)⟩,⟨some 57,none,.mv (.c (.int .i64 0))⟩])
 (.block 4 (.loop (.seq (.ops [⟨some 58,none,.bin 0 .lss (.t 57) (.t 56)⟩])
 (.seq (.cond (.t 58) (.skip) (.exit 4))
 (.seq (.block 5 (.seq (.ops [⟨some 59,none,.iadr 2 (.t 55) (.t 57)⟩,⟨some 60,none,.load (some 2) (.t 59)⟩,⟨some 14,none,.alloc 46 [(.int .i64 0),(.int .i64 0)]⟩,⟨none,none,.store 2 (.t 14) (.t 60)⟩])
 (.seq (.any [(⟨some 61,none,.mv (.t 7)⟩,[]),(⟨some 62,none,.load (some 2) (.t 14)⟩,[0]),(⟨some 63,none,.mlk false .p (.bool false) (.t 61) (.t 62)⟩,[]),(⟨some 64,none,.un .not (.t 63)⟩,[]),(⟨some 65,none,.mv (.t 64)⟩,[]),(⟨some 66,(some (65,true)),.load (some 2) (.t 2)⟩,[]),(⟨some 67,(some (65,true)),.load (some 2) (.t 2)⟩,[5]),(⟨some 68,(some (65,true)),.load (some 2) (.t 14)⟩,[5,6]),(⟨some 69,(some (65,true)),.call 44 [(.t 67),(.t 68)]⟩,[5]),(⟨some 70,(some (65,true)),.call 46 [(.t 66),(.t 69)]⟩,[]),(⟨some 71,none,.pick (.t 65) (.t 70) (.c (.bool false))⟩,[])])
 (.cond (.t 71) (.seq (.ops [⟨some 72,none,.mv (.t 7)⟩,⟨some 73,none,.load (some 2) (.t 14)⟩,⟨none,none,.mup .p (.t 72) (.t 73) (.c (.bool true))⟩])
 (.ops [⟨some 74,none,.mv (.t 11)⟩,⟨some 75,none,.load (some 2) (.t 14)⟩,⟨some 76,none,.bslice 46 2 1 [(.int .i64 0),(.int .i64 0)] [(0,2,(.t 75))]⟩,⟨some 77,none,.app 46 2 16 (.t 74) (.t 76)⟩,⟨some 11,none,.mv (.t 77)⟩])) (.skip)))))
 (.ops [⟨some 78,none,.bin 0 .add (.t 57) (.c (.int .i64 1))⟩,⟨some 57,none,.mv (.t 78)⟩]))))))))
 (.ops [⟨some 49,none,.mv (.t 12)⟩,⟨some 50,none,.bin 0 .add (.t 49) (.c (.int .i64 1))⟩,⟨some 12,none,.mv (.t 50)⟩]))))))
 (.seq (.ops [⟨some 79,none,.mv (.t 11)⟩,⟨some 80,none,.len false (.t 79)⟩,⟨some 81,none,.mv (.t 1)⟩,⟨some 82,none,.bin 0 .geq (.t 80) (.t 81)⟩])
 (.cond (.t 82) (.seq (.ops [⟨some 83,none,.mv (.t 11)⟩,⟨some 84,none,.call 68 [(.t 83),(.c (.fn 69 []))]⟩])
 (.ops [⟨some 85,none,.mv (.t 8)⟩,⟨some 86,none,.mv (.t 11)⟩,⟨some 87,none,.bslice 40 1 1 [(.lit true 0 [])] [(0,1,(.t 86))]⟩,⟨some 88,none,.app 40 1 24 (.t 85) (.t 87)⟩,⟨some 8,none,.mv (.t 88)⟩])) (.skip)))))))))
 (.ops [⟨some 89,none,.bin 0 .add (.t 26) (.c (.int .i64 1))⟩,⟨some 26,none,.mv (.t 89)⟩])))))))
 (.seq (.ops [⟨some 90,none,.mv (.t 8)⟩,⟨some 4,none,.mv (.t 90)⟩,⟨some 5,none,.mv (.c (.int .i64 0))⟩])
 (.ret)))))))⟩
theorem c28:compF Go.Proofs.Try.prog 28=some a28:=by kernel_rfl
def a29 : AFn := ⟨45,[.t 2,.t 3,.t 4],.seq (.ops [⟨some 2,none,.mv (.c (.lit true 0 []))⟩,⟨some 3,none,.mv (.c (.int .i64 0))⟩,⟨some 4,none,.mv (.c (.int .i64 0))⟩])
 (.seq (.block 0 (.seq (.ops [⟨some 9,none,.mv (.t 0)⟩,⟨some 10,none,.len false (.t 9)⟩,⟨some 11,none,.bin 0 .eql (.t 10) (.c (.int .i64 0))⟩,⟨some 8,none,.mv (.t 11)⟩])
 (.cond (.t 8) (.seq (.ops [⟨some 2,none,.mv (.c (.lit true 0 []))⟩,⟨some 3,none,.mv (.c (.int .i64 0))⟩,⟨some 4,none,.mv (.c (.int .i64 8))⟩])
 (.ret)) (.seq (.ops [⟨some 13,none,.mv (.t 0)⟩,⟨some 14,none,.len false (.t 13)⟩,⟨some 15,none,.bin 0 .gtr (.t 14) (.c (.int .i64 9))⟩,⟨some 12,none,.mv (.t 15)⟩])
 (.cond (.t 12) (.seq (.ops [⟨some 2,none,.mv (.c (.lit true 0 []))⟩,⟨some 3,none,.mv (.c (.int .i64 0))⟩,⟨some 4,none,.mv (.c (.int .i64 2))⟩])
 (.ret)) (.skip))))))
 (.seq (.seq (.ops [⟨some 16,none,.mv (.t 0)⟩,⟨some 17,none,.len false (.t 16)⟩,⟨some 18,none,.mv (.c (.int .i64 0))⟩])
 (.block 1 (.loop (.seq (.ops [⟨some 19,none,.bin 0 .lss (.t 18) (.t 17)⟩])
 (.seq (.cond (.t 19) (.skip) (.exit 1))
 (.seq (.block 2 (.seq (.ops [⟨some 20,none,.iadr 2 (.t 16) (.t 18)⟩,⟨some 21,none,.load (some 2) (.t 20)⟩,⟨some 6,none,.alloc 46 [(.int .i64 0),(.int .i64 0)]⟩,⟨none,none,.store 2 (.t 6) (.t 21)⟩])
 (.seq (.ops [⟨some 22,none,.fadr 0 (.t 6)⟩,⟨some 23,none,.load none (.t 22)⟩,⟨some 24,none,.call 41 [(.t 23),(.c (.int .i64 (-1000))),(.c (.int .i64 1000))]⟩,⟨some 25,none,.mv (.t 24)⟩,⟨some 26,(some (25,false)),.fadr 1 (.t 6)⟩,⟨some 27,(some (25,false)),.load none (.t 26)⟩,⟨some 28,(some (25,false)),.call 41 [(.t 27),(.c (.int .i64 (-1000))),(.c (.int .i64 1000))]⟩,⟨some 29,none,.pick (.t 25) (.c (.bool true)) (.t 28)⟩])
 (.cond (.t 29) (.seq (.ops [⟨some 2,none,.mv (.c (.lit true 0 []))⟩,⟨some 3,none,.mv (.c (.int .i64 0))⟩,⟨some 4,none,.mv (.c (.int .i64 1))⟩])
 (.ret)) (.skip)))))
 (.ops [⟨some 30,none,.bin 0 .add (.t 18) (.c (.int .i64 1))⟩,⟨some 18,none,.mv (.t 30)⟩])))))))
 (.seq (.ops [⟨some 31,none,.mv (.t 0)⟩,⟨some 32,none,.bslice 3 1 1 [(.int .i64 0)] [(0,1,(.c (.int .i64 0)))]⟩,⟨some 33,none,.build [(.lit true 0 []),(.lit true 0 []),(.int .i64 0),(.lit true 0 []),(.int .i64 0)] [(0,1,(.t 31)),(1,1,(.t 32))]⟩,⟨some 34,none,.box 100 (.t 33)⟩,⟨some 7,none,.mv (.t 34)⟩])
 (.seq (.ops [⟨some 35,none,.mv (.t 7)⟩,⟨some 36,none,.call 70 [(.t 35)]⟩])
 (.seq (.any [(⟨some 37,none,.mv (.t 7)⟩,[]),(⟨some 38,none,.nilchk (.t 37)⟩,[]),(⟨some 39,none,.fadr 3 (.t 38)⟩,[]),(⟨some 40,none,.load none (.t 39)⟩,[]),(⟨some 41,none,.mv (.t 7)⟩,[0,1,2,3]),(⟨some 42,none,.nilchk (.t 41)⟩,[0,1,2,3]),(⟨some 43,none,.fadr 4 (.t 42)⟩,[0,1,2,3]),(⟨some 44,none,.load none (.t 43)⟩,[0,1,2,3]),(⟨some 2,none,.mv (.t 40)⟩,[4,5,6,7]),(⟨some 3,none,.mv (.t 44)⟩,[]),(⟨some 4,none,.mv (.c (.int .i64 0))⟩,[])])
 (.ret))))))⟩
theorem c29:compF Go.Proofs.Try.prog 29=some a29:=by kernel_rfl
def a30 : AFn := ⟨30,[.t 2],.seq (.ops [⟨some 2,none,.mv (.c (.int .i64 0))⟩])
 (.seq (.block 0 (.seq (.ops [⟨some 6,none,.mv (.t 0)⟩,⟨some 7,none,.len false (.t 6)⟩,⟨some 8,none,.bin 0 .eql (.t 7) (.c (.int .i64 0))⟩,⟨some 5,none,.mv (.t 8)⟩])
 (.cond (.t 5) (.seq (.ops [⟨some 2,none,.mv (.c (.int .i64 8))⟩])
 (.ret)) (.seq (.ops [⟨some 10,none,.mv (.t 0)⟩,⟨some 11,none,.len false (.t 10)⟩,⟨some 12,none,.bin 0 .gtr (.t 11) (.c (.int .i64 9))⟩,⟨some 9,none,.mv (.t 12)⟩])
 (.cond (.t 9) (.seq (.ops [⟨some 2,none,.mv (.c (.int .i64 2))⟩])
 (.ret)) (.skip))))))
 (.seq (.seq (.ops [⟨some 13,none,.mv (.t 0)⟩,⟨some 14,none,.len false (.t 13)⟩,⟨some 15,none,.mv (.c (.int .i64 0))⟩])
 (.block 1 (.loop (.seq (.ops [⟨some 16,none,.bin 0 .lss (.t 15) (.t 14)⟩])
 (.seq (.cond (.t 16) (.skip) (.exit 1))
 (.seq (.block 2 (.seq (.ops [⟨some 17,none,.iadr 2 (.t 13) (.t 15)⟩,⟨some 18,none,.load (some 2) (.t 17)⟩,⟨some 4,none,.alloc 46 [(.int .i64 0),(.int .i64 0)]⟩,⟨none,none,.store 2 (.t 4) (.t 18)⟩])
 (.seq (.ops [⟨some 19,none,.fadr 0 (.t 4)⟩,⟨some 20,none,.load none (.t 19)⟩,⟨some 21,none,.call 47 [(.t 20),(.c (.int .i64 (-1000))),(.c (.int .i64 1000))]⟩,⟨some 22,none,.un .not (.t 21)⟩,⟨some 23,none,.mv (.t 22)⟩,⟨some 24,(some (23,false)),.fadr 1 (.t 4)⟩,⟨some 25,(some (23,false)),.load none (.t 24)⟩,⟨some 26,(some (23,false)),.call 47 [(.t 25),(.c (.int .i64 (-1000))),(.c (.int .i64 1000))]⟩,⟨some 27,(some (23,false)),.un .not (.t 26)⟩,⟨some 28,none,.pick (.t 23) (.c (.bool true)) (.t 27)⟩])
 (.cond (.t 28) (.seq (.ops [⟨some 2,none,.mv (.c (.int .i64 1))⟩])
 (.ret)) (.skip)))))
 (.ops [⟨some 29,none,.bin 0 .add (.t 15) (.c (.int .i64 1))⟩,⟨some 15,none,.mv (.t 29)⟩])))))))
 (.seq (.ops [⟨some 2,none,.mv (.c (.int .i64 0))⟩])
 (.ret))))⟩
theorem c30:compF Go.Proofs.Try.prog 30=some a30:=by kernel_rfl
def a31 : AFn := ⟨12,[],.seq (.ops [⟨some 3,none,.mv (.t 0)⟩,⟨some 4,none,.len false (.t 3)⟩,⟨some 5,none,.mv (.c (.int .i64 0))⟩])
 (.block 0 (.loop (.seq (.ops [⟨some 6,none,.bin 0 .lss (.t 5) (.t 4)⟩])
 (.seq (.cond (.t 6) (.skip) (.exit 0))
 (.seq (.block 1 (.seq (.ops [⟨some 7,none,.mv (.t 5)⟩,⟨some 2,none,.mv (.t 7)⟩])
 (.ops [⟨some 8,none,.mv (.t 0)⟩,⟨some 9,none,.mv (.t 2)⟩,⟨some 10,none,.iadr 1 (.t 8) (.t 9)⟩,⟨none,none,.store 1 (.t 10) (.c (.str [115,112,111,105,108,116]))⟩])))
 (.ops [⟨some 11,none,.bin 0 .add (.t 5) (.c (.int .i64 1))⟩,⟨some 5,none,.mv (.t 11)⟩]))))))⟩
theorem c31:compF Go.Proofs.Try.prog 31=some a31:=by kernel_rfl
def a32 : AFn := ⟨12,[],.seq (.ops [⟨some 3,none,.mv (.t 0)⟩,⟨some 4,none,.len false (.t 3)⟩,⟨some 5,none,.mv (.c (.int .i64 0))⟩])
 (.block 0 (.loop (.seq (.ops [⟨some 6,none,.bin 0 .lss (.t 5) (.t 4)⟩])
 (.seq (.cond (.t 6) (.skip) (.exit 0))
 (.seq (.block 1 (.seq (.ops [⟨some 7,none,.mv (.t 5)⟩,⟨some 2,none,.mv (.t 7)⟩])
 (.ops [⟨some 8,none,.mv (.t 0)⟩,⟨some 9,none,.mv (.t 2)⟩,⟨some 10,none,.iadr 1 (.t 8) (.t 9)⟩,⟨none,none,.store 1 (.t 10) (.c (.int .i64 777))⟩])))
 (.ops [⟨some 11,none,.bin 0 .add (.t 5) (.c (.int .i64 1))⟩,⟨some 5,none,.mv (.t 11)⟩]))))))⟩
theorem c32:compF Go.Proofs.Try.prog 32=some a32:=by kernel_rfl
def a33 : AFn := ⟨50,[.t 0],.seq (.ops [⟨some 0,none,.mv (.c (.bool false))⟩])
 (.seq (.ops [⟨some 9,none,.call 71 [(.c (.int .i64 4)),(.c (.int .i64 1))]⟩,⟨some 8,none,.mv (.t 9)⟩,⟨some 10,none,.ext (.t 8) 0⟩,⟨some 11,none,.ext (.t 8) 1⟩,⟨some 1,none,.mv (.t 10)⟩,⟨some 2,none,.mv (.t 11)⟩])
 (.seq (.ops [⟨some 13,none,.call 72 [(.c (.int .i64 3))]⟩,⟨some 12,none,.mv (.t 13)⟩,⟨some 14,none,.ext (.t 12) 0⟩,⟨some 15,none,.ext (.t 12) 1⟩,⟨some 3,none,.mv (.t 14)⟩,⟨some 4,none,.mv (.t 15)⟩])
 (.seq (.ops [⟨some 17,none,.bslice 9 1 1 [(.str [])] [(0,1,(.c (.str [49,120])))]⟩,⟨some 18,none,.build [(.lit true 0 []),(.str [])] [(0,1,(.t 17)),(1,1,(.c (.str [49])))]⟩,⟨some 19,none,.call 60 [(.t 18)]⟩,⟨some 16,none,.mv (.t 19)⟩,⟨some 20,none,.ext (.t 16) 0⟩,⟨some 21,none,.ext (.t 16) 1⟩,⟨some 22,none,.ext (.t 16) 2⟩,⟨some 5,none,.alloc 35 [(.int .i64 0),(.int .i64 0)]⟩,⟨none,none,.store 2 (.t 5) (.t 20)⟩,⟨some 6,none,.mv (.t 21)⟩,⟨some 7,none,.mv (.t 22)⟩])
 (.seq (.ops [⟨some 23,none,.mv (.t 2)⟩,⟨some 24,none,.bin 0 .eql (.t 23) (.c (.int .i64 0))⟩,⟨some 25,none,.mv (.t 24)⟩,⟨some 26,(some (25,true)),.mv (.t 1)⟩,⟨some 27,(some (25,true)),.bin 1 .eql (.t 26) (.c (.str [49,49,48]))⟩,⟨some 28,none,.pick (.t 25) (.t 27) (.c (.bool false))⟩,⟨some 29,none,.mv (.t 28)⟩,⟨some 30,(some (29,true)),.mv (.t 4)⟩,⟨some 31,(some (29,true)),.bin 0 .eql (.t 30) (.c (.int .i64 0))⟩,⟨some 32,none,.pick (.t 29) (.t 31) (.c (.bool false))⟩,⟨some 33,none,.mv (.t 32)⟩,⟨some 34,(some (33,true)),.mv (.t 3)⟩,⟨some 35,(some (33,true)),.len false (.t 34)⟩,⟨some 36,(some (33,true)),.bin 0 .eql (.t 35) (.c (.int .i64 3))⟩,⟨some 37,none,.pick (.t 33) (.t 36) (.c (.bool false))⟩,⟨some 38,none,.mv (.t 37)⟩,⟨some 39,(some (38,true)),.mv (.t 7)⟩,⟨some 40,(some (38,true)),.bin 0 .eql (.t 39) (.c (.int .i64 0))⟩,⟨some 41,none,.pick (.t 38) (.t 40) (.c (.bool false))⟩,⟨some 42,none,.mv (.t 41)⟩,⟨some 43,(some (42,true)),.mv (.t 6)⟩,⟨some 44,none,.pick (.t 42) (.t 43) (.c (.bool false))⟩,⟨some 45,none,.mv (.t 44)⟩,⟨some 46,(some (45,true)),.load (some 2) (.t 5)⟩,⟨some 47,(some (45,true)),.build [(.int .i64 0),(.int .i64 0)] [(0,1,(.c (.int .i64 1))),(1,1,(.c (.int .i64 2)))]⟩,⟨some 48,(some (45,true)),.eqs false [0,0] (.t 46) (.t 47)⟩,⟨some 49,none,.pick (.t 45) (.t 48) (.c (.bool false))⟩,⟨some 0,none,.mv (.t 49)⟩])
 (.ret)))))⟩
theorem c33:compF Go.Proofs.Try.prog 33=some a33:=by kernel_rfl
def a34 : AFn := ⟨19,[.t 6],.seq (.ops [⟨some 6,none,.mv (.c (.int .i64 0))⟩])
 (.seq (.seq (.ops [⟨some 7,none,.mv (.t 2)⟩,⟨some 8,none,.mv (.t 1)⟩,⟨some 9,none,.bin 0 .lss (.t 7) (.t 8)⟩])
 (.cond (.t 9) (.seq (.ops [⟨some 10,none,.mv (.t 1)⟩,⟨some 6,none,.mv (.t 10)⟩])
 (.ret)) (.skip)))
 (.seq (.ops [⟨some 11,none,.mv (.t 1)⟩,⟨some 12,none,.mv (.t 0)⟩,⟨some 13,none,.mv (.t 2)⟩,⟨some 14,none,.mv (.t 1)⟩,⟨some 15,none,.bin 0 .sub (.t 13) (.t 14)⟩,⟨some 16,none,.bin 0 .add (.t 15) (.c (.int .i64 1))⟩,⟨some 17,none,.call 35 [(.t 12),(.t 16)]⟩,⟨some 18,none,.bin 0 .add (.t 11) (.t 17)⟩,⟨some 6,none,.mv (.t 18)⟩])
 (.ret)))⟩
theorem c34:compF Go.Proofs.Try.prog 34=some a34:=by kernel_rfl
def a35 : AFn := ⟨64,[.t 4],.seq (.ops [⟨some 4,none,.mv (.c (.int .i64 0))⟩])
 (.seq (.ops [⟨some 7,none,.mv (.t 0)⟩,⟨some 8,none,.nilchk (.t 7)⟩,⟨some 9,none,.fadr 1 (.t 8)⟩,⟨some 10,none,.load none (.t 9)⟩,⟨some 11,none,.bin 0 .add (.t 10) (.c (.int .i64 1))⟩,⟨some 12,none,.nilchk (.t 7)⟩,⟨some 13,none,.fadr 1 (.t 12)⟩,⟨none,none,.store 1 (.t 13) (.t 11)⟩])
 (.seq (.seq (.ops [⟨some 14,none,.mv (.t 0)⟩,⟨some 15,none,.nilchk (.t 14)⟩,⟨some 16,none,.fadr 0 (.t 15)⟩,⟨some 17,none,.load none (.t 16)⟩,⟨some 18,none,.len false (.t 17)⟩,⟨some 19,none,.bin 0 .eql (.t 18) (.c (.int .i64 0))⟩])
 (.cond (.t 19) (.seq (.ops [⟨some 20,none,.mv (.t 0)⟩,⟨some 21,none,.nilchk (.t 20)⟩,⟨some 22,none,.fadr 1 (.t 21)⟩,⟨some 23,none,.load none (.t 22)⟩,⟨some 24,none,.bin 0 .mul (.t 23) (.c (.int .i64 7919))⟩,⟨some 25,none,.mv (.t 1)⟩,⟨some 26,none,.call 73 [(.t 24),(.t 25)]⟩,⟨some 4,none,.mv (.t 26)⟩])
 (.ret)) (.skip)))
 (.seq (.any [(⟨some 27,none,.mv (.t 0)⟩,[]),(⟨some 28,none,.nilchk (.t 27)⟩,[]),(⟨some 29,none,.fadr 1 (.t 28)⟩,[]),(⟨some 30,none,.load none (.t 29)⟩,[]),(⟨some 31,none,.bin 0 .sub (.t 30) (.c (.int .i64 1))⟩,[]),(⟨some 32,none,.mv (.t 0)⟩,[0,1,2,3,4]),(⟨some 33,none,.nilchk (.t 32)⟩,[0,1,2,3,4]),(⟨some 34,none,.fadr 0 (.t 33)⟩,[0,1,2,3,4]),(⟨some 35,none,.load none (.t 34)⟩,[0,1,2,3,4]),(⟨some 36,none,.len false (.t 35)⟩,[0,1,2,3,4]),(⟨some 37,none,.bin 0 .rem (.t 31) (.t 36)⟩,[]),(⟨some 5,none,.mv (.t 37)⟩,[])])
 (.seq (.any [(⟨some 38,none,.mv (.t 0)⟩,[]),(⟨some 39,none,.nilchk (.t 38)⟩,[]),(⟨some 40,none,.fadr 1 (.t 39)⟩,[]),(⟨some 41,none,.load none (.t 40)⟩,[]),(⟨some 42,none,.bin 0 .sub (.t 41) (.c (.int .i64 1))⟩,[]),(⟨some 43,none,.mv (.t 0)⟩,[0,1,2,3,4]),(⟨some 44,none,.nilchk (.t 43)⟩,[0,1,2,3,4]),(⟨some 45,none,.fadr 0 (.t 44)⟩,[0,1,2,3,4]),(⟨some 46,none,.load none (.t 45)⟩,[0,1,2,3,4]),(⟨some 47,none,.len false (.t 46)⟩,[0,1,2,3,4]),(⟨some 48,none,.bin 0 .quo (.t 42) (.t 47)⟩,[]),(⟨some 6,none,.mv (.t 48)⟩,[])])
 (.seq (.ops [⟨some 49,none,.mv (.t 0)⟩,⟨some 50,none,.nilchk (.t 49)⟩,⟨some 51,none,.fadr 0 (.t 50)⟩,⟨some 52,none,.load none (.t 51)⟩,⟨some 53,none,.mv (.t 5)⟩,⟨some 54,none,.iadr 1 (.t 52) (.t 53)⟩,⟨some 55,none,.load none (.t 54)⟩,⟨some 56,none,.call 73 [(.t 55),(.c (.int .i64 1073741824))]⟩,⟨some 57,none,.mv (.t 6)⟩,⟨some 58,none,.mv (.t 5)⟩,⟨some 59,none,.bin 0 .add (.c (.int .i64 7919)) (.t 58)⟩,⟨some 60,none,.bin 0 .mul (.t 57) (.t 59)⟩,⟨some 61,none,.bin 0 .add (.t 56) (.t 60)⟩,⟨some 62,none,.mv (.t 1)⟩,⟨some 63,none,.call 73 [(.t 61),(.t 62)]⟩,⟨some 4,none,.mv (.t 63)⟩])
 (.ret))))))⟩
theorem c35:compF Go.Proofs.Try.prog 35=some a35:=by kernel_rfl
def a36 : AFn := ⟨9,[.t 4],.seq (.ops [⟨some 4,none,.mv (.c (.bool false))⟩])
 (.seq (.ops [⟨some 5,none,.mv (.t 0)⟩,⟨some 6,none,.mv (.t 1)⟩,⟨some 7,none,.call 74 [(.t 5),(.t 6)]⟩,⟨some 8,none,.bin 0 .geq (.t 7) (.c (.int .i64 0))⟩,⟨some 4,none,.mv (.t 8)⟩])
 (.ret))⟩
theorem c36:compF Go.Proofs.Try.prog 36=some a36:=by kernel_rfl
def a37 : AFn := ⟨6,[.t 2],.seq (.ops [⟨some 2,none,.mv (.c (.bool false))⟩])
 (.seq (.ops [⟨some 3,none,.mv (.t 0)⟩,⟨some 4,none,.call 38 [(.t 3)]⟩,⟨some 5,none,.un .not (.t 4)⟩,⟨some 2,none,.mv (.t 5)⟩])
 (.ret))⟩
theorem c37:compF Go.Proofs.Try.prog 37=some a37:=by kernel_rfl
def a38 : AFn := ⟨18,[.t 2],.seq (.ops [⟨some 2,none,.mv (.c (.bool false))⟩])
 (.seq (.ops [⟨some 3,none,.mv (.t 0)⟩,⟨some 4,none,.call 75 [(.c (.str [48,49,50,51,52,53,54,55,56,57,97,98,99,100,101,102,103,104,105,106,107,108,109,110,111,112,113,114,115,116,117,118,119,120,121,122])),(.t 3)]⟩,⟨some 5,none,.bin 0 .geq (.t 4) (.c (.int .i64 0))⟩,⟨some 6,none,.mv (.t 5)⟩,⟨some 7,(some (6,false)),.mv (.t 0)⟩,⟨some 8,(some (6,false)),.bin 0 .eql (.t 7) (.c (.int .u8 46))⟩,⟨some 9,none,.pick (.t 6) (.c (.bool true)) (.t 8)⟩,⟨some 10,none,.mv (.t 9)⟩,⟨some 11,(some (10,false)),.mv (.t 0)⟩,⟨some 12,(some (10,false)),.bin 0 .eql (.t 11) (.c (.int .u8 63))⟩,⟨some 13,none,.pick (.t 10) (.c (.bool true)) (.t 12)⟩,⟨some 14,none,.mv (.t 13)⟩,⟨some 15,(some (14,false)),.mv (.t 0)⟩,⟨some 16,(some (14,false)),.bin 0 .eql (.t 15) (.c (.int .u8 42))⟩,⟨some 17,none,.pick (.t 14) (.c (.bool true)) (.t 16)⟩,⟨some 2,none,.mv (.t 17)⟩])
 (.ret))⟩
theorem c38:compF Go.Proofs.Try.prog 38=some a38:=by kernel_rfl
def a39 : AFn := ⟨29,[.t 2],.seq (.ops [⟨some 2,none,.mv (.c (.int .i64 0))⟩])
 (.seq (.seq (.ops [⟨some 4,none,.mv (.t 0)⟩,⟨some 5,none,.len true (.t 4)⟩,⟨some 6,none,.mv (.c (.int .i64 0))⟩])
 (.block 0 (.loop (.seq (.ops [⟨some 7,none,.bin 0 .lss (.t 6) (.t 5)⟩])
 (.seq (.cond (.t 7) (.skip) (.exit 0))
 (.seq (.block 1 (.seq (.ops [⟨some 8,none,.mv (.t 6)⟩,⟨some 3,none,.mv (.t 8)⟩])
 (.block 2 (.seq (.ops [⟨some 10,none,.mv (.t 0)⟩,⟨some 11,none,.mv (.t 3)⟩,⟨some 12,none,.idxs (.t 10) (.t 11)⟩,⟨some 13,none,.call 75 [(.c (.str [48,49,50,51,52,53,54,55,56,57,97,98,99,100,101,102,103,104,105,106,107,108,109,110,111,112,113,114,115,116,117,118,119,120,121,122])),(.t 12)]⟩,⟨some 14,none,.bin 0 .lss (.t 13) (.c (.int .i64 0))⟩,⟨some 9,none,.mv (.t 14)⟩])
 (.cond (.t 9) (.seq (.ops [⟨some 2,none,.mv (.c (.int .i64 9))⟩])
 (.ret)) (.seq (.any [(⟨some 16,none,.mv (.t 3)⟩,[]),(⟨some 17,none,.bin 0 .gtr (.t 16) (.c (.int .i64 0))⟩,[]),(⟨some 18,none,.mv (.t 17)⟩,[]),(⟨some 19,(some (18,true)),.mv (.t 0)⟩,[]),(⟨some 20,(some (18,true)),.mv (.t 3)⟩,[3]),(⟨some 21,(some (18,true)),.idxs (.t 19) (.t 20)⟩,[]),(⟨some 22,(some (18,true)),.mv (.t 0)⟩,[3,4,5]),(⟨some 23,(some (18,true)),.mv (.t 3)⟩,[3,4,5,6]),(⟨some 24,(some (18,true)),.bin 0 .sub (.t 23) (.c (.int .i64 1))⟩,[3,4,5,6]),(⟨some 25,(some (18,true)),.idxs (.t 22) (.t 24)⟩,[3,4,5]),(⟨some 26,(some (18,true)),.bin 0 .leq (.t 21) (.t 25)⟩,[]),(⟨some 27,none,.pick (.t 18) (.t 26) (.c (.bool false))⟩,[]),(⟨some 15,none,.mv (.t 27)⟩,[])])
 (.cond (.t 15) (.seq (.ops [⟨some 2,none,.mv (.c (.int .i64 7))⟩])
 (.ret)) (.skip))))))))
 (.ops [⟨some 28,none,.bin 0 .add (.t 6) (.c (.int .i64 1))⟩,⟨some 6,none,.mv (.t 28)⟩])))))))
 (.seq (.ops [⟨some 2,none,.mv (.c (.int .i64 0))⟩])
 (.ret)))⟩
theorem c39:compF Go.Proofs.Try.prog 39=some a39:=by kernel_rfl
def a40 : AFn := ⟨72,[.t 2],.seq (.ops [⟨some 1,none,.box 28 (.t 0)⟩,⟨some 2,none,.mv (.c (.int .i64 0))⟩])
 (.seq (.block 0 (.seq (.ops [⟨some 7,none,.fadr 0 (.t 1)⟩,⟨some 8,none,.load none (.t 7)⟩,⟨some 9,none,.len false (.t 8)⟩,⟨some 10,none,.bin 0 .eql (.t 9) (.c (.int .i64 0))⟩,⟨some 6,none,.mv (.t 10)⟩])
 (.cond (.t 6) (.seq (.ops [⟨some 2,none,.mv (.c (.int .i64 8))⟩])
 (.ret)) (.seq (.ops [⟨some 12,none,.fadr 0 (.t 1)⟩,⟨some 13,none,.load none (.t 12)⟩,⟨some 14,none,.len false (.t 13)⟩,⟨some 15,none,.bin 0 .gtr (.t 14) (.c (.int .i64 60))⟩,⟨some 11,none,.mv (.t 15)⟩])
 (.cond (.t 11) (.seq (.ops [⟨some 2,none,.mv (.c (.int .i64 2))⟩])
 (.ret)) (.skip))))))
 (.seq (.seq (.ops [⟨some 16,none,.fadr 0 (.t 1)⟩,⟨some 17,none,.load none (.t 16)⟩,⟨some 18,none,.len false (.t 17)⟩,⟨some 19,none,.mv (.c (.int .i64 0))⟩])
 (.block 1 (.loop (.seq (.ops [⟨some 20,none,.bin 0 .lss (.t 19) (.t 18)⟩])
 (.seq (.cond (.t 20) (.skip) (.exit 1))
 (.seq (.block 2 (.seq (.ops [⟨some 21,none,.iadr 1 (.t 17) (.t 19)⟩,⟨some 22,none,.load none (.t 21)⟩,⟨some 4,none,.mv (.t 22)⟩])
 (.block 3 (.seq (.ops [⟨some 24,none,.mv (.t 4)⟩,⟨some 25,none,.bin 1 .eql (.t 24) (.c (.str []))⟩,⟨some 23,none,.mv (.t 25)⟩])
 (.cond (.t 23) (.seq (.ops [⟨some 2,none,.mv (.c (.int .i64 8))⟩])
 (.ret)) (.seq (.ops [⟨some 27,none,.mv (.t 4)⟩,⟨some 28,none,.len true (.t 27)⟩,⟨some 29,none,.bin 0 .gtr (.t 28) (.c (.int .i64 60))⟩,⟨some 26,none,.mv (.t 29)⟩])
 (.cond (.t 26) (.seq (.ops [⟨some 2,none,.mv (.c (.int .i64 2))⟩])
 (.ret)) (.seq (.ops [⟨some 31,none,.mv (.t 4)⟩,⟨some 32,none,.len true (.t 31)⟩,⟨some 33,none,.fadr 0 (.t 1)⟩,⟨some 34,none,.load none (.t 33)⟩,⟨some 35,none,.iadr 1 (.t 34) (.c (.int .i64 0))⟩,⟨some 36,none,.load none (.t 35)⟩,⟨some 37,none,.len true (.t 36)⟩,⟨some 38,none,.bin 0 .neq (.t 32) (.t 37)⟩,⟨some 30,none,.mv (.t 38)⟩])
 (.cond (.t 30) (.seq (.ops [⟨some 2,none,.mv (.c (.int .i64 3))⟩])
 (.ret)) (.seq (.ops [⟨some 40,none,.mv (.t 4)⟩,⟨some 41,none,.call 76 [(.t 40)]⟩,⟨some 39,none,.mv (.t 41)⟩])
 (.cond (.t 39) (.seq (.ops [⟨some 2,none,.mv (.c (.int .i64 9))⟩])
 (.ret)) (.skip))))))))))))
 (.ops [⟨some 42,none,.bin 0 .add (.t 19) (.c (.int .i64 1))⟩,⟨some 19,none,.mv (.t 42)⟩])))))))
 (.seq (.seq (.ops [⟨some 43,none,.fadr 1 (.t 1)⟩,⟨some 44,none,.load none (.t 43)⟩,⟨some 45,none,.len true (.t 44)⟩,⟨some 46,none,.mv (.c (.int .i64 0))⟩])
 (.block 4 (.loop (.seq (.ops [⟨some 47,none,.bin 0 .lss (.t 46) (.t 45)⟩])
 (.seq (.cond (.t 47) (.skip) (.exit 4))
 (.seq (.block 5 (.seq (.ops [⟨some 48,none,.mv (.t 46)⟩,⟨some 5,none,.mv (.t 48)⟩])
 (.block 6 (.seq (.ops [⟨some 50,none,.fadr 1 (.t 1)⟩,⟨some 51,none,.load none (.t 50)⟩,⟨some 52,none,.mv (.t 5)⟩,⟨some 53,none,.idxs (.t 51) (.t 52)⟩,⟨some 54,none,.call 77 [(.t 53)]⟩,⟨some 55,none,.un .not (.t 54)⟩,⟨some 49,none,.mv (.t 55)⟩])
 (.cond (.t 49) (.seq (.ops [⟨some 2,none,.mv (.c (.int .i64 9))⟩])
 (.ret)) (.seq (.any [(⟨some 57,none,.mv (.t 5)⟩,[]),(⟨some 58,none,.bin 0 .gtr (.t 57) (.c (.int .i64 0))⟩,[]),(⟨some 59,none,.mv (.t 58)⟩,[]),(⟨some 60,(some (59,true)),.fadr 1 (.t 1)⟩,[]),(⟨some 61,(some (59,true)),.load none (.t 60)⟩,[]),(⟨some 62,(some (59,true)),.mv (.t 5)⟩,[3,4]),(⟨some 63,(some (59,true)),.idxs (.t 61) (.t 62)⟩,[]),(⟨some 64,(some (59,true)),.fadr 1 (.t 1)⟩,[3,4,5,6]),(⟨some 65,(some (59,true)),.load none (.t 64)⟩,[3,4,5,6]),(⟨some 66,(some (59,true)),.mv (.t 5)⟩,[3,4,5,6,7,8]),(⟨some 67,(some (59,true)),.bin 0 .sub (.t 66) (.c (.int .i64 1))⟩,[3,4,5,6,7,8]),(⟨some 68,(some (59,true)),.idxs (.t 65) (.t 67)⟩,[3,4,5,6]),(⟨some 69,(some (59,true)),.bin 0 .leq (.t 63) (.t 68)⟩,[]),(⟨some 70,none,.pick (.t 59) (.t 69) (.c (.bool false))⟩,[]),(⟨some 56,none,.mv (.t 70)⟩,[])])
 (.cond (.t 56) (.seq (.ops [⟨some 2,none,.mv (.c (.int .i64 7))⟩])
 (.ret)) (.skip))))))))
 (.ops [⟨some 71,none,.bin 0 .add (.t 46) (.c (.int .i64 1))⟩,⟨some 46,none,.mv (.t 71)⟩])))))))
 (.seq (.ops [⟨some 2,none,.mv (.c (.int .i64 0))⟩])
 (.ret)))))⟩
theorem c40:compF Go.Proofs.Try.prog 40=some a40:=by kernel_rfl
def a41 : AFn := ⟨15,[.t 6],.seq (.ops [⟨some 6,none,.mv (.c (.bool false))⟩])
 (.seq (.ops [⟨some 7,none,.mv (.t 0)⟩,⟨some 8,none,.mv (.t 1)⟩,⟨some 9,none,.bin 0 .lss (.t 7) (.t 8)⟩,⟨some 10,none,.mv (.t 9)⟩,⟨some 11,(some (10,false)),.mv (.t 0)⟩,⟨some 12,(some (10,false)),.mv (.t 2)⟩,⟨some 13,(some (10,false)),.bin 0 .gtr (.t 11) (.t 12)⟩,⟨some 14,none,.pick (.t 10) (.c (.bool true)) (.t 13)⟩,⟨some 6,none,.mv (.t 14)⟩])
 (.ret))⟩
theorem c41:compF Go.Proofs.Try.prog 41=some a41:=by kernel_rfl
def a43 : AFn := ⟨29,[.t 2],.seq (.ops [⟨some 1,none,.box 28 (.t 0)⟩,⟨some 2,none,.mv (.c (.lit true 0 []))⟩])
 (.seq (.ops [⟨some 3,none,.mv (.c (.lit true 0 []))⟩])
 (.seq (.seq (.ops [⟨some 7,none,.fadr 0 (.t 1)⟩,⟨some 8,none,.load none (.t 7)⟩,⟨some 9,none,.len false (.t 8)⟩,⟨some 10,none,.mv (.c (.int .i64 0))⟩])
 (.block 0 (.loop (.seq (.ops [⟨some 11,none,.bin 0 .lss (.t 10) (.t 9)⟩])
 (.seq (.cond (.t 11) (.skip) (.exit 0))
 (.seq (.block 1 (.seq (.ops [⟨some 12,none,.mv (.t 10)⟩,⟨some 13,none,.iadr 1 (.t 8) (.t 10)⟩,⟨some 14,none,.load none (.t 13)⟩,⟨some 4,none,.mv (.t 12)⟩,⟨some 5,none,.mv (.t 14)⟩])
 (.seq (.ops [⟨some 15,none,.mv (.t 5)⟩,⟨some 16,none,.len true (.t 15)⟩,⟨some 17,none,.mv (.c (.int .i64 0))⟩])
 (.block 2 (.loop (.seq (.ops [⟨some 18,none,.bin 0 .lss (.t 17) (.t 16)⟩])
 (.seq (.cond (.t 18) (.skip) (.exit 2))
 (.seq (.block 3 (.seq (.ops [⟨some 19,none,.mv (.t 17)⟩,⟨some 6,none,.mv (.t 19)⟩])
 (.ops [⟨some 20,none,.mv (.t 3)⟩,⟨some 21,none,.mv (.t 6)⟩,⟨some 22,none,.mv (.t 4)⟩,⟨some 23,none,.build [(.int .i64 0),(.int .i64 0)] [(0,1,(.t 21)),(1,1,(.t 22))]⟩,⟨some 24,none,.bslice 46 2 1 [(.int .i64 0),(.int .i64 0)] [(0,2,(.t 23))]⟩,⟨some 25,none,.app 46 2 16 (.t 20) (.t 24)⟩,⟨some 3,none,.mv (.t 25)⟩])))
 (.ops [⟨some 26,none,.bin 0 .add (.t 17) (.c (.int .i64 1))⟩,⟨some 17,none,.mv (.t 26)⟩])))))))))
 (.ops [⟨some 27,none,.bin 0 .add (.t 10) (.c (.int .i64 1))⟩,⟨some 10,none,.mv (.t 27)⟩])))))))
 (.seq (.ops [⟨some 28,none,.mv (.t 3)⟩,⟨some 2,none,.mv (.t 28)⟩])
 (.ret))))⟩
theorem c43:compF Go.Proofs.Try.prog 43=some a43:=by kernel_rfl
def a44 : AFn := ⟨32,[.t 4],.seq (.ops [⟨some 2,none,.box 28 (.t 0)⟩,⟨some 3,none,.box 46 (.t 1)⟩,⟨some 4,none,.mv (.c (.int .u8 0))⟩])
 (.seq (.seq (.any [(⟨some 5,none,.fadr 1 (.t 3)⟩,[]),(⟨some 6,none,.load none (.t 5)⟩,[]),(⟨some 7,none,.fadr 0 (.t 2)⟩,[0,1]),(⟨some 8,none,.load none (.t 7)⟩,[0,1]),(⟨some 9,none,.len false (.t 8)⟩,[0,1]),(⟨some 10,none,.bin 0 .sub (.t 9) (.c (.int .i64 1))⟩,[0,1]),(⟨some 11,none,.call 41 [(.t 6),(.c (.int .i64 0)),(.t 10)]⟩,[]),(⟨some 12,none,.mv (.t 11)⟩,[]),(⟨some 13,(some (12,false)),.fadr 0 (.t 3)⟩,[]),(⟨some 14,(some (12,false)),.load none (.t 13)⟩,[]),(⟨some 15,(some (12,false)),.fadr 0 (.t 2)⟩,[8,9]),(⟨some 16,(some (12,false)),.load none (.t 15)⟩,[8,9]),(⟨some 17,(some (12,false)),.iadr 1 (.t 16) (.c (.int .i64 0))⟩,[8,9]),(⟨some 18,(some (12,false)),.load none (.t 17)⟩,[8,9]),(⟨some 19,(some (12,false)),.len true (.t 18)⟩,[8,9]),(⟨some 20,(some (12,false)),.bin 0 .sub (.t 19) (.c (.int .i64 1))⟩,[8,9]),(⟨some 21,(some (12,false)),.call 41 [(.t 14),(.c (.int .i64 0)),(.t 20)]⟩,[]),(⟨some 22,none,.pick (.t 12) (.c (.bool true)) (.t 21)⟩,[])])
 (.cond (.t 22) (.seq (.ops [⟨some 4,none,.mv (.c (.int .u8 46))⟩])
 (.ret)) (.skip)))
 (.seq (.any [(⟨some 23,none,.fadr 0 (.t 2)⟩,[]),(⟨some 24,none,.load none (.t 23)⟩,[]),(⟨some 25,none,.fadr 1 (.t 3)⟩,[0,1]),(⟨some 26,none,.load none (.t 25)⟩,[0,1]),(⟨some 27,none,.iadr 1 (.t 24) (.t 26)⟩,[]),(⟨some 28,none,.load none (.t 27)⟩,[]),(⟨some 29,none,.fadr 0 (.t 3)⟩,[0,1,2,3,4,5]),(⟨some 30,none,.load none (.t 29)⟩,[0,1,2,3,4,5]),(⟨some 31,none,.idxs (.t 28) (.t 30)⟩,[]),(⟨some 4,none,.mv (.t 31)⟩,[])])
 (.ret)))⟩
theorem c44:compF Go.Proofs.Try.prog 44=some a44:=by kernel_rfl
def a45 : AFn := ⟨9,[.t 2],.seq (.ops [⟨some 2,none,.mv (.c (.bool false))⟩])
 (.seq (.ops [⟨some 3,none,.mv (.t 0)⟩,⟨some 4,none,.call 77 [(.t 3)]⟩,⟨some 5,none,.mv (.t 4)⟩,⟨some 6,(some (5,false)),.mv (.t 0)⟩,⟨some 7,(some (5,false)),.bin 0 .eql (.t 6) (.c (.int .u8 42))⟩,⟨some 8,none,.pick (.t 5) (.c (.bool true)) (.t 7)⟩,⟨some 2,none,.mv (.t 8)⟩])
 (.ret))⟩
theorem c45:compF Go.Proofs.Try.prog 45=some a45:=by kernel_rfl
def a46 : AFn := ⟨13,[.t 4],.seq (.ops [⟨some 2,none,.box 28 (.t 0)⟩,⟨some 4,none,.mv (.c (.bool false))⟩])
 (.seq (.ops [⟨some 5,none,.mv (.t 1)⟩,⟨some 6,none,.call 77 [(.t 5)]⟩,⟨some 7,none,.mv (.t 6)⟩,⟨some 8,(some (7,true)),.load (some 2) (.t 2)⟩,⟨some 9,(some (7,true)),.mv (.t 1)⟩,⟨some 10,(some (7,true)),.call 65 [(.t 8),(.t 9)]⟩,⟨some 11,(some (7,true)),.un .not (.t 10)⟩,⟨some 12,none,.pick (.t 7) (.t 11) (.c (.bool false))⟩,⟨some 4,none,.mv (.t 12)⟩])
 (.ret))⟩
theorem c46:compF Go.Proofs.Try.prog 46=some a46:=by kernel_rfl
def a47 : AFn := ⟨15,[.t 6],.seq (.ops [⟨some 6,none,.mv (.c (.bool false))⟩])
 (.seq (.ops [⟨some 7,none,.mv (.t 1)⟩,⟨some 8,none,.mv (.t 0)⟩,⟨some 9,none,.bin 0 .leq (.t 7) (.t 8)⟩,⟨some 10,none,.mv (.t 9)⟩,⟨some 11,(some (10,true)),.mv (.t 0)⟩,⟨some 12,(some (10,true)),.mv (.t 2)⟩,⟨some 13,(some (10,true)),.bin 0 .leq (.t 11) (.t 12)⟩,⟨some 14,none,.pick (.t 10) (.t 13) (.c (.bool false))⟩,⟨some 6,none,.mv (.t 14)⟩])
 (.ret))⟩
theorem c47:compF Go.Proofs.Try.prog 47=some a47:=by kernel_rfl
def a54 : AFn := ⟨44,[.t 4],.seq (.ops [⟨some 2,none,.box 28 (.t 0)⟩,⟨some 3,none,.box 28 (.t 1)⟩,⟨some 4,none,.mv (.c (.int .i64 0))⟩])
 (.seq (.any [(⟨some 6,none,.load (some 2) (.t 2)⟩,[]),(⟨some 7,none,.call 40 [(.t 6)]⟩,[]),(⟨some 8,none,.load (some 2) (.t 3)⟩,[0,1]),(⟨some 9,none,.call 40 [(.t 8)]⟩,[]),(⟨some 10,none,.bslice 37 1 2 [(.int .i64 0)] [(0,1,(.t 7)),(1,1,(.t 9))]⟩,[]),(⟨some 11,none,.call 79 [(.t 10)]⟩,[]),(⟨some 5,none,.mv (.t 11)⟩,[])])
 (.seq (.seq (.any [(⟨some 12,none,.mv (.t 5)⟩,[]),(⟨some 13,none,.bin 0 .eql (.t 12) (.c (.int .i64 0))⟩,[]),(⟨some 14,none,.mv (.t 13)⟩,[]),(⟨some 15,(some (14,true)),.fadr 0 (.t 2)⟩,[]),(⟨some 16,(some (14,true)),.load none (.t 15)⟩,[]),(⟨some 17,(some (14,true)),.len false (.t 16)⟩,[]),(⟨some 18,(some (14,true)),.fadr 0 (.t 3)⟩,[3,4,5]),(⟨some 19,(some (14,true)),.load none (.t 18)⟩,[3,4,5]),(⟨some 20,(some (14,true)),.len false (.t 19)⟩,[3,4,5]),(⟨some 21,(some (14,true)),.bin 0 .neq (.t 17) (.t 20)⟩,[]),(⟨some 22,(some (14,true)),.mv (.t 21)⟩,[]),(⟨some 23,(some (22,false)),.fadr 0 (.t 2)⟩,[]),(⟨some 24,(some (22,false)),.load none (.t 23)⟩,[]),(⟨some 25,(some (22,false)),.iadr 1 (.t 24) (.c (.int .i64 0))⟩,[]),(⟨some 26,(some (22,false)),.load none (.t 25)⟩,[]),(⟨some 27,(some (22,false)),.len true (.t 26)⟩,[]),(⟨some 28,(some (22,false)),.fadr 0 (.t 3)⟩,[11,12,13,14,15]),(⟨some 29,(some (22,false)),.load none (.t 28)⟩,[11,12,13,14,15]),(⟨some 30,(some (22,false)),.iadr 1 (.t 29) (.c (.int .i64 0))⟩,[11,12,13,14,15]),(⟨some 31,(some (22,false)),.load none (.t 30)⟩,[11,12,13,14,15]),(⟨some 32,(some (22,false)),.len true (.t 31)⟩,[11,12,13,14,15]),(⟨some 33,(some (22,false)),.bin 0 .neq (.t 27) (.t 32)⟩,[]),(⟨some 34,(some (14,true)),.pick (.t 22) (.c (.bool true)) (.t 33)⟩,[]),(⟨some 35,(some (14,true)),.mv (.t 34)⟩,[]),(⟨some 36,(some (35,false)),.fadr 1 (.t 2)⟩,[]),(⟨some 37,(some (35,false)),.load none (.t 36)⟩,[]),(⟨some 38,(some (35,false)),.fadr 1 (.t 3)⟩,[24,25]),(⟨some 39,(some (35,false)),.load none (.t 38)⟩,[24,25]),(⟨some 40,(some (35,false)),.bin 1 .neq (.t 37) (.t 39)⟩,[]),(⟨some 41,(some (14,true)),.pick (.t 35) (.c (.bool true)) (.t 40)⟩,[]),(⟨some 42,none,.pick (.t 14) (.t 41) (.c (.bool false))⟩,[])])
 (.cond (.t 42) (.ops [⟨some 5,none,.mv (.c (.int .i64 3))⟩]) (.skip)))
 (.seq (.ops [⟨some 43,none,.mv (.t 5)⟩,⟨some 4,none,.mv (.t 43)⟩])
 (.ret))))⟩
theorem c54:compF Go.Proofs.Try.prog 54=some a54:=by kernel_rfl
def a55 : AFn := ⟨50,[.c 4 (some 2)],.seq (.ops [⟨some 2,none,.box 28 (.t 0)⟩,⟨some 4,none,.alloc 28 [(.lit true 0 []),(.str [])]⟩])
 (.seq (.ops [⟨some 10,none,.fadr 1 (.t 2)⟩,⟨some 11,none,.load none (.t 10)⟩,⟨some 12,none,.build [(.lit true 0 []),(.str [])] [(1,1,(.t 11))]⟩,⟨some 5,none,.alloc 28 [(.lit true 0 []),(.str [])]⟩,⟨none,none,.store 2 (.t 5) (.t 12)⟩])
 (.seq (.seq (.ops [⟨some 13,none,.fadr 0 (.t 2)⟩,⟨some 14,none,.load none (.t 13)⟩,⟨some 15,none,.len false (.t 14)⟩,⟨some 16,none,.mv (.c (.int .i64 0))⟩])
 (.block 0 (.loop (.seq (.ops [⟨some 17,none,.bin 0 .lss (.t 16) (.t 15)⟩])
 (.seq (.cond (.t 17) (.skip) (.exit 0))
 (.seq (.block 1 (.seq (.ops [⟨some 18,none,.mv (.t 16)⟩,⟨some 19,none,.iadr 1 (.t 14) (.t 16)⟩,⟨some 20,none,.load none (.t 19)⟩,⟨some 6,none,.mv (.t 18)⟩,⟨some 7,none,.mv (.t 20)⟩])
 (.seq (.ops [⟨some 21,none,.mv (.t 7)⟩,⟨some 22,none,.s2bo (.t 21)⟩,⟨some 8,none,.mv (.t 22)⟩])
 (.seq (.seq (.ops [⟨some 23,none,.mv (.t 8)⟩,⟨some 24,none,.len false (.t 23)⟩,⟨some 25,none,.mv (.c (.int .i64 0))⟩])
 (.block 2 (.loop (.seq (.ops [⟨some 26,none,.bin 0 .lss (.t 25) (.t 24)⟩])
 (.seq (.cond (.t 26) (.skip) (.exit 2))
 (.seq (.block 3 (.seq (.ops [⟨some 27,none,.mv (.t 25)⟩,⟨some 9,none,.mv (.t 27)⟩])
 (.ops [⟨some 28,none,.mv (.t 8)⟩,⟨some 29,none,.mv (.t 9)⟩,⟨some 30,none,.mv (.t 1)⟩,⟨some 31,none,.mv (.t 9)⟩,⟨some 32,none,.mv (.t 6)⟩,⟨some 33,none,.build [(.int .i64 0),(.int .i64 0)] [(0,1,(.t 31)),(1,1,(.t 32))]⟩,⟨some 34,none,.mv (.t 8)⟩,⟨some 35,none,.mv (.t 9)⟩,⟨some 36,none,.iadr 1 (.t 34) (.t 35)⟩,⟨some 37,none,.load none (.t 36)⟩,⟨some 38,none,.callv (.t 30) [(.t 33),(.t 37)]⟩,⟨some 39,none,.iadr 1 (.t 28) (.t 29)⟩,⟨none,none,.store 1 (.t 39) (.t 38)⟩])))
 (.ops [⟨some 40,none,.bin 0 .add (.t 25) (.c (.int .i64 1))⟩,⟨some 25,none,.mv (.t 40)⟩])))))))
 (.ops [⟨some 41,none,.fadr 0 (.t 5)⟩,⟨some 42,none,.load none (.t 41)⟩,⟨some 43,none,.mv (.t 8)⟩,⟨some 44,none,.b2s (.t 43)⟩,⟨some 45,none,.bslice 9 1 1 [(.str [])] [(0,1,(.t 44))]⟩,⟨some 46,none,.app 9 1 16 (.t 42) (.t 45)⟩,⟨some 47,none,.fadr 0 (.t 5)⟩,⟨none,none,.store 1 (.t 47) (.t 46)⟩])))))
 (.ops [⟨some 48,none,.bin 0 .add (.t 16) (.c (.int .i64 1))⟩,⟨some 16,none,.mv (.t 48)⟩])))))))
 (.seq (.ops [⟨some 49,none,.load (some 2) (.t 5)⟩,⟨none,none,.store 2 (.t 4) (.t 49)⟩])
 (.ret))))⟩
theorem c55:compF Go.Proofs.Try.prog 55=some a55:=by kernel_rfl
def a56 : AFn := ⟨24,[.t 6],.seq (.ops [⟨some 4,none,.box 46 (.t 0)⟩,⟨some 6,none,.mv (.c (.int .u8 0))⟩])
 (.seq (.ops [⟨some 8,none,.load (some 2) (.t 2)⟩,⟨some 9,none,.load (some 2) (.t 4)⟩,⟨some 10,none,.call 44 [(.t 8),(.t 9)]⟩,⟨some 7,none,.mv (.t 10)⟩])
 (.seq (.block 0 (.seq (.ops [⟨some 12,none,.mv (.t 1)⟩,⟨some 13,none,.mv (.t 7)⟩,⟨some 14,none,.bin 0 .eql (.t 12) (.t 13)⟩,⟨some 15,none,.mv (.t 14)⟩,⟨some 16,(some (15,false)),.mv (.t 7)⟩,⟨some 17,(some (15,false)),.bin 0 .eql (.t 16) (.c (.int .u8 63))⟩,⟨some 18,none,.pick (.t 15) (.c (.bool true)) (.t 17)⟩,⟨some 11,none,.mv (.t 18)⟩])
 (.cond (.t 11) (.seq (.ops [⟨some 19,none,.mv (.t 1)⟩,⟨some 6,none,.mv (.t 19)⟩])
 (.ret)) (.seq (.ops [⟨some 21,none,.mv (.t 1)⟩,⟨some 22,none,.bin 0 .neq (.t 21) (.c (.int .u8 63))⟩,⟨some 20,none,.mv (.t 22)⟩])
 (.cond (.t 20) (.ops [⟨none,none,.store 1 (.t 3) (.c (.bool false))⟩]) (.skip))))))
 (.seq (.ops [⟨some 23,none,.mv (.t 7)⟩,⟨some 6,none,.mv (.t 23)⟩])
 (.ret))))⟩
theorem c56:compF Go.Proofs.Try.prog 56=some a56:=by kernel_rfl
def a59 : AFn := ⟨26,[.t 4],.seq (.ops [⟨some 4,none,.mv (.c (.bool false))⟩])
 (.seq (.seq (.ops [⟨some 6,none,.mv (.t 0)⟩,⟨some 7,none,.len false (.t 6)⟩,⟨some 8,none,.mv (.t 1)⟩,⟨some 9,none,.len false (.t 8)⟩,⟨some 10,none,.bin 0 .neq (.t 7) (.t 9)⟩])
 (.cond (.t 10) (.seq (.ops [⟨some 4,none,.mv (.c (.bool false))⟩])
 (.ret)) (.skip)))
 (.seq (.seq (.ops [⟨some 11,none,.mv (.t 0)⟩,⟨some 12,none,.len false (.t 11)⟩,⟨some 13,none,.mv (.c (.int .i64 0))⟩])
 (.block 0 (.loop (.seq (.ops [⟨some 14,none,.bin 0 .lss (.t 13) (.t 12)⟩])
 (.seq (.cond (.t 14) (.skip) (.exit 0))
 (.seq (.block 1 (.seq (.ops [⟨some 15,none,.mv (.t 13)⟩,⟨some 5,none,.mv (.t 15)⟩])
 (.seq (.any [(⟨some 16,none,.mv (.t 0)⟩,[]),(⟨some 17,none,.mv (.t 5)⟩,[0]),(⟨some 18,none,.iadr 1 (.t 16) (.t 17)⟩,[]),(⟨some 19,none,.load none (.t 18)⟩,[]),(⟨some 20,none,.mv (.t 1)⟩,[0,1,2,3]),(⟨some 21,none,.mv (.t 5)⟩,[0,1,2,3,4]),(⟨some 22,none,.iadr 1 (.t 20) (.t 21)⟩,[0,1,2,3]),(⟨some 23,none,.load none (.t 22)⟩,[0,1,2,3]),(⟨some 24,none,.bin 1 .neq (.t 19) (.t 23)⟩,[])])
 (.cond (.t 24) (.seq (.ops [⟨some 4,none,.mv (.c (.bool false))⟩])
 (.ret)) (.skip)))))
 (.ops [⟨some 25,none,.bin 0 .add (.t 13) (.c (.int .i64 1))⟩,⟨some 13,none,.mv (.t 25)⟩])))))))
 (.seq (.ops [⟨some 4,none,.mv (.c (.bool true))⟩])
 (.ret))))⟩
theorem c59:compF Go.Proofs.Try.prog 59=some a59:=by kernel_rfl
def a60 : AFn := ⟨27,[.c 2 (some 2),.t 3,.t 4],.seq (.ops [⟨some 1,none,.box 28 (.t 0)⟩,⟨some 2,none,.alloc 35 [(.int .i64 0),(.int .i64 0)]⟩,⟨some 3,none,.mv (.c (.bool false))⟩,⟨some 4,none,.mv (.c (.int .i64 0))⟩])
 (.seq (.seq (.ops [⟨some 8,none,.load (some 2) (.t 1)⟩,⟨some 9,none,.call 40 [(.t 8)]⟩,⟨some 5,none,.mv (.t 9)⟩])
 (.seq (.ops [⟨some 10,none,.mv (.t 5)⟩,⟨some 11,none,.bin 0 .neq (.t 10) (.c (.int .i64 0))⟩])
 (.cond (.t 11) (.seq (.ops [⟨some 12,none,.build [(.int .i64 0),(.int .i64 0)] []⟩,⟨some 13,none,.mv (.t 5)⟩,⟨none,none,.store 2 (.t 2) (.t 12)⟩,⟨some 3,none,.mv (.c (.bool false))⟩,⟨some 4,none,.mv (.t 13)⟩])
 (.ret)) (.skip))))
 (.seq (.any [(⟨some 15,none,.load (some 2) (.t 1)⟩,[]),(⟨some 16,none,.load (some 2) (.t 1)⟩,[0]),(⟨some 17,none,.call 43 [(.t 16)]⟩,[0]),(⟨some 18,none,.call 81 [(.t 15),(.t 17)]⟩,[]),(⟨some 14,none,.mv (.t 18)⟩,[]),(⟨some 19,none,.ext (.t 14) 0⟩,[]),(⟨some 20,none,.ext (.t 14) 1⟩,[5]),(⟨some 6,none,.mv (.t 19)⟩,[6]),(⟨some 7,none,.mv (.t 20)⟩,[])])
 (.seq (.seq (.ops [⟨some 21,none,.mv (.t 7)⟩,⟨some 22,none,.bin 0 .eql (.t 21) (.c (.int .i64 0))⟩])
 (.cond (.t 22) (.seq (.ops [⟨some 23,none,.build [(.int .i64 0),(.int .i64 0)] []⟩,⟨none,none,.store 2 (.t 2) (.t 23)⟩,⟨some 3,none,.mv (.c (.bool false))⟩,⟨some 4,none,.mv (.c (.int .i64 0))⟩])
 (.ret)) (.skip)))
 (.seq (.ops [⟨some 24,none,.mv (.t 6)⟩,⟨some 25,none,.mv (.t 7)⟩,⟨some 26,none,.call 82 [(.t 24),(.t 25)]⟩,⟨none,none,.store 2 (.t 2) (.t 26)⟩,⟨some 3,none,.mv (.c (.bool true))⟩,⟨some 4,none,.mv (.c (.int .i64 0))⟩])
 (.ret)))))⟩
theorem c60:compF Go.Proofs.Try.prog 60=some a60:=by kernel_rfl
def a64 : AFn := ⟨21,[.t 7],.seq (.ops [⟨some 5,none,.box 46 (.t 0)⟩,⟨some 7,none,.mv (.c (.int .u8 0))⟩])
 (.seq (.seq (.any [(⟨some 8,none,.load (some 2) (.t 2)⟩,[]),(⟨some 9,none,.mv (.t 1)⟩,[0]),(⟨some 10,none,.call 65 [(.t 8),(.t 9)]⟩,[]),(⟨some 11,none,.mv (.t 10)⟩,[]),(⟨some 12,(some (11,true)),.load (some 2) (.t 2)⟩,[]),(⟨some 13,(some (11,true)),.load (some 2) (.t 5)⟩,[4]),(⟨some 14,(some (11,true)),.call 66 [(.t 12),(.t 13)]⟩,[]),(⟨some 15,(some (11,true)),.load none (.t 3)⟩,[4,5,6]),(⟨some 16,(some (11,true)),.bin 0 .geq (.t 14) (.t 15)⟩,[]),(⟨some 17,none,.pick (.t 11) (.t 16) (.c (.bool false))⟩,[])])
 (.cond (.t 17) (.seq (.ops [⟨some 18,none,.load none (.t 4)⟩,⟨some 19,none,.bin 0 .add (.t 18) (.c (.int .i64 1))⟩,⟨none,none,.store 1 (.t 4) (.t 19)⟩])
 (.seq (.ops [⟨some 7,none,.mv (.c (.int .u8 42))⟩])
 (.ret))) (.skip)))
 (.seq (.ops [⟨some 20,none,.mv (.t 1)⟩,⟨some 7,none,.mv (.t 20)⟩])
 (.ret)))⟩
theorem c64:compF Go.Proofs.Try.prog 64=some a64:=by kernel_rfl
def a65 : AFn := ⟨14,[.t 4],.seq (.ops [⟨some 2,none,.box 28 (.t 0)⟩,⟨some 4,none,.mv (.c (.bool false))⟩])
 (.seq (.ops [⟨some 5,none,.mv (.t 1)⟩,⟨some 6,none,.call 77 [(.t 5)]⟩,⟨some 7,none,.mv (.t 6)⟩,⟨some 8,(some (7,true)),.fadr 1 (.t 2)⟩,⟨some 9,(some (7,true)),.load none (.t 8)⟩,⟨some 10,(some (7,true)),.mv (.t 1)⟩,⟨some 11,(some (7,true)),.call 75 [(.t 9),(.t 10)]⟩,⟨some 12,(some (7,true)),.bin 0 .geq (.t 11) (.c (.int .i64 0))⟩,⟨some 13,none,.pick (.t 7) (.t 12) (.c (.bool false))⟩,⟨some 4,none,.mv (.t 13)⟩])
 (.ret))⟩
theorem c65:compF Go.Proofs.Try.prog 65=some a65:=by kernel_rfl
def a66 : AFn := ⟨24,[.t 4],.seq (.ops [⟨some 2,none,.box 28 (.t 0)⟩,⟨some 3,none,.box 46 (.t 1)⟩,⟨some 4,none,.mv (.c (.int .i64 0))⟩])
 (.seq (.ops [⟨some 5,none,.mv (.c (.int .i64 0))⟩])
 (.seq (.seq (.ops [⟨some 8,none,.load (some 2) (.t 3)⟩,⟨some 9,none,.call 67 [(.t 8)]⟩,⟨some 10,none,.len false (.t 9)⟩,⟨some 11,none,.mv (.c (.int .i64 0))⟩])
 (.block 0 (.loop (.seq (.ops [⟨some 12,none,.bin 0 .lss (.t 11) (.t 10)⟩])
 (.seq (.cond (.t 12) (.skip) (.exit 0))
 (.seq (.block 1 (.seq (.ops [⟨some 13,none,.iadr 2 (.t 9) (.t 11)⟩,⟨some 14,none,.load (some 2) (.t 13)⟩,⟨some 7,none,.alloc 46 [(.int .i64 0),(.int .i64 0)]⟩,⟨none,none,.store 2 (.t 7) (.t 14)⟩])
 (.seq (.any [(⟨some 15,none,.load (some 2) (.t 2)⟩,[]),(⟨some 16,none,.load (some 2) (.t 2)⟩,[0]),(⟨some 17,none,.load (some 2) (.t 7)⟩,[0,1]),(⟨some 18,none,.call 44 [(.t 16),(.t 17)]⟩,[0]),(⟨some 19,none,.call 46 [(.t 15),(.t 18)]⟩,[])])
 (.cond (.t 19) (.ops [⟨some 20,none,.mv (.t 5)⟩,⟨some 21,none,.bin 0 .add (.t 20) (.c (.int .i64 1))⟩,⟨some 5,none,.mv (.t 21)⟩]) (.skip)))))
 (.ops [⟨some 22,none,.bin 0 .add (.t 11) (.c (.int .i64 1))⟩,⟨some 11,none,.mv (.t 22)⟩])))))))
 (.seq (.ops [⟨some 23,none,.mv (.t 5)⟩,⟨some 4,none,.mv (.t 23)⟩])
 (.ret))))⟩
theorem c66:compF Go.Proofs.Try.prog 66=some a66:=by kernel_rfl
def a67 : AFn := ⟨38,[.t 2],.seq (.ops [⟨some 1,none,.box 46 (.t 0)⟩,⟨some 2,none,.mv (.c (.lit true 0 []))⟩])
 (.seq (.ops [⟨some 3,none,.mv (.c (.lit true 0 []))⟩])
 (.seq (.seq (.ops [⟨some 7,none,.fadr 1 (.t 1)⟩,⟨some 8,none,.load none (.t 7)⟩,⟨some 9,none,.bin 0 .sub (.t 8) (.c (.int .i64 1))⟩,⟨some 4,none,.mv (.t 9)⟩])
 (.block 0 (.loop (.seq (.seq (.ops [⟨some 10,none,.mv (.t 4)⟩,⟨some 11,none,.fadr 1 (.t 1)⟩,⟨some 12,none,.load none (.t 11)⟩,⟨some 13,none,.bin 0 .add (.t 12) (.c (.int .i64 1))⟩,⟨some 14,none,.bin 0 .leq (.t 10) (.t 13)⟩])
 (.cond (.t 14) (.skip) (.exit 0)))
 (.seq (.block 1 (.seq (.ops [⟨some 17,none,.fadr 0 (.t 1)⟩,⟨some 18,none,.load none (.t 17)⟩,⟨some 19,none,.bin 0 .sub (.t 18) (.c (.int .i64 1))⟩,⟨some 5,none,.mv (.t 19)⟩])
 (.block 2 (.loop (.seq (.seq (.ops [⟨some 20,none,.mv (.t 5)⟩,⟨some 21,none,.fadr 0 (.t 1)⟩,⟨some 22,none,.load none (.t 21)⟩,⟨some 23,none,.bin 0 .add (.t 22) (.c (.int .i64 1))⟩,⟨some 24,none,.bin 0 .leq (.t 20) (.t 23)⟩])
 (.cond (.t 24) (.skip) (.exit 2)))
 (.seq (.block 3 (.seq (.ops [⟨some 27,none,.mv (.t 5)⟩,⟨some 28,none,.mv (.t 4)⟩,⟨some 29,none,.build [(.int .i64 0),(.int .i64 0)] [(0,1,(.t 27)),(1,1,(.t 28))]⟩,⟨some 6,none,.alloc 46 [(.int .i64 0),(.int .i64 0)]⟩,⟨none,none,.store 2 (.t 6) (.t 29)⟩])
 (.seq (.ops [⟨some 30,none,.load (some 2) (.t 6)⟩,⟨some 31,none,.load (some 2) (.t 1)⟩,⟨some 32,none,.eqs true [0,0] (.t 30) (.t 31)⟩])
 (.cond (.t 32) (.ops [⟨some 33,none,.mv (.t 3)⟩,⟨some 34,none,.load (some 2) (.t 6)⟩,⟨some 35,none,.bslice 46 2 1 [(.int .i64 0),(.int .i64 0)] [(0,2,(.t 34))]⟩,⟨some 36,none,.app 46 2 16 (.t 33) (.t 35)⟩,⟨some 3,none,.mv (.t 36)⟩]) (.skip)))))
 (.ops [⟨some 25,none,.mv (.t 5)⟩,⟨some 26,none,.bin 0 .add (.t 25) (.c (.int .i64 1))⟩,⟨some 5,none,.mv (.t 26)⟩])))))))
 (.ops [⟨some 15,none,.mv (.t 4)⟩,⟨some 16,none,.bin 0 .add (.t 15) (.c (.int .i64 1))⟩,⟨some 4,none,.mv (.t 16)⟩]))))))
 (.seq (.ops [⟨some 37,none,.mv (.t 3)⟩,⟨some 2,none,.mv (.t 37)⟩])
 (.ret))))⟩
theorem c67:compF Go.Proofs.Try.prog 67=some a67:=by kernel_rfl
def a70 : AFn := ⟨130,[],.seq (.seq (.any [(⟨some 6,none,.mv (.t 0)⟩,[]),(⟨some 7,none,.nilchk (.t 6)⟩,[]),(⟨some 8,none,.fadr 3 (.t 7)⟩,[]),(⟨some 9,none,.load none (.t 8)⟩,[]),(⟨some 10,none,.bin 3 .neq (.t 9) (.c (.lit true 0 []))⟩,[]),(⟨some 11,none,.mv (.t 10)⟩,[]),(⟨some 12,(some (11,true)),.mv (.t 0)⟩,[]),(⟨some 13,(some (11,true)),.nilchk (.t 12)⟩,[]),(⟨some 14,(some (11,true)),.fadr 2 (.t 13)⟩,[]),(⟨some 15,(some (11,true)),.load none (.t 14)⟩,[]),(⟨some 16,(some (11,true)),.mv (.t 0)⟩,[6,7,8,9]),(⟨some 17,(some (11,true)),.nilchk (.t 16)⟩,[6,7,8,9]),(⟨some 18,(some (11,true)),.fadr 4 (.t 17)⟩,[6,7,8,9]),(⟨some 19,(some (11,true)),.load none (.t 18)⟩,[6,7,8,9]),(⟨some 20,(some (11,true)),.bin 0 .geq (.t 15) (.t 19)⟩,[]),(⟨some 21,none,.pick (.t 11) (.t 20) (.c (.bool false))⟩,[])])
 (.cond (.t 21) (.ret) (.skip)))
 (.seq (.seq (.any [(⟨some 22,none,.mv (.t 0)⟩,[]),(⟨some 23,none,.nilchk (.t 22)⟩,[]),(⟨some 24,none,.fadr 1 (.t 23)⟩,[]),(⟨some 25,none,.load none (.t 24)⟩,[]),(⟨some 26,none,.len false (.t 25)⟩,[]),(⟨some 27,none,.mv (.t 0)⟩,[0,1,2,3,4]),(⟨some 28,none,.nilchk (.t 27)⟩,[0,1,2,3,4]),(⟨some 29,none,.fadr 0 (.t 28)⟩,[0,1,2,3,4]),(⟨some 30,none,.load none (.t 29)⟩,[0,1,2,3,4]),(⟨some 31,none,.len false (.t 30)⟩,[0,1,2,3,4]),(⟨some 32,none,.bin 0 .eql (.t 26) (.t 31)⟩,[])])
 (.cond (.t 32) (.seq (.any [(⟨some 33,none,.mv (.t 0)⟩,[]),(⟨some 34,none,.mv (.t 0)⟩,[0]),(⟨some 35,none,.mv (.t 0)⟩,[0,1]),(⟨some 36,none,.nilchk (.t 35)⟩,[0,1]),(⟨some 37,none,.fadr 1 (.t 36)⟩,[0,1]),(⟨some 38,none,.load none (.t 37)⟩,[0,1]),(⟨some 39,none,.call 87 [(.t 38)]⟩,[0,1]),(⟨some 40,none,.mv (.t 0)⟩,[0,1,2,3,4,5,6]),(⟨some 41,none,.nilchk (.t 40)⟩,[0,1,2,3,4,5,6]),(⟨some 42,none,.fadr 2 (.t 41)⟩,[0,1,2,3,4,5,6]),(⟨some 43,none,.load none (.t 42)⟩,[0,1,2,3,4,5,6]),(⟨some 44,none,.nilchk (.t 33)⟩,[1]),(⟨some 45,none,.fadr 3 (.t 44)⟩,[1]),(⟨none,none,.store 1 (.t 45) (.t 39)⟩,[1]),(⟨some 46,none,.nilchk (.t 34)⟩,[]),(⟨some 47,none,.fadr 4 (.t 46)⟩,[]),(⟨none,none,.store 1 (.t 47) (.t 43)⟩,[])])
 (.ret)) (.skip)))
 (.seq (.any [(⟨some 48,none,.mv (.t 0)⟩,[]),(⟨some 49,none,.nilchk (.t 48)⟩,[]),(⟨some 50,none,.fadr 1 (.t 49)⟩,[]),(⟨some 51,none,.load none (.t 50)⟩,[]),(⟨some 52,none,.mv (.t 0)⟩,[0,1,2,3]),(⟨some 53,none,.nilchk (.t 52)⟩,[0,1,2,3]),(⟨some 54,none,.fadr 1 (.t 53)⟩,[0,1,2,3]),(⟨some 55,none,.load none (.t 54)⟩,[0,1,2,3]),(⟨some 56,none,.len false (.t 55)⟩,[0,1,2,3]),(⟨some 57,none,.bin 0 .sub (.t 56) (.c (.int .i64 1))⟩,[0,1,2,3]),(⟨some 58,none,.iadr 1 (.t 51) (.t 57)⟩,[]),(⟨some 59,none,.load none (.t 58)⟩,[]),(⟨some 2,none,.mv (.t 59)⟩,[])])
 (.seq (.ops [⟨some 60,none,.mv (.t 0)⟩,⟨some 61,none,.nilchk (.t 60)⟩,⟨some 62,none,.fadr 0 (.t 61)⟩,⟨some 63,none,.load none (.t 62)⟩,⟨some 64,none,.len false (.t 63)⟩,⟨some 65,none,.mv (.c (.int .i64 0))⟩])
 (.block 0 (.loop (.seq (.ops [⟨some 66,none,.bin 0 .lss (.t 65) (.t 64)⟩])
 (.seq (.cond (.t 66) (.skip) (.exit 0))
 (.seq (.block 1 (.seq (.ops [⟨some 67,none,.mv (.t 65)⟩,⟨some 68,none,.iadr 2 (.t 63) (.t 65)⟩,⟨some 69,none,.load (some 2) (.t 68)⟩,⟨some 4,none,.alloc 46 [(.int .i64 0),(.int .i64 0)]⟩,⟨some 3,none,.mv (.t 67)⟩,⟨none,none,.store 2 (.t 4) (.t 69)⟩])
 (.seq (.seq (.ops [⟨some 70,none,.mv (.t 0)⟩,⟨some 71,none,.nilchk (.t 70)⟩,⟨some 72,none,.fadr 1 (.t 71)⟩,⟨some 73,none,.load none (.t 72)⟩,⟨some 74,none,.mv (.t 3)⟩,⟨some 75,none,.call 88 [(.t 73),(.t 74)]⟩])
 (.cond (.t 75) (.exit 1) (.skip)))
 (.seq (.any [(⟨some 76,none,.mv (.t 0)⟩,[]),(⟨some 77,none,.nilchk (.t 76)⟩,[]),(⟨some 78,none,.fadr 0 (.t 77)⟩,[]),(⟨some 79,none,.load none (.t 78)⟩,[]),(⟨some 80,none,.mv (.t 2)⟩,[0,1,2,3]),(⟨some 81,none,.iadr 2 (.t 79) (.t 80)⟩,[]),(⟨some 82,none,.load (some 2) (.t 81)⟩,[]),(⟨some 83,none,.load (some 2) (.t 4)⟩,[0,1,2,3,4,5,6]),(⟨some 84,none,.call 89 [(.t 82),(.t 83)]⟩,[]),(⟨some 5,none,.mv (.t 84)⟩,[])])
 (.seq (.any [(⟨some 85,none,.mv (.t 0)⟩,[]),(⟨some 86,none,.mv (.t 0)⟩,[0]),(⟨some 87,none,.mv (.t 0)⟩,[0,1]),(⟨some 88,none,.nilchk (.t 87)⟩,[0,1]),(⟨some 89,none,.fadr 1 (.t 88)⟩,[0,1]),(⟨some 90,none,.load none (.t 89)⟩,[0,1]),(⟨some 91,none,.mv (.t 3)⟩,[0,1,2,3,4,5]),(⟨some 92,none,.bslice 3 1 1 [(.int .i64 0)] [(0,1,(.t 91))]⟩,[0,1,2,3,4,5]),(⟨some 93,none,.app 3 1 8 (.t 90) (.t 92)⟩,[0,1]),(⟨some 94,none,.mv (.t 0)⟩,[0,1,2,3,4,5,6,7,8]),(⟨some 95,none,.nilchk (.t 94)⟩,[0,1,2,3,4,5,6,7,8]),(⟨some 96,none,.fadr 2 (.t 95)⟩,[0,1,2,3,4,5,6,7,8]),(⟨some 97,none,.load none (.t 96)⟩,[0,1,2,3,4,5,6,7,8]),(⟨some 98,none,.mv (.t 5)⟩,[0,1,2,3,4,5,6,7,8,9,10,11,12]),(⟨some 99,none,.bin 0 .add (.t 97) (.t 98)⟩,[0,1,2,3,4,5,6,7,8]),(⟨some 100,none,.nilchk (.t 85)⟩,[1,13,14]),(⟨some 101,none,.fadr 1 (.t 100)⟩,[1,13,14]),(⟨none,none,.store 1 (.t 101) (.t 93)⟩,[1,13,14]),(⟨some 102,none,.nilchk (.t 86)⟩,[]),(⟨some 103,none,.fadr 2 (.t 102)⟩,[]),(⟨none,none,.store 1 (.t 103) (.t 99)⟩,[])])
 (.seq (.ops [⟨some 104,none,.mv (.t 0)⟩,⟨some 105,none,.call 70 [(.t 104)]⟩])
 (.any [(⟨some 106,none,.mv (.t 0)⟩,[]),(⟨some 107,none,.mv (.t 0)⟩,[0]),(⟨some 108,none,.mv (.t 0)⟩,[0,1]),(⟨some 109,none,.nilchk (.t 108)⟩,[0,1]),(⟨some 110,none,.fadr 1 (.t 109)⟩,[0,1]),(⟨some 111,none,.load none (.t 110)⟩,[0,1]),(⟨some 112,none,.mv (.t 0)⟩,[0,1,2,3,4,5]),(⟨some 113,none,.nilchk (.t 112)⟩,[0,1,2,3,4,5]),(⟨some 114,none,.fadr 1 (.t 113)⟩,[0,1,2,3,4,5]),(⟨some 115,none,.load none (.t 114)⟩,[0,1,2,3,4,5]),(⟨some 116,none,.len false (.t 115)⟩,[0,1,2,3,4,5]),(⟨some 117,none,.bin 0 .sub (.t 116) (.c (.int .i64 1))⟩,[0,1,2,3,4,5]),(⟨some 118,none,.slc 1 (.t 111) none (some (.t 117))⟩,[0,1]),(⟨some 119,none,.mv (.t 0)⟩,[0,1,2,3,4,5,6,7,8,9,10,11,12]),(⟨some 120,none,.nilchk (.t 119)⟩,[0,1,2,3,4,5,6,7,8,9,10,11,12]),(⟨some 121,none,.fadr 2 (.t 120)⟩,[0,1,2,3,4,5,6,7,8,9,10,11,12]),(⟨some 122,none,.load none (.t 121)⟩,[0,1,2,3,4,5,6,7,8,9,10,11,12]),(⟨some 123,none,.mv (.t 5)⟩,[0,1,2,3,4,5,6,7,8,9,10,11,12,13,14,15,16]),(⟨some 124,none,.bin 0 .sub (.t 122) (.t 123)⟩,[0,1,2,3,4,5,6,7,8,9,10,11,12]),(⟨some 125,none,.nilchk (.t 106)⟩,[1,17,18]),(⟨some 126,none,.fadr 1 (.t 125)⟩,[1,17,18]),(⟨none,none,.store 1 (.t 126) (.t 118)⟩,[1,17,18]),(⟨some 127,none,.nilchk (.t 107)⟩,[]),(⟨some 128,none,.fadr 2 (.t 127)⟩,[]),(⟨none,none,.store 1 (.t 128) (.t 124)⟩,[])])))))))
 (.ops [⟨some 129,none,.bin 0 .add (.t 65) (.c (.int .i64 1))⟩,⟨some 65,none,.mv (.t 129)⟩])))))))))⟩
theorem c70:compF Go.Proofs.Try.prog 70=some a70:=by kernel_rfl
def a71 : AFn := ⟨17,[.t 4,.t 5],.seq (.ops [⟨some 4,none,.mv (.c (.str []))⟩,⟨some 5,none,.mv (.c (.int .i64 0))⟩])
 (.seq (.seq (.ops [⟨some 6,none,.mv (.t 0)⟩,⟨some 7,none,.call 90 [(.t 6)]⟩,⟨some 8,none,.un .not (.t 7)⟩,⟨some 9,none,.mv (.t 8)⟩,⟨some 10,(some (9,false)),.mv (.t 1)⟩,⟨some 11,(some (9,false)),.call 90 [(.t 10)]⟩,⟨some 12,(some (9,false)),.un .not (.t 11)⟩,⟨some 13,none,.pick (.t 9) (.c (.bool true)) (.t 12)⟩])
 (.cond (.t 13) (.seq (.ops [⟨some 4,none,.mv (.c (.str []))⟩,⟨some 5,none,.mv (.c (.int .i64 1))⟩])
 (.ret)) (.skip)))
 (.seq (.ops [⟨some 14,none,.mv (.t 0)⟩,⟨some 15,none,.mv (.t 1)⟩,⟨some 16,none,.call 91 [(.t 14),(.t 15)]⟩,⟨some 4,none,.mv (.t 16)⟩,⟨some 5,none,.mv (.c (.int .i64 0))⟩])
 (.ret)))⟩
theorem c71:compF Go.Proofs.Try.prog 71=some a71:=by kernel_rfl
def a72 : AFn := ⟨30,[.t 2,.t 3],.seq (.ops [⟨some 1,none,.box 3 (.t 0)⟩,⟨some 2,none,.mv (.c (.lit true 0 []))⟩,⟨some 3,none,.mv (.c (.int .i64 0))⟩])
 (.seq (.seq (.ops [⟨some 8,none,.load none (.t 1)⟩,⟨some 9,none,.call 92 [(.t 8)]⟩,⟨some 4,none,.mv (.t 9)⟩])
 (.seq (.ops [⟨some 10,none,.mv (.t 4)⟩,⟨some 11,none,.bin 0 .neq (.t 10) (.c (.int .i64 0))⟩])
 (.cond (.t 11) (.seq (.ops [⟨some 12,none,.mv (.t 4)⟩,⟨some 2,none,.mv (.c (.lit true 0 []))⟩,⟨some 3,none,.mv (.t 12)⟩])
 (.ret)) (.skip))))
 (.seq (.ops [⟨some 13,none,.mkfn 94 [(.t 1)]⟩,⟨some 14,none,.call 93 [(.c (.int .i64 0)),(.t 13)]⟩,⟨some 5,none,.mv (.t 14)⟩])
 (.seq (.ops [⟨some 6,none,.mv (.c (.lit true 0 []))⟩])
 (.seq (.seq (.ops [⟨some 15,none,.load none (.t 1)⟩,⟨some 16,none,.mv (.c (.int .i64 0))⟩])
 (.block 0 (.loop (.seq (.ops [⟨some 17,none,.bin 0 .lss (.t 16) (.t 15)⟩])
 (.seq (.cond (.t 17) (.skip) (.exit 0))
 (.seq (.block 1 (.seq (.ops [⟨some 18,none,.mv (.t 16)⟩,⟨some 7,none,.mv (.t 18)⟩])
 (.ops [⟨some 19,none,.mv (.t 6)⟩,⟨some 20,none,.mv (.t 7)⟩,⟨some 21,none,.bin 0 .add (.t 20) (.c (.int .i64 1))⟩,⟨some 22,none,.mv (.t 5)⟩,⟨some 23,none,.call 95 [(.t 21),(.t 22)]⟩,⟨some 24,none,.bslice 9 1 1 [(.str [])] [(0,1,(.t 23))]⟩,⟨some 25,none,.app 9 1 16 (.t 19) (.t 24)⟩,⟨some 6,none,.mv (.t 25)⟩])))
 (.ops [⟨some 26,none,.bin 0 .add (.t 16) (.c (.int .i64 1))⟩,⟨some 16,none,.mv (.t 26)⟩])))))))
 (.seq (.ops [⟨some 27,none,.mv (.t 6)⟩,⟨some 28,none,.mv (.t 5)⟩,⟨some 29,none,.call 96 [(.t 27),(.t 28)]⟩,⟨some 2,none,.mv (.t 29)⟩,⟨some 3,none,.mv (.c (.int .i64 0))⟩])
 (.ret))))))⟩
theorem c72:compF Go.Proofs.Try.prog 72=some a72:=by kernel_rfl
def a73 : AFn := ⟨16,[.t 4],.seq (.ops [⟨some 4,none,.mv (.c (.int .i64 0))⟩])
 (.seq (.seq (.ops [⟨some 5,none,.mv (.t 1)⟩,⟨some 6,none,.bin 0 .lss (.t 5) (.c (.int .i64 1))⟩])
 (.cond (.t 6) (.seq (.ops [⟨some 4,none,.mv (.c (.int .i64 0))⟩])
 (.ret)) (.skip)))
 (.seq (.ops [⟨some 7,none,.mv (.t 0)⟩,⟨some 8,none,.mv (.t 1)⟩,⟨some 9,none,.bin 0 .rem (.t 7) (.t 8)⟩,⟨some 0,none,.mv (.t 9)⟩])
 (.seq (.seq (.ops [⟨some 10,none,.mv (.t 0)⟩,⟨some 11,none,.bin 0 .lss (.t 10) (.c (.int .i64 0))⟩])
 (.cond (.t 11) (.ops [⟨some 12,none,.mv (.t 0)⟩,⟨some 13,none,.mv (.t 1)⟩,⟨some 14,none,.bin 0 .add (.t 12) (.t 13)⟩,⟨some 0,none,.mv (.t 14)⟩]) (.skip)))
 (.seq (.ops [⟨some 15,none,.mv (.t 0)⟩,⟨some 4,none,.mv (.t 15)⟩])
 (.ret)))))⟩
theorem c73:compF Go.Proofs.Try.prog 73=some a73:=by kernel_rfl
def a74 : AFn := ⟨19,[.t 4],.seq (.ops [⟨some 4,none,.mv (.c (.int .i64 0))⟩])
 (.seq (.seq (.ops [⟨some 6,none,.mv (.t 0)⟩,⟨some 7,none,.len false (.t 6)⟩,⟨some 8,none,.mv (.c (.int .i64 0))⟩])
 (.block 0 (.loop (.seq (.ops [⟨some 9,none,.bin 0 .lss (.t 8) (.t 7)⟩])
 (.seq (.cond (.t 9) (.skip) (.exit 0))
 (.seq (.block 1 (.seq (.ops [⟨some 10,none,.mv (.t 8)⟩,⟨some 5,none,.mv (.t 10)⟩])
 (.seq (.ops [⟨some 11,none,.mv (.t 1)⟩,⟨some 12,none,.mv (.t 0)⟩,⟨some 13,none,.mv (.t 5)⟩,⟨some 14,none,.iadr 1 (.t 12) (.t 13)⟩,⟨some 15,none,.load none (.t 14)⟩,⟨some 16,none,.callv (.t 11) [(.t 15)]⟩])
 (.cond (.t 16) (.seq (.ops [⟨some 17,none,.mv (.t 5)⟩,⟨some 4,none,.mv (.t 17)⟩])
 (.ret)) (.skip)))))
 (.ops [⟨some 18,none,.bin 0 .add (.t 8) (.c (.int .i64 1))⟩,⟨some 8,none,.mv (.t 18)⟩])))))))
 (.seq (.ops [⟨some 4,none,.mv (.c (.int .i64 (-1)))⟩])
 (.ret)))⟩
theorem c74:compF Go.Proofs.Try.prog 74=some a74:=by kernel_rfl
def a75 : AFn := ⟨8,[.t 4],.seq (.ops [⟨some 4,none,.mv (.c (.int .i64 0))⟩])
 (.seq (.ops [⟨some 5,none,.mv (.t 0)⟩,⟨some 6,none,.mv (.t 1)⟩,⟨some 7,none,.call 97 [(.t 5),(.t 6)]⟩,⟨some 4,none,.mv (.t 7)⟩])
 (.ret))⟩
theorem c75:compF Go.Proofs.Try.prog 75=some a75:=by kernel_rfl
def a76 : AFn := ⟨6,[.t 2],.seq (.ops [⟨some 2,none,.mv (.c (.bool false))⟩])
 (.seq (.ops [⟨some 3,none,.mv (.t 0)⟩,⟨some 4,none,.s2b (.t 3)⟩,⟨some 5,none,.call 36 [(.t 4),(.c (.fn 98 []))]⟩,⟨some 2,none,.mv (.t 5)⟩])
 (.ret))⟩
theorem c76:compF Go.Proofs.Try.prog 76=some a76:=by kernel_rfl
def a77 : AFn := ⟨17,[.t 2],.seq (.ops [⟨some 2,none,.mv (.c (.bool false))⟩])
 (.seq (.ops [⟨some 3,none,.mv (.t 0)⟩,⟨some 4,none,.bin 0 .geq (.t 3) (.c (.int .u8 48))⟩,⟨some 5,none,.mv (.t 4)⟩,⟨some 6,(some (5,true)),.mv (.t 0)⟩,⟨some 7,(some (5,true)),.bin 0 .leq (.t 6) (.c (.int .u8 57))⟩,⟨some 8,none,.pick (.t 5) (.t 7) (.c (.bool false))⟩,⟨some 9,none,.mv (.t 8)⟩,⟨some 10,(some (9,false)),.mv (.t 0)⟩,⟨some 11,(some (9,false)),.bin 0 .geq (.t 10) (.c (.int .u8 97))⟩,⟨some 12,(some (9,false)),.mv (.t 11)⟩,⟨some 13,(some (12,true)),.mv (.t 0)⟩,⟨some 14,(some (12,true)),.bin 0 .leq (.t 13) (.c (.int .u8 122))⟩,⟨some 15,(some (9,false)),.pick (.t 12) (.t 14) (.c (.bool false))⟩,⟨some 16,none,.pick (.t 9) (.c (.bool true)) (.t 15)⟩,⟨some 2,none,.mv (.t 16)⟩])
 (.ret))⟩
theorem c77:compF Go.Proofs.Try.prog 77=some a77:=by kernel_rfl
def a79 : AFn := ⟨15,[.t 2],.seq (.ops [⟨some 2,none,.mv (.c (.int .i64 0))⟩])
 (.seq (.seq (.ops [⟨some 5,none,.mv (.t 0)⟩,⟨some 6,none,.len false (.t 5)⟩,⟨some 7,none,.mv (.c (.int .i64 0))⟩])
 (.block 0 (.loop (.seq (.ops [⟨some 8,none,.bin 0 .lss (.t 7) (.t 6)⟩])
 (.seq (.cond (.t 8) (.skip) (.exit 0))
 (.seq (.block 1 (.seq (.ops [⟨some 9,none,.iadr 1 (.t 5) (.t 7)⟩,⟨some 10,none,.load none (.t 9)⟩,⟨some 4,none,.mv (.t 10)⟩])
 (.seq (.ops [⟨some 11,none,.mv (.t 4)⟩,⟨some 12,none,.bin 0 .neq (.t 11) (.c (.int .i64 0))⟩])
 (.cond (.t 12) (.seq (.ops [⟨some 13,none,.mv (.t 4)⟩,⟨some 2,none,.mv (.t 13)⟩])
 (.ret)) (.skip)))))
 (.ops [⟨some 14,none,.bin 0 .add (.t 7) (.c (.int .i64 1))⟩,⟨some 7,none,.mv (.t 14)⟩])))))))
 (.seq (.ops [⟨some 2,none,.mv (.c (.int .i64 0))⟩])
 (.ret)))⟩
theorem c79:compF Go.Proofs.Try.prog 79=some a79:=by kernel_rfl
def a81 : AFn := ⟨30,[.t 4,.t 5],.seq (.ops [⟨some 2,none,.box 28 (.t 0)⟩,⟨some 4,none,.mv (.c (.int .i64 0))⟩,⟨some 5,none,.mv (.c (.int .i64 0))⟩])
 (.seq (.seq (.ops [⟨some 9,none,.mv (.t 1)⟩,⟨some 10,none,.len false (.t 9)⟩,⟨some 11,none,.mv (.c (.int .i64 0))⟩])
 (.block 0 (.loop (.seq (.ops [⟨some 12,none,.bin 0 .lss (.t 11) (.t 10)⟩])
 (.seq (.cond (.t 12) (.skip) (.exit 0))
 (.seq (.block 1 (.seq (.ops [⟨some 13,none,.iadr 2 (.t 9) (.t 11)⟩,⟨some 14,none,.load (some 2) (.t 13)⟩,⟨some 7,none,.alloc 46 [(.int .i64 0),(.int .i64 0)]⟩,⟨none,none,.store 2 (.t 7) (.t 14)⟩])
 (.seq (.ops [⟨some 15,none,.load (some 2) (.t 2)⟩,⟨some 16,none,.load (some 2) (.t 7)⟩,⟨some 17,none,.call 44 [(.t 15),(.t 16)]⟩,⟨some 8,none,.mv (.t 17)⟩])
 (.seq (.seq (.ops [⟨some 18,none,.mv (.t 8)⟩,⟨some 19,none,.call 45 [(.t 18)]⟩])
 (.cond (.t 19) (.ops [⟨some 20,none,.mv (.t 5)⟩,⟨some 21,none,.bin 0 .add (.t 20) (.c (.int .i64 1))⟩,⟨some 5,none,.mv (.t 21)⟩]) (.skip)))
 (.seq (.ops [⟨some 22,none,.load (some 2) (.t 2)⟩,⟨some 23,none,.mv (.t 8)⟩,⟨some 24,none,.call 65 [(.t 22),(.t 23)]⟩])
 (.cond (.t 24) (.ops [⟨some 25,none,.mv (.t 4)⟩,⟨some 26,none,.bin 0 .add (.t 25) (.c (.int .i64 1))⟩,⟨some 4,none,.mv (.t 26)⟩]) (.skip)))))))
 (.ops [⟨some 27,none,.bin 0 .add (.t 11) (.c (.int .i64 1))⟩,⟨some 11,none,.mv (.t 27)⟩])))))))
 (.seq (.ops [⟨some 28,none,.mv (.t 4)⟩,⟨some 29,none,.mv (.t 5)⟩,⟨some 4,none,.mv (.t 28)⟩,⟨some 5,none,.mv (.t 29)⟩])
 (.ret)))⟩
theorem c81:compF Go.Proofs.Try.prog 81=some a81:=by kernel_rfl
def a82 : AFn := ⟨19,[.c 4 (some 2)],.seq (.ops [⟨some 4,none,.alloc 35 [(.int .i64 0),(.int .i64 0)]⟩])
 (.seq (.ops [⟨some 6,none,.mv (.t 0)⟩,⟨some 7,none,.mv (.t 0)⟩,⟨some 8,none,.un .neg (.t 7)⟩,⟨some 9,none,.mm true (.t 6) [(.t 8)]⟩,⟨some 10,none,.mv (.t 1)⟩,⟨some 11,none,.call 100 [(.t 9),(.t 10)]⟩,⟨some 5,none,.mv (.t 11)⟩])
 (.seq (.any [(⟨some 12,none,.mv (.t 0)⟩,[]),(⟨some 13,none,.mv (.t 5)⟩,[0]),(⟨some 14,none,.bin 0 .quo (.t 12) (.t 13)⟩,[]),(⟨some 15,none,.mv (.t 1)⟩,[0,1,2]),(⟨some 16,none,.mv (.t 5)⟩,[0,1,2,3]),(⟨some 17,none,.bin 0 .quo (.t 15) (.t 16)⟩,[0,1,2]),(⟨some 18,none,.build [(.int .i64 0),(.int .i64 0)] [(0,1,(.t 14)),(1,1,(.t 17))]⟩,[]),(⟨none,none,.store 2 (.t 4) (.t 18)⟩,[])])
 (.ret)))⟩
theorem c82:compF Go.Proofs.Try.prog 82=some a82:=by kernel_rfl
def a87 : AFn := ⟨8,[.t 2],.seq (.ops [⟨some 2,none,.mv (.c (.lit true 0 []))⟩])
 (.seq (.seq (.ops [⟨some 3,none,.mv (.t 0)⟩,⟨some 4,none,.bin 3 .eql (.t 3) (.c (.lit true 0 []))⟩])
 (.cond (.t 4) (.seq (.ops [⟨some 2,none,.mv (.c (.lit true 0 []))⟩])
 (.ret)) (.skip)))
 (.seq (.ops [⟨some 5,none,.bslice 3 1 0 [(.int .i64 0)] []⟩,⟨some 6,none,.mv (.t 0)⟩,⟨some 7,none,.app 3 1 8 (.t 5) (.t 6)⟩,⟨some 2,none,.mv (.t 7)⟩])
 (.ret)))⟩
theorem c87:compF Go.Proofs.Try.prog 87=some a87:=by kernel_rfl
def a88 : AFn := ⟨9,[.t 4],.seq (.ops [⟨some 4,none,.mv (.c (.bool false))⟩])
 (.seq (.ops [⟨some 5,none,.mv (.t 0)⟩,⟨some 6,none,.mv (.t 1)⟩,⟨some 7,none,.call 112 [(.t 5),(.t 6)]⟩,⟨some 8,none,.bin 0 .geq (.t 7) (.c (.int .i64 0))⟩,⟨some 4,none,.mv (.t 8)⟩])
 (.ret))⟩
theorem c88:compF Go.Proofs.Try.prog 88=some a88:=by kernel_rfl
def a89 : AFn := ⟨26,[.t 4],.seq (.ops [⟨some 2,none,.box 46 (.t 0)⟩,⟨some 3,none,.box 46 (.t 1)⟩,⟨some 4,none,.mv (.c (.int .i64 0))⟩])
 (.seq (.ops [⟨some 5,none,.fadr 0 (.t 2)⟩,⟨some 6,none,.load none (.t 5)⟩,⟨some 7,none,.fadr 0 (.t 3)⟩,⟨some 8,none,.load none (.t 7)⟩,⟨some 9,none,.bin 0 .sub (.t 6) (.t 8)⟩,⟨some 10,none,.fadr 0 (.t 3)⟩,⟨some 11,none,.load none (.t 10)⟩,⟨some 12,none,.fadr 0 (.t 2)⟩,⟨some 13,none,.load none (.t 12)⟩,⟨some 14,none,.bin 0 .sub (.t 11) (.t 13)⟩,⟨some 15,none,.fadr 1 (.t 2)⟩,⟨some 16,none,.load none (.t 15)⟩,⟨some 17,none,.fadr 1 (.t 3)⟩,⟨some 18,none,.load none (.t 17)⟩,⟨some 19,none,.bin 0 .sub (.t 16) (.t 18)⟩,⟨some 20,none,.fadr 1 (.t 3)⟩,⟨some 21,none,.load none (.t 20)⟩,⟨some 22,none,.fadr 1 (.t 2)⟩,⟨some 23,none,.load none (.t 22)⟩,⟨some 24,none,.bin 0 .sub (.t 21) (.t 23)⟩,⟨some 25,none,.mm true (.t 9) [(.t 14),(.t 19),(.t 24)]⟩,⟨some 4,none,.mv (.t 25)⟩])
 (.ret))⟩
theorem c89:compF Go.Proofs.Try.prog 89=some a89:=by kernel_rfl
def a90 : AFn := ⟨6,[.t 2],.seq (.ops [⟨some 2,none,.mv (.c (.bool false))⟩])
 (.seq (.ops [⟨some 3,none,.mv (.t 0)⟩,⟨some 4,none,.call 41 [(.t 3),(.c (.int .i64 0)),(.c (.int .i64 15))]⟩,⟨some 5,none,.un .not (.t 4)⟩,⟨some 2,none,.mv (.t 5)⟩])
 (.ret))⟩
theorem c90:compF Go.Proofs.Try.prog 90=some a90:=by kernel_rfl
def a91 : AFn := ⟨57,[.t 4],.seq (.ops [⟨some 4,none,.mv (.c (.str []))⟩])
 (.seq (.ops [⟨some 12,none,.mmk (.i .i64) (.str [])⟩,⟨some 13,none,.mv (.t 0)⟩,⟨none,none,.mup (.i .i64) (.t 12) (.t 13) (.c (.str []))⟩,⟨some 14,none,.mv (.t 12)⟩,⟨some 5,none,.mv (.t 14)⟩])
 (.seq (.ops [⟨some 15,none,.mv (.t 0)⟩,⟨some 16,none,.bslice 3 1 1 [(.int .i64 0)] [(0,1,(.t 15))]⟩,⟨some 6,none,.mv (.t 16)⟩])
 (.seq (.block 0 (.loop (.seq (.seq (.ops [⟨some 17,none,.mv (.t 6)⟩,⟨some 18,none,.len false (.t 17)⟩,⟨some 19,none,.bin 0 .gtr (.t 18) (.c (.int .i64 0))⟩])
 (.cond (.t 19) (.skip) (.exit 0)))
 (.block 1 (.seq (.ops [⟨some 20,none,.mv (.t 6)⟩,⟨some 21,none,.iadr 1 (.t 20) (.c (.int .i64 0))⟩,⟨some 22,none,.load none (.t 21)⟩,⟨some 7,none,.mv (.t 22)⟩])
 (.seq (.ops [⟨some 23,none,.mv (.t 6)⟩,⟨some 24,none,.slc 1 (.t 23) (some (.c (.int .i64 1))) none⟩,⟨some 6,none,.mv (.t 24)⟩])
 (.seq (.ops [⟨some 25,none,.mv (.c (.int .i64 0))⟩])
 (.block 2 (.loop (.seq (.ops [⟨some 26,none,.bin 0 .lss (.t 25) (.c (.int .i64 2))⟩])
 (.seq (.cond (.t 26) (.skip) (.exit 2))
 (.seq (.block 3 (.seq (.ops [⟨some 27,none,.mv (.t 25)⟩,⟨some 8,none,.mv (.t 27)⟩])
 (.seq (.ops [⟨some 28,none,.mv (.t 7)⟩,⟨some 29,none,.mv (.t 8)⟩,⟨some 30,none,.call 113 [(.t 28),(.t 29)]⟩,⟨some 9,none,.mv (.t 30)⟩])
 (.seq (.ops [⟨some 32,none,.mv (.t 5)⟩,⟨some 33,none,.mv (.t 9)⟩,⟨some 34,none,.mlk true (.i .i64) (.str []) (.t 32) (.t 33)⟩,⟨some 31,none,.mv (.t 34)⟩,⟨some 35,none,.ext (.t 31) 0⟩,⟨some 36,none,.ext (.t 31) 1⟩,⟨some 10,none,.mv (.t 35)⟩,⟨some 11,none,.mv (.t 36)⟩])
 (.seq (.ops [⟨some 37,none,.mv (.t 11)⟩,⟨some 38,none,.un .not (.t 37)⟩])
 (.cond (.t 38) (.seq (.ops [⟨some 39,none,.mv (.t 5)⟩,⟨some 40,none,.mv (.t 9)⟩,⟨some 41,none,.mv (.t 5)⟩,⟨some 42,none,.mv (.t 7)⟩,⟨some 43,none,.mlk false (.i .i64) (.str []) (.t 41) (.t 42)⟩,⟨some 44,none,.mv (.t 8)⟩,⟨some 45,none,.bin 0 .add (.c (.int .i64 48)) (.t 44)⟩,⟨some 46,none,.conv .i32 (.t 45)⟩,⟨some 47,none,.i2s (.t 46)⟩,⟨some 48,none,.bin 1 .add (.t 43) (.t 47)⟩,⟨none,none,.mup (.i .i64) (.t 39) (.t 40) (.t 48)⟩])
 (.ops [⟨some 49,none,.mv (.t 6)⟩,⟨some 50,none,.mv (.t 9)⟩,⟨some 51,none,.bslice 3 1 1 [(.int .i64 0)] [(0,1,(.t 50))]⟩,⟨some 52,none,.app 3 1 8 (.t 49) (.t 51)⟩,⟨some 6,none,.mv (.t 52)⟩])) (.skip)))))))
 (.ops [⟨some 53,none,.bin 0 .add (.t 25) (.c (.int .i64 1))⟩,⟨some 25,none,.mv (.t 53)⟩])))))))))))))
 (.seq (.ops [⟨some 54,none,.mv (.t 5)⟩,⟨some 55,none,.mv (.t 1)⟩,⟨some 56,none,.mlk false (.i .i64) (.str []) (.t 54) (.t 55)⟩,⟨some 4,none,.mv (.t 56)⟩])
 (.ret)))))⟩
theorem c91:compF Go.Proofs.Try.prog 91=some a91:=by kernel_rfl
def a92 : AFn := ⟨5,[.t 2],.seq (.ops [⟨some 2,none,.mv (.c (.int .i64 0))⟩])
 (.seq (.seq (.ops [⟨some 3,none,.mv (.t 0)⟩,⟨some 4,none,.call 41 [(.t 3),(.c (.int .i64 1)),(.c (.int .i64 100))]⟩])
 (.cond (.t 4) (.seq (.ops [⟨some 2,none,.mv (.c (.int .i64 1))⟩])
 (.ret)) (.skip)))
 (.seq (.ops [⟨some 2,none,.mv (.c (.int .i64 0))⟩])
 (.ret)))⟩
theorem c92:compF Go.Proofs.Try.prog 92=some a92:=by kernel_rfl
def a93 : AFn := ⟨12,[.t 4],.seq (.ops [⟨some 4,none,.mv (.c (.int .i64 0))⟩])
 (.seq (.block 0 (.loop (.seq (.seq (.ops [⟨some 5,none,.mv (.t 1)⟩,⟨some 6,none,.mv (.t 0)⟩,⟨some 7,none,.callv (.t 5) [(.t 6)]⟩,⟨some 8,none,.un .not (.t 7)⟩])
 (.cond (.t 8) (.skip) (.exit 0)))
 (.block 1 (.ops [⟨some 9,none,.mv (.t 0)⟩,⟨some 10,none,.bin 0 .add (.t 9) (.c (.int .i64 1))⟩,⟨some 0,none,.mv (.t 10)⟩])))))
 (.seq (.ops [⟨some 11,none,.mv (.t 0)⟩,⟨some 4,none,.mv (.t 11)⟩])
 (.ret)))⟩
theorem c93:compF Go.Proofs.Try.prog 93=some a93:=by kernel_rfl
def a94 : AFn := ⟨9,[.t 3],.seq (.ops [⟨some 3,none,.mv (.c (.bool false))⟩])
 (.seq (.any [(⟨some 4,none,.mv (.t 0)⟩,[]),(⟨some 5,none,.bin 0 .shl (.c (.int .i64 1)) (.t 4)⟩,[]),(⟨some 6,none,.bin 0 .sub (.t 5) (.c (.int .i64 2))⟩,[]),(⟨some 7,none,.load none (.t 1)⟩,[0,1,2]),(⟨some 8,none,.bin 0 .geq (.t 6) (.t 7)⟩,[]),(⟨some 3,none,.mv (.t 8)⟩,[])])
 (.ret))⟩
theorem c94:compF Go.Proofs.Try.prog 94=some a94:=by kernel_rfl
def a95 : AFn := ⟨24,[.t 4],.seq (.ops [⟨some 4,none,.mv (.c (.str []))⟩])
 (.seq (.ops [⟨some 5,none,.mv (.c (.lit true 0 []))⟩])
 (.seq (.seq (.ops [⟨some 7,none,.mv (.t 1)⟩,⟨some 8,none,.bin 0 .sub (.t 7) (.c (.int .i64 1))⟩,⟨some 6,none,.mv (.t 8)⟩])
 (.block 0 (.loop (.seq (.seq (.ops [⟨some 9,none,.mv (.t 6)⟩,⟨some 10,none,.bin 0 .geq (.t 9) (.c (.int .i64 0))⟩])
 (.cond (.t 10) (.skip) (.exit 0)))
 (.seq (.block 1 (.ops [⟨some 13,none,.mv (.t 5)⟩,⟨some 14,none,.mv (.t 0)⟩,⟨some 15,none,.mv (.t 6)⟩,⟨some 16,none,.bin 0 .shr (.t 14) (.t 15)⟩,⟨some 17,none,.bin 0 .and (.t 16) (.c (.int .i64 1))⟩,⟨some 18,none,.bin 0 .add (.c (.int .i64 48)) (.t 17)⟩,⟨some 19,none,.conv .u8 (.t 18)⟩,⟨some 20,none,.bslice 5 1 1 [(.int .u8 0)] [(0,1,(.t 19))]⟩,⟨some 21,none,.app 5 1 1 (.t 13) (.t 20)⟩,⟨some 5,none,.mv (.t 21)⟩]))
 (.ops [⟨some 11,none,.mv (.t 6)⟩,⟨some 12,none,.bin 0 .sub (.t 11) (.c (.int .i64 1))⟩,⟨some 6,none,.mv (.t 12)⟩]))))))
 (.seq (.ops [⟨some 22,none,.mv (.t 5)⟩,⟨some 23,none,.b2s (.t 22)⟩,⟨some 4,none,.mv (.t 23)⟩])
 (.ret))))⟩
theorem c95:compF Go.Proofs.Try.prog 95=some a95:=by kernel_rfl
def a96 : AFn := ⟨38,[.t 4],.seq (.ops [⟨some 4,none,.mv (.c (.lit true 0 []))⟩])
 (.seq (.ops [⟨some 5,none,.mv (.c (.lit true 0 []))⟩])
 (.seq (.seq (.ops [⟨some 10,none,.mv (.t 1)⟩,⟨some 11,none,.mv (.c (.int .i64 0))⟩])
 (.block 0 (.loop (.seq (.ops [⟨some 12,none,.bin 0 .lss (.t 11) (.t 10)⟩])
 (.seq (.cond (.t 12) (.skip) (.exit 0))
 (.seq (.block 1 (.seq (.ops [⟨some 13,none,.mv (.t 11)⟩,⟨some 6,none,.mv (.t 13)⟩])
 (.seq (.ops [⟨some 14,none,.mv (.t 0)⟩,⟨some 15,none,.len false (.t 14)⟩,⟨some 16,none,.mks 5 1 1 [(.int .u8 0)] (.t 15)⟩,⟨some 7,none,.mv (.t 16)⟩])
 (.seq (.seq (.ops [⟨some 17,none,.mv (.t 0)⟩,⟨some 18,none,.len false (.t 17)⟩,⟨some 19,none,.mv (.c (.int .i64 0))⟩])
 (.block 2 (.loop (.seq (.ops [⟨some 20,none,.bin 0 .lss (.t 19) (.t 18)⟩])
 (.seq (.cond (.t 20) (.skip) (.exit 2))
 (.seq (.block 3 (.seq (.ops [⟨some 21,none,.mv (.t 19)⟩,⟨some 22,none,.iadr 1 (.t 17) (.t 19)⟩,⟨some 23,none,.load none (.t 22)⟩,⟨some 8,none,.mv (.t 21)⟩,⟨some 9,none,.mv (.t 23)⟩])
 (.ops [⟨some 24,none,.mv (.t 7)⟩,⟨some 25,none,.mv (.t 8)⟩,⟨some 26,none,.mv (.t 9)⟩,⟨some 27,none,.mv (.t 6)⟩,⟨some 28,none,.idxs (.t 26) (.t 27)⟩,⟨some 29,none,.iadr 1 (.t 24) (.t 25)⟩,⟨none,none,.store 1 (.t 29) (.t 28)⟩])))
 (.ops [⟨some 30,none,.bin 0 .add (.t 19) (.c (.int .i64 1))⟩,⟨some 19,none,.mv (.t 30)⟩])))))))
 (.ops [⟨some 31,none,.mv (.t 5)⟩,⟨some 32,none,.mv (.t 7)⟩,⟨some 33,none,.b2s (.t 32)⟩,⟨some 34,none,.bslice 9 1 1 [(.str [])] [(0,1,(.t 33))]⟩,⟨some 35,none,.app 9 1 16 (.t 31) (.t 34)⟩,⟨some 5,none,.mv (.t 35)⟩])))))
 (.ops [⟨some 36,none,.bin 0 .add (.t 11) (.c (.int .i64 1))⟩,⟨some 11,none,.mv (.t 36)⟩])))))))
 (.seq (.ops [⟨some 37,none,.mv (.t 5)⟩,⟨some 4,none,.mv (.t 37)⟩])
 (.ret))))⟩
theorem c96:compF Go.Proofs.Try.prog 96=some a96:=by kernel_rfl
def a97 : AFn := ⟨8,[.t 4],.seq (.ops [⟨some 4,none,.mv (.c (.int .i64 0))⟩])
 (.seq (.ops [⟨some 5,none,.mv (.t 0)⟩,⟨some 6,none,.mv (.t 1)⟩,⟨some 7,none,.call 114 [(.t 5),(.t 6)]⟩,⟨some 4,none,.mv (.t 7)⟩])
 (.ret))⟩
theorem c97:compF Go.Proofs.Try.prog 97=some a97:=by kernel_rfl
def a98 : AFn := ⟨6,[.t 2],.seq (.ops [⟨some 2,none,.mv (.c (.bool false))⟩])
 (.seq (.ops [⟨some 3,none,.mv (.t 0)⟩,⟨some 4,none,.call 99 [(.t 3)]⟩,⟨some 5,none,.un .not (.t 4)⟩,⟨some 2,none,.mv (.t 5)⟩])
 (.ret))⟩
theorem c98:compF Go.Proofs.Try.prog 98=some a98:=by kernel_rfl
def a99 : AFn := ⟨17,[.t 2],.seq (.ops [⟨some 2,none,.mv (.c (.bool false))⟩])
 (.seq (.ops [⟨some 3,none,.mv (.t 0)⟩,⟨some 4,none,.call 77 [(.t 3)]⟩,⟨some 5,none,.mv (.t 4)⟩,⟨some 6,(some (5,false)),.mv (.t 0)⟩,⟨some 7,(some (5,false)),.bin 0 .eql (.t 6) (.c (.int .u8 46))⟩,⟨some 8,none,.pick (.t 5) (.c (.bool true)) (.t 7)⟩,⟨some 9,none,.mv (.t 8)⟩,⟨some 10,(some (9,false)),.mv (.t 0)⟩,⟨some 11,(some (9,false)),.bin 0 .eql (.t 10) (.c (.int .u8 63))⟩,⟨some 12,none,.pick (.t 9) (.c (.bool true)) (.t 11)⟩,⟨some 13,none,.mv (.t 12)⟩,⟨some 14,(some (13,false)),.mv (.t 0)⟩,⟨some 15,(some (13,false)),.bin 0 .eql (.t 14) (.c (.int .u8 42))⟩,⟨some 16,none,.pick (.t 13) (.c (.bool true)) (.t 15)⟩,⟨some 2,none,.mv (.t 16)⟩])
 (.ret))⟩
theorem c99:compF Go.Proofs.Try.prog 99=some a99:=by kernel_rfl
def a100 : AFn := ⟨12,[.t 4],.seq (.ops [⟨some 4,none,.mv (.c (.int .i64 0))⟩])
 (.seq (.block 0 (.loop (.seq (.seq (.ops [⟨some 5,none,.mv (.t 1)⟩,⟨some 6,none,.bin 0 .neq (.t 5) (.c (.int .i64 0))⟩])
 (.cond (.t 6) (.skip) (.exit 0)))
 (.block 1 (.any [(⟨some 7,none,.mv (.t 1)⟩,[]),(⟨some 8,none,.mv (.t 0)⟩,[0]),(⟨some 9,none,.mv (.t 1)⟩,[0,1]),(⟨some 10,none,.bin 0 .rem (.t 8) (.t 9)⟩,[0]),(⟨some 0,none,.mv (.t 7)⟩,[2,3]),(⟨some 1,none,.mv (.t 10)⟩,[])])))))
 (.seq (.ops [⟨some 11,none,.mv (.t 0)⟩,⟨some 4,none,.mv (.t 11)⟩])
 (.ret)))⟩
theorem c100:compF Go.Proofs.Try.prog 100=some a100:=by kernel_rfl
def a112 : AFn := ⟨19,[.t 4],.seq (.ops [⟨some 4,none,.mv (.c (.int .i64 0))⟩])
 (.seq (.seq (.ops [⟨some 6,none,.mv (.t 0)⟩,⟨some 7,none,.len false (.t 6)⟩,⟨some 8,none,.mv (.c (.int .i64 0))⟩])
 (.block 0 (.loop (.seq (.ops [⟨some 9,none,.bin 0 .lss (.t 8) (.t 7)⟩])
 (.seq (.cond (.t 9) (.skip) (.exit 0))
 (.seq (.block 1 (.seq (.ops [⟨some 10,none,.mv (.t 8)⟩,⟨some 5,none,.mv (.t 10)⟩])
 (.seq (.ops [⟨some 11,none,.mv (.t 1)⟩,⟨some 12,none,.mv (.t 0)⟩,⟨some 13,none,.mv (.t 5)⟩,⟨some 14,none,.iadr 1 (.t 12) (.t 13)⟩,⟨some 15,none,.load none (.t 14)⟩,⟨some 16,none,.bin 0 .eql (.t 11) (.t 15)⟩])
 (.cond (.t 16) (.seq (.ops [⟨some 17,none,.mv (.t 5)⟩,⟨some 4,none,.mv (.t 17)⟩])
 (.ret)) (.skip)))))
 (.ops [⟨some 18,none,.bin 0 .add (.t 8) (.c (.int .i64 1))⟩,⟨some 8,none,.mv (.t 18)⟩])))))))
 (.seq (.ops [⟨some 4,none,.mv (.c (.int .i64 (-1)))⟩])
 (.ret)))⟩
theorem c112:compF Go.Proofs.Try.prog 112=some a112:=by kernel_rfl
def a113 : AFn := ⟨28,[.t 4],.seq (.ops [⟨some 4,none,.mv (.c (.int .i64 0))⟩])
 (.seq (.ops [⟨some 6,none,.build [(.int .i64 0),(.int .i64 0)] [(0,1,(.c (.int .i64 1))),(1,1,(.c (.int .i64 0)))]⟩,⟨some 7,none,.build [(.int .i64 0),(.int .i64 0)] [(0,1,(.c (.int .i64 1))),(1,1,(.c (.int .i64 2)))]⟩,⟨some 8,none,.build [(.int .i64 0),(.int .i64 0)] [(0,1,(.c (.int .i64 3))),(1,1,(.c (.int .i64 9)))]⟩,⟨some 9,none,.build [(.int .i64 0),(.int .i64 0)] [(0,1,(.c (.int .i64 4))),(1,1,(.c (.int .i64 5)))]⟩,⟨some 10,none,.build [(.int .i64 0),(.int .i64 0)] [(0,1,(.c (.int .i64 4))),(1,1,(.c (.int .i64 5)))]⟩,⟨some 11,none,.build [(.int .i64 0),(.int .i64 0)] [(0,1,(.c (.int .i64 6))),(1,1,(.c (.int .i64 8)))]⟩,⟨some 12,none,.build [(.int .i64 0),(.int .i64 0)] [(0,1,(.c (.int .i64 6))),(1,1,(.c (.int .i64 7)))]⟩,⟨some 13,none,.build [(.int .i64 0),(.int .i64 0)] [(0,1,(.c (.int .i64 4))),(1,1,(.c (.int .i64 8)))]⟩,⟨some 14,none,.build [(.int .i64 0),(.int .i64 0)] [(0,1,(.c (.int .i64 1))),(1,1,(.c (.int .i64 2)))]⟩,⟨some 15,none,.build [(.int .i64 0),(.int .i64 0)] [(0,1,(.c (.int .i64 10))),(1,1,(.c (.int .i64 0)))]⟩,⟨some 16,none,.build [(.int .i64 0),(.int .i64 0)] [(0,1,(.c (.int .i64 11))),(1,1,(.c (.int .i64 12)))]⟩,⟨some 17,none,.build [(.int .i64 0),(.int .i64 0)] [(0,1,(.c (.int .i64 11))),(1,1,(.c (.int .i64 12)))]⟩,⟨some 18,none,.build [(.int .i64 0),(.int .i64 0)] [(0,1,(.c (.int .i64 13))),(1,1,(.c (.int .i64 15)))]⟩,⟨some 19,none,.build [(.int .i64 0),(.int .i64 0)] [(0,1,(.c (.int .i64 13))),(1,1,(.c (.int .i64 14)))]⟩,⟨some 20,none,.build [(.int .i64 0),(.int .i64 0)] [(0,1,(.c (.int .i64 11))),(1,1,(.c (.int .i64 15)))]⟩,⟨some 21,none,.build [(.int .i64 0),(.int .i64 0)] [(0,1,(.c (.int .i64 1))),(1,1,(.c (.int .i64 2)))]⟩,⟨some 22,none,.build [(.int .i64 0),(.int .i64 0),(.int .i64 0),(.int .i64 0),(.int .i64 0),(.int .i64 0),(.int .i64 0),(.int .i64 0),(.int .i64 0),(.int .i64 0),(.int .i64 0),(.int .i64 0),(.int .i64 0),(.int .i64 0),(.int .i64 0),(.int .i64 0),(.int .i64 0),(.int .i64 0),(.int .i64 0),(.int .i64 0),(.int .i64 0),(.int .i64 0),(.int .i64 0),(.int .i64 0),(.int .i64 0),(.int .i64 0),(.int .i64 0),(.int .i64 0),(.int .i64 0),(.int .i64 0),(.int .i64 0),(.int .i64 0)] [(0,2,(.t 6)),(2,2,(.t 7)),(4,2,(.t 8)),(6,2,(.t 9)),(8,2,(.t 10)),(10,2,(.t 11)),(12,2,(.t 12)),(14,2,(.t 13)),(16,2,(.t 14)),(18,2,(.t 15)),(20,2,(.t 16)),(22,2,(.t 17)),(24,2,(.t 18)),(26,2,(.t 19)),(28,2,(.t 20)),(30,2,(.t 21))]⟩,⟨some 5,none,.alloc 143 [(.int .i64 0),(.int .i64 0),(.int .i64 0),(.int .i64 0),(.int .i64 0),(.int .i64 0),(.int .i64 0),(.int .i64 0),(.int .i64 0),(.int .i64 0),(.int .i64 0),(.int .i64 0),(.int .i64 0),(.int .i64 0),(.int .i64 0),(.int .i64 0),(.int .i64 0),(.int .i64 0),(.int .i64 0),(.int .i64 0),(.int .i64 0),(.int .i64 0),(.int .i64 0),(.int .i64 0),(.int .i64 0),(.int .i64 0),(.int .i64 0),(.int .i64 0),(.int .i64 0),(.int .i64 0),(.int .i64 0),(.int .i64 0)]⟩,⟨none,none,.store 32 (.t 5) (.t 22)⟩])
 (.seq (.ops [⟨some 23,none,.mv (.t 0)⟩,⟨some 24,none,.mv (.t 1)⟩,⟨some 25,none,.aadr 16 2 (.t 5) (.t 23)⟩,⟨some 26,none,.aadr 2 1 (.t 25) (.t 24)⟩,⟨some 27,none,.load none (.t 26)⟩,⟨some 4,none,.mv (.t 27)⟩])
 (.ret)))⟩
theorem c113:compF Go.Proofs.Try.prog 113=some a113:=by kernel_rfl
open Go.RowKit
theorem below_c (x n:Int) (nid:Nat) (hn:n≤9223372036854775807):ACall Try.prog 73 [.int .i64 x,.int .i64 n] [] nid (.int .i64 (below x n)) []:=by
 refine acall_run c73 (by simp [a73]) ?_
 simp -dsimp only [a73,aqA,↓seqK,↓blkK,↓loopK,step,stepBin,eqB,Nat.add_assoc nid,simprocAttr,z0]
 refine S2.dec (fun h=>?_) (fun h=>?_)
 ·simp -dsimp only [aqA,↓seqK,↓blkK,↓loopK,step,stepBin,eqB,Nat.add_assoc nid,simprocAttr,z0]
  refine RetOK.pure (.inl rfl) rfl ?_
  simp [retPV,PVCov,getS,below,h]
 simp -dsimp only [aqA,↓seqK,↓blkK,↓loopK,step,stepBin,eqB,Nat.add_assoc nid,simprocAttr,z0]
 refine ⟨by omega,S2.dec (fun h2=>?_) (fun h2=>?_)⟩
 ·simp -dsimp only [aqA,↓seqK,↓blkK,↓loopK,step,stepBin,eqB,Nat.add_assoc nid,simprocAttr,z0]
  have:=Int.lt_tmod_of_pos x (show 0<n by omega)
  refine ⟨by unfold inI64; omega,RetOK.pure (.inl rfl) rfl ?_⟩
  have h3:x.tmod n+n=x % n:=by rw [Int.tmod_eq_emod]; split <;> rw [Int.tmod_eq_emod] at h2 <;> rename_i h6 <;> simp only [h6,if_true,if_false,not_false_eq_true] at h2 <;> have:=Int.emod_nonneg x (show n≠0 by omega) <;> omega
  simp [cvT,step,res,below,h,h3]
 ·simp -dsimp only [aqA,↓seqK,↓blkK,↓loopK,step,stepBin,eqB,Nat.add_assoc nid,simprocAttr,z0]
  refine RetOK.pure (.inl rfl) rfl ?_
  have h3:x.tmod n=x % n:=by rw [Int.tmod_eq_emod]; split <;> rw [Int.tmod_eq_emod] at h2 <;> rename_i h6 <;> simp only [h6,if_true,if_false,not_false_eq_true] at h2 <;> have:=Int.emod_lt_of_pos x (show 0<n by omega) <;> omega
  simp [cvT,step,res,below,h,h3]
def strmC (nl:Bool) (A:List Int) (p:Nat):Option ABlk:=some (.box 25 [.lit nl A.length [.i .i64 fun i=>A.getD i 0],.int .i64 p])
theorem strmC_low (n:Nat) (nl:Bool) (A:List Int) (p:Nat):lowBlk n (strmC nl A p)=true:=rfl
theorem next_c (s nid : Nat) (nl : Bool) (A : List Int) (p : Nat) (n : Int) (h : s < nid) (hp : p ≤ 1099511627775) (hA : A.length ≤ 17592186044416) (hn : n ≤ 9223372036854775807) :
    ACall Try.prog 35 [.ptr s 0,.int .i64 n] [(s,strmC nl A p)] nid (.int .i64 (nextV A p n)) [(s,strmC nl A (p + 1))] := by
  obtain ⟨e1,e2,e3,e4,e5,e6,e7,e8,e9⟩ := id_all h
  refine acall_run c35 (by simp [a35]) ?_
  simp -dsimp only [a35,strmC,aqA,↓seqK,↓blkK,↓loopK,step,stepBin,eqB,Nat.add_assoc nid,simprocAttr,z0,e1,e2,e3,e4,e5,e6,e7,e8,e9]
  refine ⟨by unfold inI64; omega,S2.intro (fun h2 => ?_) (fun h2 => ?_)⟩
  · simp -dsimp only [aqA,↓seqK,↓blkK,↓loopK,step,stepBin,eqB,Nat.add_assoc nid,simprocAttr,z0,e1,e2,e3,e4,e5,e6,e7,e8,e9]
    refine ⟨by unfold inI64; omega,CallO.pure (below_c _ _ _ hn) ?_⟩
    simp -dsimp only [aqA,↓seqK,↓blkK,↓loopK,step,stepBin,eqB,Nat.add_assoc nid,simprocAttr,z0,e1,e2,e3,e4,e5,e6,e7,e8,e9]
    have h3 : A.length = 0 := by simpa using h2
    refine RetOK.same (.inl rfl) rfl (by simp [strmC,liveIds]; omega) ?_ ?_
    · simp [cvT,step,res,strmC]
    · simp [cvT,step,res,nextV,h3]
  · simp -dsimp only [aqA,↓seqK,↓blkK,↓loopK,step,stepBin,eqB,Nat.add_assoc nid,simprocAttr,z0,e1,e2,e3,e4,e5,e6,e7,e8,e9]
    have h3 : 0 < A.length := by have : ¬ A.length = 0 := by simpa using h2
                                 omega
    have h4 : ∀ z : Nat,z ≤ 1099511627776 → IntKind.i64.wrap (z : Int) = z := fun z hz => IntWalk.i64_in _ (by omega)
    have h5 : p / A.length ≤ p := Nat.div_le_self _ _
    have h6 : p % A.length < A.length := Nat.mod_lt _ h3
    have h11 := h4 _ (show p / A.length ≤ 1099511627776 by omega)
    refine ⟨by unfold inI64; omega,by omega,by unfold inI64; omega,by omega,by omega,CallO.pure (below_c _ _ _ (by omega)) ?_⟩
    simp -dsimp only [aqA,↓seqK,↓blkK,↓loopK,step,stepBin,eqB,Nat.add_assoc nid,simprocAttr,z0,h11,e1,e2,e3,e4,e5,e6,e7,e8,e9]
    have h7 := round_bd p A.length h3 (by omega)
    have h8 := below_bd (A.getD (p % A.length) 0) (n := 1073741824) (by omega)
    rw [← Int.natCast_emod,← Int.natCast_ediv] at h7
    generalize h9 : ((p / A.length : Nat) : Int) * (7919 + ((p % A.length : Nat) : Int)) = z at h7 ⊢
    refine ⟨by unfold inI64; omega,by unfold inI64; omega,by unfold inI64; omega,CallO.pure (below_c _ _ _ hn) ?_⟩
    simp -dsimp only [aqA,↓seqK,↓blkK,↓loopK,step,stepBin,eqB,Nat.add_assoc nid,simprocAttr,z0,e1,e2,e3,e4,e5,e6,e7,e8,e9]
    refine RetOK.same (.inl rfl) rfl (by simp [strmC,liveIds]; omega) ?_ ?_
    · simp [cvT,step,res,strmC]
    · have h10 : A.length ≠ 0 := by omega
      simp [cvT,step,res,nextV,h10,← h9]
theorem range_c (s nid:Nat) (nl:Bool) (A:List Int) (p:Nat) (lo hi:Int) (h:s<nid) (hp:p≤1099511627775) (hA:A.length≤17592186044416) (h1:lo≤hi) (hl : -1099511627776≤lo) (hh:hi≤1099511627776) :
  ACall Try.prog 34 [.ptr s 0,.int .i64 lo,.int .i64 hi] [(s,strmC nl A p)] nid (.int .i64 (rangeV A p lo hi)) [(s,strmC nl A (p+1))]:=by
 obtain ⟨e1,e2,e3,e4,e5,e6,e7,e8,e9⟩:=id_all h
 refine acall_run c34 (by simp [a34]) ?_
 simp -dsimp only [a34,aqA,↓seqK,↓blkK,↓loopK,step,stepBin,eqB,Nat.add_assoc nid,simprocAttr,z0,e1,e2,e3,e4,e5,e6,e7,e8,e9]
 refine S2.dec (fun h=>absurd h (by omega)) (fun h=>?_)
 simp -dsimp only [aqA,↓seqK,↓blkK,↓loopK,step,stepBin,eqB,Nat.add_assoc nid,simprocAttr,z0,e1,e2,e3,e4,e5,e6,e7,e8,e9]
 refine ⟨by unfold inI64; omega,by unfold inI64; omega,CallO.on (next_c _ _ _ _ _ _ (by omega) hp hA (by omega)) (subH_hit _ _ _) ?_⟩
 simp -dsimp only [aqA,↓seqK,↓blkK,↓loopK,step,stepBin,eqB,Nat.add_assoc nid,simprocAttr,z0,e1,e2,e3,e4,e5,e6,e7,e8,e9]
 have:=nextV_bd A p (n:=hi - lo+1) (by omega)
 refine ⟨by unfold inI64; omega,RetOK.same (.inl rfl) rfl (by simp [strmC,liveIds]; omega) ?_ ?_⟩
 ·simp [cvT,step,res,strmC]
 ·simp [cvT,step,res,rangeV]
theorem flip_c (s nid:Nat) (nl:Bool) (A:List Int) (p:Nat) (n:Int) (h:s<nid) (hp:p≤1099511627775) (hA:A.length≤17592186044416) (hn:n≤9223372036854775807) :
  ACall Try.prog 7 [.ptr s 0,.int .i64 n] [(s,strmC nl A p)] nid (.bool (flipV A p n)) [(s,strmC nl A (p+1))]:=by
 obtain ⟨e1,e2,e3,e4,e5,e6,e7,e8,e9⟩:=id_all h
 refine acall_run c7 (by simp [a7]) ?_
 simp -dsimp only [a7,aqA,↓seqK,↓blkK,↓loopK,step,stepBin,eqB,Nat.add_assoc nid,simprocAttr,z0,e1,e2,e3,e4,e5,e6,e7,e8,e9]
 refine CallO.on (next_c _ _ _ _ _ _ (by omega) hp hA hn) (subH_hit _ _ _) ?_
 simp -dsimp only [aqA,↓seqK,↓blkK,↓loopK,step,stepBin,eqB,Nat.add_assoc nid,simprocAttr,z0,e1,e2,e3,e4,e5,e6,e7,e8,e9]
 refine RetOK.same (.inl rfl) rfl (by simp [strmC,liveIds]; omega) ?_ ?_
 ·simp [cvT,step,res,strmC]
 ·simp [cvT,step,res,flipV]
theorem pick_c (s nid:Nat) (nl nl':Bool) (A:List Int) (p:Nat) (n:Nat) (g:Nat→Int) (h:s<nid) (hp:p≤1099511627775) (hA:A.length≤17592186044416) (h1:0<n) (hn:n≤1099511627776) :
  ACall Try.prog 9 [.ptr s 0,.lit nl' n [.i .i64 g]] [(s,strmC nl A p)] nid (.int .i64 (g (pickI A p n))) [(s,strmC nl A (p+1))]:=by
 obtain ⟨e1,e2,e3,e4,e5,e6,e7,e8,e9⟩:=id_all h
 refine acall_run c9 (by simp [a9]) ?_
 simp -dsimp only [a9,aqA,↓seqK,↓blkK,↓loopK,step,stepBin,eqB,Nat.add_assoc nid,simprocAttr,z0,e1,e2,e3,e4,e5,e6,e7,e8,e9]
 refine CallO.on (next_c _ _ _ _ _ _ (by omega) hp hA (by omega)) (subH_hit _ _ _) ?_
 simp -dsimp only [aqA,↓seqK,↓blkK,↓loopK,step,stepBin,eqB,Nat.add_assoc nid,simprocAttr,z0,e1,e2,e3,e4,e5,e6,e7,e8,e9]
 have:=nextV_bd A p (n:=(n:Int)) (by omega)
 refine ⟨this,RetOK.same (.inl rfl) rfl (by simp [strmC,liveIds]; omega) ?_ ?_⟩
 ·simp [cvT,step,res,strmC]
 ·simp [cvT,step,res,pickI]
theorem CallX.pick_go {s id nid:Nat} {nl:Bool} {A:List Int} {p:Nat} {n T:Nat} {g:Nat→Int} {H:Heap} {K:PV→Heap→List Nat→Prop} (hs:getH H s=strmC nl A p) (hid:getH H id=some (.arr T n [.i .i64 g])) (hne:(s==id)=false) (h:s<nid) (hp:p≤1099511627775) (hA:A.length≤17592186044416) (h1:0<n) (hn:n≤1099511627776)
  (hK:K (.int .i64 (g (pickI A p n))) [(s,strmC nl A (p+1)),(id,none)] [s,id]):CallX Try.prog 9 [.ptr s 0,.sl id 0 n] H nid K:=by
 refine CallX.given [id] (u:=[(s,strmC nl A (p+1))]) (fun nl'=>?_) (subH_get hs) (by simp [getH,hne]) hK
 have e:lends H [id] nl' [.ptr s 0,.sl id 0 n]=[.ptr s 0,.lit (nl' id) n [.i .i64 g]]:=by simp [lends,lend,hid,noOs]
 rw [e]
 exact pick_c s _ nl _ A p n _ h hp hA h1 hn
theorem CallO.pick_go {s id nid:Nat} {nl:Bool} {A:List Int} {p:Nat} {n T:Nat} {g:Nat→Int} {H:Heap} {K:PV→Heap→Prop} (hs:getH H s=strmC nl A p) (hid:getH H id=some (.arr T n [.i .i64 g])) (hne:(s==id)=false) (h:s<nid) (hp:p≤1099511627775) (hA:A.length≤17592186044416) (h1:0<n) (hn:n≤1099511627776)
  (hK:K (.int .i64 (g (pickI A p n))) [(s,strmC nl A (p+1)),(id,none)]):CallOK Try.prog 9 [.ptr s 0,.sl id 0 n] H nid K :=
 CallO.x (CallX.pick_go hs hid hne h hp hA h1 hn hK)
open Go.RowKit
def arrI (l:List Int):Option ABlk:=some (.arr 3 l.length [.i .i64 fun i=>l.getD i 0])
def litI (nl:Bool) (l:List Int):PV:=.lit nl l.length [.i .i64 fun i=>l.getD i 0]
theorem out_c (x lo hi:Int) (nid:Nat):ACall Try.prog 41 [.int .i64 x,.int .i64 lo,.int .i64 hi] [] nid (.bool (outB x lo hi)) []:=by
 refine acall_run c41 (by simp [a41]) ?_
 simp -dsimp only [a41,aqA,↓seqK,↓blkK,↓loopK,step,stepBin,eqB,Nat.add_assoc nid,simprocAttr,z0]
 refine S2.dec (fun h=>?_) (fun h=>?_) <;> simp -dsimp only [aqA,↓seqK,↓blkK,↓loopK,step,stepBin,eqB,Nat.add_assoc nid,simprocAttr,z0] <;> refine RetOK.pure (.inl rfl) rfl ?_ <;> simp [cvT,step,res,outB] <;> omega
theorem in_c (x lo hi:Int) (nid:Nat):ACall Try.prog 47 [.int .i64 x,.int .i64 lo,.int .i64 hi] [] nid (.bool (!outB x lo hi)) []:=by
 refine acall_run c47 (by simp [a47]) ?_
 simp -dsimp only [a47,aqA,↓seqK,↓blkK,↓loopK,step,stepBin,eqB,Nat.add_assoc nid,simprocAttr,z0]
 refine S2.dec (fun h=>?_) (fun h=>?_) <;> simp -dsimp only [aqA,↓seqK,↓blkK,↓loopK,step,stepBin,eqB,Nat.add_assoc nid,simprocAttr,z0] <;> refine RetOK.pure (.inl rfl) rfl ?_ <;> simp [cvT,step,res,outB] <;> first | omega | (rw [Bool.eq_iff_iff]; simp; omega)
theorem cloneI_c (nl:Bool) (l:List Int) (nid:Nat) (hl:l.length≤1000000000) (hnl:nl=true→l=[]):ACall Try.prog 87 [litI nl l] [] nid (.sl nid 0 l.length) [(nid,arrI l)]:=by
 refine acall_run c87 (by simp [a87]) ?_
 unfold litI
 simp -dsimp only [a87,aqA,↓seqK,↓blkK,↓loopK,step,stepBin,eqB,Nat.add_assoc nid,simprocAttr,z0]
 refine S2.intro (fun h=>?_) (fun h=>?_) <;> simp -dsimp only [aqA,↓seqK,↓blkK,↓loopK,step,stepBin,eqB,Nat.add_assoc nid,simprocAttr,z0]
 ·refine RetOK.go [] [(nid,1)] (.inl rfl) ?_
  have:=hnl h
  subst this
  simp [a87,cvT,step,res,arrI]
 ·refine ⟨⟨by omega,by omega⟩,RetOK.go [(nid,nid+20)] [] (.inl rfl) ?_⟩
  simp [a87,cvT,step,res,arrI]
theorem index_c (nl:Bool) (l:List Int) (x:Int) (nid:Nat) (hl:l.length≤1000000000):∃ r:Int,(0≤r↔x∈l)∧ACall Try.prog 112 [litI nl l,.int .i64 x] [] nid (.int .i64 r) []:=by
 refine ⟨match l.findIdx? (·==x) with | some k=>(k:Int) | none => -1,?_,?_⟩
 ·cases h:l.findIdx? (·==x) with
  | none =>
   rw [List.findIdx?_eq_none_iff] at h
   simp only [Int.reduceNeg,Int.reduceLE,false_iff]
   exact fun hx=>by simpa using h x hx
  | some k =>
   simp only [Int.natCast_nonneg,true_iff]
   obtain ⟨hk,h1,_⟩:=List.findIdx?_eq_some_iff_getElem.1 h
   have:l[k]=x:=by simpa using h1
   rw [← this]; exact List.getElem_mem hk
 refine acall_run c112 (by simp [a112]) ?_
 unfold litI
 simp -dsimp only [aqA,↓seqK,↓blkK,↓loopK,step,stepBin,eqB,Nat.add_assoc nid,simprocAttr,z0,a112]
 refine LP.mkP (fun k:Nat=>k≤l.length∧∀ i,i<k→l.getD i 0≠x) (fun k:Nat=>⟨[(8,.int .i64 k),(7,.int .i64 l.length),(0,litI nl l),(1,.int .i64 x)],[],nid+1000,nid⟩) (fun k=>l.length+1 - k) 0 ?_ (Cov.go [] [] ?_) (fun k hk=>?_)
 ·exact ⟨by omega,fun i hi=>by omega⟩
 ·simp [cvT,step,res,litI]
 unfold litI
 obtain ⟨hk,hno⟩:=hk
 have get:∀ i (hi:i<l.length),l.getD i 0=l[i]:=fun i hi=>by rw [List.getD_eq_getElem?_getD,List.getElem?_eq_getElem hi]; rfl
 simp -dsimp only [aqA,↓seqK,↓blkK,↓loopK,step,stepBin,eqB,Nat.add_assoc nid,simprocAttr,z0]
 refine S2.dec (fun h3=>?_) (fun h3=>?_) <;> simp -dsimp only [aqA,↓seqK,↓blkK,↓loopK,step,stepBin,eqB,Nat.add_assoc nid,simprocAttr,z0]
 ·have hkl:k<l.length:=by omega
  refine ⟨by omega,S2.intro (fun h4=>?_) (fun h4=>?_)⟩ <;> simp -dsimp only [aqA,↓seqK,↓blkK,↓loopK,step,stepBin,eqB,Nat.add_assoc nid,simprocAttr,z0]
  ·have h5:x=l.getD k 0:=by simpa using h4
   have:l.findIdx? (·==x)=some k:=by
    rw [List.findIdx?_eq_some_iff_getElem]
    refine ⟨hkl,by rw [← get k hkl,← h5]; simp,fun i hi=>?_⟩
    have:=hno i hi
    rw [get i (by omega)] at this
    simpa using this
   rw [this]
   refine RetOK.pure (.inl rfl) rfl ?_
   simp [cvT,step,res]
  ·have h5:x≠l.getD k 0:=by simpa using h4
   refine ⟨by unfold inI64; omega,k+1,⟨⟨by omega,fun i hi=>?_⟩,by omega⟩,Cov.go [] [] ?_⟩
   ·by_cases e:i=k
    ·subst e; exact fun h=>h5 h.symm
    ·exact hno i (by omega)
   ·simp [cvT,step,res,litI]
 ·have:l.findIdx? (·==x)=none:=by
   rw [List.findIdx?_eq_none_iff]
   intro y hy
   obtain ⟨i,hi,rfl⟩:=List.mem_iff_getElem.1 hy
   have:=hno i (by omega)
   rw [get i hi] at this
   simpa using this
  rw [this]
  refine RetOK.pure (.inl rfl) rfl ?_
  simp [cvT,step,res]
theorem contains_c (nl:Bool) (l:List Int) (x:Int) (nid:Nat) (hl:l.length≤1000000000):ACall Try.prog 88 [litI nl l,.int .i64 x] [] nid (.bool (l.contains x)) []:=by
 refine acall_run c88 (by simp [a88]) ?_
 simp -dsimp only [a88,aqA,↓seqK,↓blkK,↓loopK,step,stepBin,eqB,Nat.add_assoc nid,simprocAttr,z0]
 obtain ⟨r,h1,h2⟩:=index_c nl l x (nid+12) hl
 refine CallO.pure (h2) ?_
 simp -dsimp only [aqA,↓seqK,↓blkK,↓loopK,step,stepBin,eqB,Nat.add_assoc nid,simprocAttr,z0]
 have:decide (0≤r)=l.contains x:=by
  rw [Bool.eq_iff_iff]
  simp [h1]
 rw [this]
 refine RetOK.pure (.inl rfl) rfl ?_
 simp [cvT,step,res]
open Go.RowKit
def isBinV (c:Int):Bool:=(decide (48≤c) && decide (c≤57)) || (decide (97≤c) && decide (c≤122))
theorem isBin_c (c:Int) (nid:Nat):ACall Try.prog 77 [.int .u8 c] [] nid (.bool (isBinV c)) []:=by
 refine acall_run c77 (by simp [a77]) ?_
 unfold isBinV
 simp -dsimp only [a77,aqT,aqU,aqN,aqP,aqM,↓seqK,↓blkK,↓loopK,step,stepBin,eqB,Nat.reduceBEq,Nat.reduceBeqDiff,Nat.add_assoc nid,Nat.reduceAdd,reduceCtorEq,↓reduceIte,Nat.reduceLeDiff,Nat.reduceBneDiff,Option.toList,← Int.ofNat_tmod,← Int.ofNat_tdiv,Nat.reduceLT,z0]
 cases h1:decide (48≤c) <;> simp -dsimp only [aqT,aqU,aqN,aqP,aqM,↓seqK,↓blkK,↓loopK,step,stepBin,eqB,Nat.reduceBEq,Nat.reduceBeqDiff,Nat.add_assoc nid,Nat.reduceAdd,reduceCtorEq,↓reduceIte,Nat.reduceLeDiff,Nat.reduceBneDiff,Option.toList,← Int.ofNat_tmod,← Int.ofNat_tdiv,Nat.reduceLT,z0]
 ·cases h3:decide (97≤c) <;> simp -dsimp only [aqT,aqU,aqN,aqP,aqM,↓seqK,↓blkK,↓loopK,step,stepBin,eqB,Nat.reduceBEq,Nat.reduceBeqDiff,Nat.add_assoc nid,Nat.reduceAdd,reduceCtorEq,↓reduceIte,Nat.reduceLeDiff,Nat.reduceBneDiff,Option.toList,← Int.ofNat_tmod,← Int.ofNat_tdiv,Nat.reduceLT,z0]
  ·refine RetOK.pure (.inl rfl) rfl ?_
   simp [cvT,step,res,h1,h3]
  ·refine RetOK.pure (.inl rfl) rfl ?_
   simp [cvT,step,res,h1,h3]
 ·cases h2:decide (c≤57) <;> simp -dsimp only [aqT,aqU,aqN,aqP,aqM,↓seqK,↓blkK,↓loopK,step,stepBin,eqB,Nat.reduceBEq,Nat.reduceBeqDiff,Nat.add_assoc nid,Nat.reduceAdd,reduceCtorEq,↓reduceIte,Nat.reduceLeDiff,Nat.reduceBneDiff,Option.toList,← Int.ofNat_tmod,← Int.ofNat_tdiv,Nat.reduceLT,z0]
  ·cases h3:decide (97≤c) <;> simp -dsimp only [aqT,aqU,aqN,aqP,aqM,↓seqK,↓blkK,↓loopK,step,stepBin,eqB,Nat.reduceBEq,Nat.reduceBeqDiff,Nat.add_assoc nid,Nat.reduceAdd,reduceCtorEq,↓reduceIte,Nat.reduceLeDiff,Nat.reduceBneDiff,Option.toList,← Int.ofNat_tmod,← Int.ofNat_tdiv,Nat.reduceLT,z0] <;> refine RetOK.pure (.inl rfl) rfl ?_ <;> simp [cvT,step,res,h1,h2,h3]
  ·refine RetOK.pure (.inl rfl) rfl ?_
   simp [cvT,step,res,h1,h2]
theorem isPlace_c (c:Int) (nid:Nat):ACall Try.prog 99 [.int .u8 c] [] nid (.bool (isBinV c || c==46 || c==63 || c==42)) []:=by
 refine acall_run c99 (by simp [a99]) ?_
 simp -dsimp only [a99,aqT,aqU,aqN,aqP,aqM,↓seqK,↓blkK,↓loopK,step,stepBin,eqB,Nat.reduceBEq,Nat.reduceBeqDiff,Nat.add_assoc nid,Nat.reduceAdd,reduceCtorEq,↓reduceIte,Nat.reduceLeDiff,Nat.reduceBneDiff,Option.toList,← Int.ofNat_tmod,← Int.ofNat_tdiv,Nat.reduceLT,z0]
 refine CallO.pure (isBin_c _ _) ?_
 simp -dsimp only [aqT,aqU,aqN,aqP,aqM,↓seqK,↓blkK,↓loopK,step,stepBin,eqB,Nat.reduceBEq,Nat.reduceBeqDiff,Nat.add_assoc nid,Nat.reduceAdd,reduceCtorEq,↓reduceIte,Nat.reduceLeDiff,Nat.reduceBneDiff,Option.toList,← Int.ofNat_tmod,← Int.ofNat_tdiv,Nat.reduceLT,z0]
 cases h0:isBinV c <;> simp -dsimp only [aqT,aqU,aqN,aqP,aqM,↓seqK,↓blkK,↓loopK,step,stepBin,eqB,Nat.reduceBEq,Nat.reduceBeqDiff,Nat.add_assoc nid,Nat.reduceAdd,reduceCtorEq,↓reduceIte,Nat.reduceLeDiff,Nat.reduceBneDiff,Option.toList,← Int.ofNat_tmod,← Int.ofNat_tdiv,Nat.reduceLT,z0]
 ·cases h1:(c==46) <;> simp -dsimp only [aqT,aqU,aqN,aqP,aqM,↓seqK,↓blkK,↓loopK,step,stepBin,eqB,Nat.reduceBEq,Nat.reduceBeqDiff,Nat.add_assoc nid,Nat.reduceAdd,reduceCtorEq,↓reduceIte,Nat.reduceLeDiff,Nat.reduceBneDiff,Option.toList,← Int.ofNat_tmod,← Int.ofNat_tdiv,Nat.reduceLT,z0,h1]
  ·cases h2:(c==63) <;> simp -dsimp only [aqT,aqU,aqN,aqP,aqM,↓seqK,↓blkK,↓loopK,step,stepBin,eqB,Nat.reduceBEq,Nat.reduceBeqDiff,Nat.add_assoc nid,Nat.reduceAdd,reduceCtorEq,↓reduceIte,Nat.reduceLeDiff,Nat.reduceBneDiff,Option.toList,← Int.ofNat_tmod,← Int.ofNat_tdiv,Nat.reduceLT,z0,h2] <;> refine RetOK.pure (.inl rfl) rfl ?_ <;> simp [cvT,step,res,h1,h2]
  ·refine RetOK.pure (.inl rfl) rfl ?_
   simp [cvT,step,res]
 ·refine RetOK.pure (.inl rfl) rfl ?_
  simp [cvT,step,res]
theorem oddF_c (c:Int) (nid:Nat):ACall Try.prog 98 [.int .u8 c] [] nid (.bool (!(isBinV c || c==46 || c==63 || c==42))) []:=by
 refine acall_run c98 (by simp [a98]) ?_
 simp -dsimp only [a98,aqT,aqU,aqN,aqP,aqM,↓seqK,↓blkK,↓loopK,step,stepBin,eqB,Nat.reduceBEq,Nat.reduceBeqDiff,Nat.add_assoc nid,Nat.reduceAdd,reduceCtorEq,↓reduceIte,Nat.reduceLeDiff,Nat.reduceBneDiff,Option.toList,← Int.ofNat_tmod,← Int.ofNat_tdiv,Nat.reduceLT,z0]
 refine CallO.pure (isPlace_c _ _) ?_
 simp -dsimp only [aqT,aqU,aqN,aqP,aqM,↓seqK,↓blkK,↓loopK,step,stepBin,eqB,Nat.reduceBEq,Nat.reduceBeqDiff,Nat.add_assoc nid,Nat.reduceAdd,reduceCtorEq,↓reduceIte,Nat.reduceLeDiff,Nat.reduceBneDiff,Option.toList,← Int.ofNat_tmod,← Int.ofNat_tdiv,Nat.reduceLT,z0]
 refine RetOK.pure (.inl rfl) rfl ?_
 simp [cvT,step,res]
def placeB (c:Int):Bool:=isBinV c || c==46 || c==63 || c==42
theorem indexF_c (nl:Bool) (n:Nat) (g:Nat→Int) (nid:Nat) (hn:n≤1000000000) (h:∀ i,i<n→placeB (g i)=true):ACall Try.prog 74 [.lit nl n [.i .u8 g],.fn 98 []] [] nid (.int .i64 (-1)) []:=by
 refine acall_run c74 (by simp [a74]) ?_
 simp -dsimp only [a74,aqT,aqU,aqN,aqP,aqM,↓seqK,↓blkK,↓loopK,step,stepBin,eqB,Nat.reduceBEq,Nat.reduceBeqDiff,Nat.add_assoc nid,Nat.reduceAdd,reduceCtorEq,↓reduceIte,Nat.reduceLeDiff,Nat.reduceBneDiff,Option.toList,← Int.ofNat_tmod,← Int.ofNat_tdiv,Nat.reduceLT,z0]
 refine LP.mkP (fun k:Nat=>k≤n) (fun k:Nat=>⟨[(8,.int .i64 k),(7,.int .i64 n),(0,.lit nl n [.i .u8 g]),(1,.fn 98 [])],[],nid+100,nid⟩) (fun k=>n+1 - k) 0 (by omega) (Cov.go [] [] ?_) (fun k hk=>?_)
 ·simp [cvT,step,res]
 simp -dsimp only [aqT,aqU,aqN,aqP,aqM,↓seqK,↓blkK,↓loopK,step,stepBin,eqB,Nat.reduceBEq,Nat.reduceBeqDiff,Nat.add_assoc nid,Nat.reduceAdd,reduceCtorEq,↓reduceIte,Nat.reduceLeDiff,Nat.reduceBneDiff,Option.toList,← Int.ofNat_tmod,← Int.ofNat_tdiv,Nat.reduceLT,z0]
 refine S2.dec (fun h3=>?_) (fun h3=>?_) <;> simp -dsimp only [aqT,aqU,aqN,aqP,aqM,↓seqK,↓blkK,↓loopK,step,stepBin,eqB,Nat.reduceBEq,Nat.reduceBeqDiff,Nat.add_assoc nid,Nat.reduceAdd,reduceCtorEq,↓reduceIte,Nat.reduceLeDiff,Nat.reduceBneDiff,Option.toList,← Int.ofNat_tmod,← Int.ofNat_tdiv,Nat.reduceLT,z0]
 ·refine ⟨by omega,CallO.pure (oddF_c _ _) ?_⟩
  have hp:=h k (by omega)
  unfold placeB at hp
  rw [hp]
  simp -dsimp only [aqT,aqU,aqN,aqP,aqM,↓seqK,↓blkK,↓loopK,step,stepBin,eqB,Nat.reduceBEq,Nat.reduceBeqDiff,Nat.add_assoc nid,Nat.reduceAdd,reduceCtorEq,↓reduceIte,Nat.reduceLeDiff,Nat.reduceBneDiff,Option.toList,← Int.ofNat_tmod,← Int.ofNat_tdiv,Nat.reduceLT,z0]
  refine ⟨by unfold inI64; omega,k+1,⟨by omega,by omega⟩,Cov.go [] [] ?_⟩
  simp [cvT,step,res]
 ·refine RetOK.pure (.inl rfl) rfl ?_
  simp [cvT,step,res]
theorem odd_c' (s:List UInt8) (nid:Nat) (hn:s.length≤1000000000) (h:∀ i,i<s.length→placeB ((s.getD i 0).toNat:Nat)=true):ACall Try.prog 76 [.str s] [] nid (.bool false) []:=by
 have hcf:∀ nid,ACall Try.prog 36 [.lit false s.length [.i .u8 fun i=>((s.getD i 0).toNat:Nat)],.fn 98 []] [] nid (.bool false) []:=fun nid=>by
  refine acall_run c36 (by simp [a36]) ?_
  simp -dsimp only [a36,aqT,aqU,aqN,aqP,aqM,↓seqK,↓blkK,↓loopK,step,stepBin,eqB,Nat.reduceBEq,Nat.reduceBeqDiff,Nat.add_assoc nid,Nat.reduceAdd,reduceCtorEq,↓reduceIte,Nat.reduceLeDiff,Nat.reduceBneDiff,Option.toList,← Int.ofNat_tmod,← Int.ofNat_tdiv,Nat.reduceLT,z0]
  refine CallO.pure (indexF_c _ _ _ _ hn h) ?_
  simp -dsimp only [aqT,aqU,aqN,aqP,aqM,↓seqK,↓blkK,↓loopK,step,stepBin,eqB,Nat.reduceBEq,Nat.reduceBeqDiff,Nat.add_assoc nid,Nat.reduceAdd,reduceCtorEq,↓reduceIte,Nat.reduceLeDiff,Nat.reduceBneDiff,Option.toList,← Int.ofNat_tmod,← Int.ofNat_tdiv,Nat.reduceLT,z0,Int.cast_ofNat_Int,Int.reduceBEq,Int.reduceBNe,Int.reduceLT,Int.reduceLE,Int.reduceAdd,Int.reduceSub,Int.reduceMul,Int.reduceToNat,Int.reduceNeg,Int.reduceTMod,Int.reduceEq,not_false_eq_true,Int.reducePow,Int.reduceFDiv,Nat.reducePow,Nat.reduceSub,Nat.reduceMul,Nat.min_eq_left,Nat.reduceEqDiff,BEq.rfl,Int.tdiv_one,LN_succ]
  refine RetOK.pure (.inl rfl) rfl ?_
  simp [cvT,step,res]
 refine acall_run c76 (by simp [a76]) ?_
 simp -dsimp only [a76,aqT,aqU,aqN,aqP,aqM,↓seqK,↓blkK,↓loopK,step,stepBin,eqB,Nat.reduceBEq,Nat.reduceBeqDiff,Nat.add_assoc nid,Nat.reduceAdd,reduceCtorEq,↓reduceIte,Nat.reduceLeDiff,Nat.reduceBneDiff,Option.toList,← Int.ofNat_tmod,← Int.ofNat_tdiv,Nat.reduceLT,z0]
 refine CallO.pure (hcf _) ?_
 simp -dsimp only [aqT,aqU,aqN,aqP,aqM,↓seqK,↓blkK,↓loopK,step,stepBin,eqB,Nat.reduceBEq,Nat.reduceBeqDiff,Nat.add_assoc nid,Nat.reduceAdd,reduceCtorEq,↓reduceIte,Nat.reduceLeDiff,Nat.reduceBneDiff,Option.toList,← Int.ofNat_tmod,← Int.ofNat_tdiv,Nat.reduceLT,z0]
 refine RetOK.pure (.inl rfl) rfl ?_
 simp [cvT,step,res]
theorem tested_c (c:Int) (nid:Nat):ACall Try.prog 45 [.int .u8 c] [] nid (.bool (isBinV c || c==42)) []:=by
 refine acall_run c45 (by simp [a45]) ?_
 simp -dsimp only [a45,aqT,aqU,aqN,aqP,aqM,↓seqK,↓blkK,↓loopK,step,stepBin,eqB,Nat.reduceBEq,Nat.reduceBeqDiff,Nat.add_assoc nid,Nat.reduceAdd,reduceCtorEq,↓reduceIte,Nat.reduceLeDiff,Nat.reduceBneDiff,Option.toList,← Int.ofNat_tmod,← Int.ofNat_tdiv,Nat.reduceLT,z0]
 refine CallO.pure (isBin_c _ _) ?_
 cases h0:isBinV c <;> cases h1:(c==42) <;>
  simp -dsimp only [aqT,aqU,aqN,aqP,aqM,↓seqK,↓blkK,↓loopK,step,stepBin,eqB,Nat.reduceBEq,Nat.reduceBeqDiff,Nat.add_assoc nid,Nat.reduceAdd,reduceCtorEq,↓reduceIte,Nat.reduceLeDiff,Nat.reduceBneDiff,Option.toList,← Int.ofNat_tmod,← Int.ofNat_tdiv,Nat.reduceLT,z0,h0,h1] <;> refine RetOK.pure (.inl rfl) rfl ?_ <;> simp [cvT,step,res]
theorem gcd12_c (nid:Nat):ACall Try.prog 100 [.int .i64 1,.int .i64 2] [] nid (.int .i64 1) []:=by
 refine acall_run c100 (by simp [a100]) ?_
 simp -dsimp only [a100,aqT,aqU,aqN,aqP,aqM,↓seqK,↓blkK,↓loopK,step,stepBin,eqB,Nat.reduceBEq,Nat.reduceBeqDiff,Nat.add_assoc nid,Nat.reduceAdd,reduceCtorEq,↓reduceIte,Nat.reduceLeDiff,Nat.reduceBneDiff,Option.toList,← Int.ofNat_tmod,← Int.ofNat_tdiv,Nat.reduceLT,z0]
 refine LP.rounds 5 ?_
 simp -dsimp only [aqT,aqU,aqN,aqP,aqM,↓seqK,↓blkK,↓loopK,step,stepBin,eqB,Nat.reduceBEq,Nat.reduceBeqDiff,Nat.add_assoc nid,Nat.reduceAdd,reduceCtorEq,↓reduceIte,Nat.reduceLeDiff,Nat.reduceBneDiff,Option.toList,← Int.ofNat_tmod,← Int.ofNat_tdiv,Nat.reduceLT,z0,Int.cast_ofNat_Int,Int.reduceBEq,Int.reduceBNe,Int.reduceLT,Int.reduceLE,Int.reduceAdd,Int.reduceSub,Int.reduceMul,Int.reduceToNat,Int.reduceNeg,Int.reduceTMod,Int.reduceEq,not_false_eq_true,Int.reducePow,Int.reduceFDiv,Nat.reducePow,Nat.reduceSub,Nat.reduceMul,Nat.min_eq_left,Nat.reduceEqDiff,BEq.rfl,Int.tdiv_one,LN_succ]
 refine RetOK.pure (.inl rfl) rfl ?_
 simp [cvT,step,res]
theorem frac12_c (nid:Nat):ACall Try.prog 82 [.int .i64 1,.int .i64 2] [] nid (.agg [.int .i64 1,.int .i64 2]) []:=by
 refine acall_run c82 (by simp [a82]) ?_
 simp -dsimp only [a82,aqT,aqU,aqN,aqP,aqM,↓seqK,↓blkK,↓loopK,step,stepBin,eqB,Nat.reduceBEq,Nat.reduceBeqDiff,Nat.add_assoc nid,Nat.reduceAdd,reduceCtorEq,↓reduceIte,Nat.reduceLeDiff,Nat.reduceBneDiff,Option.toList,← Int.ofNat_tmod,← Int.ofNat_tdiv,Nat.reduceLT,z0,Int.cast_ofNat_Int,Int.reduceBEq,Int.reduceBNe,Int.reduceLT,Int.reduceLE,Int.reduceAdd,Int.reduceSub,Int.reduceMul,Int.reduceToNat,Int.reduceNeg,Int.reduceTMod,Int.reduceEq,not_false_eq_true,Int.reducePow,Int.reduceFDiv,Nat.reducePow,Nat.reduceSub,Nat.reduceMul,Nat.min_eq_left,Nat.reduceEqDiff,BEq.rfl,Int.tdiv_one,LN_succ]
 have hm:max (1:Int) (-1)=1:=by decide
 rw [hm]
 refine ⟨by unfold inI64; omega,CallO.pure (gcd12_c _) ?_⟩
 simp -dsimp only [aqT,aqU,aqN,aqP,aqM,↓seqK,↓blkK,↓loopK,step,stepBin,eqB,Nat.reduceBEq,Nat.reduceBeqDiff,Nat.add_assoc nid,Nat.reduceAdd,reduceCtorEq,↓reduceIte,Nat.reduceLeDiff,Nat.reduceBneDiff,Option.toList,← Int.ofNat_tmod,← Int.ofNat_tdiv,Nat.reduceLT,z0,Int.cast_ofNat_Int,Int.reduceBEq,Int.reduceBNe,Int.reduceLT,Int.reduceLE,Int.reduceAdd,Int.reduceSub,Int.reduceMul,Int.reduceToNat,Int.reduceNeg,Int.reduceTMod,Int.reduceEq,not_false_eq_true,Int.reducePow,Int.reduceFDiv,Nat.reducePow,Nat.reduceSub,Nat.reduceMul,Nat.min_eq_left,Nat.reduceEqDiff,BEq.rfl,Int.tdiv_one,LN_succ]
 have h1:IntKind.i64.wrap 1=1:=by decide
 have h2:IntKind.i64.wrap 2=2:=by decide
 rw [h1,h2]
 refine RetOK.go [] [] (.inl rfl) ?_
 simp [a82,cvT,step,res]
theorem indexBS_c (s:List UInt8) (c:Int) (nid:Nat):ACall Try.prog 114 [.str s,.int .u8 c] [] nid (.int .i64 (Lib.indexByte s c.toNat.toUInt8)) []:=by
 intro C vs hb hl hr hs
 obtain ⟨v0,v1,rfl⟩:∃ a b,vs=[a,b]:=by
  rcases vs with _ | ⟨a,_ | ⟨b,_ | ⟨c,r⟩⟩⟩
  ·simp at hl
  ·simp at hl
  ·exact ⟨a,b,rfl⟩
  ·simp at hl
 have r0:=(hr 0 _ v0 rfl rfl).str_inv
 have r1:=(hr 1 _ v1 rfl rfl).int_inv
 subst r0; subst r1
 refine .inr ⟨.int .i64 (Lib.indexByte s c.toNat.toUInt8),C.w0,?_,C.Y0,C.m0,.int,by simpa using hs.next (show nid≤nid+4 by omega),Ev.refl _ _ _⟩
 rw [run_callFunc_extern (P:=Try.prog) (f:=114) (fn:=Try.f114) (e:=Extern.BytealgIndexByte.indexByte) Try.func114 (by kernel_rfl) (by kernel_rfl) (by kernel_rfl) (by kernel_rfl)]
 have h:=Lib.run_indexByteString (P:=Try.prog) ⟨s.toArray⟩ c C.w0
 show ((Extern.BytealgIndexByte.indexByte #[.string ⟨s.toArray⟩,.int .u8 c]).run Try.prog C.w0).andThen _=_
 rw [h]
 rfl
theorem indexB_c (s:List UInt8) (c:Int) (nid:Nat):ACall Try.prog 75 [.str s,.int .u8 c] [] nid (.int .i64 (Lib.indexByte s c.toNat.toUInt8)) []:=by
 have h1:∀ nid,ACall Try.prog 97 [.str s,.int .u8 c] [] nid (.int .i64 (Lib.indexByte s c.toNat.toUInt8)) []:=fun nid=>by
  refine acall_run c97 (by simp [a97]) ?_
  simp -dsimp only [a97,aqT,aqU,aqN,aqP,aqM,↓seqK,↓blkK,↓loopK,step,stepBin,eqB,Nat.reduceBEq,Nat.reduceBeqDiff,Nat.add_assoc nid,Nat.reduceAdd,reduceCtorEq,↓reduceIte,Nat.reduceLeDiff,Nat.reduceBneDiff,Option.toList,← Int.ofNat_tmod,← Int.ofNat_tdiv,Nat.reduceLT,z0]
  refine CallO.pure (indexBS_c s c _) ?_
  simp -dsimp only [aqT,aqU,aqN,aqP,aqM,↓seqK,↓blkK,↓loopK,step,stepBin,eqB,Nat.reduceBEq,Nat.reduceBeqDiff,Nat.add_assoc nid,Nat.reduceAdd,reduceCtorEq,↓reduceIte,Nat.reduceLeDiff,Nat.reduceBneDiff,Option.toList,← Int.ofNat_tmod,← Int.ofNat_tdiv,Nat.reduceLT,z0]
  refine RetOK.pure (.inl rfl) rfl ?_
  simp [cvT,step,res]
 refine acall_run c75 (by simp [a75]) ?_
 simp -dsimp only [a75,aqT,aqU,aqN,aqP,aqM,↓seqK,↓blkK,↓loopK,step,stepBin,eqB,Nat.reduceBEq,Nat.reduceBeqDiff,Nat.add_assoc nid,Nat.reduceAdd,reduceCtorEq,↓reduceIte,Nat.reduceLeDiff,Nat.reduceBneDiff,Option.toList,← Int.ofNat_tmod,← Int.ofNat_tdiv,Nat.reduceLT,z0]
 refine CallO.pure (h1 _) ?_
 simp -dsimp only [aqT,aqU,aqN,aqP,aqM,↓seqK,↓blkK,↓loopK,step,stepBin,eqB,Nat.reduceBEq,Nat.reduceBeqDiff,Nat.add_assoc nid,Nat.reduceAdd,reduceCtorEq,↓reduceIte,Nat.reduceLeDiff,Nat.reduceBneDiff,Option.toList,← Int.ofNat_tmod,← Int.ofNat_tdiv,Nat.reduceLT,z0]
 refine RetOK.pure (.inl rfl) rfl ?_
 simp [cvT,step,res]
def passedV (pass:List UInt8) (c:Int):Bool:=isBinV c && decide (0≤Lib.indexByte pass c.toNat.toUInt8)
theorem passed_c (rows:PV) (pass:List UInt8) (c:Int) (nid:Nat) (nl:Bool) (n:Nat) (cols:List Col) (hr:rows=.lit nl n cols):ACall Try.prog 65 [.agg [rows,.str pass],.int .u8 c] [] nid (.bool (passedV pass c)) []:=by
 subst hr
 refine acall_run c65 (by simp [a65]) ?_
 simp -dsimp only [a65,aqT,aqU,aqN,aqP,aqM,↓seqK,↓blkK,↓loopK,step,stepBin,eqB,Nat.reduceBEq,Nat.reduceBeqDiff,Nat.add_assoc nid,Nat.reduceAdd,reduceCtorEq,↓reduceIte,Nat.reduceLeDiff,Nat.reduceBneDiff,Option.toList,← Int.ofNat_tmod,← Int.ofNat_tdiv,Nat.reduceLT,z0]
 refine CallO.pure (isBin_c _ _) ?_
 unfold passedV
 simp -dsimp only [aqT,aqU,aqN,aqP,aqM,↓seqK,↓blkK,↓loopK,step,stepBin,eqB,Nat.reduceBEq,Nat.reduceBeqDiff,Nat.add_assoc nid,Nat.reduceAdd,reduceCtorEq,↓reduceIte,Nat.reduceLeDiff,Nat.reduceBneDiff,Option.toList,← Int.ofNat_tmod,← Int.ofNat_tdiv,Nat.reduceLT,z0]
 cases h0:isBinV c <;> simp -dsimp only [aqT,aqU,aqN,aqP,aqM,↓seqK,↓blkK,↓loopK,step,stepBin,eqB,Nat.reduceBEq,Nat.reduceBeqDiff,Nat.add_assoc nid,Nat.reduceAdd,reduceCtorEq,↓reduceIte,Nat.reduceLeDiff,Nat.reduceBneDiff,Option.toList,← Int.ofNat_tmod,← Int.ofNat_tdiv,Nat.reduceLT,z0]
 ·refine RetOK.pure (.inl rfl) rfl ?_
  simp [cvT,step,res]
 ·refine CallO.pure (indexB_c _ _ _) ?_
  simp -dsimp only [aqT,aqU,aqN,aqP,aqM,↓seqK,↓blkK,↓loopK,step,stepBin,eqB,Nat.reduceBEq,Nat.reduceBeqDiff,Nat.add_assoc nid,Nat.reduceAdd,reduceCtorEq,↓reduceIte,Nat.reduceLeDiff,Nat.reduceBneDiff,Option.toList,← Int.ofNat_tmod,← Int.ofNat_tdiv,Nat.reduceLT,z0]
  refine RetOK.pure (.inl rfl) rfl ?_
  simp [cvT,step,res]
structure Waf where
 rows:List (List UInt8)
 pass:List UInt8
deriving DecidableEq
def byteI (b:UInt8):Int:=(b.toNat:Nat)
def wideOf (W:Waf):Nat:=(W.rows.getD 0 []).length
def dieV (W:Waf) (x y:Int):Int:=if outB y 0 ((W.rows.length:Int) - 1)=true then 46 else if outB x 0 ((wideOf W:Int) - 1)=true then 46 else byteI ((W.rows.getD y.toNat []).getD x.toNat 0)
def oddB (r:List UInt8):Bool:=r.any fun c=>!placeB (byteI c)
def rowBad (wide:Nat) (r:List UInt8):Int:=if r=[] then 8 else if 60<r.length then 2 else if r.length≠wide then 3 else if oddB r=true then 9 else 0
def passBad (p:List UInt8) (i:Nat):Int:=if isBinV (byteI (p.getD i 0))=false then 9 else if 0<i∧byteI (p.getD i 0)≤byteI (p.getD (i - 1) 0) then 7 else 0
def passV (p:List UInt8):Int:=firstBad (passBad p) (List.range p.length)
def waferV (W:Waf):Int:=if W.rows.length=0 then 8 else if 60<W.rows.length then 2 else if firstBad (rowBad (wideOf W)) W.rows≠0 then firstBad (rowBad (wideOf W)) W.rows else passV W.pass
structure WafOk (W:Waf):Prop where
 pos:0<W.rows.length
 len:W.rows.length≤60
 row:∀ r∈W.rows,r≠[]∧r.length≤60∧r.length=wideOf W∧oddB r=false
 bins:∀ b∈W.pass,isBinV (byteI b)=true
theorem waferV_ok {W:Waf} (h:waferV W=0):WafOk W:=by
 unfold waferV at h
 split at h; · cases h
 split at h; · cases h
 split at h; · contradiction
 rename_i h1 h2 h3
 have h3':firstBad (rowBad (wideOf W)) W.rows=0:=by simpa using h3
 refine ⟨by omega,by omega,fun r hr=>?_,fun b hb=>?_⟩
 ·have:=firstBad_all h3' r hr
  unfold rowBad at this
  split at this; · cases this
  split at this; · cases this
  split at this; · cases this
  split at this; · cases this
  rename_i a1 a2 a3 a4
  exact ⟨a1,by omega,by omega,by simpa using a4⟩
 ·obtain ⟨i,hi,rfl⟩:=List.getElem_of_mem hb
  have:=firstBad_all (f:=passBad W.pass) h i (List.mem_range.2 hi)
  unfold passBad at this
  split at this; · cases this
  rename_i a1
  rw [List.getD_eq_getElem?_getD,List.getElem?_eq_getElem hi] at a1
  simpa using a1
theorem WafOk.wide {W:Waf} (h:WafOk W):0<wideOf W∧wideOf W≤60:=by
 have hm:W.rows.getD 0 []∈W.rows:=by
  rw [List.getD_eq_getElem?_getD,List.getElem?_eq_getElem h.pos]; exact List.getElem_mem _
 obtain ⟨h1,h2,h3,_⟩:=h.row _ hm
 have:0<(W.rows.getD 0 []).length:=List.length_pos_iff.2 h1
 exact ⟨this,h2⟩
theorem WafOk.at {W:Waf} (h:WafOk W) {y:Nat} (hy:y<W.rows.length):(W.rows.getD y []).length=wideOf W∧oddB (W.rows.getD y [])=false:=by
 have hm:W.rows.getD y []∈W.rows:=by
  rw [List.getD_eq_getElem?_getD,List.getElem?_eq_getElem hy]; exact List.getElem_mem _
 exact (h.row _ hm).2.2
def rowPl (y n:Nat):List Pt:=(List.range n).map fun x=>(((x:Nat):Int),((y:Nat):Int))
def plTo (W:Waf) (y:Nat):List Pt:=(List.range y).flatMap fun y=>rowPl y (W.rows.getD y []).length
def plV (W:Waf):List Pt:=plTo W W.rows.length
theorem rowPl_len (y n:Nat):(rowPl y n).length=n:=by simp [rowPl]
theorem rowPl_succ (y n:Nat):rowPl y (n+1)=rowPl y n++[((n:Int),(y:Int))]:=by simp [rowPl,List.range_succ]
theorem plTo_succ (W:Waf) (y:Nat):plTo W (y+1)=plTo W y++rowPl y (W.rows.getD y []).length:=by simp [plTo,List.range_succ]
theorem plTo_len {W:Waf} (h:∀ r∈W.rows,r.length≤1000):∀ y,y≤W.rows.length→(plTo W y).length≤1000 * y
 | 0,_=>by simp [plTo]
 | y+1,hy=>by
  have:=plTo_len h y (by omega)
  have hm:W.rows.getD y []∈W.rows:=by
   rw [List.getD_eq_getElem?_getD,List.getElem?_eq_getElem (by omega:y<W.rows.length)]; exact List.getElem_mem _
  have:=h _ hm
  rw [plTo_succ,List.length_append,rowPl_len]
  omega
theorem plV_mem {W:Waf} {p:Pt} (h:p∈plV W):∃ x y:Nat,p=((x:Int),(y:Int))∧y<W.rows.length∧x<(W.rows.getD y []).length:=by
 unfold plV plTo rowPl at h
 rw [List.mem_flatMap] at h
 obtain ⟨y,hy,h⟩:=h
 rw [List.mem_map] at h
 obtain ⟨x,hx,rfl⟩:=h
 exact ⟨x,y,rfl,List.mem_range.1 hy,List.mem_range.1 hx⟩
theorem dieV_in {W:Waf} {x y:Nat} (hy:y<W.rows.length) (hx:x<wideOf W):dieV W (x:Int) (y:Int)=byteI ((W.rows.getD y []).getD x 0):=by
 unfold dieV outB
 rw [if_neg (by simp; omega),if_neg (by simp; omega),Int.toNat_natCast,Int.toNat_natCast]
def binsL:List UInt8:=[48,49,50,51,52,53,54,55,56,57,97,98,99,100,101,102,103,104,105,106,107,108,109,110,111,112,113,114,115,116,117,118,119,120,121,122]
theorem bins_all:((List.range 256).all fun n=>decide (0≤Lib.indexByte binsL n.toUInt8)==isBinV (n:Int))=true:=by kernel_rfl
theorem bins_ok (n:Nat) (hn:n<256):decide (0≤Lib.indexByte binsL n.toUInt8)=isBinV (n:Int):=by
 have:=List.all_eq_true.1 bins_all n (List.mem_range.2 hn)
 exact beq_iff_eq.1 this
def failedV (pass:List UInt8) (c:Int):Bool:=isBinV c && !passedV pass c
open Go.RowKit
theorem some_c (s nid:Nat) (nl nl':Bool) (A:List Int) (p:Nat) (n:Nat) (g:Nat→List UInt8) (h:s<nid) (hp:p≤1099511627775) (hA:A.length≤17592186044416) (h1:0<n) (hn:n≤1099511627776) :
  ACall Try.prog 8 [.ptr s 0,.lit nl' n [.s g]] [(s,strmC nl A p)] nid (.str (g (pickI A p n))) [(s,strmC nl A (p+1))]:=by
 obtain ⟨e1,e2,e3,e4,e5,e6,e7,e8,e9⟩:=id_all h
 refine acall_run c8 (by simp [a8]) ?_
 simp -dsimp only [aqA,↓seqK,↓blkK,↓loopK,step,stepBin,eqB,Nat.add_assoc nid,simprocAttr,z0,e1,e2,e3,e4,e5,e6,e7,e8,e9,a8]
 refine CallO.on (next_c _ _ _ _ _ _ (by omega) hp hA (by omega)) (subH_hit _ _ _) ?_
 simp -dsimp only [aqA,↓seqK,↓blkK,↓loopK,step,stepBin,eqB,Nat.add_assoc nid,simprocAttr,z0,e1,e2,e3,e4,e5,e6,e7,e8,e9]
 have:=nextV_bd A p (n:=(n:Int)) (by omega)
 refine ⟨this,RetOK.same (.inl rfl) rfl (by simp [strmC,liveIds]; omega) ?_ ?_⟩
 ·simp [cvT,step,res,strmC]
 ·simp [cvT,step,res,pickI]
theorem CallX.some_go {s id nid:Nat} {nl:Bool} {A:List Int} {p:Nat} {n T:Nat} {g:Nat→List UInt8} {H:Heap} {K:PV→Heap→List Nat→Prop} (hs:getH H s=strmC nl A p) (hid:getH H id=some (.arr T n [.s g])) (hne:(s==id)=false) (h:s<nid) (hp:p≤1099511627775) (hA:A.length≤17592186044416) (h1:0<n) (hn:n≤1099511627776)
  (hK:K (.str (g (pickI A p n))) [(s,strmC nl A (p+1)),(id,none)] [s,id]):CallX Try.prog 8 [.ptr s 0,.sl id 0 n] H nid K:=by
 refine CallX.given [id] (u:=[(s,strmC nl A (p+1))]) (fun nl'=>?_) (subH_get hs) (by simp [getH,hne]) hK
 have e:lends H [id] nl' [.ptr s 0,.sl id 0 n]=[.ptr s 0,.lit (nl' id) n [.s g]]:=by simp [lends,lend,hid,noOs]
 rw [e]
 exact some_c s _ nl _ A p n _ h hp hA h1 hn
theorem CallO.some_go {s id nid:Nat} {nl:Bool} {A:List Int} {p:Nat} {n T:Nat} {g:Nat→List UInt8} {H:Heap} {K:PV→Heap→Prop} (hs:getH H s=strmC nl A p) (hid:getH H id=some (.arr T n [.s g])) (hne:(s==id)=false) (h:s<nid) (hp:p≤1099511627775) (hA:A.length≤17592186044416) (h1:0<n) (hn:n≤1099511627776)
  (hK:K (.str (g (pickI A p n))) [(s,strmC nl A (p+1)),(id,none)]):CallOK Try.prog 8 [.ptr s 0,.sl id 0 n] H nid K :=
 CallO.x (CallX.some_go hs hid hne h hp hA h1 hn hK)
theorem getD_all {α:Type} {P:α→Prop} {l:List α} {d:α} (h:∀ x∈l,P x) {i:Nat} (hi:i<l.length):P (l.getD i d):=by
 rw [List.getD_eq_getElem?_getD,List.getElem?_eq_getElem hi]
 exact h _ (List.getElem_mem _)
open Go.RowKit
theorem any_range {s:List UInt8} {F:UInt8→Bool}:(List.range s.length).any (fun i=>F (s.getD i 0))=s.any F:=by
 rw [Bool.eq_iff_iff,List.any_eq_true,List.any_eq_true]
 constructor
 ·rintro ⟨i,hi,h⟩
  have hi':=List.mem_range.1 hi
  refine ⟨s[i],List.getElem_mem _,?_⟩
  rwa [List.getD_eq_getElem?_getD,List.getElem?_eq_getElem hi'] at h
 ·rintro ⟨x,hx,h⟩
  obtain ⟨i,hi,rfl⟩:=List.getElem_of_mem hx
  refine ⟨i,List.mem_range.2 hi,?_⟩
  rw [List.getD_eq_getElem?_getD,List.getElem?_eq_getElem hi]
  exact h
theorem indexFB (f:Nat) (F:UInt8→Bool) (hf:∀ (b:UInt8) nid,ACall Try.prog f [.int .u8 ((b.toNat:Nat))] [] nid (.bool (F b)) []) (nl:Bool) (n:Nat) (g:Nat→UInt8) (nid:Nat) (hn:n≤1000000000) :
  ∃ r:Int,(-1≤r∧(0≤r↔(List.range n).any (fun i=>F (g i))=true))∧ACall Try.prog 74 [.lit nl n [.i .u8 fun i=>((g i).toNat:Nat)],.fn f []] [] nid (.int .i64 r) []:=by
 refine acall_ex c74 (by simp [a74]) ?_
 simp -dsimp only [aqT0,ROp0,aqA,↓seqK,↓blkK,↓loopK,step,stepBin,eqB,Nat.add_assoc nid,simprocAttr,z0,Int.cast_ofNat_Int,Int.reduceBEq,Int.reduceBNe,Int.reduceLT,Int.reduceLE,Int.reduceAdd,Int.reduceSub,Int.reduceMul,Int.reduceToNat,Int.reduceNeg,Int.reduceTMod,Int.reduceEq,not_false_eq_true,Int.reducePow,Int.reduceFDiv,Nat.reducePow,Nat.reduceSub,Nat.reduceMul,Nat.min_eq_left,Nat.reduceEqDiff,BEq.rfl,Int.tdiv_one,LN_succ,a74]
 refine LP0.mkP (fun k:Nat=>k≤n∧∀ j,j<k→F (g j)=false) (fun k:Nat=>⟨[(8,.int .i64 k),(7,.int .i64 n),(0,.lit nl n [.i .u8 fun i=>((g i).toNat:Nat)]),(1,.fn f [])],[],nid+100,nid⟩) (fun k=>n+1 - k) 0 ⟨by omega,fun j hj=>by omega⟩ (Cov.go [] [] ?_) (fun k hk=>?_)
 ·simp [cvT,step,res]
 obtain ⟨hk,hall⟩:=hk
 simp -dsimp only [aqT0,ROp0,aqA,↓seqK,↓blkK,↓loopK,step,stepBin,eqB,Nat.add_assoc nid,simprocAttr,z0,Int.cast_ofNat_Int,Int.reduceBEq,Int.reduceBNe,Int.reduceLT,Int.reduceLE,Int.reduceAdd,Int.reduceSub,Int.reduceMul,Int.reduceToNat,Int.reduceNeg,Int.reduceTMod,Int.reduceEq,not_false_eq_true,Int.reducePow,Int.reduceFDiv,Nat.reducePow,Nat.reduceSub,Nat.reduceMul,Nat.min_eq_left,Nat.reduceEqDiff,BEq.rfl,Int.tdiv_one,LN_succ]
 refine S2.dec (fun h3=>?_) (fun h3=>?_) <;> simp -dsimp only [aqT0,ROp0,aqA,↓seqK,↓blkK,↓loopK,step,stepBin,eqB,Nat.add_assoc nid,simprocAttr,z0,Int.cast_ofNat_Int,Int.reduceBEq,Int.reduceBNe,Int.reduceLT,Int.reduceLE,Int.reduceAdd,Int.reduceSub,Int.reduceMul,Int.reduceToNat,Int.reduceNeg,Int.reduceTMod,Int.reduceEq,not_false_eq_true,Int.reducePow,Int.reduceFDiv,Nat.reducePow,Nat.reduceSub,Nat.reduceMul,Nat.min_eq_left,Nat.reduceEqDiff,BEq.rfl,Int.tdiv_one,LN_succ]
 ·have hkl:k<n:=by omega
  refine ⟨by omega,CallX.pure (hf _ _) ?_⟩
  simp -dsimp only [aqT0,ROp0,aqA,↓seqK,↓blkK,↓loopK,step,stepBin,eqB,Nat.add_assoc nid,simprocAttr,z0,Int.cast_ofNat_Int,Int.reduceBEq,Int.reduceBNe,Int.reduceLT,Int.reduceLE,Int.reduceAdd,Int.reduceSub,Int.reduceMul,Int.reduceToNat,Int.reduceNeg,Int.reduceTMod,Int.reduceEq,not_false_eq_true,Int.reducePow,Int.reduceFDiv,Nat.reducePow,Nat.reduceSub,Nat.reduceMul,Nat.min_eq_left,Nat.reduceEqDiff,BEq.rfl,Int.tdiv_one,LN_succ]
  refine S2.intro (fun h4=>?_) (fun h4=>?_) <;> simp -dsimp only [aqT0,ROp0,aqA,↓seqK,↓blkK,↓loopK,step,stepBin,eqB,Nat.add_assoc nid,simprocAttr,z0,Int.cast_ofNat_Int,Int.reduceBEq,Int.reduceBNe,Int.reduceLT,Int.reduceLE,Int.reduceAdd,Int.reduceSub,Int.reduceMul,Int.reduceToNat,Int.reduceNeg,Int.reduceTMod,Int.reduceEq,not_false_eq_true,Int.reducePow,Int.reduceFDiv,Nat.reducePow,Nat.reduceSub,Nat.reduceMul,Nat.min_eq_left,Nat.reduceEqDiff,BEq.rfl,Int.tdiv_one,LN_succ]
  ·refine EndOK.mk (k:Int) ⟨by omega,⟨fun _=>List.any_eq_true.2 ⟨k,List.mem_range.2 hkl,h4⟩,fun _=>by omega⟩⟩ ?_
   refine RetOK.pure (.inl rfl) rfl ?_
   simp [cvT,step,res]
  ·refine ⟨by unfold inI64; omega,k+1,⟨⟨by omega,fun j hj=>?_⟩,by omega⟩,Cov.go [] [] ?_⟩
   ·rcases (by omega:j<k∨j=k) with hj | hj
    ·exact hall j hj
    ·rw [hj]; exact h4
   ·simp [cvT,step,res]
 ·have hkn:k=n:=by omega
  subst hkn
  refine EndOK.mk (-1:Int) ⟨by omega,⟨fun h=>by omega,fun h=>?_⟩⟩ ?_
  ·obtain ⟨i,hi,h⟩:=List.any_eq_true.1 h
   rw [hall i (List.mem_range.1 hi)] at h
   cases h
  ·refine RetOK.pure (.inl rfl) rfl ?_
   simp [cvT,step,res]
theorem containsFB (f:Nat) (F:UInt8→Bool) (hf:∀ (b:UInt8) nid,ACall Try.prog f [.int .u8 ((b.toNat:Nat))] [] nid (.bool (F b)) []) (nl:Bool) (n:Nat) (g:Nat→UInt8) (nid:Nat) (hn:n≤1000000000) :
  ACall Try.prog 36 [.lit nl n [.i .u8 fun i=>((g i).toNat:Nat)],.fn f []] [] nid (.bool ((List.range n).any (fun i=>F (g i)))) []:=by
 refine acall_run c36 (by simp [a36]) ?_
 simp -dsimp only [aqA,↓seqK,↓blkK,↓loopK,step,stepBin,eqB,Nat.add_assoc nid,simprocAttr,z0,a36]
 refine CallO.onE (Hs:=[]) (indexFB f F hf nl n g _ hn) (subH_nil _) (fun r hr=>?_)
 simp -dsimp only [aqA,↓seqK,↓blkK,↓loopK,step,stepBin,eqB,Nat.add_assoc nid,simprocAttr,z0,Int.cast_ofNat_Int,Int.reduceBEq,Int.reduceBNe,Int.reduceLT,Int.reduceLE,Int.reduceAdd,Int.reduceSub,Int.reduceMul,Int.reduceToNat,Int.reduceNeg,Int.reduceTMod,Int.reduceEq,not_false_eq_true,Int.reducePow,Int.reduceFDiv,Nat.reducePow,Nat.reduceSub,Nat.reduceMul,Nat.min_eq_left,Nat.reduceEqDiff,BEq.rfl,Int.tdiv_one,LN_succ]
 have e:decide (0≤r)=(List.range n).any (fun i=>F (g i)):=by
  rw [Bool.eq_iff_iff,decide_eq_true_eq]; exact hr.2
 rw [e]
 refine RetOK.pure (.inl rfl) rfl ?_
 simp [cvT,step,res]
theorem isDie_c (n:Nat) (hn:n<256) (nid:Nat):ACall Try.prog 38 [.int .u8 (n:Nat)] [] nid (.bool (placeB (n:Nat))) []:=by
 refine acall_run c38 (by simp [a38]) ?_
 simp -dsimp only [aqA,↓seqK,↓blkK,↓loopK,step,stepBin,eqB,Nat.add_assoc nid,simprocAttr,z0,a38]
 refine CallO.pure (indexB_c binsL (n:Nat) _) ?_
 have hb:=bins_ok n hn
 rw [Int.toNat_natCast]
 simp -dsimp only [aqA,↓seqK,↓blkK,↓loopK,step,stepBin,eqB,Nat.add_assoc nid,simprocAttr,z0,hb]
 unfold placeB
 cases h0:isBinV (n:Nat) <;> simp -dsimp only [aqA,↓seqK,↓blkK,↓loopK,step,stepBin,eqB,Nat.add_assoc nid,simprocAttr,z0]
 ·cases h1:(((n:Nat):Int)==46) <;> simp -dsimp only [aqA,↓seqK,↓blkK,↓loopK,step,stepBin,eqB,Nat.add_assoc nid,simprocAttr,z0,h1]
  ·cases h2:(((n:Nat):Int)==63) <;> simp -dsimp only [aqA,↓seqK,↓blkK,↓loopK,step,stepBin,eqB,Nat.add_assoc nid,simprocAttr,z0,h2] <;> refine RetOK.pure (.inl rfl) rfl ?_ <;> simp [cvT,step,res,h1,h2]
  ·refine RetOK.pure (.inl rfl) rfl ?_
   simp [cvT,step,res]
 ·refine RetOK.pure (.inl rfl) rfl ?_
  simp [cvT,step,res]
def wafP (nl:Bool) (W:Waf):PV:=.agg [.lit nl W.rows.length [.s fun i=>W.rows.getD i []],.str W.pass]
theorem odd_c2 (s:List UInt8) (nid:Nat) (hs:s.length≤1000000000):ACall Try.prog 76 [.str s] [] nid (.bool (oddB s)) []:=by
 refine acall_run c76 (by simp [a76]) ?_
 simp -dsimp only [aqA,↓seqK,↓blkK,↓loopK,step,stepBin,eqB,Nat.add_assoc nid,simprocAttr,z0,a76]
 refine CallO.pure (containsFB 98 (fun c=>!placeB (byteI c)) (fun c nid=>oddF_c _ nid) false s.length (fun i=>s.getD i 0) _ hs) ?_
 have e:(List.range s.length).any (fun i=>!placeB (byteI (s.getD i 0)))=oddB s:=any_range (F:=fun c=>!placeB (byteI c))
 rw [e]
 simp -dsimp only [aqA,↓seqK,↓blkK,↓loopK,step,stepBin,eqB,Nat.add_assoc nid,simprocAttr,z0,Int.cast_ofNat_Int,Int.reduceBEq,Int.reduceBNe,Int.reduceLT,Int.reduceLE,Int.reduceAdd,Int.reduceSub,Int.reduceMul,Int.reduceToNat,Int.reduceNeg,Int.reduceTMod,Int.reduceEq,not_false_eq_true,Int.reducePow,Int.reduceFDiv,Nat.reducePow,Nat.reduceSub,Nat.reduceMul,Nat.min_eq_left,Nat.reduceEqDiff,BEq.rfl,Int.tdiv_one,LN_succ]
 refine RetOK.pure (.inl rfl) rfl ?_
 simp [cvT,step,res]
structure WafBd (W:Waf):Prop where
 rows:W.rows.length≤1000000
 row:∀ r∈W.rows,r.length≤1000000
 pass:W.pass.length≤1000000
theorem WafBd.at {W:Waf} (h:WafBd W) (k:Nat):(W.rows.getD k []).length≤1000000:=by
 rw [List.getD_eq_getElem?_getD]
 cases hg:W.rows[k]? with
 | none=>simp
 | some x=>exact h.row x (List.mem_of_getElem? hg)
theorem waferV_row {W:Waf} (h0:W.rows.length≠0) (h1:W.rows.length≤60) {e:Int} (h:firstBad (rowBad (wideOf W)) W.rows=e) (he:e≠0):waferV W=e:=by
 unfold waferV; rw [if_neg h0,if_neg (by omega),h,if_pos he]
theorem waferV_pass {W:Waf} (h0:W.rows.length≠0) (h1:W.rows.length≤60) (h:firstBad (rowBad (wideOf W)) W.rows=0):waferV W=passV W.pass:=by
 unfold waferV; rw [if_neg h0,if_neg (by omega),h,if_neg (by simp)]
set_option maxHeartbeats 4000000 in
theorem checkWafer_all (nl:Bool) (W:Waf) (nid:Nat) (hW:WafBd W):ACall Try.prog 40 [wafP nl W] [] nid (.int .i64 (waferV W)) []:=by
 have hR:=hW.rows
 have hP:=hW.pass
 refine acall_run c40 (by simp [a40]) ?_
 unfold wafP
 simp -dsimp only [a40,aqA,↓seqK,↓blkK,↓loopK,step,stepBin,eqB,Nat.add_assoc nid,simprocAttr,z0,Int.cast_ofNat_Int,Int.reduceBEq,Int.reduceBNe,Int.reduceLT,Int.reduceLE,Int.reduceAdd,Int.reduceSub,Int.reduceMul,Int.reduceToNat,Int.reduceNeg,Int.reduceTMod,Int.reduceEq,not_false_eq_true,Int.reducePow,Int.reduceFDiv,Nat.reducePow,Nat.reduceSub,Nat.reduceMul,Nat.min_eq_left,Nat.reduceEqDiff,BEq.rfl,Int.tdiv_one,LN_succ]
 refine S2.intro (fun h0=>?_) (fun h0=>?_) <;> simp -dsimp only [aqA,↓seqK,↓blkK,↓loopK,step,stepBin,eqB,Nat.add_assoc nid,simprocAttr,z0,Int.cast_ofNat_Int,Int.reduceBEq,Int.reduceBNe,Int.reduceLT,Int.reduceLE,Int.reduceAdd,Int.reduceSub,Int.reduceMul,Int.reduceToNat,Int.reduceNeg,Int.reduceTMod,Int.reduceEq,not_false_eq_true,Int.reducePow,Int.reduceFDiv,Nat.reducePow,Nat.reduceSub,Nat.reduceMul,Nat.min_eq_left,Nat.reduceEqDiff,BEq.rfl,Int.tdiv_one,LN_succ]
 ·have e:waferV W=8:=by unfold waferV; rw [if_pos (by simpa using h0)]
  rw [e]
  refine RetOK.pure (.inl rfl) rfl ?_
  simp [cvT,step,res]
 have h0':W.rows.length≠0:=by simpa using h0
 refine S2.dec (fun h1=>?_) (fun h1=>?_) <;> simp -dsimp only [aqA,↓seqK,↓blkK,↓loopK,step,stepBin,eqB,Nat.add_assoc nid,simprocAttr,z0,Int.cast_ofNat_Int,Int.reduceBEq,Int.reduceBNe,Int.reduceLT,Int.reduceLE,Int.reduceAdd,Int.reduceSub,Int.reduceMul,Int.reduceToNat,Int.reduceNeg,Int.reduceTMod,Int.reduceEq,not_false_eq_true,Int.reducePow,Int.reduceFDiv,Nat.reducePow,Nat.reduceSub,Nat.reduceMul,Nat.min_eq_left,Nat.reduceEqDiff,BEq.rfl,Int.tdiv_one,LN_succ]
 ·have e:waferV W=2:=by unfold waferV; rw [if_neg h0',if_pos (by omega)]
  rw [e]
  refine RetOK.pure (.inl rfl) rfl ?_
  simp [cvT,step,res]
 have h1':W.rows.length≤60:=by omega
 refine LP.mkP (fun k:Nat=>k≤W.rows.length∧firstBad (rowBad (wideOf W)) (W.rows.take k)=0) (fun k:Nat=>⟨[(19,.int .i64 k),(18,.int .i64 W.rows.length),(17,.lit nl W.rows.length [.s fun i=>W.rows.getD i []]),(1,.ptr nid 0)],[(nid,some (.box 28 [.lit nl W.rows.length [.s fun i=>W.rows.getD i []],.str W.pass]))],nid+100,nid⟩) (fun k=>W.rows.length+1 - k) 0 ⟨by omega,rfl⟩ (Cov.go [] [] ?_) (fun k hk=>?_)
 ·simp [cvT,step,res]
 obtain ⟨hk,hb⟩:=hk
 simp -dsimp only [aqA,↓seqK,↓blkK,↓loopK,step,stepBin,eqB,Nat.add_assoc nid,simprocAttr,z0,Int.cast_ofNat_Int,Int.reduceBEq,Int.reduceBNe,Int.reduceLT,Int.reduceLE,Int.reduceAdd,Int.reduceSub,Int.reduceMul,Int.reduceToNat,Int.reduceNeg,Int.reduceTMod,Int.reduceEq,not_false_eq_true,Int.reducePow,Int.reduceFDiv,Nat.reducePow,Nat.reduceSub,Nat.reduceMul,Nat.min_eq_left,Nat.reduceEqDiff,BEq.rfl,Int.tdiv_one,LN_succ]
 refine S2.dec (fun h2=>?_) (fun h2=>?_) <;> simp -dsimp only [aqA,↓seqK,↓blkK,↓loopK,step,stepBin,eqB,Nat.add_assoc nid,simprocAttr,z0,Int.cast_ofNat_Int,Int.reduceBEq,Int.reduceBNe,Int.reduceLT,Int.reduceLE,Int.reduceAdd,Int.reduceSub,Int.reduceMul,Int.reduceToNat,Int.reduceNeg,Int.reduceTMod,Int.reduceEq,not_false_eq_true,Int.reducePow,Int.reduceFDiv,Nat.reducePow,Nat.reduceSub,Nat.reduceMul,Nat.min_eq_left,Nat.reduceEqDiff,BEq.rfl,Int.tdiv_one,LN_succ]
 ·have hkl:k<W.rows.length:=by omega
  obtain ⟨bad,good⟩:=rowsFB (d:=[]) hkl hb
  have hrl:=hW.at k
  have hw0:wideOf W=(W.rows.getD 0 []).length:=rfl
  generalize hr:W.rows.getD k []=r at *
  rw [beq_nil]
  have bad':∀ e:Int,rowBad (wideOf W) r=e→e≠0→waferV W=e:=fun e h3 he=>waferV_row h0' h1' (by rw [bad (by rw [h3]; exact he),h3]) he
  refine ⟨by omega,S2.dec (fun h3=>?_) (fun h3=>?_)⟩ <;> simp -dsimp only [aqA,↓seqK,↓blkK,↓loopK,step,stepBin,eqB,Nat.add_assoc nid,simprocAttr,z0,Int.cast_ofNat_Int,Int.reduceBEq,Int.reduceBNe,Int.reduceLT,Int.reduceLE,Int.reduceAdd,Int.reduceSub,Int.reduceMul,Int.reduceToNat,Int.reduceNeg,Int.reduceTMod,Int.reduceEq,not_false_eq_true,Int.reducePow,Int.reduceFDiv,Nat.reducePow,Nat.reduceSub,Nat.reduceMul,Nat.min_eq_left,Nat.reduceEqDiff,BEq.rfl,Int.tdiv_one,LN_succ]
  ·rw [bad' 8 (by unfold rowBad; rw [if_pos h3]) (by decide)]
   refine RetOK.pure (.inl rfl) rfl ?_
   simp [cvT,step,res]
  refine S2.dec (fun h4=>?_) (fun h4=>?_) <;> simp -dsimp only [aqA,↓seqK,↓blkK,↓loopK,step,stepBin,eqB,Nat.add_assoc nid,simprocAttr,z0,Int.cast_ofNat_Int,Int.reduceBEq,Int.reduceBNe,Int.reduceLT,Int.reduceLE,Int.reduceAdd,Int.reduceSub,Int.reduceMul,Int.reduceToNat,Int.reduceNeg,Int.reduceTMod,Int.reduceEq,not_false_eq_true,Int.reducePow,Int.reduceFDiv,Nat.reducePow,Nat.reduceSub,Nat.reduceMul,Nat.min_eq_left,Nat.reduceEqDiff,BEq.rfl,Int.tdiv_one,LN_succ]
  ·rw [bad' 2 (by unfold rowBad; rw [if_neg h3,if_pos (by omega)]) (by decide)]
   refine RetOK.pure (.inl rfl) rfl ?_
   simp [cvT,step,res]
  refine ⟨by omega,S2.intro (fun h5=>?_) (fun h5=>?_)⟩ <;> simp -dsimp only [aqA,↓seqK,↓blkK,↓loopK,step,stepBin,eqB,Nat.add_assoc nid,simprocAttr,z0,Int.cast_ofNat_Int,Int.reduceBEq,Int.reduceBNe,Int.reduceLT,Int.reduceLE,Int.reduceAdd,Int.reduceSub,Int.reduceMul,Int.reduceToNat,Int.reduceNeg,Int.reduceTMod,Int.reduceEq,not_false_eq_true,Int.reducePow,Int.reduceFDiv,Nat.reducePow,Nat.reduceSub,Nat.reduceMul,Nat.min_eq_left,Nat.reduceEqDiff,BEq.rfl,Int.tdiv_one,LN_succ]
  ·have h5':r.length≠wideOf W:=by rw [hw0]; intro e; rw [e] at h5; simp at h5
   rw [bad' 3 (by unfold rowBad; rw [if_neg h3,if_neg (by omega),if_pos h5']) (by decide)]
   refine RetOK.pure (.inl rfl) rfl ?_
   simp [cvT,step,res]
  have h5':r.length=wideOf W:=by
   have h5a:((r.length:Nat):Int)=((W.rows.getD 0 []).length:Nat):=by simpa only [bne_eq_false_iff_eq] using h5
   rw [hw0]; omega
  refine CallO.pure (odd_c2 r _ (by omega)) ?_
  simp -dsimp only [aqA,↓seqK,↓blkK,↓loopK,step,stepBin,eqB,Nat.add_assoc nid,simprocAttr,z0,Int.cast_ofNat_Int,Int.reduceBEq,Int.reduceBNe,Int.reduceLT,Int.reduceLE,Int.reduceAdd,Int.reduceSub,Int.reduceMul,Int.reduceToNat,Int.reduceNeg,Int.reduceTMod,Int.reduceEq,not_false_eq_true,Int.reducePow,Int.reduceFDiv,Nat.reducePow,Nat.reduceSub,Nat.reduceMul,Nat.min_eq_left,Nat.reduceEqDiff,BEq.rfl,Int.tdiv_one,LN_succ]
  refine S2.intro (fun h6=>?_) (fun h6=>?_) <;> simp -dsimp only [aqA,↓seqK,↓blkK,↓loopK,step,stepBin,eqB,Nat.add_assoc nid,simprocAttr,z0,Int.cast_ofNat_Int,Int.reduceBEq,Int.reduceBNe,Int.reduceLT,Int.reduceLE,Int.reduceAdd,Int.reduceSub,Int.reduceMul,Int.reduceToNat,Int.reduceNeg,Int.reduceTMod,Int.reduceEq,not_false_eq_true,Int.reducePow,Int.reduceFDiv,Nat.reducePow,Nat.reduceSub,Nat.reduceMul,Nat.min_eq_left,Nat.reduceEqDiff,BEq.rfl,Int.tdiv_one,LN_succ]
  ·rw [bad' 9 (by unfold rowBad; rw [if_neg h3,if_neg (by omega),if_neg (by omega),if_pos h6]) (by decide)]
   refine RetOK.pure (.inl rfl) rfl ?_
   simp [cvT,step,res]
  ·refine ⟨by unfold inI64; omega,k+1,⟨⟨by omega,good (by unfold rowBad; rw [if_neg h3,if_neg (by omega),if_neg (by omega),if_neg (by simp [h6])])⟩,by omega⟩,Cov.go [] [] ?_⟩
   simp [cvT,step,res]
 have hkn:k=W.rows.length:=by omega
 subst hkn
 rw [List.take_length] at hb
 rw [waferV_pass h0' h1' hb]
 refine LP.mkP (fun k:Nat=>k≤W.pass.length∧firstBad (passBad W.pass) ((List.range W.pass.length).take k)=0) (fun k:Nat=>⟨[(46,.int .i64 k),(45,.int .i64 W.pass.length),(1,.ptr nid 0)],[(nid,some (.box 28 [.lit nl W.rows.length [.s fun i=>W.rows.getD i []],.str W.pass]))],nid+300,nid⟩) (fun k=>W.pass.length+1 - k) 0 ⟨by omega,rfl⟩ (Cov.go [] [] ?_) (fun k hk=>?_)
 ·simp [cvT,step,res]
 obtain ⟨hk,hb⟩:=hk
 simp -dsimp only [aqA,↓seqK,↓blkK,↓loopK,step,stepBin,eqB,Nat.add_assoc nid,simprocAttr,z0,Int.cast_ofNat_Int,Int.reduceBEq,Int.reduceBNe,Int.reduceLT,Int.reduceLE,Int.reduceAdd,Int.reduceSub,Int.reduceMul,Int.reduceToNat,Int.reduceNeg,Int.reduceTMod,Int.reduceEq,not_false_eq_true,Int.reducePow,Int.reduceFDiv,Nat.reducePow,Nat.reduceSub,Nat.reduceMul,Nat.min_eq_left,Nat.reduceEqDiff,BEq.rfl,Int.tdiv_one,LN_succ]
 refine S2.dec (fun h2=>?_) (fun h2=>?_) <;> simp -dsimp only [aqA,↓seqK,↓blkK,↓loopK,step,stepBin,eqB,Nat.add_assoc nid,simprocAttr,z0,Int.cast_ofNat_Int,Int.reduceBEq,Int.reduceBNe,Int.reduceLT,Int.reduceLE,Int.reduceAdd,Int.reduceSub,Int.reduceMul,Int.reduceToNat,Int.reduceNeg,Int.reduceTMod,Int.reduceEq,not_false_eq_true,Int.reducePow,Int.reduceFDiv,Nat.reducePow,Nat.reduceSub,Nat.reduceMul,Nat.min_eq_left,Nat.reduceEqDiff,BEq.rfl,Int.tdiv_one,LN_succ]
 ·have hkl:k<W.pass.length:=by omega
  obtain ⟨bad,good⟩:=rangeFB hkl hb
  refine ⟨by omega,CallO.pure (isBin_c _ _) ?_⟩
  simp -dsimp only [aqA,↓seqK,↓blkK,↓loopK,step,stepBin,eqB,Nat.add_assoc nid,simprocAttr,z0,Int.cast_ofNat_Int,Int.reduceBEq,Int.reduceBNe,Int.reduceLT,Int.reduceLE,Int.reduceAdd,Int.reduceSub,Int.reduceMul,Int.reduceToNat,Int.reduceNeg,Int.reduceTMod,Int.reduceEq,not_false_eq_true,Int.reducePow,Int.reduceFDiv,Nat.reducePow,Nat.reduceSub,Nat.reduceMul,Nat.min_eq_left,Nat.reduceEqDiff,BEq.rfl,Int.tdiv_one,LN_succ]
  have hdef:passBad W.pass k=if isBinV (byteI (W.pass.getD k 0))=false then 9 else if 0<k∧byteI (W.pass.getD k 0)≤byteI (W.pass.getD (k - 1) 0) then 7 else 0:=rfl
  unfold byteI at hdef
  cases h3:isBinV (((W.pass.getD k 0).toNat:Nat):Int) <;> simp -dsimp only [aqA,↓seqK,↓blkK,↓loopK,step,stepBin,eqB,Nat.add_assoc nid,simprocAttr,z0,Int.cast_ofNat_Int,Int.reduceBEq,Int.reduceBNe,Int.reduceLT,Int.reduceLE,Int.reduceAdd,Int.reduceSub,Int.reduceMul,Int.reduceToNat,Int.reduceNeg,Int.reduceTMod,Int.reduceEq,not_false_eq_true,Int.reducePow,Int.reduceFDiv,Nat.reducePow,Nat.reduceSub,Nat.reduceMul,Nat.min_eq_left,Nat.reduceEqDiff,BEq.rfl,Int.tdiv_one,LN_succ]
  ·rw [h3,if_pos rfl] at hdef
   have:passV W.pass=9:=by unfold passV; rw [bad (by rw [hdef]; decide),hdef]
   rw [this]
   refine RetOK.pure (.inl rfl) rfl ?_
   simp [cvT,step,res]
  rw [h3,if_neg (by simp)] at hdef
  refine S2.dec (fun h4=>?_) (fun h4=>?_) <;> simp -dsimp only [aqA,↓seqK,↓blkK,↓loopK,step,stepBin,eqB,Nat.add_assoc nid,simprocAttr,z0,Int.cast_ofNat_Int,Int.reduceBEq,Int.reduceBNe,Int.reduceLT,Int.reduceLE,Int.reduceAdd,Int.reduceSub,Int.reduceMul,Int.reduceToNat,Int.reduceNeg,Int.reduceTMod,Int.reduceEq,not_false_eq_true,Int.reducePow,Int.reduceFDiv,Nat.reducePow,Nat.reduceSub,Nat.reduceMul,Nat.min_eq_left,Nat.reduceEqDiff,BEq.rfl,Int.tdiv_one,LN_succ]
  ·have hk1:((k:Int) - 1).toNat=k - 1:=by omega
   rw [hk1]
   refine ⟨by omega,by unfold inI64; omega,by omega,S2.dec (fun h5=>?_) (fun h5=>?_)⟩ <;> simp -dsimp only [aqA,↓seqK,↓blkK,↓loopK,step,stepBin,eqB,Nat.add_assoc nid,simprocAttr,z0,Int.cast_ofNat_Int,Int.reduceBEq,Int.reduceBNe,Int.reduceLT,Int.reduceLE,Int.reduceAdd,Int.reduceSub,Int.reduceMul,Int.reduceToNat,Int.reduceNeg,Int.reduceTMod,Int.reduceEq,not_false_eq_true,Int.reducePow,Int.reduceFDiv,Nat.reducePow,Nat.reduceSub,Nat.reduceMul,Nat.min_eq_left,Nat.reduceEqDiff,BEq.rfl,Int.tdiv_one,LN_succ]
   ·rw [if_pos ⟨by omega,h5⟩] at hdef
    have:passV W.pass=7:=by unfold passV; rw [bad (by rw [hdef]; decide),hdef]
    rw [this]
    refine RetOK.pure (.inl rfl) rfl ?_
    simp [cvT,step,res]
   ·rw [if_neg (fun h=>h5 h.2)] at hdef
    refine ⟨by unfold inI64; omega,k+1,⟨⟨by omega,good hdef⟩,by omega⟩,Cov.go [] [] ?_⟩
    simp [cvT,step,res]
  ·rw [if_neg (fun h=>h4 (by omega))] at hdef
   refine ⟨by unfold inI64; omega,k+1,⟨⟨by omega,good hdef⟩,by omega⟩,Cov.go [] [] ?_⟩
   simp [cvT,step,res]
 ·have hkn:k=W.pass.length:=by omega
  subst hkn
  have:passV W.pass=0:=by unfold passV; rwa [List.take_of_length_le (by simp)] at hb
  rw [this]
  refine RetOK.pure (.inl rfl) rfl ?_
  simp [cvT,step,res]
theorem dieF_c (b:UInt8) (nid:Nat):ACall Try.prog 37 [.int .u8 ((b.toNat:Nat))] [] nid (.bool (!placeB (byteI b))) []:=by
 refine acall_run c37 (by simp [a37]) ?_
 simp -dsimp only [aqA,↓seqK,↓blkK,↓loopK,step,stepBin,eqB,Nat.add_assoc nid,simprocAttr,z0,a37]
 refine CallO.pure (isDie_c b.toNat (UInt8.toNat_lt b) _) ?_
 simp -dsimp only [aqA,↓seqK,↓blkK,↓loopK,step,stepBin,eqB,Nat.add_assoc nid,simprocAttr,z0]
 refine RetOK.pure (.inl rfl) rfl ?_
 simp [cvT,step,res,byteI]
theorem bins_byte (b:UInt8):decide (Lib.indexByte binsL b<0)=!isBinV (byteI b):=by
 have h:=bins_ok b.toNat (UInt8.toNat_lt b)
 have e:b.toNat.toUInt8=b:=by simp
 rw [e] at h
 unfold byteI
 rw [← h]
 by_cases h2:0≤Lib.indexByte binsL b
 ·simp [h2]
 ·simp [h2]; omega
theorem passFault_c (P:List UInt8) (nid:Nat) (hP:P.length≤1000000):ACall Try.prog 39 [.str P] [] nid (.int .i64 (passV P)) []:=by
 refine acall_run c39 (by simp [a39]) ?_
 simp -dsimp only [a39,aqA,↓seqK,↓blkK,↓loopK,step,stepBin,eqB,Nat.add_assoc nid,simprocAttr,z0,Int.cast_ofNat_Int,Int.reduceBEq,Int.reduceBNe,Int.reduceLT,Int.reduceLE,Int.reduceAdd,Int.reduceSub,Int.reduceMul,Int.reduceToNat,Int.reduceNeg,Int.reduceTMod,Int.reduceEq,not_false_eq_true,Int.reducePow,Int.reduceFDiv,Nat.reducePow,Nat.reduceSub,Nat.reduceMul,Nat.min_eq_left,Nat.reduceEqDiff,BEq.rfl,Int.tdiv_one,LN_succ]
 refine LP.mkP (fun k:Nat=>k≤P.length∧firstBad (passBad P) ((List.range P.length).take k)=0) (fun k:Nat=>⟨[(6,.int .i64 k),(5,.int .i64 P.length),(0,.str P)],[],nid+300,nid⟩) (fun k=>P.length+1 - k) 0 ⟨by omega,rfl⟩ (Cov.go [] [] ?_) (fun k hk=>?_)
 ·simp [cvT,step,res]
 obtain ⟨hk,hb⟩:=hk
 simp -dsimp only [aqA,↓seqK,↓blkK,↓loopK,step,stepBin,eqB,Nat.add_assoc nid,simprocAttr,z0,Int.cast_ofNat_Int,Int.reduceBEq,Int.reduceBNe,Int.reduceLT,Int.reduceLE,Int.reduceAdd,Int.reduceSub,Int.reduceMul,Int.reduceToNat,Int.reduceNeg,Int.reduceTMod,Int.reduceEq,not_false_eq_true,Int.reducePow,Int.reduceFDiv,Nat.reducePow,Nat.reduceSub,Nat.reduceMul,Nat.min_eq_left,Nat.reduceEqDiff,BEq.rfl,Int.tdiv_one,LN_succ]
 refine S2.dec (fun h2=>?_) (fun h2=>?_) <;> simp -dsimp only [aqA,↓seqK,↓blkK,↓loopK,step,stepBin,eqB,Nat.add_assoc nid,simprocAttr,z0,Int.cast_ofNat_Int,Int.reduceBEq,Int.reduceBNe,Int.reduceLT,Int.reduceLE,Int.reduceAdd,Int.reduceSub,Int.reduceMul,Int.reduceToNat,Int.reduceNeg,Int.reduceTMod,Int.reduceEq,not_false_eq_true,Int.reducePow,Int.reduceFDiv,Nat.reducePow,Nat.reduceSub,Nat.reduceMul,Nat.min_eq_left,Nat.reduceEqDiff,BEq.rfl,Int.tdiv_one,LN_succ]
 ·have hkl:k<P.length:=by omega
  obtain ⟨bad,good⟩:=rangeFB hkl hb
  refine ⟨by omega,CallO.pure (indexB_c binsL _ _) ?_⟩
  have hbb:=bins_byte (P.getD k 0)
  have e:((((P.getD k 0).toNat:Nat):Int).toNat).toUInt8=P.getD k 0:=by rw [Int.toNat_natCast]; simp
  rw [e]
  simp -dsimp only [aqA,↓seqK,↓blkK,↓loopK,step,stepBin,eqB,Nat.add_assoc nid,simprocAttr,z0,Int.cast_ofNat_Int,Int.reduceBEq,Int.reduceBNe,Int.reduceLT,Int.reduceLE,Int.reduceAdd,Int.reduceSub,Int.reduceMul,Int.reduceToNat,Int.reduceNeg,Int.reduceTMod,Int.reduceEq,not_false_eq_true,Int.reducePow,Int.reduceFDiv,Nat.reducePow,Nat.reduceSub,Nat.reduceMul,Nat.min_eq_left,Nat.reduceEqDiff,BEq.rfl,Int.tdiv_one,LN_succ,hbb]
  have hdef:passBad P k=if isBinV (byteI (P.getD k 0))=false then 9 else if 0<k∧byteI (P.getD k 0)≤byteI (P.getD (k - 1) 0) then 7 else 0:=rfl
  unfold byteI at hdef ⊢
  cases h3:isBinV (((P.getD k 0).toNat:Nat):Int) <;> simp -dsimp only [aqA,↓seqK,↓blkK,↓loopK,step,stepBin,eqB,Nat.add_assoc nid,simprocAttr,z0,Int.cast_ofNat_Int,Int.reduceBEq,Int.reduceBNe,Int.reduceLT,Int.reduceLE,Int.reduceAdd,Int.reduceSub,Int.reduceMul,Int.reduceToNat,Int.reduceNeg,Int.reduceTMod,Int.reduceEq,not_false_eq_true,Int.reducePow,Int.reduceFDiv,Nat.reducePow,Nat.reduceSub,Nat.reduceMul,Nat.min_eq_left,Nat.reduceEqDiff,BEq.rfl,Int.tdiv_one,LN_succ]
  ·rw [h3,if_pos rfl] at hdef
   have:passV P=9:=by unfold passV; rw [bad (by rw [hdef]; decide),hdef]
   rw [this]
   refine RetOK.pure (.inl rfl) rfl ?_
   simp [cvT,step,res]
  rw [h3,if_neg (by simp)] at hdef
  refine S2.dec (fun h4=>?_) (fun h4=>?_) <;> simp -dsimp only [aqA,↓seqK,↓blkK,↓loopK,step,stepBin,eqB,Nat.add_assoc nid,simprocAttr,z0,Int.cast_ofNat_Int,Int.reduceBEq,Int.reduceBNe,Int.reduceLT,Int.reduceLE,Int.reduceAdd,Int.reduceSub,Int.reduceMul,Int.reduceToNat,Int.reduceNeg,Int.reduceTMod,Int.reduceEq,not_false_eq_true,Int.reducePow,Int.reduceFDiv,Nat.reducePow,Nat.reduceSub,Nat.reduceMul,Nat.min_eq_left,Nat.reduceEqDiff,BEq.rfl,Int.tdiv_one,LN_succ]
  ·have hk1:((k:Int) - 1).toNat=k - 1:=by omega
   rw [hk1]
   refine ⟨by omega,by unfold inI64; omega,by omega,S2.dec (fun h5=>?_) (fun h5=>?_)⟩ <;> simp -dsimp only [aqA,↓seqK,↓blkK,↓loopK,step,stepBin,eqB,Nat.add_assoc nid,simprocAttr,z0,Int.cast_ofNat_Int,Int.reduceBEq,Int.reduceBNe,Int.reduceLT,Int.reduceLE,Int.reduceAdd,Int.reduceSub,Int.reduceMul,Int.reduceToNat,Int.reduceNeg,Int.reduceTMod,Int.reduceEq,not_false_eq_true,Int.reducePow,Int.reduceFDiv,Nat.reducePow,Nat.reduceSub,Nat.reduceMul,Nat.min_eq_left,Nat.reduceEqDiff,BEq.rfl,Int.tdiv_one,LN_succ]
   ·rw [if_pos ⟨by omega,h5⟩] at hdef
    have:passV P=7:=by unfold passV; rw [bad (by rw [hdef]; decide),hdef]
    rw [this]
    refine RetOK.pure (.inl rfl) rfl ?_
    simp [cvT,step,res]
   ·rw [if_neg (fun h=>h5 h.2)] at hdef
    refine ⟨by unfold inI64; omega,k+1,⟨⟨by omega,good hdef⟩,by omega⟩,Cov.go [] [] ?_⟩
    simp [cvT,step,res]
  ·rw [if_neg (fun h=>h4 (by omega))] at hdef
   refine ⟨by unfold inI64; omega,k+1,⟨⟨by omega,good hdef⟩,by omega⟩,Cov.go [] [] ?_⟩
   simp [cvT,step,res]
 ·have hkn:k=P.length:=by omega
  subst hkn
  have:passV P=0:=by unfold passV; rwa [List.take_of_length_le (by simp)] at hb
  rw [this]
  refine RetOK.pure (.inl rfl) rfl ?_
  simp [cvT,step,res]
set_option maxHeartbeats 4000000 in
theorem waferFault_all (nl:Bool) (W:Waf) (nid:Nat) (hW:WafBd W):ACall Try.prog 11 [wafP nl W] [] nid (.int .i64 (waferV W)) []:=by
 have hR:=hW.rows
 have hP:=hW.pass
 refine acall_run c11 (by simp [a11]) ?_
 unfold wafP
 simp -dsimp only [a11,aqA,↓seqK,↓blkK,↓loopK,step,stepBin,eqB,Nat.add_assoc nid,simprocAttr,z0,Int.cast_ofNat_Int,Int.reduceBEq,Int.reduceBNe,Int.reduceLT,Int.reduceLE,Int.reduceAdd,Int.reduceSub,Int.reduceMul,Int.reduceToNat,Int.reduceNeg,Int.reduceTMod,Int.reduceEq,not_false_eq_true,Int.reducePow,Int.reduceFDiv,Nat.reducePow,Nat.reduceSub,Nat.reduceMul,Nat.min_eq_left,Nat.reduceEqDiff,BEq.rfl,Int.tdiv_one,LN_succ]
 refine S2.intro (fun h0=>?_) (fun h0=>?_) <;> simp -dsimp only [aqA,↓seqK,↓blkK,↓loopK,step,stepBin,eqB,Nat.add_assoc nid,simprocAttr,z0,Int.cast_ofNat_Int,Int.reduceBEq,Int.reduceBNe,Int.reduceLT,Int.reduceLE,Int.reduceAdd,Int.reduceSub,Int.reduceMul,Int.reduceToNat,Int.reduceNeg,Int.reduceTMod,Int.reduceEq,not_false_eq_true,Int.reducePow,Int.reduceFDiv,Nat.reducePow,Nat.reduceSub,Nat.reduceMul,Nat.min_eq_left,Nat.reduceEqDiff,BEq.rfl,Int.tdiv_one,LN_succ]
 ·have e:waferV W=8:=by unfold waferV; rw [if_pos (by simpa using h0)]
  rw [e]
  refine RetOK.pure (.inl rfl) rfl ?_
  simp [cvT,step,res]
 have h0':W.rows.length≠0:=by simpa using h0
 refine S2.dec (fun h1=>?_) (fun h1=>?_) <;> simp -dsimp only [aqA,↓seqK,↓blkK,↓loopK,step,stepBin,eqB,Nat.add_assoc nid,simprocAttr,z0,Int.cast_ofNat_Int,Int.reduceBEq,Int.reduceBNe,Int.reduceLT,Int.reduceLE,Int.reduceAdd,Int.reduceSub,Int.reduceMul,Int.reduceToNat,Int.reduceNeg,Int.reduceTMod,Int.reduceEq,not_false_eq_true,Int.reducePow,Int.reduceFDiv,Nat.reducePow,Nat.reduceSub,Nat.reduceMul,Nat.min_eq_left,Nat.reduceEqDiff,BEq.rfl,Int.tdiv_one,LN_succ]
 ·have e:waferV W=2:=by unfold waferV; rw [if_neg h0',if_pos (by omega)]
  rw [e]
  refine RetOK.pure (.inl rfl) rfl ?_
  simp [cvT,step,res]
 have h1':W.rows.length≤60:=by omega
 refine LP.mkP (fun k:Nat=>k≤W.rows.length∧firstBad (rowBad (wideOf W)) (W.rows.take k)=0) (fun k:Nat=>⟨[(18,.int .i64 k),(17,.int .i64 W.rows.length),(16,.lit nl W.rows.length [.s fun i=>W.rows.getD i []]),(1,.ptr nid 0)],[(nid,some (.box 28 [.lit nl W.rows.length [.s fun i=>W.rows.getD i []],.str W.pass]))],nid+100,nid⟩) (fun k=>W.rows.length+1 - k) 0 ⟨by omega,rfl⟩ (Cov.go [] [] ?_) (fun k hk=>?_)
 ·simp [cvT,step,res]
 obtain ⟨hk,hb⟩:=hk
 simp -dsimp only [aqA,↓seqK,↓blkK,↓loopK,step,stepBin,eqB,Nat.add_assoc nid,simprocAttr,z0,Int.cast_ofNat_Int,Int.reduceBEq,Int.reduceBNe,Int.reduceLT,Int.reduceLE,Int.reduceAdd,Int.reduceSub,Int.reduceMul,Int.reduceToNat,Int.reduceNeg,Int.reduceTMod,Int.reduceEq,not_false_eq_true,Int.reducePow,Int.reduceFDiv,Nat.reducePow,Nat.reduceSub,Nat.reduceMul,Nat.min_eq_left,Nat.reduceEqDiff,BEq.rfl,Int.tdiv_one,LN_succ]
 refine S2.dec (fun h2=>?_) (fun h2=>?_) <;> simp -dsimp only [aqA,↓seqK,↓blkK,↓loopK,step,stepBin,eqB,Nat.add_assoc nid,simprocAttr,z0,Int.cast_ofNat_Int,Int.reduceBEq,Int.reduceBNe,Int.reduceLT,Int.reduceLE,Int.reduceAdd,Int.reduceSub,Int.reduceMul,Int.reduceToNat,Int.reduceNeg,Int.reduceTMod,Int.reduceEq,not_false_eq_true,Int.reducePow,Int.reduceFDiv,Nat.reducePow,Nat.reduceSub,Nat.reduceMul,Nat.min_eq_left,Nat.reduceEqDiff,BEq.rfl,Int.tdiv_one,LN_succ]
 ·have hkl:k<W.rows.length:=by omega
  obtain ⟨bad,good⟩:=rowsFB (d:=[]) hkl hb
  have hrl:=hW.at k
  have hw0:wideOf W=(W.rows.getD 0 []).length:=rfl
  generalize hr:W.rows.getD k []=r at *
  rw [beq_nil]
  have bad':∀ e:Int,rowBad (wideOf W) r=e→e≠0→waferV W=e:=fun e h3 he=>waferV_row h0' h1' (by rw [bad (by rw [h3]; exact he),h3]) he
  refine ⟨by omega,S2.dec (fun h3=>?_) (fun h3=>?_)⟩ <;> simp -dsimp only [aqA,↓seqK,↓blkK,↓loopK,step,stepBin,eqB,Nat.add_assoc nid,simprocAttr,z0,Int.cast_ofNat_Int,Int.reduceBEq,Int.reduceBNe,Int.reduceLT,Int.reduceLE,Int.reduceAdd,Int.reduceSub,Int.reduceMul,Int.reduceToNat,Int.reduceNeg,Int.reduceTMod,Int.reduceEq,not_false_eq_true,Int.reducePow,Int.reduceFDiv,Nat.reducePow,Nat.reduceSub,Nat.reduceMul,Nat.min_eq_left,Nat.reduceEqDiff,BEq.rfl,Int.tdiv_one,LN_succ]
  ·rw [bad' 8 (by unfold rowBad; rw [if_pos h3]) (by decide)]
   refine RetOK.pure (.inl rfl) rfl ?_
   simp [cvT,step,res]
  refine S2.dec (fun h4=>?_) (fun h4=>?_) <;> simp -dsimp only [aqA,↓seqK,↓blkK,↓loopK,step,stepBin,eqB,Nat.add_assoc nid,simprocAttr,z0,Int.cast_ofNat_Int,Int.reduceBEq,Int.reduceBNe,Int.reduceLT,Int.reduceLE,Int.reduceAdd,Int.reduceSub,Int.reduceMul,Int.reduceToNat,Int.reduceNeg,Int.reduceTMod,Int.reduceEq,not_false_eq_true,Int.reducePow,Int.reduceFDiv,Nat.reducePow,Nat.reduceSub,Nat.reduceMul,Nat.min_eq_left,Nat.reduceEqDiff,BEq.rfl,Int.tdiv_one,LN_succ]
  ·rw [bad' 2 (by unfold rowBad; rw [if_neg h3,if_pos (by omega)]) (by decide)]
   refine RetOK.pure (.inl rfl) rfl ?_
   simp [cvT,step,res]
  refine ⟨by omega,S2.intro (fun h5=>?_) (fun h5=>?_)⟩ <;> simp -dsimp only [aqA,↓seqK,↓blkK,↓loopK,step,stepBin,eqB,Nat.add_assoc nid,simprocAttr,z0,Int.cast_ofNat_Int,Int.reduceBEq,Int.reduceBNe,Int.reduceLT,Int.reduceLE,Int.reduceAdd,Int.reduceSub,Int.reduceMul,Int.reduceToNat,Int.reduceNeg,Int.reduceTMod,Int.reduceEq,not_false_eq_true,Int.reducePow,Int.reduceFDiv,Nat.reducePow,Nat.reduceSub,Nat.reduceMul,Nat.min_eq_left,Nat.reduceEqDiff,BEq.rfl,Int.tdiv_one,LN_succ]
  ·have h5':r.length≠wideOf W:=by rw [hw0]; intro e; rw [e] at h5; simp at h5
   rw [bad' 3 (by unfold rowBad; rw [if_neg h3,if_neg (by omega),if_pos h5']) (by decide)]
   refine RetOK.pure (.inl rfl) rfl ?_
   simp [cvT,step,res]
  have h5':r.length=wideOf W:=by
   have h5a:((r.length:Nat):Int)=((W.rows.getD 0 []).length:Nat):=by simpa only [bne_eq_false_iff_eq] using h5
   rw [hw0]; omega
  refine CallO.pure (containsFB 37 (fun c=>!placeB (byteI c)) dieF_c false r.length (fun i=>r.getD i 0) _ (by omega)) ?_
  rw [show (List.range r.length).any (fun i=>!placeB (byteI (r.getD i 0)))=oddB r from any_range (F:=fun c=>!placeB (byteI c))]
  simp -dsimp only [aqA,↓seqK,↓blkK,↓loopK,step,stepBin,eqB,Nat.add_assoc nid,simprocAttr,z0,Int.cast_ofNat_Int,Int.reduceBEq,Int.reduceBNe,Int.reduceLT,Int.reduceLE,Int.reduceAdd,Int.reduceSub,Int.reduceMul,Int.reduceToNat,Int.reduceNeg,Int.reduceTMod,Int.reduceEq,not_false_eq_true,Int.reducePow,Int.reduceFDiv,Nat.reducePow,Nat.reduceSub,Nat.reduceMul,Nat.min_eq_left,Nat.reduceEqDiff,BEq.rfl,Int.tdiv_one,LN_succ]
  refine S2.intro (fun h6=>?_) (fun h6=>?_) <;> simp -dsimp only [aqA,↓seqK,↓blkK,↓loopK,step,stepBin,eqB,Nat.add_assoc nid,simprocAttr,z0,Int.cast_ofNat_Int,Int.reduceBEq,Int.reduceBNe,Int.reduceLT,Int.reduceLE,Int.reduceAdd,Int.reduceSub,Int.reduceMul,Int.reduceToNat,Int.reduceNeg,Int.reduceTMod,Int.reduceEq,not_false_eq_true,Int.reducePow,Int.reduceFDiv,Nat.reducePow,Nat.reduceSub,Nat.reduceMul,Nat.min_eq_left,Nat.reduceEqDiff,BEq.rfl,Int.tdiv_one,LN_succ]
  ·rw [bad' 9 (by unfold rowBad; rw [if_neg h3,if_neg (by omega),if_neg (by omega),if_pos h6]) (by decide)]
   refine RetOK.pure (.inl rfl) rfl ?_
   simp [cvT,step,res]
  ·refine ⟨by unfold inI64; omega,k+1,⟨⟨by omega,good (by unfold rowBad; rw [if_neg h3,if_neg (by omega),if_neg (by omega),if_neg (by simp [h6])])⟩,by omega⟩,Cov.go [] [] ?_⟩
   simp [cvT,step,res]
 have hkn:k=W.rows.length:=by omega
 subst hkn
 rw [List.take_length] at hb
 rw [waferV_pass h0' h1' hb]
 refine CallO.pure (passFault_c W.pass _ hP) ?_
 simp -dsimp only [aqA,↓seqK,↓blkK,↓loopK,step,stepBin,eqB,Nat.add_assoc nid,simprocAttr,z0,Int.cast_ofNat_Int,Int.reduceBEq,Int.reduceBNe,Int.reduceLT,Int.reduceLE,Int.reduceAdd,Int.reduceSub,Int.reduceMul,Int.reduceToNat,Int.reduceNeg,Int.reduceTMod,Int.reduceEq,not_false_eq_true,Int.reducePow,Int.reduceFDiv,Nat.reducePow,Nat.reduceSub,Nat.reduceMul,Nat.min_eq_left,Nat.reduceEqDiff,BEq.rfl,Int.tdiv_one,LN_succ]
 refine RetOK.pure (.inl rfl) rfl ?_
 simp [cvT,step,res]
open Go.RowKit
def arrS (l:List (List UInt8)):Option ABlk:=some (.arr 9 l.length [.s fun i=>l.getD i []])
theorem getD_app1 (l:List (List UInt8)) (x:List UInt8) {n:Nat} (hn:l.length=n):(fun i=>if i<n then l.getD i [] else [x].getD (i - n) [])=fun i=>(l++[x]).getD i []:=by
 subst hn
 funext i
 simp only [List.getD_eq_getElem?_getD,List.getElem?_append]
 split <;> rfl
theorem getD_setS (l:List (List UInt8)) (x:List UInt8) {I:Nat} (hI:I<l.length):(fun j=>if j=I then x else l.getD j [])=fun j=>(l.set I x).getD j []:=by
 funext j
 simp only [List.getD_eq_getElem?_getD,List.getElem?_set]
 by_cases h:j=I
 ·subst h; simp [hI]
 ·rw [if_neg h,if_neg (fun e=>h e.symm)]
def ShortRows (m:Nat) (l:List (List UInt8)):Prop:=∀ r∈l,r.length≤m
theorem ShortRows.at {m:Nat} {l:List (List UInt8)} (h:ShortRows m l) (i:Nat):(l.getD i []).length≤m:=by
 rw [List.getD_eq_getElem?_getD]
 cases hg:l[i]? with
 | none=>simp
 | some x=>exact h x (List.mem_of_getElem? hg)
theorem ShortRows.set {m:Nat} {l:List (List UInt8)} (h:ShortRows m l) (i:Nat) {x:List UInt8} (hx:x.length≤m):ShortRows m (l.set i x):=fun r hr=>by
 rcases List.mem_or_eq_of_mem_set hr with h1 | h1
 ·exact h r h1
 ·rw [h1]; exact hx
theorem ShortRows.snoc {m:Nat} {l:List (List UInt8)} (h:ShortRows m l) {x:List UInt8} (hx:x.length≤m):ShortRows m (l++[x]):=fun r hr=>by
 rcases List.mem_append.1 hr with h1 | h1
 ·exact h r h1
 ·rw [List.mem_singleton.1 h1]; exact hx
theorem ShortRows.mono {m n:Nat} {l:List (List UInt8)} (h:ShortRows m l) (hn:m≤n):ShortRows n l:=fun r hr=>Nat.le_trans (h r hr) hn
def litS (nl:Bool) (l:List (List UInt8)):PV:=.lit nl l.length [.s fun i=>l.getD i []]
theorem take_eqL {l m:List (List UInt8)} {k:Nat} (hl:k<l.length) (hm:k<m.length) (h:l.take k=m.take k) (hx:l.getD k []=m.getD k []):l.take (k+1)=m.take (k+1):=by
 rw [take_snoc (x:=l.getD k []) (by rw [List.getD_eq_getElem?_getD,List.getElem?_eq_getElem hl]; rfl),take_snoc (x:=m.getD k []) (by rw [List.getD_eq_getElem?_getD,List.getElem?_eq_getElem hm]; rfl),h,hx]
theorem equalS_c (nl nl' : Bool) (l m : List (List UInt8)) (nid : Nat) (hl : l.length ≤ 1000000000000) (hm : m.length ≤ 1000000000000) : ACall Try.prog 59 [litS nl l,litS nl' m] [] nid (.bool (l == m)) [] := by
  refine acall_run c59 (by simp [a59]) ?_
  unfold litS
  simp -dsimp only [aqA,↓seqK,↓blkK,↓loopK,step,stepBin,eqB,Nat.add_assoc nid,simprocAttr,z0,a59]
  refine S2.intro (fun h => ?_) (fun h => ?_) <;> simp -dsimp only [aqA,↓seqK,↓blkK,↓loopK,step,stepBin,eqB,Nat.add_assoc nid,simprocAttr,z0]
  · refine RetOK.pure (.inl rfl) rfl ?_
    have h1 : l ≠ m := fun e => by subst e; simp at h
    have h2 : (l == m) = false := by simpa using h1
    simp [cvT,step,res,h1]
  have hlm : l.length = m.length := by have : (l.length : Int) = m.length := by simpa using h
                                       omega
  refine LP.mkP (fun k : Nat => k ≤ l.length ∧ l.take k = m.take k) (fun k : Nat => ⟨[(13,.int .i64 k),(12,.int .i64 l.length),(0,litS nl l),(1,litS nl' m)],[],nid + 36,nid⟩) (fun k => l.length + 1 - k) 0 ⟨by omega,rfl⟩ (Cov.go [] [] ?_) (fun k hk => ?_)
  · simp [cvT,step,res,litS]
  unfold litS
  obtain ⟨hk,ht⟩ := hk
  simp -dsimp only [aqA,↓seqK,↓blkK,↓loopK,step,stepBin,eqB,Nat.add_assoc nid,simprocAttr,z0]
  refine S2.dec (fun h3 => ?_) (fun h3 => ?_) <;> simp -dsimp only [aqA,↓seqK,↓blkK,↓loopK,step,stepBin,eqB,Nat.add_assoc nid,simprocAttr,z0]
  · refine ⟨by omega,by omega,S2.intro (fun h4 => ?_) (fun h4 => ?_)⟩ <;> simp -dsimp only [aqA,↓seqK,↓blkK,↓loopK,step,stepBin,eqB,Nat.add_assoc nid,simprocAttr,z0]
    · refine RetOK.pure (.inl rfl) rfl ?_
      have h1 : l ≠ m := fun e => by subst e; simp at h4
      simp [cvT,step,res,h1]
    · have h5 : l.getD k [] = m.getD k [] := by simpa only [Bool.not_eq_false',beq_iff_eq] using h4
      refine ⟨by unfold inI64; omega,k + 1,⟨⟨by omega,take_eqL (by omega) (by omega) ht h5⟩,by omega⟩,Cov.go [] [] ?_⟩
      simp [cvT,step,res,litS]
  · have hkl : k = l.length := by omega
    have h1 : l = m := by rw [hkl] at ht; rw [List.take_length,hlm,List.take_length] at ht; exact ht
    refine RetOK.pure (.inl rfl) rfl ?_
    simp [cvT,step,res,h1]
open Go.RowKit
structure WafSmall (W:Waf):Prop where
 len:W.rows.length≤6
 row:ShortRows 7 W.rows
 pass:W.pass.length≤2
theorem WafSmall.bd {W:Waf} (h:WafSmall W):WafBd W:=⟨by have:=h.len; omega,fun r hr=>by have:=h.row r hr; omega,by have:=h.pass; omega⟩
set_option maxHeartbeats 4000000 in
theorem waferOfX (s nid:Nat) (nl:Bool) (A:List Int) (p:Nat) (h:s<nid) (hp:p≤1099510000000) (hA:A.length≤17592186044416) :
  ∃ x:Waf × Nat,(WafSmall x.1∧x.2≤p+60)∧ACall Try.prog 5 [.ptr s 0] [(s,strmC nl A p)] nid (.agg [.sl nid 0 x.1.rows.length,.str x.1.pass]) [(s,strmC nl A x.2),(nid,arrS x.1.rows)]:=by
 obtain ⟨e1,e2,e3,e4,e5,e6,e7,e8,e9⟩:=id_all h
 refine acall_ex c5 (by simp [a5]) ?_
 simp -dsimp only [aqT0,ROp0,aqA,↓seqK,↓blkK,↓loopK,step,stepBin,eqB,Nat.add_assoc nid,simprocAttr,z0,Int.cast_ofNat_Int,Int.reduceBEq,Int.reduceBNe,Int.reduceLT,Int.reduceLE,Int.reduceAdd,Int.reduceSub,Int.reduceMul,Int.reduceToNat,Int.reduceNeg,Int.reduceTMod,Int.reduceEq,not_false_eq_true,Int.reducePow,Int.reduceFDiv,Nat.reducePow,Nat.reduceSub,Nat.reduceMul,Nat.min_eq_left,Nat.reduceEqDiff,BEq.rfl,Int.tdiv_one,LN_succ,e1,e2,e3,e4,e5,e6,e7,e8,e9,a5,strmC_low]
 refine CallX.on (range_c s _ nl A p 1 6 (by omega) (by omega) hA (by omega) (by omega) (by omega)) (subH_get (by simp only [aqA,↓seqK,↓blkK,↓loopK,step,stepBin,eqB,Nat.add_assoc nid,simprocAttr,z0,e1,e2,e3,e4,e5,e6,e7,e8,e9])) ?_
 simp -dsimp only [aqT0,ROp0,aqA,↓seqK,↓blkK,↓loopK,step,stepBin,eqB,Nat.add_assoc nid,simprocAttr,z0,Int.cast_ofNat_Int,Int.reduceBEq,Int.reduceBNe,Int.reduceLT,Int.reduceLE,Int.reduceAdd,Int.reduceSub,Int.reduceMul,Int.reduceToNat,Int.reduceNeg,Int.reduceTMod,Int.reduceEq,not_false_eq_true,Int.reducePow,Int.reduceFDiv,Nat.reducePow,Nat.reduceSub,Nat.reduceMul,Nat.min_eq_left,Nat.reduceEqDiff,BEq.rfl,Int.tdiv_one,LN_succ,e1,e2,e3,e4,e5,e6,e7,e8,e9,strmC_low]
 have hwd:=rangeV_bd A p (lo:=1) (hi:=6) (by omega)
 obtain ⟨w,hw⟩:∃ w:Nat,rangeV A p 1 6=w:=⟨_,(Int.toNat_of_nonneg (by omega)).symm⟩
 rw [hw] at hwd ⊢
 clear hw
 refine CallX.some_go (T:=9) (nl:=nl) (A:=A) (p:=p+1) (g:=fun i=>[[49],[49],[49,50],[49,97],[]].getD i []) (by simp only [aqA,↓seqK,↓blkK,↓loopK,step,stepBin,eqB,Nat.add_assoc nid,simprocAttr,z0,e1,e2,e3,e4,e5,e6,e7,e8,e9]) (by simp only [aqA,↓seqK,↓blkK,↓loopK,step,stepBin,eqB,Nat.add_assoc nid,simprocAttr,z0,e1,e2,e3,e4,e5,e6,e7,e8,e9]) (by simp only [aqA,↓seqK,↓blkK,↓loopK,step,stepBin,eqB,Nat.add_assoc nid,simprocAttr,z0,e1,e2,e3,e4,e5,e6,e7,e8,e9]) (by omega) (by omega) hA (by omega) (by omega) ?_
 simp -dsimp only [aqT0,ROp0,aqA,↓seqK,↓blkK,↓loopK,step,stepBin,eqB,Nat.add_assoc nid,simprocAttr,z0,Int.cast_ofNat_Int,Int.reduceBEq,Int.reduceBNe,Int.reduceLT,Int.reduceLE,Int.reduceAdd,Int.reduceSub,Int.reduceMul,Int.reduceToNat,Int.reduceNeg,Int.reduceTMod,Int.reduceEq,not_false_eq_true,Int.reducePow,Int.reduceFDiv,Nat.reducePow,Nat.reduceSub,Nat.reduceMul,Nat.min_eq_left,Nat.reduceEqDiff,BEq.rfl,Int.tdiv_one,LN_succ,e1,e2,e3,e4,e5,e6,e7,e8,e9,strmC_low]
 have hps:=getD_all (P:=fun x:List UInt8=>x.length≤2) (l:=[[49],[49],[49,50],[49,97],[]]) (d:=[]) (by simp) (pickI_lt A (p+1) (n:=5) (by omega))
 generalize ([[49],[49],[49,50],[49,97],[]].getD (pickI A (p+1) 5) []:List UInt8)=pass at hps ⊢
 refine CallX.on (range_c s _ nl A (p+1+1) 1 6 (by omega) (by omega) hA (by omega) (by omega) (by omega)) (subH_get (by simp only [aqA,↓seqK,↓blkK,↓loopK,step,stepBin,eqB,Nat.add_assoc nid,simprocAttr,z0,e1,e2,e3,e4,e5,e6,e7,e8,e9])) ?_
 simp -dsimp only [aqT0,ROp0,aqA,↓seqK,↓blkK,↓loopK,step,stepBin,eqB,Nat.add_assoc nid,simprocAttr,z0,Int.cast_ofNat_Int,Int.reduceBEq,Int.reduceBNe,Int.reduceLT,Int.reduceLE,Int.reduceAdd,Int.reduceSub,Int.reduceMul,Int.reduceToNat,Int.reduceNeg,Int.reduceTMod,Int.reduceEq,not_false_eq_true,Int.reducePow,Int.reduceFDiv,Nat.reducePow,Nat.reduceSub,Nat.reduceMul,Nat.min_eq_left,Nat.reduceEqDiff,BEq.rfl,Int.tdiv_one,LN_succ,e1,e2,e3,e4,e5,e6,e7,e8,e9,strmC_low]
 have hmd:=rangeV_bd A (p+1+1) (lo:=1) (hi:=6) (by omega)
 obtain ⟨m,hm⟩:∃ w:Nat,rangeV A (p+1+1) 1 6=w:=⟨_,(Int.toNat_of_nonneg (by omega)).symm⟩
 rw [hm] at hmd ⊢
 clear hm
 refine LP0.mkP (fun x:List (List UInt8) × Nat=>x.1.length≤m∧ShortRows 6 x.1∧x.2≤p+3+6 * x.1.length) (fun x=>⟨[(14,.int .i64 x.1.length),(13,.int .i64 m),(4,.ptr (nid+32) 0),(3,.int .i64 w),(2,.ptr nid 0),(0,.ptr s 0)],
  [(s,strmC nl A x.2),(nid,some (.box 28 [.lit true 0 [],.str []])),(nid+32,some (.box 28 [.sl (nid+36) 0 x.1.length,.str pass])),(nid+36,arrS x.1)],nid+200,nid⟩) (fun x=>m+1 - x.1.length) ([],p+1+1+1) ⟨by simp,fun r hr=>by simp at hr,by simp⟩ (Cov.go [] [(nid+36,1)] ?_) (fun x hx=>?_)
 ·simp [cvT,step,res,e1,e2,e3,e4,e5,e6,e7,e8,e9,strmC,arrS]
 obtain ⟨R,q⟩:=x
 obtain ⟨hR1,hR2,hq⟩:=hx
 simp only at hR1 hR2 hq
 unfold arrS
 simp -dsimp only [aqT0,ROp0,aqA,↓seqK,↓blkK,↓loopK,step,stepBin,eqB,Nat.add_assoc nid,simprocAttr,z0,Int.cast_ofNat_Int,Int.reduceBEq,Int.reduceBNe,Int.reduceLT,Int.reduceLE,Int.reduceAdd,Int.reduceSub,Int.reduceMul,Int.reduceToNat,Int.reduceNeg,Int.reduceTMod,Int.reduceEq,not_false_eq_true,Int.reducePow,Int.reduceFDiv,Nat.reducePow,Nat.reduceSub,Nat.reduceMul,Nat.min_eq_left,Nat.reduceEqDiff,BEq.rfl,Int.tdiv_one,LN_succ,e1,e2,e3,e4,e5,e6,e7,e8,e9,strmC_low]
 refine S2.dec (fun h2=>?_) (fun h2=>?_) <;> simp -dsimp only [aqT0,ROp0,aqA,↓seqK,↓blkK,↓loopK,step,stepBin,eqB,Nat.add_assoc nid,simprocAttr,z0,Int.cast_ofNat_Int,Int.reduceBEq,Int.reduceBNe,Int.reduceLT,Int.reduceLE,Int.reduceAdd,Int.reduceSub,Int.reduceMul,Int.reduceToNat,Int.reduceNeg,Int.reduceTMod,Int.reduceEq,not_false_eq_true,Int.reducePow,Int.reduceFDiv,Nat.reducePow,Nat.reduceSub,Nat.reduceMul,Nat.min_eq_left,Nat.reduceEqDiff,BEq.rfl,Int.tdiv_one,LN_succ,e1,e2,e3,e4,e5,e6,e7,e8,e9,strmC_low]
 ·refine LP0.mkP (fun x:List UInt8 × Nat=>x.1.length≤w∧x.2≤q+x.1.length) (fun x=>⟨[(17,.int .i64 x.1.length),(16,.int .i64 w),(5,.str x.1),(14,.int .i64 R.length),(13,.int .i64 m),(4,.ptr (nid+32) 0),(3,.int .i64 w),(2,.ptr nid 0),(0,.ptr s 0)],
   [(s,strmC nl A x.2),(nid,some (.box 28 [.lit true 0 [],.str []])),(nid+32,some (.box 28 [.sl (nid+36) 0 R.length,.str pass])),(nid+36,arrS R)],nid+400,nid⟩) (fun x=>w+1 - x.1.length) ([],q) ⟨by simp,by simp⟩ (Cov.go [] [] ?_) (fun x hx=>?_)
  ·simp [cvT,step,res,e1,e2,e3,e4,e5,e6,e7,e8,e9,strmC,arrS]
  obtain ⟨t,r⟩:=x
  obtain ⟨ht1,hr⟩:=hx
  simp only at ht1 hr
  unfold arrS
  simp -dsimp only [aqT0,ROp0,aqA,↓seqK,↓blkK,↓loopK,step,stepBin,eqB,Nat.add_assoc nid,simprocAttr,z0,Int.cast_ofNat_Int,Int.reduceBEq,Int.reduceBNe,Int.reduceLT,Int.reduceLE,Int.reduceAdd,Int.reduceSub,Int.reduceMul,Int.reduceToNat,Int.reduceNeg,Int.reduceTMod,Int.reduceEq,not_false_eq_true,Int.reducePow,Int.reduceFDiv,Nat.reducePow,Nat.reduceSub,Nat.reduceMul,Nat.min_eq_left,Nat.reduceEqDiff,BEq.rfl,Int.tdiv_one,LN_succ,e1,e2,e3,e4,e5,e6,e7,e8,e9,strmC_low]
  refine S2.dec (fun h3=>?_) (fun h3=>?_) <;> simp -dsimp only [aqT0,ROp0,aqA,↓seqK,↓blkK,↓loopK,step,stepBin,eqB,Nat.add_assoc nid,simprocAttr,z0,Int.cast_ofNat_Int,Int.reduceBEq,Int.reduceBNe,Int.reduceLT,Int.reduceLE,Int.reduceAdd,Int.reduceSub,Int.reduceMul,Int.reduceToNat,Int.reduceNeg,Int.reduceTMod,Int.reduceEq,not_false_eq_true,Int.reducePow,Int.reduceFDiv,Nat.reducePow,Nat.reduceSub,Nat.reduceMul,Nat.min_eq_left,Nat.reduceEqDiff,BEq.rfl,Int.tdiv_one,LN_succ,e1,e2,e3,e4,e5,e6,e7,e8,e9,strmC_low]
  ·refine CallX.some_go (T:=9) (nl:=nl) (A:=A) (p:=r) (g:=fun i=>[[49],[49],[49],[120],[120],[63],[46],[42],[50],[97]].getD i []) (by simp only [aqA,↓seqK,↓blkK,↓loopK,step,stepBin,eqB,Nat.add_assoc nid,simprocAttr,z0,e1,e2,e3,e4,e5,e6,e7,e8,e9]) (by simp only [aqA,↓seqK,↓blkK,↓loopK,step,stepBin,eqB,Nat.add_assoc nid,simprocAttr,z0,e1,e2,e3,e4,e5,e6,e7,e8,e9]) (by simp only [aqA,↓seqK,↓blkK,↓loopK,step,stepBin,eqB,Nat.add_assoc nid,simprocAttr,z0,e1,e2,e3,e4,e5,e6,e7,e8,e9]) (by omega) (by omega) hA (by omega) (by omega) ?_
   simp -dsimp only [aqT0,ROp0,aqA,↓seqK,↓blkK,↓loopK,step,stepBin,eqB,Nat.add_assoc nid,simprocAttr,z0,Int.cast_ofNat_Int,Int.reduceBEq,Int.reduceBNe,Int.reduceLT,Int.reduceLE,Int.reduceAdd,Int.reduceSub,Int.reduceMul,Int.reduceToNat,Int.reduceNeg,Int.reduceTMod,Int.reduceEq,not_false_eq_true,Int.reducePow,Int.reduceFDiv,Nat.reducePow,Nat.reduceSub,Nat.reduceMul,Nat.min_eq_left,Nat.reduceEqDiff,BEq.rfl,Int.tdiv_one,LN_succ,e1,e2,e3,e4,e5,e6,e7,e8,e9,strmC_low]
   have hb:=getD_all (P:=fun x:List UInt8=>x.length=1) (l:=[[49],[49],[49],[120],[120],[63],[46],[42],[50],[97]]) (d:=[]) (by simp) (pickI_lt A r (n:=10) (by omega))
   generalize ([[49],[49],[49],[120],[120],[63],[46],[42],[50],[97]].getD (pickI A r 10) []:List UInt8)=b at hb ⊢
   have e:(t++b).length=t.length+1:=by rw [List.length_append,hb]
   have e2:((t++b).length:Int)=(t.length:Int)+1:=by omega
   refine ⟨by omega,by unfold inI64; omega,(t++b,r+1),⟨⟨by simp only; omega,by simp only; omega⟩,by simp only; omega⟩,Cov.go [] [] ?_⟩
   simp [cvT,step,res,e1,e2,e3,e4,e5,e6,e7,e8,e9,strmC,arrS,e,e2,-List.length_append]
  ·have hl:(R++[t]).length=R.length+1:=by simp
   rw [getD_app1 R t rfl]
   refine ⟨by omega,by unfold inI64; omega,(R++[t],r),⟨⟨by simp only; omega,by simp only; exact hR2.snoc (by omega),by simp only; omega⟩,by simp only; omega⟩,Cov.go [(nid+36,nid+420)] [] ?_⟩
   simp [cvT,step,res,e1,e2,e3,e4,e5,e6,e7,e8,e9,strmC,arrS,hl]
 have hRm:R.length=m:=by omega
 refine CallX.on (flip_c s _ nl A q 12 (by omega) (by omega) hA (by omega)) (subH_get (by simp only [aqA,↓seqK,↓blkK,↓loopK,step,stepBin,eqB,Nat.add_assoc nid,simprocAttr,z0,e1,e2,e3,e4,e5,e6,e7,e8,e9])) ?_
 simp -dsimp only [aqT0,ROp0,aqA,↓seqK,↓blkK,↓loopK,step,stepBin,eqB,Nat.add_assoc nid,simprocAttr,z0,Int.cast_ofNat_Int,Int.reduceBEq,Int.reduceBNe,Int.reduceLT,Int.reduceLE,Int.reduceAdd,Int.reduceSub,Int.reduceMul,Int.reduceToNat,Int.reduceNeg,Int.reduceTMod,Int.reduceEq,not_false_eq_true,Int.reducePow,Int.reduceFDiv,Nat.reducePow,Nat.reduceSub,Nat.reduceMul,Nat.min_eq_left,Nat.reduceEqDiff,BEq.rfl,Int.tdiv_one,LN_succ,e1,e2,e3,e4,e5,e6,e7,e8,e9,strmC_low]
 refine S2.intro (fun h3=>?_) (fun h3=>?_) <;> simp -dsimp only [aqT0,ROp0,aqA,↓seqK,↓blkK,↓loopK,step,stepBin,eqB,Nat.add_assoc nid,simprocAttr,z0,Int.cast_ofNat_Int,Int.reduceBEq,Int.reduceBNe,Int.reduceLT,Int.reduceLE,Int.reduceAdd,Int.reduceSub,Int.reduceMul,Int.reduceToNat,Int.reduceNeg,Int.reduceTMod,Int.reduceEq,not_false_eq_true,Int.reducePow,Int.reduceFDiv,Nat.reducePow,Nat.reduceSub,Nat.reduceMul,Nat.min_eq_left,Nat.reduceEqDiff,BEq.rfl,Int.tdiv_one,LN_succ,e1,e2,e3,e4,e5,e6,e7,e8,e9,strmC_low]
 ·refine CallX.on (next_c s _ nl A (q+1) 3 (by omega) (by omega) hA (by omega)) (subH_get (by simp only [aqA,↓seqK,↓blkK,↓loopK,step,stepBin,eqB,Nat.add_assoc nid,simprocAttr,z0,e1,e2,e3,e4,e5,e6,e7,e8,e9])) ?_
  simp -dsimp only [aqT0,ROp0,aqA,↓seqK,↓blkK,↓loopK,step,stepBin,eqB,Nat.add_assoc nid,simprocAttr,z0,Int.cast_ofNat_Int,Int.reduceBEq,Int.reduceBNe,Int.reduceLT,Int.reduceLE,Int.reduceAdd,Int.reduceSub,Int.reduceMul,Int.reduceToNat,Int.reduceNeg,Int.reduceTMod,Int.reduceEq,not_false_eq_true,Int.reducePow,Int.reduceFDiv,Nat.reducePow,Nat.reduceSub,Nat.reduceMul,Nat.min_eq_left,Nat.reduceEqDiff,BEq.rfl,Int.tdiv_one,LN_succ,e1,e2,e3,e4,e5,e6,e7,e8,e9,strmC_low]
  refine S2.intro (fun h4=>?_) (fun h4=>?_) <;> simp -dsimp only [aqT0,ROp0,aqA,↓seqK,↓blkK,↓loopK,step,stepBin,eqB,Nat.add_assoc nid,simprocAttr,z0,Int.cast_ofNat_Int,Int.reduceBEq,Int.reduceBNe,Int.reduceLT,Int.reduceLE,Int.reduceAdd,Int.reduceSub,Int.reduceMul,Int.reduceToNat,Int.reduceNeg,Int.reduceTMod,Int.reduceEq,not_false_eq_true,Int.reducePow,Int.reduceFDiv,Nat.reducePow,Nat.reduceSub,Nat.reduceMul,Nat.min_eq_left,Nat.reduceEqDiff,BEq.rfl,Int.tdiv_one,LN_succ,e1,e2,e3,e4,e5,e6,e7,e8,e9,strmC_low]
  ·refine CallX.on (next_c s _ nl A (q+1+1) _ (by omega) (by omega) hA (by omega)) (subH_get (by simp only [aqA,↓seqK,↓blkK,↓loopK,step,stepBin,eqB,Nat.add_assoc nid,simprocAttr,z0,e1,e2,e3,e4,e5,e6,e7,e8,e9])) ?_
   simp -dsimp only [aqT0,ROp0,aqA,↓seqK,↓blkK,↓loopK,step,stepBin,eqB,Nat.add_assoc nid,simprocAttr,z0,Int.cast_ofNat_Int,Int.reduceBEq,Int.reduceBNe,Int.reduceLT,Int.reduceLE,Int.reduceAdd,Int.reduceSub,Int.reduceMul,Int.reduceToNat,Int.reduceNeg,Int.reduceTMod,Int.reduceEq,not_false_eq_true,Int.reducePow,Int.reduceFDiv,Nat.reducePow,Nat.reduceSub,Nat.reduceMul,Nat.min_eq_left,Nat.reduceEqDiff,BEq.rfl,Int.tdiv_one,LN_succ,e1,e2,e3,e4,e5,e6,e7,e8,e9,strmC_low]
   have hI0:=nextV_bd A (q+1+1) (n:=(R.length:Int)) (by omega)
   obtain ⟨I,hI⟩:∃ I:Nat,nextV A (q+1+1) (R.length:Int)=I:=⟨_,(Int.toNat_of_nonneg hI0.1).symm⟩
   rw [hI] at hI0 ⊢
   have hIR:I<R.length:=by omega
   refine ⟨by omega,?_⟩
   refine CallX.some_go (T:=9) (nl:=nl) (A:=A) (p:=q+1+1+1) (g:=fun i=>[[49],[65]].getD i []) (by simp only [aqA,↓seqK,↓blkK,↓loopK,step,stepBin,eqB,Nat.add_assoc nid,simprocAttr,z0,e1,e2,e3,e4,e5,e6,e7,e8,e9]) (by simp only [aqA,↓seqK,↓blkK,↓loopK,step,stepBin,eqB,Nat.add_assoc nid,simprocAttr,z0,e1,e2,e3,e4,e5,e6,e7,e8,e9]) (by simp only [aqA,↓seqK,↓blkK,↓loopK,step,stepBin,eqB,Nat.add_assoc nid,simprocAttr,z0,e1,e2,e3,e4,e5,e6,e7,e8,e9]) (by omega) (by omega) hA (by omega) (by omega) ?_
   simp -dsimp only [aqT0,ROp0,aqA,↓seqK,↓blkK,↓loopK,step,stepBin,eqB,Nat.add_assoc nid,simprocAttr,z0,Int.cast_ofNat_Int,Int.reduceBEq,Int.reduceBNe,Int.reduceLT,Int.reduceLE,Int.reduceAdd,Int.reduceSub,Int.reduceMul,Int.reduceToNat,Int.reduceNeg,Int.reduceTMod,Int.reduceEq,not_false_eq_true,Int.reducePow,Int.reduceFDiv,Nat.reducePow,Nat.reduceSub,Nat.reduceMul,Nat.min_eq_left,Nat.reduceEqDiff,BEq.rfl,Int.tdiv_one,LN_succ,e1,e2,e3,e4,e5,e6,e7,e8,e9,strmC_low]
   have hb:=getD_all (P:=fun x:List UInt8=>x.length≤1) (l:=[[49],[65]]) (d:=[]) (by simp) (pickI_lt A (q+1+1+1) (n:=2) (by omega))
   generalize ([[49],[65]].getD (pickI A (q+1+1+1) 2) []:List UInt8)=b at hb ⊢
   have hRI:=hR2.at I
   have hlb:(R.getD I []++b).length≤7:=by rw [List.length_append]; omega
   rw [getD_setS R _ hIR]
   refine ⟨by rw [← List.length_append]; omega,by omega,?_⟩
   refine CallX.on (flip_c s _ nl A (q+1+1+1+1) 60 (by omega) (by omega) hA (by omega)) (subH_get (by simp only [aqA,↓seqK,↓blkK,↓loopK,step,stepBin,eqB,Nat.add_assoc nid,simprocAttr,z0,e1,e2,e3,e4,e5,e6,e7,e8,e9])) ?_
   simp -dsimp only [aqT0,ROp0,aqA,↓seqK,↓blkK,↓loopK,step,stepBin,eqB,Nat.add_assoc nid,simprocAttr,z0,Int.cast_ofNat_Int,Int.reduceBEq,Int.reduceBNe,Int.reduceLT,Int.reduceLE,Int.reduceAdd,Int.reduceSub,Int.reduceMul,Int.reduceToNat,Int.reduceNeg,Int.reduceTMod,Int.reduceEq,not_false_eq_true,Int.reducePow,Int.reduceFDiv,Nat.reducePow,Nat.reduceSub,Nat.reduceMul,Nat.min_eq_left,Nat.reduceEqDiff,BEq.rfl,Int.tdiv_one,LN_succ,e1,e2,e3,e4,e5,e6,e7,e8,e9,strmC_low]
   refine S2.intro (fun h7=>?_) (fun h7=>?_) <;> simp -dsimp only [aqT0,ROp0,aqA,↓seqK,↓blkK,↓loopK,step,stepBin,eqB,Nat.add_assoc nid,simprocAttr,z0,Int.cast_ofNat_Int,Int.reduceBEq,Int.reduceBNe,Int.reduceLT,Int.reduceLE,Int.reduceAdd,Int.reduceSub,Int.reduceMul,Int.reduceToNat,Int.reduceNeg,Int.reduceTMod,Int.reduceEq,not_false_eq_true,Int.reducePow,Int.reduceFDiv,Nat.reducePow,Nat.reduceSub,Nat.reduceMul,Nat.min_eq_left,Nat.reduceEqDiff,BEq.rfl,Int.tdiv_one,LN_succ,e1,e2,e3,e4,e5,e6,e7,e8,e9,strmC_low]
   ·refine EndOK.mk (⟨[],pass⟩,(q+1+1+1+1)+1) ⟨⟨by simp,fun r hr=>by simp at hr,by simp only; omega⟩,by simp only; omega⟩ ?_
    refine RetOK.go [] [(nid,1)] (.inl rfl) ?_
    simp [a5,cvT,step,res,e1,e2,e3,e4,e5,e6,e7,e8,e9,strmC,arrS]
   ·refine EndOK.mk (⟨R.set I (R.getD I []++b),pass⟩,(q+1+1+1+1)+1) ⟨⟨by simp only [List.length_set]; omega,(hR2.mono (by omega)).set I hlb,by simp only; omega⟩,by simp only; omega⟩ ?_
    refine RetOK.go [(nid,nid+36)] [] (.inl rfl) ?_
    simp [a5,cvT,step,res,e1,e2,e3,e4,e5,e6,e7,e8,e9,strmC,arrS,-List.getD_eq_getElem?_getD]
  refine S2.intro (fun h5=>?_) (fun h5=>?_) <;> simp -dsimp only [aqT0,ROp0,aqA,↓seqK,↓blkK,↓loopK,step,stepBin,eqB,Nat.add_assoc nid,simprocAttr,z0,Int.cast_ofNat_Int,Int.reduceBEq,Int.reduceBNe,Int.reduceLT,Int.reduceLE,Int.reduceAdd,Int.reduceSub,Int.reduceMul,Int.reduceToNat,Int.reduceNeg,Int.reduceTMod,Int.reduceEq,not_false_eq_true,Int.reducePow,Int.reduceFDiv,Nat.reducePow,Nat.reduceSub,Nat.reduceMul,Nat.min_eq_left,Nat.reduceEqDiff,BEq.rfl,Int.tdiv_one,LN_succ,e1,e2,e3,e4,e5,e6,e7,e8,e9,strmC_low]
  ·refine CallX.on (next_c s _ nl A (q+1+1) _ (by omega) (by omega) hA (by omega)) (subH_get (by simp only [aqA,↓seqK,↓blkK,↓loopK,step,stepBin,eqB,Nat.add_assoc nid,simprocAttr,z0,e1,e2,e3,e4,e5,e6,e7,e8,e9])) ?_
   simp -dsimp only [aqT0,ROp0,aqA,↓seqK,↓blkK,↓loopK,step,stepBin,eqB,Nat.add_assoc nid,simprocAttr,z0,Int.cast_ofNat_Int,Int.reduceBEq,Int.reduceBNe,Int.reduceLT,Int.reduceLE,Int.reduceAdd,Int.reduceSub,Int.reduceMul,Int.reduceToNat,Int.reduceNeg,Int.reduceTMod,Int.reduceEq,not_false_eq_true,Int.reducePow,Int.reduceFDiv,Nat.reducePow,Nat.reduceSub,Nat.reduceMul,Nat.min_eq_left,Nat.reduceEqDiff,BEq.rfl,Int.tdiv_one,LN_succ,e1,e2,e3,e4,e5,e6,e7,e8,e9,strmC_low]
   have hI0:=nextV_bd A (q+1+1) (n:=(R.length:Int)) (by omega)
   obtain ⟨I,hI⟩:∃ I:Nat,nextV A (q+1+1) (R.length:Int)=I:=⟨_,(Int.toNat_of_nonneg hI0.1).symm⟩
   rw [hI] at hI0 ⊢
   have hIR:I<R.length:=by omega
   refine CallX.some_go (T:=9) (nl:=nl) (A:=A) (p:=q+1+1+1) (g:=fun i=>[[],[65],[32]].getD i []) (by simp only [aqA,↓seqK,↓blkK,↓loopK,step,stepBin,eqB,Nat.add_assoc nid,simprocAttr,z0,e1,e2,e3,e4,e5,e6,e7,e8,e9]) (by simp only [aqA,↓seqK,↓blkK,↓loopK,step,stepBin,eqB,Nat.add_assoc nid,simprocAttr,z0,e1,e2,e3,e4,e5,e6,e7,e8,e9]) (by simp only [aqA,↓seqK,↓blkK,↓loopK,step,stepBin,eqB,Nat.add_assoc nid,simprocAttr,z0,e1,e2,e3,e4,e5,e6,e7,e8,e9]) (by omega) (by omega) hA (by omega) (by omega) ?_
   simp -dsimp only [aqT0,ROp0,aqA,↓seqK,↓blkK,↓loopK,step,stepBin,eqB,Nat.add_assoc nid,simprocAttr,z0,Int.cast_ofNat_Int,Int.reduceBEq,Int.reduceBNe,Int.reduceLT,Int.reduceLE,Int.reduceAdd,Int.reduceSub,Int.reduceMul,Int.reduceToNat,Int.reduceNeg,Int.reduceTMod,Int.reduceEq,not_false_eq_true,Int.reducePow,Int.reduceFDiv,Nat.reducePow,Nat.reduceSub,Nat.reduceMul,Nat.min_eq_left,Nat.reduceEqDiff,BEq.rfl,Int.tdiv_one,LN_succ,e1,e2,e3,e4,e5,e6,e7,e8,e9,strmC_low]
   have hb:=getD_all (P:=fun x:List UInt8=>x.length≤1) (l:=[[],[65],[32]]) (d:=[]) (by simp) (pickI_lt A (q+1+1+1) (n:=3) (by omega))
   generalize ([[],[65],[32]].getD (pickI A (q+1+1+1) 3) []:List UInt8)=b at hb ⊢
   rw [getD_setS R _ hIR]
   refine ⟨by omega,?_⟩
   refine CallX.on (flip_c s _ nl A (q+1+1+1+1) 60 (by omega) (by omega) hA (by omega)) (subH_get (by simp only [aqA,↓seqK,↓blkK,↓loopK,step,stepBin,eqB,Nat.add_assoc nid,simprocAttr,z0,e1,e2,e3,e4,e5,e6,e7,e8,e9])) ?_
   simp -dsimp only [aqT0,ROp0,aqA,↓seqK,↓blkK,↓loopK,step,stepBin,eqB,Nat.add_assoc nid,simprocAttr,z0,Int.cast_ofNat_Int,Int.reduceBEq,Int.reduceBNe,Int.reduceLT,Int.reduceLE,Int.reduceAdd,Int.reduceSub,Int.reduceMul,Int.reduceToNat,Int.reduceNeg,Int.reduceTMod,Int.reduceEq,not_false_eq_true,Int.reducePow,Int.reduceFDiv,Nat.reducePow,Nat.reduceSub,Nat.reduceMul,Nat.min_eq_left,Nat.reduceEqDiff,BEq.rfl,Int.tdiv_one,LN_succ,e1,e2,e3,e4,e5,e6,e7,e8,e9,strmC_low]
   refine S2.intro (fun h7=>?_) (fun h7=>?_) <;> simp -dsimp only [aqT0,ROp0,aqA,↓seqK,↓blkK,↓loopK,step,stepBin,eqB,Nat.add_assoc nid,simprocAttr,z0,Int.cast_ofNat_Int,Int.reduceBEq,Int.reduceBNe,Int.reduceLT,Int.reduceLE,Int.reduceAdd,Int.reduceSub,Int.reduceMul,Int.reduceToNat,Int.reduceNeg,Int.reduceTMod,Int.reduceEq,not_false_eq_true,Int.reducePow,Int.reduceFDiv,Nat.reducePow,Nat.reduceSub,Nat.reduceMul,Nat.min_eq_left,Nat.reduceEqDiff,BEq.rfl,Int.tdiv_one,LN_succ,e1,e2,e3,e4,e5,e6,e7,e8,e9,strmC_low]
   ·refine EndOK.mk (⟨[],pass⟩,(q+1+1+1+1)+1) ⟨⟨by simp,fun r hr=>by simp at hr,by simp only; omega⟩,by simp only; omega⟩ ?_
    refine RetOK.go [] [(nid,1)] (.inl rfl) ?_
    simp [a5,cvT,step,res,e1,e2,e3,e4,e5,e6,e7,e8,e9,strmC,arrS]
   ·refine EndOK.mk (⟨R.set I b,pass⟩,(q+1+1+1+1)+1) ⟨⟨by simp only [List.length_set]; omega,(hR2.mono (by omega)).set I (by omega),by simp only; omega⟩,by simp only; omega⟩ ?_
    refine RetOK.go [(nid,nid+36)] [] (.inl rfl) ?_
    simp [a5,cvT,step,res,e1,e2,e3,e4,e5,e6,e7,e8,e9,strmC,arrS,-List.getD_eq_getElem?_getD]
  ·refine CallX.some_go (T:=9) (nl:=nl) (A:=A) (p:=q+1+1) (g:=fun i=>[[50,49],[49,49],[65],[63]].getD i []) (by simp only [aqA,↓seqK,↓blkK,↓loopK,step,stepBin,eqB,Nat.add_assoc nid,simprocAttr,z0,e1,e2,e3,e4,e5,e6,e7,e8,e9]) (by simp only [aqA,↓seqK,↓blkK,↓loopK,step,stepBin,eqB,Nat.add_assoc nid,simprocAttr,z0,e1,e2,e3,e4,e5,e6,e7,e8,e9]) (by simp only [aqA,↓seqK,↓blkK,↓loopK,step,stepBin,eqB,Nat.add_assoc nid,simprocAttr,z0,e1,e2,e3,e4,e5,e6,e7,e8,e9]) (by omega) (by omega) hA (by omega) (by omega) ?_
   simp -dsimp only [aqT0,ROp0,aqA,↓seqK,↓blkK,↓loopK,step,stepBin,eqB,Nat.add_assoc nid,simprocAttr,z0,Int.cast_ofNat_Int,Int.reduceBEq,Int.reduceBNe,Int.reduceLT,Int.reduceLE,Int.reduceAdd,Int.reduceSub,Int.reduceMul,Int.reduceToNat,Int.reduceNeg,Int.reduceTMod,Int.reduceEq,not_false_eq_true,Int.reducePow,Int.reduceFDiv,Nat.reducePow,Nat.reduceSub,Nat.reduceMul,Nat.min_eq_left,Nat.reduceEqDiff,BEq.rfl,Int.tdiv_one,LN_succ,e1,e2,e3,e4,e5,e6,e7,e8,e9,strmC_low]
   have hb:=getD_all (P:=fun x:List UInt8=>x.length≤2) (l:=[[50,49],[49,49],[65],[63]]) (d:=[]) (by simp) (pickI_lt A (q+1+1) (n:=4) (by omega))
   generalize ([[50,49],[49,49],[65],[63]].getD (pickI A (q+1+1) 4) []:List UInt8)=b at hb ⊢
   refine CallX.on (flip_c s _ nl A (q+1+1+1) 60 (by omega) (by omega) hA (by omega)) (subH_get (by simp only [aqA,↓seqK,↓blkK,↓loopK,step,stepBin,eqB,Nat.add_assoc nid,simprocAttr,z0,e1,e2,e3,e4,e5,e6,e7,e8,e9])) ?_
   simp -dsimp only [aqT0,ROp0,aqA,↓seqK,↓blkK,↓loopK,step,stepBin,eqB,Nat.add_assoc nid,simprocAttr,z0,Int.cast_ofNat_Int,Int.reduceBEq,Int.reduceBNe,Int.reduceLT,Int.reduceLE,Int.reduceAdd,Int.reduceSub,Int.reduceMul,Int.reduceToNat,Int.reduceNeg,Int.reduceTMod,Int.reduceEq,not_false_eq_true,Int.reducePow,Int.reduceFDiv,Nat.reducePow,Nat.reduceSub,Nat.reduceMul,Nat.min_eq_left,Nat.reduceEqDiff,BEq.rfl,Int.tdiv_one,LN_succ,e1,e2,e3,e4,e5,e6,e7,e8,e9,strmC_low]
   refine S2.intro (fun h7=>?_) (fun h7=>?_) <;> simp -dsimp only [aqT0,ROp0,aqA,↓seqK,↓blkK,↓loopK,step,stepBin,eqB,Nat.add_assoc nid,simprocAttr,z0,Int.cast_ofNat_Int,Int.reduceBEq,Int.reduceBNe,Int.reduceLT,Int.reduceLE,Int.reduceAdd,Int.reduceSub,Int.reduceMul,Int.reduceToNat,Int.reduceNeg,Int.reduceTMod,Int.reduceEq,not_false_eq_true,Int.reducePow,Int.reduceFDiv,Nat.reducePow,Nat.reduceSub,Nat.reduceMul,Nat.min_eq_left,Nat.reduceEqDiff,BEq.rfl,Int.tdiv_one,LN_succ,e1,e2,e3,e4,e5,e6,e7,e8,e9,strmC_low]
   ·refine EndOK.mk (⟨[],b⟩,(q+1+1+1)+1) ⟨⟨by simp,fun r hr=>by simp at hr,by simp only; omega⟩,by simp only; omega⟩ ?_
    refine RetOK.go [] [(nid,1)] (.inl rfl) ?_
    simp [a5,cvT,step,res,e1,e2,e3,e4,e5,e6,e7,e8,e9,strmC,arrS]
   ·refine EndOK.mk (⟨R,b⟩,(q+1+1+1)+1) ⟨⟨by simp only [List.length_set]; omega,hR2.mono (by omega),by simp only; omega⟩,by simp only; omega⟩ ?_
    refine RetOK.go [(nid,nid+36)] [] (.inl rfl) ?_
    simp [a5,cvT,step,res,e1,e2,e3,e4,e5,e6,e7,e8,e9,strmC,arrS,-List.getD_eq_getElem?_getD]
 ·refine CallX.on (flip_c s _ nl A (q+1) 60 (by omega) (by omega) hA (by omega)) (subH_get (by simp only [aqA,↓seqK,↓blkK,↓loopK,step,stepBin,eqB,Nat.add_assoc nid,simprocAttr,z0,e1,e2,e3,e4,e5,e6,e7,e8,e9])) ?_
  simp -dsimp only [aqT0,ROp0,aqA,↓seqK,↓blkK,↓loopK,step,stepBin,eqB,Nat.add_assoc nid,simprocAttr,z0,Int.cast_ofNat_Int,Int.reduceBEq,Int.reduceBNe,Int.reduceLT,Int.reduceLE,Int.reduceAdd,Int.reduceSub,Int.reduceMul,Int.reduceToNat,Int.reduceNeg,Int.reduceTMod,Int.reduceEq,not_false_eq_true,Int.reducePow,Int.reduceFDiv,Nat.reducePow,Nat.reduceSub,Nat.reduceMul,Nat.min_eq_left,Nat.reduceEqDiff,BEq.rfl,Int.tdiv_one,LN_succ,e1,e2,e3,e4,e5,e6,e7,e8,e9,strmC_low]
  refine S2.intro (fun h7=>?_) (fun h7=>?_) <;> simp -dsimp only [aqT0,ROp0,aqA,↓seqK,↓blkK,↓loopK,step,stepBin,eqB,Nat.add_assoc nid,simprocAttr,z0,Int.cast_ofNat_Int,Int.reduceBEq,Int.reduceBNe,Int.reduceLT,Int.reduceLE,Int.reduceAdd,Int.reduceSub,Int.reduceMul,Int.reduceToNat,Int.reduceNeg,Int.reduceTMod,Int.reduceEq,not_false_eq_true,Int.reducePow,Int.reduceFDiv,Nat.reducePow,Nat.reduceSub,Nat.reduceMul,Nat.min_eq_left,Nat.reduceEqDiff,BEq.rfl,Int.tdiv_one,LN_succ,e1,e2,e3,e4,e5,e6,e7,e8,e9,strmC_low]
  ·refine EndOK.mk (⟨[],pass⟩,(q+1)+1) ⟨⟨by simp,fun r hr=>by simp at hr,by simp only; omega⟩,by simp only; omega⟩ ?_
   refine RetOK.go [] [(nid,1)] (.inl rfl) ?_
   simp [a5,cvT,step,res,e1,e2,e3,e4,e5,e6,e7,e8,e9,strmC,arrS]
  ·refine EndOK.mk (⟨R,pass⟩,(q+1)+1) ⟨⟨by simp only [List.length_set]; omega,hR2.mono (by omega),by simp only; omega⟩,by simp only; omega⟩ ?_
   refine RetOK.go [(nid,nid+36)] [] (.inl rfl) ?_
   simp [a5,cvT,step,res,e1,e2,e3,e4,e5,e6,e7,e8,e9,strmC,arrS,-List.getD_eq_getElem?_getD]
theorem oneDie_ok:waferV ⟨[[49]],[49]⟩=0:=by decide
set_option maxHeartbeats 4000000 in
theorem rightWaferX (s nid:Nat) (nl:Bool) (A:List Int) (p:Nat) (h:s<nid) (hp:p≤1099500000000) (hA:A.length≤17592186044416) :
  ∃ x:Waf × Nat,(waferV x.1=0∧WafSmall x.1∧x.2≤p+400)∧ACall Try.prog 24 [.ptr s 0] [(s,strmC nl A p)] nid (.agg [.sl nid 0 x.1.rows.length,.str x.1.pass]) [(s,strmC nl A x.2),(nid,arrS x.1.rows)]:=by
 obtain ⟨e1,e2,e3,e4,e5,e6,e7,e8,e9⟩:=id_all h
 refine acall_ex c24 (by simp [a24]) ?_
 simp -dsimp only [aqT0,ROp0,aqA,↓seqK,↓blkK,↓loopK,step,stepBin,eqB,Nat.add_assoc nid,simprocAttr,z0,Int.cast_ofNat_Int,Int.reduceBEq,Int.reduceBNe,Int.reduceLT,Int.reduceLE,Int.reduceAdd,Int.reduceSub,Int.reduceMul,Int.reduceToNat,Int.reduceNeg,Int.reduceTMod,Int.reduceEq,not_false_eq_true,Int.reducePow,Int.reduceFDiv,Nat.reducePow,Nat.reduceSub,Nat.reduceMul,Nat.min_eq_left,Nat.reduceEqDiff,BEq.rfl,Int.tdiv_one,LN_succ,e1,e2,e3,e4,e5,e6,e7,e8,e9,a24,strmC_low]
 refine LP0.mkP (fun x:Nat × Nat=>x.1≤6∧x.2≤p+60 * x.1) (fun x=>⟨[(4,.int .i64 x.1),(2,.ptr nid 0),(0,.ptr s 0)],[(s,strmC nl A x.2),(nid,some (.box 28 [.lit true 0 [],.str []]))],nid+200,nid⟩) (fun x=>7 - x.1) (0,p) ⟨by omega,by omega⟩ (Cov.go [] [] ?_) (fun x hx=>?_)
 ·simp [cvT,step,res,e1,e2,e3,e4,e5,e6,e7,e8,e9,strmC]
 obtain ⟨k,q⟩:=x
 obtain ⟨hk,hq⟩:=hx
 simp only at hk hq
 simp -dsimp only [aqT0,ROp0,aqA,↓seqK,↓blkK,↓loopK,step,stepBin,eqB,Nat.add_assoc nid,simprocAttr,z0,Int.cast_ofNat_Int,Int.reduceBEq,Int.reduceBNe,Int.reduceLT,Int.reduceLE,Int.reduceAdd,Int.reduceSub,Int.reduceMul,Int.reduceToNat,Int.reduceNeg,Int.reduceTMod,Int.reduceEq,not_false_eq_true,Int.reducePow,Int.reduceFDiv,Nat.reducePow,Nat.reduceSub,Nat.reduceMul,Nat.min_eq_left,Nat.reduceEqDiff,BEq.rfl,Int.tdiv_one,LN_succ,e1,e2,e3,e4,e5,e6,e7,e8,e9,strmC_low]
 refine S2.dec (fun h2=>?_) (fun h2=>?_) <;> simp -dsimp only [aqT0,ROp0,aqA,↓seqK,↓blkK,↓loopK,step,stepBin,eqB,Nat.add_assoc nid,simprocAttr,z0,Int.cast_ofNat_Int,Int.reduceBEq,Int.reduceBNe,Int.reduceLT,Int.reduceLE,Int.reduceAdd,Int.reduceSub,Int.reduceMul,Int.reduceToNat,Int.reduceNeg,Int.reduceTMod,Int.reduceEq,not_false_eq_true,Int.reducePow,Int.reduceFDiv,Nat.reducePow,Nat.reduceSub,Nat.reduceMul,Nat.min_eq_left,Nat.reduceEqDiff,BEq.rfl,Int.tdiv_one,LN_succ,e1,e2,e3,e4,e5,e6,e7,e8,e9,strmC_low]
 ·refine CallX.onE (waferOfX s _ nl A q (by omega) (by omega) hA) (subH_get (by simp only [aqA,↓seqK,↓blkK,↓loopK,step,stepBin,eqB,Nat.add_assoc nid,simprocAttr,z0,e1,e2,e3,e4,e5,e6,e7,e8,e9])) (fun x hx=>?_)
  obtain ⟨W,r⟩:=x
  obtain ⟨hW,hr⟩:=hx
  simp only at hW hr
  unfold arrS
  simp -dsimp only [aqT0,ROp0,aqA,↓seqK,↓blkK,↓loopK,step,stepBin,eqB,Nat.add_assoc nid,simprocAttr,z0,Int.cast_ofNat_Int,Int.reduceBEq,Int.reduceBNe,Int.reduceLT,Int.reduceLE,Int.reduceAdd,Int.reduceSub,Int.reduceMul,Int.reduceToNat,Int.reduceNeg,Int.reduceTMod,Int.reduceEq,not_false_eq_true,Int.reducePow,Int.reduceFDiv,Nat.reducePow,Nat.reduceSub,Nat.reduceMul,Nat.min_eq_left,Nat.reduceEqDiff,BEq.rfl,Int.tdiv_one,LN_succ,e1,e2,e3,e4,e5,e6,e7,e8,e9,strmC_low]
  refine CallX.lent [nid+208] (fun nl'=>by
   simp only [lends,lend,aqA,↓seqK,↓blkK,↓loopK,step,stepBin,eqB,Nat.add_assoc nid,simprocAttr,z0,Int.cast_ofNat_Int,Int.reduceBEq,Int.reduceBNe,Int.reduceLT,Int.reduceLE,Int.reduceAdd,Int.reduceSub,Int.reduceMul,Int.reduceToNat,Int.reduceNeg,Int.reduceTMod,Int.reduceEq,not_false_eq_true,Int.reducePow,Int.reduceFDiv,Nat.reducePow,Nat.reduceSub,Nat.reduceMul,Nat.min_eq_left,Nat.reduceEqDiff,BEq.rfl,Int.tdiv_one,LN_succ,e1,e2,e3,e4,e5,e6,e7,e8,e9]
   exact waferFault_all (nl' _) W _ hW.bd) rfl rfl (by simp only [List.mem_singleton,forall_eq,aqA,↓seqK,↓blkK,↓loopK,step,stepBin,eqB,Nat.add_assoc nid,simprocAttr,z0,Int.cast_ofNat_Int,Int.reduceBEq,Int.reduceBNe,Int.reduceLT,Int.reduceLE,Int.reduceAdd,Int.reduceSub,Int.reduceMul,Int.reduceToNat,Int.reduceNeg,Int.reduceTMod,Int.reduceEq,not_false_eq_true,Int.reducePow,Int.reduceFDiv,Nat.reducePow,Nat.reduceSub,Nat.reduceMul,Nat.min_eq_left,Nat.reduceEqDiff,BEq.rfl,Int.tdiv_one,LN_succ]) ?_
  simp -dsimp only [aqT0,ROp0,aqA,↓seqK,↓blkK,↓loopK,step,stepBin,eqB,Nat.add_assoc nid,simprocAttr,z0,Int.cast_ofNat_Int,Int.reduceBEq,Int.reduceBNe,Int.reduceLT,Int.reduceLE,Int.reduceAdd,Int.reduceSub,Int.reduceMul,Int.reduceToNat,Int.reduceNeg,Int.reduceTMod,Int.reduceEq,not_false_eq_true,Int.reducePow,Int.reduceFDiv,Nat.reducePow,Nat.reduceSub,Nat.reduceMul,Nat.min_eq_left,Nat.reduceEqDiff,BEq.rfl,Int.tdiv_one,LN_succ,e1,e2,e3,e4,e5,e6,e7,e8,e9,strmC_low]
  refine S2.intro (fun h3=>?_) (fun h3=>?_) <;> simp -dsimp only [aqT0,ROp0,aqA,↓seqK,↓blkK,↓loopK,step,stepBin,eqB,Nat.add_assoc nid,simprocAttr,z0,Int.cast_ofNat_Int,Int.reduceBEq,Int.reduceBNe,Int.reduceLT,Int.reduceLE,Int.reduceAdd,Int.reduceSub,Int.reduceMul,Int.reduceToNat,Int.reduceNeg,Int.reduceTMod,Int.reduceEq,not_false_eq_true,Int.reducePow,Int.reduceFDiv,Nat.reducePow,Nat.reduceSub,Nat.reduceMul,Nat.min_eq_left,Nat.reduceEqDiff,BEq.rfl,Int.tdiv_one,LN_succ,e1,e2,e3,e4,e5,e6,e7,e8,e9,strmC_low]
  ·refine EndOK.mk (W,r) ⟨by simpa using h3,hW,by simp only; omega⟩ ?_
   refine RetOK.go [(nid,nid+208)] [] (.inl rfl) ?_
   simp [a24,cvT,step,res,e1,e2,e3,e4,e5,e6,e7,e8,e9,strmC,arrS]
  ·refine ⟨by unfold inI64; omega,(k+1,r),⟨⟨by simp only; omega,by simp only; omega⟩,by simp only; omega⟩,Cov.go [] [] ?_⟩
   simp [cvT,step,res,e1,e2,e3,e4,e5,e6,e7,e8,e9,strmC]
 ·refine EndOK.mk (⟨[[49]],[49]⟩,q) ⟨oneDie_ok,⟨by simp,fun r hr=>by simp at hr; subst hr; simp,by simp⟩,by simp only; omega⟩ ?_
  refine RetOK.go [(nid,nid+204)] [] (.inl rfl) ?_
  simp [a24,cvT,step,res,e1,e2,e3,e4,e5,e6,e7,e8,e9,strmC,arrS]
open Go.RowKit
theorem sameWafer_c (nl nl':Bool) (V W:Waf) (nid:Nat) (hV:V.rows.length≤1000000) (hW:W.rows.length≤1000000):ACall Try.prog 20 [wafP nl V,wafP nl' W] [] nid (.bool (V.rows==W.rows && V.pass==W.pass)) []:=by
 refine acall_run c20 (by simp [a20]) ?_
 unfold wafP
 simp -dsimp only [a20,aqA,↓seqK,↓blkK,↓loopK,step,stepBin,eqB,Nat.add_assoc nid,simprocAttr,z0,Int.cast_ofNat_Int,Int.reduceBEq,Int.reduceBNe,Int.reduceLT,Int.reduceLE,Int.reduceAdd,Int.reduceSub,Int.reduceMul,Int.reduceToNat,Int.reduceNeg,Int.reduceTMod,Int.reduceEq,not_false_eq_true,Int.reducePow,Int.reduceFDiv,Nat.reducePow,Nat.reduceSub,Nat.reduceMul,Nat.min_eq_left,Nat.reduceEqDiff,BEq.rfl,Int.tdiv_one,LN_succ]
 refine CallO.pure (equalS_c nl nl' _ _ _ (by omega) (by omega)) ?_
 simp -dsimp only [aqA,↓seqK,↓blkK,↓loopK,step,stepBin,eqB,Nat.add_assoc nid,simprocAttr,z0,Int.cast_ofNat_Int,Int.reduceBEq,Int.reduceBNe,Int.reduceLT,Int.reduceLE,Int.reduceAdd,Int.reduceSub,Int.reduceMul,Int.reduceToNat,Int.reduceNeg,Int.reduceTMod,Int.reduceEq,not_false_eq_true,Int.reducePow,Int.reduceFDiv,Nat.reducePow,Nat.reduceSub,Nat.reduceMul,Nat.min_eq_left,Nat.reduceEqDiff,BEq.rfl,Int.tdiv_one,LN_succ]
 refine S2.intro (fun h=>?_) (fun h=>?_) <;> simp -dsimp only [aqA,↓seqK,↓blkK,↓loopK,step,stepBin,eqB,Nat.add_assoc nid,simprocAttr,z0,Int.cast_ofNat_Int,Int.reduceBEq,Int.reduceBNe,Int.reduceLT,Int.reduceLE,Int.reduceAdd,Int.reduceSub,Int.reduceMul,Int.reduceToNat,Int.reduceNeg,Int.reduceTMod,Int.reduceEq,not_false_eq_true,Int.reducePow,Int.reduceFDiv,Nat.reducePow,Nat.reduceSub,Nat.reduceMul,Nat.min_eq_left,Nat.reduceEqDiff,BEq.rfl,Int.tdiv_one,LN_succ]
 ·refine RetOK.pure (.inl rfl) rfl ?_
  simp [cvT,step,res,h]
 ·refine RetOK.pure (.inl rfl) rfl ?_
  simp [cvT,step,res,h]
theorem first_c (nl:Bool) (l:List Int) (nid:Nat) (hl:l.length≤1000000000):ACall Try.prog 79 [litI nl l] [] nid (.int .i64 (firstBad (fun x:Int=>x) l)) []:=by
 refine acall_run c79 (by simp [a79]) ?_
 unfold litI
 simp -dsimp only [aqA,↓seqK,↓blkK,↓loopK,step,stepBin,eqB,Nat.add_assoc nid,simprocAttr,z0,a79]
 refine LP.mkP (fun k:Nat=>k≤l.length∧firstBad (fun x:Int=>x) (l.take k)=0) (fun k:Nat=>⟨[(7,.int .i64 k),(6,.int .i64 l.length),(5,litI nl l)],[],nid+100,nid⟩) (fun k=>l.length+1 - k) 0 ⟨by omega,rfl⟩ (Cov.go [] [] ?_) (fun k hk=>?_)
 ·simp [cvT,step,res,litI]
 unfold litI
 obtain ⟨hk,hb⟩:=hk
 simp -dsimp only [aqA,↓seqK,↓blkK,↓loopK,step,stepBin,eqB,Nat.add_assoc nid,simprocAttr,z0,Int.cast_ofNat_Int,Int.reduceBEq,Int.reduceBNe,Int.reduceLT,Int.reduceLE,Int.reduceAdd,Int.reduceSub,Int.reduceMul,Int.reduceToNat,Int.reduceNeg,Int.reduceTMod,Int.reduceEq,not_false_eq_true,Int.reducePow,Int.reduceFDiv,Nat.reducePow,Nat.reduceSub,Nat.reduceMul,Nat.min_eq_left,Nat.reduceEqDiff,BEq.rfl,Int.tdiv_one,LN_succ]
 refine S2.dec (fun h3=>?_) (fun h3=>?_) <;> simp -dsimp only [aqA,↓seqK,↓blkK,↓loopK,step,stepBin,eqB,Nat.add_assoc nid,simprocAttr,z0,Int.cast_ofNat_Int,Int.reduceBEq,Int.reduceBNe,Int.reduceLT,Int.reduceLE,Int.reduceAdd,Int.reduceSub,Int.reduceMul,Int.reduceToNat,Int.reduceNeg,Int.reduceTMod,Int.reduceEq,not_false_eq_true,Int.reducePow,Int.reduceFDiv,Nat.reducePow,Nat.reduceSub,Nat.reduceMul,Nat.min_eq_left,Nat.reduceEqDiff,BEq.rfl,Int.tdiv_one,LN_succ]
 ·have hkl:k<l.length:=by omega
  obtain ⟨bad,good⟩:=rowsFB (d:=0) (f:=fun x:Int=>x) hkl hb
  refine ⟨by omega,S2.intro (fun h4=>?_) (fun h4=>?_)⟩ <;> simp -dsimp only [aqA,↓seqK,↓blkK,↓loopK,step,stepBin,eqB,Nat.add_assoc nid,simprocAttr,z0,Int.cast_ofNat_Int,Int.reduceBEq,Int.reduceBNe,Int.reduceLT,Int.reduceLE,Int.reduceAdd,Int.reduceSub,Int.reduceMul,Int.reduceToNat,Int.reduceNeg,Int.reduceTMod,Int.reduceEq,not_false_eq_true,Int.reducePow,Int.reduceFDiv,Nat.reducePow,Nat.reduceSub,Nat.reduceMul,Nat.min_eq_left,Nat.reduceEqDiff,BEq.rfl,Int.tdiv_one,LN_succ]
  ·rw [bad (by simpa using h4)]
   refine RetOK.pure (.inl rfl) rfl ?_
   simp [cvT,step,res]
  ·refine ⟨by unfold inI64; omega,k+1,⟨⟨by omega,good (by simpa using h4)⟩,by omega⟩,Cov.go [] [] ?_⟩
   simp [cvT,step,res,litI]
 ·have hkn:k=l.length:=by omega
  subst hkn
  rw [List.take_length] at hb
  rw [hb]
  refine RetOK.pure (.inl rfl) rfl ?_
  simp [cvT,step,res]
theorem at_all (nl:Bool) (W:Waf) (x y:Int) (nid:Nat) (hW:WafOk W) (hx:inI64 x) (hy:inI64 y):ACall Try.prog 44 [wafP nl W,.agg [.int .i64 x,.int .i64 y]] [] nid (.int .u8 (dieV W x y)) []:=by
 have hp:=hW.pos
 have hl:=hW.len
 obtain ⟨hw1,hw2⟩:=hW.wide
 have hw0:wideOf W=(W.rows.getD 0 []).length:=rfl
 refine acall_run c44 (by simp [a44]) ?_
 unfold wafP
 simp -dsimp only [a44,aqA,↓seqK,↓blkK,↓loopK,step,stepBin,eqB,Nat.add_assoc nid,simprocAttr,z0,Int.cast_ofNat_Int,Int.reduceBEq,Int.reduceBNe,Int.reduceLT,Int.reduceLE,Int.reduceAdd,Int.reduceSub,Int.reduceMul,Int.reduceToNat,Int.reduceNeg,Int.reduceTMod,Int.reduceEq,not_false_eq_true,Int.reducePow,Int.reduceFDiv,Nat.reducePow,Nat.reduceSub,Nat.reduceMul,Nat.min_eq_left,Nat.reduceEqDiff,BEq.rfl,Int.tdiv_one,LN_succ]
 refine ⟨by unfold inI64; omega,CallX.pure (out_c _ _ _ _) ?_⟩
 simp -dsimp only [aqA,↓seqK,↓blkK,↓loopK,step,stepBin,eqB,Nat.add_assoc nid,simprocAttr,z0,Int.cast_ofNat_Int,Int.reduceBEq,Int.reduceBNe,Int.reduceLT,Int.reduceLE,Int.reduceAdd,Int.reduceSub,Int.reduceMul,Int.reduceToNat,Int.reduceNeg,Int.reduceTMod,Int.reduceEq,not_false_eq_true,Int.reducePow,Int.reduceFDiv,Nat.reducePow,Nat.reduceSub,Nat.reduceMul,Nat.min_eq_left,Nat.reduceEqDiff,BEq.rfl,Int.tdiv_one,LN_succ]
 cases h1:outB y 0 ((W.rows.length:Int) - 1) <;> simp -dsimp only [aqA,↓seqK,↓blkK,↓loopK,step,stepBin,eqB,Nat.add_assoc nid,simprocAttr,z0,Int.cast_ofNat_Int,Int.reduceBEq,Int.reduceBNe,Int.reduceLT,Int.reduceLE,Int.reduceAdd,Int.reduceSub,Int.reduceMul,Int.reduceToNat,Int.reduceNeg,Int.reduceTMod,Int.reduceEq,not_false_eq_true,Int.reducePow,Int.reduceFDiv,Nat.reducePow,Nat.reduceSub,Nat.reduceMul,Nat.min_eq_left,Nat.reduceEqDiff,BEq.rfl,Int.tdiv_one,LN_succ]
 ·refine ⟨by omega,by unfold inI64; omega,CallX.pure (out_c _ _ _ _) ?_⟩
  simp -dsimp only [aqA,↓seqK,↓blkK,↓loopK,step,stepBin,eqB,Nat.add_assoc nid,simprocAttr,z0,Int.cast_ofNat_Int,Int.reduceBEq,Int.reduceBNe,Int.reduceLT,Int.reduceLE,Int.reduceAdd,Int.reduceSub,Int.reduceMul,Int.reduceToNat,Int.reduceNeg,Int.reduceTMod,Int.reduceEq,not_false_eq_true,Int.reducePow,Int.reduceFDiv,Nat.reducePow,Nat.reduceSub,Nat.reduceMul,Nat.min_eq_left,Nat.reduceEqDiff,BEq.rfl,Int.tdiv_one,LN_succ]
  rw [← hw0]
  cases h2:outB x 0 ((wideOf W:Int) - 1) <;> simp -dsimp only [aqA,↓seqK,↓blkK,↓loopK,step,stepBin,eqB,Nat.add_assoc nid,simprocAttr,z0,Int.cast_ofNat_Int,Int.reduceBEq,Int.reduceBNe,Int.reduceLT,Int.reduceLE,Int.reduceAdd,Int.reduceSub,Int.reduceMul,Int.reduceToNat,Int.reduceNeg,Int.reduceTMod,Int.reduceEq,not_false_eq_true,Int.reducePow,Int.reduceFDiv,Nat.reducePow,Nat.reduceSub,Nat.reduceMul,Nat.min_eq_left,Nat.reduceEqDiff,BEq.rfl,Int.tdiv_one,LN_succ]
  ·have hy1:0≤y∧y<W.rows.length:=by unfold outB at h1; simp at h1; omega
   have hx1:0≤x∧x<wideOf W:=by unfold outB at h2; simp at h2; omega
   have hr:=(hW.at (y:=y.toNat) (by omega)).1
   have e:dieV W x y=byteI ((W.rows.getD y.toNat []).getD x.toNat 0):=by unfold dieV; rw [h1,h2,if_neg (by simp),if_neg (by simp)]
   rw [e]
   refine ⟨by omega,by omega,?_⟩
   refine RetOK.pure (.inl rfl) rfl ?_
   simp [cvT,step,res,byteI]
  ·have e:dieV W x y=46:=by unfold dieV; rw [h1,h2,if_neg (by simp),if_pos rfl]
   rw [e]
   refine RetOK.pure (.inl rfl) rfl ?_
   simp [cvT,step,res]
 ·have e:dieV W x y=46:=by unfold dieV; rw [h1,if_pos rfl]
  rw [e]
  refine RetOK.pure (.inl rfl) rfl ?_
  simp [cvT,step,res]
def arrPl (l:List Pt):Option ABlk:=some (.arr 46 l.length [.i .i64 fun i=>(l.getD i p0).1,.i .i64 fun i=>(l.getD i p0).2])
def litPl (nl:Bool) (l:List Pt):PV:=.lit nl l.length [.i .i64 fun i=>(l.getD i p0).1,.i .i64 fun i=>(l.getD i p0).2]
theorem getD_appP (l:List Pt) (x:Pt) {n:Nat} (hn:l.length=n) (f:Pt→Int) (h0:f p0=0) {v:Int} (hv:v=f x):(fun i=>if i<n then f (l.getD i p0) else [v].getD (i - n) 0)=fun i=>f ((l++[x]).getD i p0):=by
 subst hn
 subst hv
 funext i
 simp only [List.getD_eq_getElem?_getD,List.getElem?_append]
 split
 ·rfl
 ·cases h:i - l.length with
  | zero=>rfl
  | succ k=>simp [h0]
end Go.Proofs.Yteepabfepfehgaa
