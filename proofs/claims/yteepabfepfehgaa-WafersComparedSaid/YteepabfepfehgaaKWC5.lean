/-
 The functions' forms for the abstract machine,each checked against the program's form.
-/
import Derived.Test.YteepabfepfehgaaKWC4
import Derived.Test.YteepabfepfehgaaKWC1
import Derived.Test.YteepabfepfehgaaProg
import Derived.Test.YteepabfepfehgaaKWC3
import Derived.Lib.Bytealg
import Derived.Laws.Externs
import Derived.KernelRfl
set_option linter.unusedVariables false
set_option linter.unusedSimpArgs false
set_option maxRecDepth 100000
namespace Go.Proofs.Yteepabfepfehgaa
def a3 : AFn := ⟨214,[.t 2],.seq (.ops [⟨some 2,none,.mv (.c (.bool false))⟩])
 (.seq (.ops [⟨some 22,none,.mv (.t 0)⟩,⟨some 23,none,.build [(.lit true 0 []),(.int .i64 0)] [(0,1,(.t 22))]⟩,⟨some 24,none,.box 25 (.t 23)⟩,⟨some 3,none,.mv (.t 24)⟩])
 (.seq (.ops [⟨some 25,none,.mv (.t 3)⟩,⟨some 26,none,.call 5 [(.t 25)]⟩,⟨some 4,none,.alloc 28 [(.lit true 0 []),(.str [])]⟩,⟨none,none,.store 2 (.t 4) (.t 26)⟩])
 (.seq (.any [(⟨some 27,none,.fadr 0 (.t 4)⟩,[]),(⟨some 28,none,.load none (.t 27)⟩,[]),(⟨some 29,none,.call 6 [(.t 28)]⟩,[]),(⟨some 30,none,.fadr 1 (.t 4)⟩,[0,1,2]),(⟨some 31,none,.load none (.t 30)⟩,[0,1,2]),(⟨some 32,none,.build [(.lit true 0 []),(.str [])] [(0,1,(.t 29)),(1,1,(.t 31))]⟩,[]),(⟨some 5,none,.alloc 28 [(.lit true 0 []),(.str [])]⟩,[0,1,2,3,4,5]),(⟨none,none,.store 2 (.t 5) (.t 32)⟩,[])])
 (.seq (.seq (.ops [⟨some 33,none,.fadr 0 (.t 5)⟩,⟨some 34,none,.load none (.t 33)⟩,⟨some 35,none,.len false (.t 34)⟩,⟨some 36,none,.mv (.c (.int .i64 0))⟩])
 (.block 0 (.loop (.seq (.ops [⟨some 37,none,.bin 0 .lss (.t 36) (.t 35)⟩])
 (.seq (.cond (.t 37) (.skip) (.exit 0))
 (.seq (.block 1 (.seq (.ops [⟨some 38,none,.mv (.t 36)⟩,⟨some 6,none,.mv (.t 38)⟩])
 (.seq (.ops [⟨some 39,none,.fadr 0 (.t 5)⟩,⟨some 40,none,.load none (.t 39)⟩,⟨some 41,none,.mv (.t 6)⟩,⟨some 42,none,.iadr 1 (.t 40) (.t 41)⟩,⟨some 43,none,.load none (.t 42)⟩,⟨some 44,none,.srg (.t 43)⟩])
 (.block 2 (.loop (.seq (.ops [⟨some 45,none,.snx (.t 44)⟩,⟨some 46,none,.ext (.t 45) 0⟩])
 (.seq (.cond (.t 46) (.skip) (.exit 2))
 (.block 3 (.seq (.ops [⟨some 47,none,.ext (.t 45) 1⟩,⟨some 7,none,.mv (.t 47)⟩])
 (.seq (.ops [⟨some 48,none,.mv (.t 3)⟩,⟨some 49,none,.call 7 [(.t 48),(.c (.int .i64 6))]⟩,⟨some 50,none,.mv (.t 49)⟩,⟨some 51,(some (50,true)),.mv (.t 7)⟩,⟨some 52,(some (50,true)),.fadr 0 (.t 5)⟩,⟨some 53,(some (50,true)),.load none (.t 52)⟩,⟨some 54,(some (50,true)),.mv (.t 6)⟩,⟨some 55,(some (50,true)),.iadr 1 (.t 53) (.t 54)⟩,⟨some 56,(some (50,true)),.load none (.t 55)⟩,⟨some 57,(some (50,true)),.len true (.t 56)⟩,⟨some 58,(some (50,true)),.bin 0 .lss (.t 51) (.t 57)⟩,⟨some 59,none,.pick (.t 50) (.t 58) (.c (.bool false))⟩])
 (.cond (.t 59) (.any [(⟨some 60,none,.fadr 0 (.t 5)⟩,[]),(⟨some 61,none,.load none (.t 60)⟩,[]),(⟨some 62,none,.mv (.t 6)⟩,[0,1]),(⟨some 63,none,.fadr 0 (.t 5)⟩,[0,1,2]),(⟨some 64,none,.load none (.t 63)⟩,[0,1,2]),(⟨some 65,none,.mv (.t 6)⟩,[0,1,2,3,4]),(⟨some 66,none,.iadr 1 (.t 64) (.t 65)⟩,[0,1,2]),(⟨some 67,none,.load none (.t 66)⟩,[0,1,2]),(⟨some 68,none,.mv (.t 7)⟩,[0,1,2,3,4,5,6,7]),(⟨some 69,none,.sls (.t 67) none (some (.t 68))⟩,[0,1,2]),(⟨some 70,none,.mv (.t 3)⟩,[0,1,2,3,4,5,6,7,8,9]),(⟨some 71,none,.bslice 9 1 4 [(.str [])] [(0,1,(.c (.str [63]))),(1,1,(.c (.str [63]))),(2,1,(.c (.str [49]))),(3,1,(.c (.str [46])))]⟩,[0,1,2,3,4,5,6,7,8,9,10]),(⟨some 72,none,.call 8 [(.t 70),(.t 71)]⟩,[0,1,2,3,4,5,6,7,8,9]),(⟨some 73,none,.bin 1 .add (.t 69) (.t 72)⟩,[0,1,2]),(⟨some 74,none,.fadr 0 (.t 5)⟩,[0,1,2,3,4,5,6,7,8,9,10,11,12,13]),(⟨some 75,none,.load none (.t 74)⟩,[0,1,2,3,4,5,6,7,8,9,10,11,12,13]),(⟨some 76,none,.mv (.t 6)⟩,[0,1,2,3,4,5,6,7,8,9,10,11,12,13,14,15]),(⟨some 77,none,.iadr 1 (.t 75) (.t 76)⟩,[0,1,2,3,4,5,6,7,8,9,10,11,12,13]),(⟨some 78,none,.load none (.t 77)⟩,[0,1,2,3,4,5,6,7,8,9,10,11,12,13]),(⟨some 79,none,.mv (.t 7)⟩,[0,1,2,3,4,5,6,7,8,9,10,11,12,13,14,15,16,17,18]),(⟨some 80,none,.bin 0 .add (.t 79) (.c (.int .i64 1))⟩,[0,1,2,3,4,5,6,7,8,9,10,11,12,13,14,15,16,17,18]),(⟨some 81,none,.sls (.t 78) (some (.t 80)) none⟩,[0,1,2,3,4,5,6,7,8,9,10,11,12,13]),(⟨some 82,none,.bin 1 .add (.t 73) (.t 81)⟩,[0,1,2]),(⟨some 83,none,.iadr 1 (.t 61) (.t 62)⟩,[]),(⟨none,none,.store 1 (.t 83) (.t 82)⟩,[])]) (.skip))))))))))))
 (.ops [⟨some 84,none,.bin 0 .add (.t 36) (.c (.int .i64 1))⟩,⟨some 36,none,.mv (.t 84)⟩])))))))
 (.seq (.seq (.ops [⟨some 85,none,.mv (.t 3)⟩,⟨some 86,none,.call 7 [(.t 85),(.c (.int .i64 8))]⟩])
 (.cond (.t 86) (.ops [⟨some 87,none,.mv (.t 3)⟩,⟨some 88,none,.call 5 [(.t 87)]⟩,⟨none,none,.store 2 (.t 5) (.t 88)⟩]) (.skip)))
 (.seq (.ops [⟨some 89,none,.mv (.t 3)⟩,⟨some 90,none,.bslice 3 1 6 [(.int .i64 0)] [(0,1,(.c (.int .i64 1))),(1,1,(.c (.int .i64 2))),(2,1,(.c (.int .i64 3))),(3,1,(.c (.int .i64 60))),(4,1,(.c (.int .i64 0))),(5,1,(.c (.int .i64 61)))]⟩,⟨some 91,none,.call 9 [(.t 89),(.t 90)]⟩,⟨some 92,none,.mv (.t 3)⟩,⟨some 93,none,.bslice 3 1 4 [(.int .i64 0)] [(0,1,(.c (.int .i64 1))),(1,1,(.c (.int .i64 2))),(2,1,(.c (.int .i64 3))),(3,1,(.c (.int .i64 0)))]⟩,⟨some 94,none,.call 9 [(.t 92),(.t 93)]⟩,⟨some 95,none,.mv (.t 3)⟩,⟨some 96,none,.call 10 [(.t 95)]⟩,⟨some 10,none,.alloc 35 [(.int .i64 0),(.int .i64 0)]⟩,⟨some 8,none,.mv (.t 91)⟩,⟨some 9,none,.mv (.t 94)⟩,⟨none,none,.store 2 (.t 10) (.t 96)⟩])
 (.seq (.any [(⟨some 97,none,.load (some 2) (.t 4)⟩,[]),(⟨some 98,none,.call 11 [(.t 97)]⟩,[]),(⟨some 99,none,.load (some 2) (.t 4)⟩,[0,1]),(⟨some 100,none,.call 11 [(.t 99)]⟩,[]),(⟨some 101,none,.load (some 2) (.t 5)⟩,[0,1,2,3]),(⟨some 102,none,.call 11 [(.t 101)]⟩,[]),(⟨some 103,none,.bslice 37 1 2 [(.int .i64 0)] [(0,1,(.t 100)),(1,1,(.t 102))]⟩,[]),(⟨some 104,none,.call 12 [(.t 103)]⟩,[]),(⟨some 11,none,.mv (.t 98)⟩,[]),(⟨some 12,none,.mv (.t 104)⟩,[])])
 (.seq (.ops [⟨some 106,none,.load (some 2) (.t 4)⟩,⟨some 107,none,.mv (.t 8)⟩,⟨some 108,none,.mv (.t 9)⟩,⟨some 109,none,.load (some 2) (.t 10)⟩,⟨some 110,none,.call 13 [(.t 106),(.t 107),(.t 108),(.t 109)]⟩,⟨some 105,none,.mv (.t 110)⟩,⟨some 111,none,.ext (.t 105) 0⟩,⟨some 112,none,.ext (.t 105) 1⟩,⟨some 13,none,.mv (.t 111)⟩,⟨some 14,none,.mv (.t 112)⟩])
 (.seq (.ops [⟨some 113,none,.mv (.t 11)⟩,⟨some 114,none,.mv (.t 8)⟩,⟨some 115,none,.mv (.t 9)⟩,⟨some 116,none,.load (some 2) (.t 10)⟩,⟨some 117,none,.call 14 [(.t 114),(.t 115),(.t 116)]⟩,⟨some 118,none,.bslice 37 1 2 [(.int .i64 0)] [(0,1,(.t 113)),(1,1,(.t 117))]⟩,⟨some 119,none,.call 12 [(.t 118)]⟩,⟨some 15,none,.mv (.t 119)⟩])
 (.seq (.seq (.ops [⟨some 120,none,.mv (.t 14)⟩,⟨some 121,none,.mv (.t 15)⟩,⟨some 122,none,.bin 0 .neq (.t 120) (.t 121)⟩,⟨some 123,none,.mv (.t 122)⟩,⟨some 124,(some (123,false)),.mv (.t 15)⟩,⟨some 125,(some (123,false)),.bin 0 .eql (.t 124) (.c (.int .i64 0))⟩,⟨some 126,(some (123,false)),.mv (.t 125)⟩,⟨some 127,(some (126,true)),.mv (.t 13)⟩,⟨some 128,(some (126,true)),.load (some 2) (.t 4)⟩,⟨some 129,(some (126,true)),.mv (.t 8)⟩,⟨some 130,(some (126,true)),.mv (.t 9)⟩,⟨some 131,(some (126,true)),.load (some 2) (.t 10)⟩,⟨some 132,(some (126,true)),.call 16 [(.t 128),(.t 129),(.t 130),(.t 131)]⟩,⟨some 133,(some (126,true)),.call 15 [(.t 127),(.t 132)]⟩,⟨some 134,(some (126,true)),.un .not (.t 133)⟩,⟨some 135,(some (123,false)),.pick (.t 126) (.t 134) (.c (.bool false))⟩,⟨some 136,none,.pick (.t 123) (.c (.bool true)) (.t 135)⟩,⟨some 137,none,.mv (.t 136)⟩,⟨some 138,(some (137,false)),.mv (.t 15)⟩,⟨some 139,(some (137,false)),.bin 0 .neq (.t 138) (.c (.int .i64 0))⟩,⟨some 140,(some (137,false)),.mv (.t 139)⟩,⟨some 141,(some (140,true)),.mv (.t 13)⟩,⟨some 142,(some (140,true)),.len false (.t 141)⟩,⟨some 143,(some (140,true)),.bin 0 .gtr (.t 142) (.c (.int .i64 0))⟩,⟨some 144,(some (137,false)),.pick (.t 140) (.t 143) (.c (.bool false))⟩,⟨some 145,none,.pick (.t 137) (.c (.bool true)) (.t 144)⟩])
 (.cond (.t 145) (.seq (.ops [⟨some 2,none,.mv (.c (.bool false))⟩])
 (.ret)) (.skip)))
 (.seq (.ops [⟨some 147,none,.load (some 2) (.t 4)⟩,⟨some 148,none,.load (some 2) (.t 5)⟩,⟨some 149,none,.call 17 [(.t 147),(.t 148)]⟩,⟨some 146,none,.mv (.t 149)⟩,⟨some 150,none,.ext (.t 146) 0⟩,⟨some 151,none,.ext (.t 146) 1⟩,⟨some 16,none,.alloc 28 [(.lit true 0 []),(.str [])]⟩,⟨none,none,.store 2 (.t 16) (.t 150)⟩,⟨some 17,none,.mv (.t 151)⟩])
 (.seq (.ops [⟨some 153,none,.load (some 2) (.t 4)⟩,⟨some 154,none,.load (some 2) (.t 5)⟩,⟨some 155,none,.call 18 [(.t 153),(.t 154)]⟩,⟨some 152,none,.mv (.t 155)⟩,⟨some 156,none,.ext (.t 152) 0⟩,⟨some 157,none,.ext (.t 152) 1⟩,⟨some 18,none,.mv (.t 156)⟩,⟨some 19,none,.mv (.t 157)⟩])
 (.seq (.seq (.ops [⟨some 158,none,.mv (.t 12)⟩,⟨some 159,none,.bin 0 .eql (.t 158) (.c (.int .i64 0))⟩])
 (.cond (.t 159) (.ops [⟨some 160,none,.load (some 2) (.t 4)⟩,⟨some 161,none,.load (some 2) (.t 5)⟩,⟨some 162,none,.call 19 [(.t 160),(.t 161)]⟩,⟨some 12,none,.mv (.t 162)⟩]) (.skip)))
 (.seq (.seq (.ops [⟨some 163,none,.mv (.t 12)⟩,⟨some 164,none,.bin 0 .neq (.t 163) (.c (.int .i64 0))⟩])
 (.cond (.t 164) (.seq (.ops [⟨some 165,none,.mv (.t 17)⟩,⟨some 166,none,.mv (.t 12)⟩,⟨some 167,none,.bin 0 .eql (.t 165) (.t 166)⟩,⟨some 168,none,.mv (.t 167)⟩,⟨some 169,(some (168,true)),.mv (.t 19)⟩,⟨some 170,(some (168,true)),.mv (.t 12)⟩,⟨some 171,(some (168,true)),.bin 0 .eql (.t 169) (.t 170)⟩,⟨some 172,none,.pick (.t 168) (.t 171) (.c (.bool false))⟩,⟨some 173,none,.mv (.t 172)⟩,⟨some 174,(some (173,true)),.load (some 2) (.t 16)⟩,⟨some 175,(some (173,true)),.build [(.lit true 0 []),(.str [])] []⟩,⟨some 176,(some (173,true)),.call 20 [(.t 174),(.t 175)]⟩,⟨some 177,none,.pick (.t 173) (.t 176) (.c (.bool false))⟩,⟨some 178,none,.mv (.t 177)⟩,⟨some 179,(some (178,true)),.mv (.t 18)⟩,⟨some 180,(some (178,true)),.len false (.t 179)⟩,⟨some 181,(some (178,true)),.bin 0 .eql (.t 180) (.c (.int .i64 0))⟩,⟨some 182,none,.pick (.t 178) (.t 181) (.c (.bool false))⟩,⟨some 183,none,.mv (.t 182)⟩,⟨some 184,(some (183,true)),.call 21 []⟩,⟨some 185,none,.pick (.t 183) (.t 184) (.c (.bool false))⟩,⟨some 2,none,.mv (.t 185)⟩])
 (.ret)) (.skip)))
 (.seq (.ops [⟨some 187,none,.load (some 2) (.t 4)⟩,⟨some 188,none,.load (some 2) (.t 5)⟩,⟨some 189,none,.call 22 [(.t 187),(.t 188)]⟩,⟨some 186,none,.mv (.t 189)⟩,⟨some 190,none,.ext (.t 186) 0⟩,⟨some 191,none,.ext (.t 186) 1⟩,⟨some 20,none,.alloc 28 [(.lit true 0 []),(.str [])]⟩,⟨none,none,.store 2 (.t 20) (.t 190)⟩,⟨some 21,none,.mv (.t 191)⟩])
 (.seq (.ops [⟨some 192,none,.mv (.t 17)⟩,⟨some 193,none,.mv (.t 21)⟩,⟨some 194,none,.bin 0 .eql (.t 192) (.t 193)⟩,⟨some 195,none,.mv (.t 194)⟩,⟨some 196,(some (195,true)),.load (some 2) (.t 16)⟩,⟨some 197,(some (195,true)),.load (some 2) (.t 20)⟩,⟨some 198,(some (195,true)),.call 20 [(.t 196),(.t 197)]⟩,⟨some 199,none,.pick (.t 195) (.t 198) (.c (.bool false))⟩,⟨some 200,none,.mv (.t 199)⟩,⟨some 201,(some (200,true)),.mv (.t 19)⟩,⟨some 202,(some (200,true)),.bin 0 .eql (.t 201) (.c (.int .i64 0))⟩,⟨some 203,none,.pick (.t 200) (.t 202) (.c (.bool false))⟩,⟨some 204,none,.mv (.t 203)⟩,⟨some 205,(some (204,true)),.mv (.t 18)⟩,⟨some 206,(some (204,true)),.load (some 2) (.t 4)⟩,⟨some 207,(some (204,true)),.load (some 2) (.t 5)⟩,⟨some 208,(some (204,true)),.call 23 [(.t 206),(.t 207)]⟩,⟨some 209,(some (204,true)),.call 15 [(.t 205),(.t 208)]⟩,⟨some 210,none,.pick (.t 204) (.t 209) (.c (.bool false))⟩,⟨some 211,none,.mv (.t 210)⟩,⟨some 212,(some (211,true)),.call 21 []⟩,⟨some 213,none,.pick (.t 211) (.t 212) (.c (.bool false))⟩,⟨some 2,none,.mv (.t 213)⟩])
 (.ret)))))))))))))))))⟩
theorem c3:compF Go.Proofs.Try.prog 3=some a3:=by kernel_rfl
def a5 : AFn := ⟨73,[.c 2 (some 2)],.seq (.ops [⟨some 2,none,.alloc 28 [(.lit true 0 []),(.str [])]⟩])
 (.seq (.ops [⟨some 6,none,.mv (.t 0)⟩,⟨some 7,none,.call 34 [(.t 6),(.c (.int .i64 1)),(.c (.int .i64 6))]⟩,⟨some 3,none,.mv (.t 7)⟩])
 (.seq (.ops [⟨some 8,none,.mv (.t 0)⟩,⟨some 9,none,.bslice 9 1 5 [(.str [])] [(0,1,(.c (.str [49]))),(1,1,(.c (.str [49]))),(2,1,(.c (.str [49,50]))),(3,1,(.c (.str [49,97]))),(4,1,(.c (.str [])))]⟩,⟨some 10,none,.call 8 [(.t 8),(.t 9)]⟩,⟨some 11,none,.build [(.lit true 0 []),(.str [])] [(1,1,(.t 10))]⟩,⟨some 4,none,.alloc 28 [(.lit true 0 []),(.str [])]⟩,⟨none,none,.store 2 (.t 4) (.t 11)⟩])
 (.seq (.seq (.ops [⟨some 12,none,.mv (.t 0)⟩,⟨some 13,none,.call 34 [(.t 12),(.c (.int .i64 1)),(.c (.int .i64 6))]⟩,⟨some 14,none,.mv (.c (.int .i64 0))⟩])
 (.block 0 (.loop (.seq (.ops [⟨some 15,none,.bin 0 .lss (.t 14) (.t 13)⟩])
 (.seq (.cond (.t 15) (.skip) (.exit 0))
 (.seq (.block 1 (.seq (.ops [⟨some 5,none,.mv (.c (.str []))⟩])
 (.seq (.seq (.ops [⟨some 16,none,.mv (.t 3)⟩,⟨some 17,none,.mv (.c (.int .i64 0))⟩])
 (.block 2 (.loop (.seq (.ops [⟨some 18,none,.bin 0 .lss (.t 17) (.t 16)⟩])
 (.seq (.cond (.t 18) (.skip) (.exit 2))
 (.seq (.block 3 (.ops [⟨some 19,none,.mv (.t 5)⟩,⟨some 20,none,.mv (.t 0)⟩,⟨some 21,none,.bslice 9 1 10 [(.str [])] [(0,1,(.c (.str [49]))),(1,1,(.c (.str [49]))),(2,1,(.c (.str [49]))),(3,1,(.c (.str [120]))),(4,1,(.c (.str [120]))),(5,1,(.c (.str [63]))),(6,1,(.c (.str [46]))),(7,1,(.c (.str [42]))),(8,1,(.c (.str [50]))),(9,1,(.c (.str [97])))]⟩,⟨some 22,none,.call 8 [(.t 20),(.t 21)]⟩,⟨some 23,none,.bin 1 .add (.t 19) (.t 22)⟩,⟨some 5,none,.mv (.t 23)⟩]))
 (.ops [⟨some 24,none,.bin 0 .add (.t 17) (.c (.int .i64 1))⟩,⟨some 17,none,.mv (.t 24)⟩])))))))
 (.ops [⟨some 25,none,.fadr 0 (.t 4)⟩,⟨some 26,none,.load none (.t 25)⟩,⟨some 27,none,.mv (.t 5)⟩,⟨some 28,none,.bslice 9 1 1 [(.str [])] [(0,1,(.t 27))]⟩,⟨some 29,none,.app 9 1 16 (.t 26) (.t 28)⟩,⟨some 30,none,.fadr 0 (.t 4)⟩,⟨none,none,.store 1 (.t 30) (.t 29)⟩]))))
 (.ops [⟨some 31,none,.bin 0 .add (.t 14) (.c (.int .i64 1))⟩,⟨some 14,none,.mv (.t 31)⟩])))))))
 (.seq (.seq (.ops [⟨some 32,none,.mv (.t 0)⟩,⟨some 33,none,.call 7 [(.t 32),(.c (.int .i64 12))]⟩])
 (.cond (.t 33) (.seq (.ops [⟨some 34,none,.mv (.t 0)⟩,⟨some 35,none,.call 35 [(.t 34),(.c (.int .i64 3))]⟩])
 (.block 4 (.seq (.ops [⟨some 41,none,.bin 0 .eql (.t 35) (.c (.int .i64 0))⟩,⟨some 40,none,.mv (.t 41)⟩])
 (.cond (.t 40) (.any [(⟨some 42,none,.fadr 0 (.t 4)⟩,[]),(⟨some 43,none,.load none (.t 42)⟩,[]),(⟨some 44,none,.mv (.t 0)⟩,[0,1]),(⟨some 45,none,.fadr 0 (.t 4)⟩,[0,1,2]),(⟨some 46,none,.load none (.t 45)⟩,[0,1,2]),(⟨some 47,none,.len false (.t 46)⟩,[0,1,2]),(⟨some 48,none,.call 35 [(.t 44),(.t 47)]⟩,[0,1]),(⟨some 49,none,.iadr 1 (.t 43) (.t 48)⟩,[]),(⟨some 50,none,.load none (.t 49)⟩,[]),(⟨some 51,none,.mv (.t 0)⟩,[0,1,2,3,4,5,6,7,8]),(⟨some 52,none,.bslice 9 1 2 [(.str [])] [(0,1,(.c (.str [49]))),(1,1,(.c (.str [65])))]⟩,[0,1,2,3,4,5,6,7,8,9]),(⟨some 53,none,.call 8 [(.t 51),(.t 52)]⟩,[0,1,7,8]),(⟨some 54,none,.bin 1 .add (.t 50) (.t 53)⟩,[]),(⟨some 55,none,.iadr 1 (.t 43) (.t 48)⟩,[]),(⟨none,none,.store 1 (.t 55) (.t 54)⟩,[])]) (.seq (.ops [⟨some 57,none,.bin 0 .eql (.t 35) (.c (.int .i64 1))⟩,⟨some 56,none,.mv (.t 57)⟩])
 (.cond (.t 56) (.any [(⟨some 58,none,.fadr 0 (.t 4)⟩,[]),(⟨some 59,none,.load none (.t 58)⟩,[]),(⟨some 60,none,.mv (.t 0)⟩,[0,1]),(⟨some 61,none,.fadr 0 (.t 4)⟩,[0,1,2]),(⟨some 62,none,.load none (.t 61)⟩,[0,1,2]),(⟨some 63,none,.len false (.t 62)⟩,[0,1,2]),(⟨some 64,none,.call 35 [(.t 60),(.t 63)]⟩,[0,1]),(⟨some 65,none,.mv (.t 0)⟩,[0,1,2,3,4,5,6]),(⟨some 66,none,.bslice 9 1 3 [(.str [])] [(0,1,(.c (.str []))),(1,1,(.c (.str [65]))),(2,1,(.c (.str [32])))]⟩,[0,1,2,3,4,5,6,7]),(⟨some 67,none,.call 8 [(.t 65),(.t 66)]⟩,[0,1]),(⟨some 68,none,.iadr 1 (.t 59) (.t 64)⟩,[]),(⟨none,none,.store 1 (.t 68) (.t 67)⟩,[])]) (.ops [⟨some 36,none,.mv (.t 0)⟩,⟨some 37,none,.bslice 9 1 4 [(.str [])] [(0,1,(.c (.str [50,49]))),(1,1,(.c (.str [49,49]))),(2,1,(.c (.str [65]))),(3,1,(.c (.str [63])))]⟩,⟨some 38,none,.call 8 [(.t 36),(.t 37)]⟩,⟨some 39,none,.fadr 1 (.t 4)⟩,⟨none,none,.store 1 (.t 39) (.t 38)⟩]))))))) (.skip)))
 (.seq (.seq (.ops [⟨some 69,none,.mv (.t 0)⟩,⟨some 70,none,.call 7 [(.t 69),(.c (.int .i64 60))]⟩])
 (.cond (.t 70) (.ops [⟨some 71,none,.fadr 0 (.t 4)⟩,⟨none,none,.store 1 (.t 71) (.c (.lit true 0 []))⟩]) (.skip)))
 (.seq (.ops [⟨some 72,none,.load (some 2) (.t 4)⟩,⟨none,none,.store 2 (.t 2) (.t 72)⟩])
 (.ret)))))))⟩
theorem c5:compF Go.Proofs.Try.prog 5=some a5:=by kernel_rfl
def a6 : AFn := ⟨8,[.t 2],.seq (.ops [⟨some 2,none,.mv (.c (.lit true 0 []))⟩])
 (.seq (.seq (.ops [⟨some 3,none,.mv (.t 0)⟩,⟨some 4,none,.bin 3 .eql (.t 3) (.c (.lit true 0 []))⟩])
 (.cond (.t 4) (.seq (.ops [⟨some 2,none,.mv (.c (.lit true 0 []))⟩])
 (.ret)) (.skip)))
 (.seq (.ops [⟨some 5,none,.bslice 9 1 0 [(.str [])] []⟩,⟨some 6,none,.mv (.t 0)⟩,⟨some 7,none,.app 9 1 16 (.t 5) (.t 6)⟩,⟨some 2,none,.mv (.t 7)⟩])
 (.ret)))⟩
theorem c6:compF Go.Proofs.Try.prog 6=some a6:=by kernel_rfl
def a7 : AFn := ⟨9,[.t 4],.seq (.ops [⟨some 4,none,.mv (.c (.bool false))⟩])
 (.seq (.ops [⟨some 5,none,.mv (.t 0)⟩,⟨some 6,none,.mv (.t 1)⟩,⟨some 7,none,.call 35 [(.t 5),(.t 6)]⟩,⟨some 8,none,.bin 0 .eql (.t 7) (.c (.int .i64 0))⟩,⟨some 4,none,.mv (.t 8)⟩])
 (.ret))⟩
theorem c7:compF Go.Proofs.Try.prog 7=some a7:=by kernel_rfl
def a8 : AFn := ⟨12,[.t 4],.seq (.ops [⟨some 4,none,.mv (.c (.str []))⟩])
 (.seq (.ops [⟨some 5,none,.mv (.t 1)⟩,⟨some 6,none,.mv (.t 0)⟩,⟨some 7,none,.mv (.t 1)⟩,⟨some 8,none,.len false (.t 7)⟩,⟨some 9,none,.call 35 [(.t 6),(.t 8)]⟩,⟨some 10,none,.iadr 1 (.t 5) (.t 9)⟩,⟨some 11,none,.load none (.t 10)⟩,⟨some 4,none,.mv (.t 11)⟩])
 (.ret))⟩
theorem c8:compF Go.Proofs.Try.prog 8=some a8:=by kernel_rfl
def a9 : AFn := ⟨12,[.t 4],.seq (.ops [⟨some 4,none,.mv (.c (.int .i64 0))⟩])
 (.seq (.ops [⟨some 5,none,.mv (.t 1)⟩,⟨some 6,none,.mv (.t 0)⟩,⟨some 7,none,.mv (.t 1)⟩,⟨some 8,none,.len false (.t 7)⟩,⟨some 9,none,.call 35 [(.t 6),(.t 8)]⟩,⟨some 10,none,.iadr 1 (.t 5) (.t 9)⟩,⟨some 11,none,.load none (.t 10)⟩,⟨some 4,none,.mv (.t 11)⟩])
 (.ret))⟩
theorem c9:compF Go.Proofs.Try.prog 9=some a9:=by kernel_rfl
def a10 : AFn := ⟨27,[.c 2 (some 2)],.seq (.ops [⟨some 2,none,.alloc 35 [(.int .i64 0),(.int .i64 0)]⟩])
 (.seq (.ops [⟨some 4,none,.build [(.int .i64 0),(.int .i64 0)] [(0,1,(.c (.int .i64 0))),(1,1,(.c (.int .i64 1)))]⟩,⟨some 5,none,.build [(.int .i64 0),(.int .i64 0)] [(0,1,(.c (.int .i64 1))),(1,1,(.c (.int .i64 2)))]⟩,⟨some 6,none,.build [(.int .i64 0),(.int .i64 0)] [(0,1,(.c (.int .i64 2))),(1,1,(.c (.int .i64 3)))]⟩,⟨some 7,none,.build [(.int .i64 0),(.int .i64 0)] [(0,1,(.c (.int .i64 1))),(1,1,(.c (.int .i64 1)))]⟩,⟨some 8,none,.bslice 35 2 4 [(.int .i64 0),(.int .i64 0)] [(0,2,(.t 4)),(2,2,(.t 5)),(4,2,(.t 6)),(6,2,(.t 7))]⟩,⟨some 9,none,.mv (.t 0)⟩,⟨some 10,none,.call 35 [(.t 9),(.c (.int .i64 4))]⟩,⟨some 11,none,.iadr 2 (.t 8) (.t 10)⟩,⟨some 12,none,.load (some 2) (.t 11)⟩,⟨some 3,none,.alloc 35 [(.int .i64 0),(.int .i64 0)]⟩,⟨none,none,.store 2 (.t 3) (.t 12)⟩])
 (.seq (.seq (.ops [⟨some 13,none,.mv (.t 0)⟩,⟨some 14,none,.call 7 [(.t 13),(.c (.int .i64 10))]⟩])
 (.cond (.t 14) (.ops [⟨some 15,none,.build [(.int .i64 0),(.int .i64 0)] [(0,1,(.c (.int .i64 2))),(1,1,(.c (.int .i64 4)))]⟩,⟨some 16,none,.build [(.int .i64 0),(.int .i64 0)] [(0,1,(.c (.int .i64 1))),(1,1,(.c (.int .i64 0)))]⟩,⟨some 17,none,.build [(.int .i64 0),(.int .i64 0)] [(0,1,(.c (.int .i64 (-1)))),(1,1,(.c (.int .i64 2)))]⟩,⟨some 18,none,.build [(.int .i64 0),(.int .i64 0)] [(0,1,(.c (.int .i64 3))),(1,1,(.c (.int .i64 2)))]⟩,⟨some 19,none,.build [(.int .i64 0),(.int .i64 0)] [(0,1,(.c (.int .i64 1))),(1,1,(.c (.int .i64 1000001)))]⟩,⟨some 20,none,.build [(.int .i64 0),(.int .i64 0)] [(0,1,(.c (.int .i64 (-9223372036854775808)))),(1,1,(.c (.int .i64 3)))]⟩,⟨some 21,none,.bslice 35 2 6 [(.int .i64 0),(.int .i64 0)] [(0,2,(.t 15)),(2,2,(.t 16)),(4,2,(.t 17)),(6,2,(.t 18)),(8,2,(.t 19)),(10,2,(.t 20))]⟩,⟨some 22,none,.mv (.t 0)⟩,⟨some 23,none,.call 35 [(.t 22),(.c (.int .i64 6))]⟩,⟨some 24,none,.iadr 2 (.t 21) (.t 23)⟩,⟨some 25,none,.load (some 2) (.t 24)⟩,⟨none,none,.store 2 (.t 3) (.t 25)⟩]) (.skip)))
 (.seq (.ops [⟨some 26,none,.load (some 2) (.t 3)⟩,⟨none,none,.store 2 (.t 2) (.t 26)⟩])
 (.ret))))⟩
theorem c10:compF Go.Proofs.Try.prog 10=some a10:=by kernel_rfl
def a11 : AFn := ⟨46,[.t 2],.seq (.ops [⟨some 1,none,.box 28 (.t 0)⟩,⟨some 2,none,.mv (.c (.int .i64 0))⟩])
 (.seq (.block 0 (.seq (.ops [⟨some 6,none,.fadr 0 (.t 1)⟩,⟨some 7,none,.load none (.t 6)⟩,⟨some 8,none,.len false (.t 7)⟩,⟨some 9,none,.bin 0 .eql (.t 8) (.c (.int .i64 0))⟩,⟨some 5,none,.mv (.t 9)⟩])
 (.cond (.t 5) (.seq (.ops [⟨some 2,none,.mv (.c (.int .i64 8))⟩])
 (.ret)) (.seq (.ops [⟨some 11,none,.fadr 0 (.t 1)⟩,⟨some 12,none,.load none (.t 11)⟩,⟨some 13,none,.len false (.t 12)⟩,⟨some 14,none,.bin 0 .gtr (.t 13) (.c (.int .i64 60))⟩,⟨some 10,none,.mv (.t 14)⟩])
 (.cond (.t 10) (.seq (.ops [⟨some 2,none,.mv (.c (.int .i64 2))⟩])
 (.ret)) (.skip))))))
 (.seq (.seq (.ops [⟨some 15,none,.fadr 0 (.t 1)⟩,⟨some 16,none,.load none (.t 15)⟩,⟨some 17,none,.len false (.t 16)⟩,⟨some 18,none,.mv (.c (.int .i64 0))⟩])
 (.block 1 (.loop (.seq (.ops [⟨some 19,none,.bin 0 .lss (.t 18) (.t 17)⟩])
 (.seq (.cond (.t 19) (.skip) (.exit 1))
 (.seq (.block 2 (.seq (.ops [⟨some 20,none,.iadr 1 (.t 16) (.t 18)⟩,⟨some 21,none,.load none (.t 20)⟩,⟨some 4,none,.mv (.t 21)⟩])
 (.block 3 (.seq (.ops [⟨some 23,none,.mv (.t 4)⟩,⟨some 24,none,.bin 1 .eql (.t 23) (.c (.str []))⟩,⟨some 22,none,.mv (.t 24)⟩])
 (.cond (.t 22) (.seq (.ops [⟨some 2,none,.mv (.c (.int .i64 8))⟩])
 (.ret)) (.seq (.ops [⟨some 26,none,.mv (.t 4)⟩,⟨some 27,none,.len true (.t 26)⟩,⟨some 28,none,.bin 0 .gtr (.t 27) (.c (.int .i64 60))⟩,⟨some 25,none,.mv (.t 28)⟩])
 (.cond (.t 25) (.seq (.ops [⟨some 2,none,.mv (.c (.int .i64 2))⟩])
 (.ret)) (.seq (.ops [⟨some 30,none,.mv (.t 4)⟩,⟨some 31,none,.len true (.t 30)⟩,⟨some 32,none,.fadr 0 (.t 1)⟩,⟨some 33,none,.load none (.t 32)⟩,⟨some 34,none,.iadr 1 (.t 33) (.c (.int .i64 0))⟩,⟨some 35,none,.load none (.t 34)⟩,⟨some 36,none,.len true (.t 35)⟩,⟨some 37,none,.bin 0 .neq (.t 31) (.t 36)⟩,⟨some 29,none,.mv (.t 37)⟩])
 (.cond (.t 29) (.seq (.ops [⟨some 2,none,.mv (.c (.int .i64 3))⟩])
 (.ret)) (.seq (.ops [⟨some 39,none,.mv (.t 4)⟩,⟨some 40,none,.s2b (.t 39)⟩,⟨some 41,none,.call 36 [(.t 40),(.c (.fn 37 []))]⟩,⟨some 38,none,.mv (.t 41)⟩])
 (.cond (.t 38) (.seq (.ops [⟨some 2,none,.mv (.c (.int .i64 9))⟩])
 (.ret)) (.skip))))))))))))
 (.ops [⟨some 42,none,.bin 0 .add (.t 18) (.c (.int .i64 1))⟩,⟨some 18,none,.mv (.t 42)⟩])))))))
 (.seq (.ops [⟨some 43,none,.fadr 1 (.t 1)⟩,⟨some 44,none,.load none (.t 43)⟩,⟨some 45,none,.call 39 [(.t 44)]⟩,⟨some 2,none,.mv (.t 45)⟩])
 (.ret))))⟩
theorem c11:compF Go.Proofs.Try.prog 11=some a11:=by kernel_rfl
def a12 : AFn := ⟨18,[.t 2],.seq (.ops [⟨some 2,none,.mv (.c (.int .i64 0))⟩])
 (.seq (.ops [⟨some 3,none,.mv (.c (.int .i64 0))⟩])
 (.seq (.seq (.ops [⟨some 6,none,.mv (.t 0)⟩,⟨some 7,none,.len false (.t 6)⟩,⟨some 8,none,.mv (.c (.int .i64 0))⟩])
 (.block 0 (.loop (.seq (.ops [⟨some 9,none,.bin 0 .lss (.t 8) (.t 7)⟩])
 (.seq (.cond (.t 9) (.skip) (.exit 0))
 (.seq (.block 1 (.seq (.ops [⟨some 10,none,.iadr 1 (.t 6) (.t 8)⟩,⟨some 11,none,.load none (.t 10)⟩,⟨some 5,none,.mv (.t 11)⟩])
 (.seq (.ops [⟨some 12,none,.mv (.t 5)⟩,⟨some 13,none,.mv (.t 3)⟩,⟨some 14,none,.bin 0 .neq (.t 12) (.t 13)⟩])
 (.cond (.t 14) (.seq (.ops [⟨some 15,none,.mv (.t 5)⟩,⟨some 2,none,.mv (.t 15)⟩])
 (.ret)) (.skip)))))
 (.ops [⟨some 16,none,.bin 0 .add (.t 8) (.c (.int .i64 1))⟩,⟨some 8,none,.mv (.t 16)⟩])))))))
 (.seq (.ops [⟨some 17,none,.mv (.t 3)⟩,⟨some 2,none,.mv (.t 17)⟩])
 (.ret))))⟩
theorem c12:compF Go.Proofs.Try.prog 12=some a12:=by kernel_rfl
def a13 : AFn := ⟨129,[.t 8,.t 9],.seq (.ops [⟨some 4,none,.box 28 (.t 0)⟩,⟨some 7,none,.box 35 (.t 3)⟩,⟨some 8,none,.mv (.c (.lit true 0 []))⟩,⟨some 9,none,.mv (.c (.int .i64 0))⟩])
 (.seq (.seq (.ops [⟨some 21,none,.load (some 2) (.t 4)⟩,⟨some 22,none,.call 40 [(.t 21)]⟩,⟨some 10,none,.mv (.t 22)⟩])
 (.seq (.ops [⟨some 23,none,.mv (.t 10)⟩,⟨some 24,none,.bin 0 .neq (.t 23) (.c (.int .i64 0))⟩])
 (.cond (.t 24) (.seq (.ops [⟨some 25,none,.mv (.t 10)⟩,⟨some 8,none,.mv (.c (.lit true 0 []))⟩,⟨some 9,none,.mv (.t 25)⟩])
 (.ret)) (.skip))))
 (.seq (.block 0 (.seq (.ops [⟨some 27,none,.mv (.t 1)⟩,⟨some 28,none,.call 41 [(.t 27),(.c (.int .i64 1)),(.c (.int .i64 60))]⟩,⟨some 29,none,.mv (.t 28)⟩,⟨some 30,(some (29,false)),.mv (.t 2)⟩,⟨some 31,(some (29,false)),.call 41 [(.t 30),(.c (.int .i64 1)),(.c (.int .i64 60))]⟩,⟨some 32,none,.pick (.t 29) (.c (.bool true)) (.t 31)⟩,⟨some 26,none,.mv (.t 32)⟩])
 (.cond (.t 26) (.seq (.ops [⟨some 8,none,.mv (.c (.lit true 0 []))⟩,⟨some 9,none,.mv (.c (.int .i64 1))⟩])
 (.ret)) (.seq (.ops [⟨some 34,none,.fadr 1 (.t 7)⟩,⟨some 35,none,.load none (.t 34)⟩,⟨some 36,none,.bin 0 .lss (.t 35) (.c (.int .i64 1))⟩,⟨some 37,none,.mv (.t 36)⟩,⟨some 38,(some (37,false)),.load (some 2) (.t 7)⟩,⟨some 39,(some (37,false)),.call 42 [(.t 38)]⟩,⟨some 40,(some (37,false)),.un .not (.t 39)⟩,⟨some 41,none,.pick (.t 37) (.c (.bool true)) (.t 40)⟩,⟨some 33,none,.mv (.t 41)⟩])
 (.cond (.t 33) (.seq (.ops [⟨some 8,none,.mv (.c (.lit true 0 []))⟩,⟨some 9,none,.mv (.c (.int .i64 3))⟩])
 (.ret)) (.seq (.ops [⟨some 43,none,.fadr 0 (.t 7)⟩,⟨some 44,none,.load none (.t 43)⟩,⟨some 45,none,.fadr 1 (.t 7)⟩,⟨some 46,none,.load none (.t 45)⟩,⟨some 47,none,.call 41 [(.t 44),(.c (.int .i64 0)),(.t 46)]⟩,⟨some 48,none,.mv (.t 47)⟩,⟨some 49,(some (48,false)),.fadr 1 (.t 7)⟩,⟨some 50,(some (48,false)),.load none (.t 49)⟩,⟨some 51,(some (48,false)),.bin 0 .gtr (.t 50) (.c (.int .i64 1000000))⟩,⟨some 52,none,.pick (.t 48) (.c (.bool true)) (.t 51)⟩,⟨some 42,none,.mv (.t 52)⟩])
 (.cond (.t 42) (.seq (.ops [⟨some 8,none,.mv (.c (.lit true 0 []))⟩,⟨some 9,none,.mv (.c (.int .i64 1))⟩])
 (.ret)) (.skip))))))))
 (.seq (.ops [⟨some 53,none,.mmk .p (.int .i64 0)⟩,⟨some 54,none,.mmk .p (.int .i64 0)⟩,⟨some 11,none,.mv (.t 53)⟩,⟨some 12,none,.mv (.t 54)⟩])
 (.seq (.seq (.ops [⟨some 55,none,.load (some 2) (.t 4)⟩,⟨some 56,none,.call 43 [(.t 55)]⟩,⟨some 57,none,.len false (.t 56)⟩,⟨some 58,none,.mv (.c (.int .i64 0))⟩])
 (.block 1 (.loop (.seq (.ops [⟨some 59,none,.bin 0 .lss (.t 58) (.t 57)⟩])
 (.seq (.cond (.t 59) (.skip) (.exit 1))
 (.seq (.block 2 (.seq (.ops [⟨some 60,none,.iadr 2 (.t 56) (.t 58)⟩,⟨some 61,none,.load (some 2) (.t 60)⟩,⟨some 14,none,.alloc 46 [(.int .i64 0),(.int .i64 0)]⟩,⟨none,none,.store 2 (.t 14) (.t 61)⟩])
 (.seq (.any [(⟨some 62,none,.fadr 0 (.t 14)⟩,[]),(⟨some 63,none,.load none (.t 62)⟩,[]),(⟨some 64,none,.mv (.t 1)⟩,[0,1]),(⟨some 65,none,.bin 0 .rem (.t 63) (.t 64)⟩,[]),(⟨some 66,none,.fadr 1 (.t 14)⟩,[0,1,2,3]),(⟨some 67,none,.load none (.t 66)⟩,[0,1,2,3]),(⟨some 68,none,.mv (.t 2)⟩,[0,1,2,3,4,5]),(⟨some 69,none,.bin 0 .rem (.t 67) (.t 68)⟩,[0,1,2,3]),(⟨some 70,none,.build [(.int .i64 0),(.int .i64 0)] [(0,1,(.t 65)),(1,1,(.t 69))]⟩,[]),(⟨some 15,none,.alloc 46 [(.int .i64 0),(.int .i64 0)]⟩,[0,1,2,3,4,5,6,7,8]),(⟨none,none,.store 2 (.t 15) (.t 70)⟩,[])])
 (.seq (.ops [⟨some 71,none,.load (some 2) (.t 4)⟩,⟨some 72,none,.load (some 2) (.t 14)⟩,⟨some 73,none,.call 44 [(.t 71),(.t 72)]⟩,⟨some 16,none,.mv (.t 73)⟩])
 (.seq (.seq (.ops [⟨some 74,none,.mv (.t 16)⟩,⟨some 75,none,.call 45 [(.t 74)]⟩])
 (.cond (.t 75) (.any [(⟨some 76,none,.mv (.t 12)⟩,[]),(⟨some 77,none,.load (some 2) (.t 15)⟩,[0]),(⟨some 78,none,.mlk false .p (.int .i64 0) (.t 76) (.t 77)⟩,[]),(⟨some 79,none,.bin 0 .add (.t 78) (.c (.int .i64 1))⟩,[]),(⟨some 80,none,.ment .p (.int .i64 0) (.t 76) (.t 77)⟩,[2,3]),(⟨some 81,none,.ext (.t 80) 1⟩,[2,3]),(⟨none,none,.mest (.t 76) (.t 81) (.t 79)⟩,[])]) (.skip)))
 (.seq (.ops [⟨some 82,none,.load (some 2) (.t 4)⟩,⟨some 83,none,.mv (.t 16)⟩,⟨some 84,none,.call 46 [(.t 82),(.t 83)]⟩])
 (.cond (.t 84) (.any [(⟨some 85,none,.mv (.t 11)⟩,[]),(⟨some 86,none,.load (some 2) (.t 15)⟩,[0]),(⟨some 87,none,.mlk false .p (.int .i64 0) (.t 85) (.t 86)⟩,[]),(⟨some 88,none,.bin 0 .add (.t 87) (.c (.int .i64 1))⟩,[]),(⟨some 89,none,.ment .p (.int .i64 0) (.t 85) (.t 86)⟩,[2,3]),(⟨some 90,none,.ext (.t 89) 1⟩,[2,3]),(⟨none,none,.mest (.t 85) (.t 90) (.t 88)⟩,[])]) (.skip))))))))
 (.ops [⟨some 91,none,.bin 0 .add (.t 58) (.c (.int .i64 1))⟩,⟨some 58,none,.mv (.t 91)⟩])))))))
 (.seq (.ops [⟨some 17,none,.mv (.c (.lit true 0 []))⟩])
 (.seq (.seq (.ops [⟨some 92,none,.mv (.t 2)⟩,⟨some 93,none,.mv (.c (.int .i64 0))⟩])
 (.block 3 (.loop (.seq (.ops [⟨some 94,none,.bin 0 .lss (.t 93) (.t 92)⟩])
 (.seq (.cond (.t 94) (.skip) (.exit 3))
 (.seq (.block 4 (.seq (.ops [⟨some 95,none,.mv (.t 93)⟩,⟨some 18,none,.mv (.t 95)⟩])
 (.seq (.ops [⟨some 96,none,.mv (.t 1)⟩,⟨some 97,none,.mv (.c (.int .i64 0))⟩])
 (.block 5 (.loop (.seq (.ops [⟨some 98,none,.bin 0 .lss (.t 97) (.t 96)⟩])
 (.seq (.cond (.t 98) (.skip) (.exit 5))
 (.seq (.block 6 (.seq (.ops [⟨some 99,none,.mv (.t 97)⟩,⟨some 19,none,.mv (.t 99)⟩])
 (.seq (.ops [⟨some 100,none,.mv (.t 19)⟩,⟨some 101,none,.mv (.t 18)⟩,⟨some 102,none,.build [(.int .i64 0),(.int .i64 0)] [(0,1,(.t 100)),(1,1,(.t 101))]⟩,⟨some 20,none,.alloc 46 [(.int .i64 0),(.int .i64 0)]⟩,⟨none,none,.store 2 (.t 20) (.t 102)⟩])
 (.seq (.any [(⟨some 103,none,.mv (.t 12)⟩,[]),(⟨some 104,none,.load (some 2) (.t 20)⟩,[0]),(⟨some 105,none,.mlk false .p (.int .i64 0) (.t 103) (.t 104)⟩,[]),(⟨some 106,none,.bin 0 .gtr (.t 105) (.c (.int .i64 0))⟩,[]),(⟨some 107,none,.mv (.t 106)⟩,[]),(⟨some 108,(some (107,true)),.mv (.t 11)⟩,[]),(⟨some 109,(some (107,true)),.load (some 2) (.t 20)⟩,[5]),(⟨some 110,(some (107,true)),.mlk false .p (.int .i64 0) (.t 108) (.t 109)⟩,[]),(⟨some 111,(some (107,true)),.fadr 1 (.t 7)⟩,[5,6,7]),(⟨some 112,(some (107,true)),.load none (.t 111)⟩,[5,6,7]),(⟨some 113,(some (107,true)),.bin 0 .mul (.t 110) (.t 112)⟩,[]),(⟨some 114,(some (107,true)),.fadr 0 (.t 7)⟩,[5,6,7,8,9,10]),(⟨some 115,(some (107,true)),.load none (.t 114)⟩,[5,6,7,8,9,10]),(⟨some 116,(some (107,true)),.mv (.t 12)⟩,[5,6,7,8,9,10,11,12]),(⟨some 117,(some (107,true)),.load (some 2) (.t 20)⟩,[5,6,7,8,9,10,11,12,13]),(⟨some 118,(some (107,true)),.mlk false .p (.int .i64 0) (.t 116) (.t 117)⟩,[5,6,7,8,9,10,11,12]),(⟨some 119,(some (107,true)),.bin 0 .mul (.t 115) (.t 118)⟩,[5,6,7,8,9,10]),(⟨some 120,(some (107,true)),.bin 0 .geq (.t 113) (.t 119)⟩,[]),(⟨some 121,none,.pick (.t 107) (.t 120) (.c (.bool false))⟩,[])])
 (.cond (.t 121) (.ops [⟨some 122,none,.mv (.t 17)⟩,⟨some 123,none,.load (some 2) (.t 20)⟩,⟨some 124,none,.bslice 46 2 1 [(.int .i64 0),(.int .i64 0)] [(0,2,(.t 123))]⟩,⟨some 125,none,.app 46 2 16 (.t 122) (.t 124)⟩,⟨some 17,none,.mv (.t 125)⟩]) (.skip))))))
 (.ops [⟨some 126,none,.bin 0 .add (.t 97) (.c (.int .i64 1))⟩,⟨some 97,none,.mv (.t 126)⟩])))))))))
 (.ops [⟨some 127,none,.bin 0 .add (.t 93) (.c (.int .i64 1))⟩,⟨some 93,none,.mv (.t 127)⟩])))))))
 (.seq (.ops [⟨some 128,none,.mv (.t 17)⟩,⟨some 8,none,.mv (.t 128)⟩,⟨some 9,none,.mv (.c (.int .i64 0))⟩])
 (.ret))))))))⟩
theorem c13:compF Go.Proofs.Try.prog 13=some a13:=by kernel_rfl
def a14 : AFn := ⟨37,[.t 6],.seq (.ops [⟨some 5,none,.box 35 (.t 2)⟩,⟨some 6,none,.mv (.c (.int .i64 0))⟩])
 (.seq (.block 0 (.seq (.ops [⟨some 8,none,.mv (.t 0)⟩,⟨some 9,none,.call 47 [(.t 8),(.c (.int .i64 1)),(.c (.int .i64 60))]⟩,⟨some 10,none,.un .not (.t 9)⟩,⟨some 11,none,.mv (.t 10)⟩,⟨some 12,(some (11,false)),.mv (.t 1)⟩,⟨some 13,(some (11,false)),.call 47 [(.t 12),(.c (.int .i64 1)),(.c (.int .i64 60))]⟩,⟨some 14,(some (11,false)),.un .not (.t 13)⟩,⟨some 15,none,.pick (.t 11) (.c (.bool true)) (.t 14)⟩,⟨some 7,none,.mv (.t 15)⟩])
 (.cond (.t 7) (.seq (.ops [⟨some 6,none,.mv (.c (.int .i64 1))⟩])
 (.ret)) (.seq (.ops [⟨some 17,none,.fadr 1 (.t 5)⟩,⟨some 18,none,.load none (.t 17)⟩,⟨some 19,none,.bin 0 .lss (.t 18) (.c (.int .i64 1))⟩,⟨some 20,none,.mv (.t 19)⟩,⟨some 21,(some (20,false)),.load (some 2) (.t 5)⟩,⟨some 22,(some (20,false)),.call 48 [(.t 21)]⟩,⟨some 23,(some (20,false)),.un .not (.t 22)⟩,⟨some 24,none,.pick (.t 20) (.c (.bool true)) (.t 23)⟩,⟨some 16,none,.mv (.t 24)⟩])
 (.cond (.t 16) (.seq (.ops [⟨some 6,none,.mv (.c (.int .i64 3))⟩])
 (.ret)) (.seq (.ops [⟨some 26,none,.fadr 0 (.t 5)⟩,⟨some 27,none,.load none (.t 26)⟩,⟨some 28,none,.fadr 1 (.t 5)⟩,⟨some 29,none,.load none (.t 28)⟩,⟨some 30,none,.call 47 [(.t 27),(.c (.int .i64 0)),(.t 29)]⟩,⟨some 31,none,.un .not (.t 30)⟩,⟨some 32,none,.mv (.t 31)⟩,⟨some 33,(some (32,false)),.fadr 1 (.t 5)⟩,⟨some 34,(some (32,false)),.load none (.t 33)⟩,⟨some 35,(some (32,false)),.bin 0 .gtr (.t 34) (.c (.int .i64 1000000))⟩,⟨some 36,none,.pick (.t 32) (.c (.bool true)) (.t 35)⟩,⟨some 25,none,.mv (.t 36)⟩])
 (.cond (.t 25) (.seq (.ops [⟨some 6,none,.mv (.c (.int .i64 1))⟩])
 (.ret)) (.skip))))))))
 (.seq (.ops [⟨some 6,none,.mv (.c (.int .i64 0))⟩])
 (.ret)))⟩
theorem c14:compF Go.Proofs.Try.prog 14=some a14:=by kernel_rfl
def a15 : AFn := ⟨26,[.t 4],.seq (.ops [⟨some 4,none,.mv (.c (.bool false))⟩])
 (.seq (.seq (.ops [⟨some 6,none,.mv (.t 0)⟩,⟨some 7,none,.len false (.t 6)⟩,⟨some 8,none,.mv (.t 1)⟩,⟨some 9,none,.len false (.t 8)⟩,⟨some 10,none,.bin 0 .neq (.t 7) (.t 9)⟩])
 (.cond (.t 10) (.seq (.ops [⟨some 4,none,.mv (.c (.bool false))⟩])
 (.ret)) (.skip)))
 (.seq (.seq (.ops [⟨some 11,none,.mv (.t 0)⟩,⟨some 12,none,.len false (.t 11)⟩,⟨some 13,none,.mv (.c (.int .i64 0))⟩])
 (.block 0 (.loop (.seq (.ops [⟨some 14,none,.bin 0 .lss (.t 13) (.t 12)⟩])
 (.seq (.cond (.t 14) (.skip) (.exit 0))
 (.seq (.block 1 (.seq (.ops [⟨some 15,none,.mv (.t 13)⟩,⟨some 5,none,.mv (.t 15)⟩])
 (.seq (.any [(⟨some 16,none,.mv (.t 0)⟩,[]),(⟨some 17,none,.mv (.t 5)⟩,[0]),(⟨some 18,none,.iadr 2 (.t 16) (.t 17)⟩,[]),(⟨some 19,none,.load (some 2) (.t 18)⟩,[]),(⟨some 20,none,.mv (.t 1)⟩,[0,1,2,3]),(⟨some 21,none,.mv (.t 5)⟩,[0,1,2,3,4]),(⟨some 22,none,.iadr 2 (.t 20) (.t 21)⟩,[0,1,2,3]),(⟨some 23,none,.load (some 2) (.t 22)⟩,[0,1,2,3]),(⟨some 24,none,.eqs true [0,0] (.t 19) (.t 23)⟩,[])])
 (.cond (.t 24) (.seq (.ops [⟨some 4,none,.mv (.c (.bool false))⟩])
 (.ret)) (.skip)))))
 (.ops [⟨some 25,none,.bin 0 .add (.t 13) (.c (.int .i64 1))⟩,⟨some 13,none,.mv (.t 25)⟩])))))))
 (.seq (.ops [⟨some 4,none,.mv (.c (.bool true))⟩])
 (.ret))))⟩
theorem c15:compF Go.Proofs.Try.prog 15=some a15:=by kernel_rfl
def a16 : AFn := ⟨67,[.t 8],.seq (.ops [⟨some 4,none,.box 28 (.t 0)⟩,⟨some 5,none,.box 3 (.t 1)⟩,⟨some 6,none,.box 3 (.t 2)⟩,⟨some 7,none,.box 35 (.t 3)⟩,⟨some 8,none,.mv (.c (.lit true 0 []))⟩])
 (.seq (.ops [⟨some 9,none,.mv (.c (.lit true 0 []))⟩])
 (.seq (.seq (.ops [⟨some 16,none,.load none (.t 6)⟩,⟨some 17,none,.mv (.c (.int .i64 0))⟩])
 (.block 0 (.loop (.seq (.ops [⟨some 18,none,.bin 0 .lss (.t 17) (.t 16)⟩])
 (.seq (.cond (.t 18) (.skip) (.exit 0))
 (.seq (.block 1 (.seq (.ops [⟨some 19,none,.mv (.t 17)⟩,⟨some 10,none,.alloc 3 [(.int .i64 0)]⟩,⟨none,none,.store 1 (.t 10) (.t 19)⟩])
 (.seq (.ops [⟨some 20,none,.load none (.t 5)⟩,⟨some 21,none,.mv (.c (.int .i64 0))⟩])
 (.block 2 (.loop (.seq (.ops [⟨some 22,none,.bin 0 .lss (.t 21) (.t 20)⟩])
 (.seq (.cond (.t 22) (.skip) (.exit 2))
 (.seq (.block 3 (.seq (.ops [⟨some 23,none,.mv (.t 21)⟩,⟨some 11,none,.alloc 3 [(.int .i64 0)]⟩,⟨none,none,.store 1 (.t 11) (.t 23)⟩])
 (.seq (.ops [⟨some 12,none,.mv (.c (.int .i64 0))⟩,⟨some 13,none,.mv (.c (.int .i64 0))⟩])
 (.seq (.seq (.ops [⟨some 24,none,.load (some 2) (.t 4)⟩,⟨some 25,none,.mkfn 50 [(.t 5),(.t 11),(.t 6),(.t 10)]⟩,⟨some 26,none,.call 49 [(.t 24),(.t 25)]⟩,⟨some 27,none,.len false (.t 26)⟩,⟨some 28,none,.mv (.c (.int .i64 0))⟩])
 (.block 4 (.loop (.seq (.ops [⟨some 29,none,.bin 0 .lss (.t 28) (.t 27)⟩])
 (.seq (.cond (.t 29) (.skip) (.exit 4))
 (.seq (.block 5 (.seq (.ops [⟨some 30,none,.iadr 2 (.t 26) (.t 28)⟩,⟨some 31,none,.load (some 2) (.t 30)⟩,⟨some 15,none,.alloc 46 [(.int .i64 0),(.int .i64 0)]⟩,⟨none,none,.store 2 (.t 15) (.t 31)⟩])
 (.seq (.ops [⟨some 32,none,.mv (.t 12)⟩,⟨some 33,none,.load (some 2) (.t 4)⟩,⟨some 34,none,.load (some 2) (.t 15)⟩,⟨some 35,none,.call 52 [(.t 33),(.t 34)]⟩,⟨some 36,none,.call 51 [(.t 35)]⟩,⟨some 37,none,.bin 0 .add (.t 32) (.t 36)⟩,⟨some 12,none,.mv (.t 37)⟩])
 (.ops [⟨some 38,none,.mv (.t 13)⟩,⟨some 39,none,.load (some 2) (.t 4)⟩,⟨some 40,none,.load (some 2) (.t 15)⟩,⟨some 41,none,.call 53 [(.t 39),(.t 40)]⟩,⟨some 42,none,.call 51 [(.t 41)]⟩,⟨some 43,none,.bin 0 .add (.t 38) (.t 42)⟩,⟨some 13,none,.mv (.t 43)⟩]))))
 (.ops [⟨some 44,none,.bin 0 .add (.t 28) (.c (.int .i64 1))⟩,⟨some 28,none,.mv (.t 44)⟩])))))))
 (.seq (.ops [⟨some 45,none,.mv (.t 13)⟩,⟨some 46,none,.bin 0 .gtr (.t 45) (.c (.int .i64 0))⟩,⟨some 47,none,.mv (.t 46)⟩,⟨some 48,(some (47,true)),.mv (.t 12)⟩,⟨some 49,(some (47,true)),.fadr 1 (.t 7)⟩,⟨some 50,(some (47,true)),.load none (.t 49)⟩,⟨some 51,(some (47,true)),.bin 0 .mul (.t 48) (.t 50)⟩,⟨some 52,(some (47,true)),.fadr 0 (.t 7)⟩,⟨some 53,(some (47,true)),.load none (.t 52)⟩,⟨some 54,(some (47,true)),.mv (.t 13)⟩,⟨some 55,(some (47,true)),.bin 0 .mul (.t 53) (.t 54)⟩,⟨some 56,(some (47,true)),.bin 0 .geq (.t 51) (.t 55)⟩,⟨some 57,none,.pick (.t 47) (.t 56) (.c (.bool false))⟩])
 (.cond (.t 57) (.ops [⟨some 58,none,.mv (.t 9)⟩,⟨some 59,none,.load none (.t 11)⟩,⟨some 60,none,.load none (.t 10)⟩,⟨some 61,none,.build [(.int .i64 0),(.int .i64 0)] [(0,1,(.t 59)),(1,1,(.t 60))]⟩,⟨some 62,none,.bslice 46 2 1 [(.int .i64 0),(.int .i64 0)] [(0,2,(.t 61))]⟩,⟨some 63,none,.app 46 2 16 (.t 58) (.t 62)⟩,⟨some 9,none,.mv (.t 63)⟩]) (.skip)))))))
 (.ops [⟨some 64,none,.bin 0 .add (.t 21) (.c (.int .i64 1))⟩,⟨some 21,none,.mv (.t 64)⟩])))))))))
 (.ops [⟨some 65,none,.bin 0 .add (.t 17) (.c (.int .i64 1))⟩,⟨some 17,none,.mv (.t 65)⟩])))))))
 (.seq (.ops [⟨some 66,none,.mv (.t 9)⟩,⟨some 8,none,.mv (.t 66)⟩])
 (.ret))))⟩
theorem c16:compF Go.Proofs.Try.prog 16=some a16:=by kernel_rfl
def a17 : AFn := ⟨23,[.c 4 (some 2),.t 5],.seq (.ops [⟨some 2,none,.box 28 (.t 0)⟩,⟨some 3,none,.box 28 (.t 1)⟩,⟨some 4,none,.alloc 28 [(.lit true 0 []),(.str [])]⟩,⟨some 5,none,.mv (.c (.int .i64 0))⟩])
 (.seq (.seq (.ops [⟨some 9,none,.load (some 2) (.t 2)⟩,⟨some 10,none,.load (some 2) (.t 3)⟩,⟨some 11,none,.call 54 [(.t 9),(.t 10)]⟩,⟨some 6,none,.mv (.t 11)⟩])
 (.seq (.ops [⟨some 12,none,.mv (.t 6)⟩,⟨some 13,none,.bin 0 .neq (.t 12) (.c (.int .i64 0))⟩])
 (.cond (.t 13) (.seq (.ops [⟨some 14,none,.build [(.lit true 0 []),(.str [])] []⟩,⟨some 15,none,.mv (.t 6)⟩,⟨none,none,.store 2 (.t 4) (.t 14)⟩,⟨some 5,none,.mv (.t 15)⟩])
 (.ret)) (.skip))))
 (.seq (.ops [⟨some 7,none,.alloc 4 [(.bool false)]⟩,⟨none,none,.store 1 (.t 7) (.c (.bool true))⟩])
 (.seq (.ops [⟨some 16,none,.load (some 2) (.t 2)⟩,⟨some 17,none,.mkfn 56 [(.t 3),(.t 7)]⟩,⟨some 18,none,.call 55 [(.t 16),(.t 17)]⟩,⟨some 8,none,.alloc 28 [(.lit true 0 []),(.str [])]⟩,⟨none,none,.store 2 (.t 8) (.t 18)⟩])
 (.seq (.seq (.ops [⟨some 19,none,.load none (.t 7)⟩,⟨some 20,none,.un .not (.t 19)⟩])
 (.cond (.t 20) (.seq (.ops [⟨some 21,none,.build [(.lit true 0 []),(.str [])] []⟩,⟨none,none,.store 2 (.t 4) (.t 21)⟩,⟨some 5,none,.mv (.c (.int .i64 13))⟩])
 (.ret)) (.skip)))
 (.seq (.ops [⟨some 22,none,.load (some 2) (.t 8)⟩,⟨none,none,.store 2 (.t 4) (.t 22)⟩,⟨some 5,none,.mv (.c (.int .i64 0))⟩])
 (.ret))))))⟩
theorem c17:compF Go.Proofs.Try.prog 17=some a17:=by kernel_rfl
def a18 : AFn := ⟨17,[.t 4,.t 5],.seq (.ops [⟨some 2,none,.box 28 (.t 0)⟩,⟨some 3,none,.box 28 (.t 1)⟩,⟨some 4,none,.mv (.c (.lit true 0 []))⟩,⟨some 5,none,.mv (.c (.int .i64 0))⟩])
 (.seq (.seq (.ops [⟨some 7,none,.load (some 2) (.t 2)⟩,⟨some 8,none,.load (some 2) (.t 3)⟩,⟨some 9,none,.call 54 [(.t 7),(.t 8)]⟩,⟨some 6,none,.mv (.t 9)⟩])
 (.seq (.ops [⟨some 10,none,.mv (.t 6)⟩,⟨some 11,none,.bin 0 .neq (.t 10) (.c (.int .i64 0))⟩])
 (.cond (.t 11) (.seq (.ops [⟨some 12,none,.mv (.t 6)⟩,⟨some 4,none,.mv (.c (.lit true 0 []))⟩,⟨some 5,none,.mv (.t 12)⟩])
 (.ret)) (.skip))))
 (.seq (.ops [⟨some 13,none,.load (some 2) (.t 2)⟩,⟨some 14,none,.call 43 [(.t 13)]⟩,⟨some 15,none,.mkfn 58 [(.t 2),(.t 3)]⟩,⟨some 16,none,.call 57 [(.t 14),(.t 15)]⟩,⟨some 4,none,.mv (.t 16)⟩,⟨some 5,none,.mv (.c (.int .i64 0))⟩])
 (.ret)))⟩
theorem c18:compF Go.Proofs.Try.prog 18=some a18:=by kernel_rfl
def a19 : AFn := ⟨32,[.t 4],.seq (.ops [⟨some 2,none,.box 28 (.t 0)⟩,⟨some 3,none,.box 28 (.t 1)⟩,⟨some 4,none,.mv (.c (.int .i64 0))⟩])
 (.seq (.seq (.any [(⟨some 5,none,.fadr 0 (.t 2)⟩,[]),(⟨some 6,none,.load none (.t 5)⟩,[]),(⟨some 7,none,.len false (.t 6)⟩,[]),(⟨some 8,none,.fadr 0 (.t 3)⟩,[0,1,2]),(⟨some 9,none,.load none (.t 8)⟩,[0,1,2]),(⟨some 10,none,.len false (.t 9)⟩,[0,1,2]),(⟨some 11,none,.bin 0 .neq (.t 7) (.t 10)⟩,[]),(⟨some 12,none,.mv (.t 11)⟩,[]),(⟨some 13,(some (12,false)),.fadr 0 (.t 2)⟩,[]),(⟨some 14,(some (12,false)),.load none (.t 13)⟩,[]),(⟨some 15,(some (12,false)),.iadr 1 (.t 14) (.c (.int .i64 0))⟩,[]),(⟨some 16,(some (12,false)),.load none (.t 15)⟩,[]),(⟨some 17,(some (12,false)),.len true (.t 16)⟩,[]),(⟨some 18,(some (12,false)),.fadr 0 (.t 3)⟩,[8,9,10,11,12]),(⟨some 19,(some (12,false)),.load none (.t 18)⟩,[8,9,10,11,12]),(⟨some 20,(some (12,false)),.iadr 1 (.t 19) (.c (.int .i64 0))⟩,[8,9,10,11,12]),(⟨some 21,(some (12,false)),.load none (.t 20)⟩,[8,9,10,11,12]),(⟨some 22,(some (12,false)),.len true (.t 21)⟩,[8,9,10,11,12]),(⟨some 23,(some (12,false)),.bin 0 .neq (.t 17) (.t 22)⟩,[]),(⟨some 24,none,.pick (.t 12) (.c (.bool true)) (.t 23)⟩,[]),(⟨some 25,none,.mv (.t 24)⟩,[]),(⟨some 26,(some (25,false)),.fadr 1 (.t 2)⟩,[]),(⟨some 27,(some (25,false)),.load none (.t 26)⟩,[]),(⟨some 28,(some (25,false)),.fadr 1 (.t 3)⟩,[21,22]),(⟨some 29,(some (25,false)),.load none (.t 28)⟩,[21,22]),(⟨some 30,(some (25,false)),.bin 1 .neq (.t 27) (.t 29)⟩,[]),(⟨some 31,none,.pick (.t 25) (.c (.bool true)) (.t 30)⟩,[])])
 (.cond (.t 31) (.seq (.ops [⟨some 4,none,.mv (.c (.int .i64 3))⟩])
 (.ret)) (.skip)))
 (.seq (.ops [⟨some 4,none,.mv (.c (.int .i64 0))⟩])
 (.ret)))⟩
theorem c19:compF Go.Proofs.Try.prog 19=some a19:=by kernel_rfl
def a20 : AFn := ⟨17,[.t 4],.seq (.ops [⟨some 2,none,.box 28 (.t 0)⟩,⟨some 3,none,.box 28 (.t 1)⟩,⟨some 4,none,.mv (.c (.bool false))⟩])
 (.seq (.ops [⟨some 5,none,.fadr 0 (.t 2)⟩,⟨some 6,none,.load none (.t 5)⟩,⟨some 7,none,.fadr 0 (.t 3)⟩,⟨some 8,none,.load none (.t 7)⟩,⟨some 9,none,.call 59 [(.t 6),(.t 8)]⟩,⟨some 10,none,.mv (.t 9)⟩,⟨some 11,(some (10,true)),.fadr 1 (.t 2)⟩,⟨some 12,(some (10,true)),.load none (.t 11)⟩,⟨some 13,(some (10,true)),.fadr 1 (.t 3)⟩,⟨some 14,(some (10,true)),.load none (.t 13)⟩,⟨some 15,(some (10,true)),.bin 1 .eql (.t 12) (.t 14)⟩,⟨some 16,none,.pick (.t 10) (.t 15) (.c (.bool false))⟩,⟨some 4,none,.mv (.t 16)⟩])
 (.ret))⟩
theorem c20:compF Go.Proofs.Try.prog 20=some a20:=by kernel_rfl
def a21 : AFn := ⟨21,[.t 0],.seq (.ops [⟨some 0,none,.mv (.c (.bool false))⟩])
 (.seq (.ops [⟨some 5,none,.bslice 9 1 1 [(.str [])] [(0,1,(.c (.str [49,120])))]⟩,⟨some 6,none,.build [(.lit true 0 []),(.str [])] [(0,1,(.t 5)),(1,1,(.c (.str [49])))]⟩,⟨some 7,none,.call 60 [(.t 6)]⟩,⟨some 4,none,.mv (.t 7)⟩,⟨some 8,none,.ext (.t 4) 0⟩,⟨some 9,none,.ext (.t 4) 1⟩,⟨some 10,none,.ext (.t 4) 2⟩,⟨some 1,none,.alloc 35 [(.int .i64 0),(.int .i64 0)]⟩,⟨none,none,.store 2 (.t 1) (.t 8)⟩,⟨some 2,none,.mv (.t 9)⟩,⟨some 3,none,.mv (.t 10)⟩])
 (.seq (.ops [⟨some 11,none,.mv (.t 3)⟩,⟨some 12,none,.bin 0 .eql (.t 11) (.c (.int .i64 0))⟩,⟨some 13,none,.mv (.t 12)⟩,⟨some 14,(some (13,true)),.mv (.t 2)⟩,⟨some 15,none,.pick (.t 13) (.t 14) (.c (.bool false))⟩,⟨some 16,none,.mv (.t 15)⟩,⟨some 17,(some (16,true)),.load (some 2) (.t 1)⟩,⟨some 18,(some (16,true)),.build [(.int .i64 0),(.int .i64 0)] [(0,1,(.c (.int .i64 1))),(1,1,(.c (.int .i64 2)))]⟩,⟨some 19,(some (16,true)),.eqs false [0,0] (.t 17) (.t 18)⟩,⟨some 20,none,.pick (.t 16) (.t 19) (.c (.bool false))⟩,⟨some 0,none,.mv (.t 20)⟩])
 (.ret)))⟩
theorem c21:compF Go.Proofs.Try.prog 21=some a21:=by kernel_rfl
def a22 : AFn := ⟨39,[.c 4 (some 2),.t 5],.seq (.ops [⟨some 2,none,.box 28 (.t 0)⟩,⟨some 3,none,.box 28 (.t 1)⟩,⟨some 4,none,.alloc 28 [(.lit true 0 []),(.str [])]⟩,⟨some 5,none,.mv (.c (.int .i64 0))⟩])
 (.seq (.ops [⟨some 9,none,.load (some 2) (.t 2)⟩,⟨some 6,none,.alloc 28 [(.lit true 0 []),(.str [])]⟩,⟨none,none,.store 2 (.t 6) (.t 9)⟩])
 (.seq (.seq (.ops [⟨some 10,none,.load (some 2) (.t 2)⟩,⟨some 11,none,.load (some 2) (.t 3)⟩,⟨some 12,none,.call 23 [(.t 10),(.t 11)]⟩,⟨some 13,none,.len false (.t 12)⟩,⟨some 14,none,.mv (.c (.int .i64 0))⟩])
 (.block 0 (.loop (.seq (.ops [⟨some 15,none,.bin 0 .lss (.t 14) (.t 13)⟩])
 (.seq (.cond (.t 15) (.skip) (.exit 0))
 (.seq (.block 1 (.seq (.ops [⟨some 16,none,.iadr 2 (.t 12) (.t 14)⟩,⟨some 17,none,.load (some 2) (.t 16)⟩,⟨some 8,none,.alloc 46 [(.int .i64 0),(.int .i64 0)]⟩,⟨none,none,.store 2 (.t 8) (.t 17)⟩])
 (.block 2 (.seq (.ops [⟨some 19,none,.load (some 2) (.t 2)⟩,⟨some 20,none,.load (some 2) (.t 8)⟩,⟨some 21,none,.call 61 [(.t 19),(.t 20)]⟩,⟨some 22,none,.bin 0 .eql (.t 21) (.c (.int .u8 63))⟩,⟨some 18,none,.mv (.t 22)⟩])
 (.cond (.t 18) (.any [(⟨some 23,none,.load (some 2) (.t 6)⟩,[]),(⟨some 24,none,.load (some 2) (.t 8)⟩,[0]),(⟨some 25,none,.bslice 46 2 1 [(.int .i64 0),(.int .i64 0)] [(0,2,(.t 24))]⟩,[0]),(⟨some 26,none,.load (some 2) (.t 3)⟩,[0,1,2]),(⟨some 27,none,.load (some 2) (.t 8)⟩,[0,1,2,3]),(⟨some 28,none,.call 61 [(.t 26),(.t 27)]⟩,[0,1,2]),(⟨some 29,none,.call 62 [(.t 23),(.t 25),(.t 28)]⟩,[]),(⟨none,none,.store 2 (.t 6) (.t 29)⟩,[])]) (.seq (.ops [⟨some 31,none,.load (some 2) (.t 3)⟩,⟨some 32,none,.load (some 2) (.t 8)⟩,⟨some 33,none,.call 61 [(.t 31),(.t 32)]⟩,⟨some 34,none,.bin 0 .neq (.t 33) (.c (.int .u8 63))⟩,⟨some 30,none,.mv (.t 34)⟩])
 (.cond (.t 30) (.seq (.ops [⟨some 35,none,.build [(.lit true 0 []),(.str [])] []⟩,⟨none,none,.store 2 (.t 4) (.t 35)⟩,⟨some 5,none,.mv (.c (.int .i64 13))⟩])
 (.ret)) (.skip))))))))
 (.ops [⟨some 36,none,.bin 0 .add (.t 14) (.c (.int .i64 1))⟩,⟨some 14,none,.mv (.t 36)⟩])))))))
 (.seq (.ops [⟨some 37,none,.load (some 2) (.t 6)⟩,⟨some 38,none,.call 62 [(.t 37),(.c (.lit true 0 [])),(.c (.int .u8 0))]⟩,⟨none,none,.store 2 (.t 4) (.t 38)⟩,⟨some 5,none,.mv (.c (.int .i64 0))⟩])
 (.ret))))⟩
theorem c22:compF Go.Proofs.Try.prog 22=some a22:=by kernel_rfl
def a23 : AFn := ⟨8,[.t 4],.seq (.ops [⟨some 2,none,.box 28 (.t 0)⟩,⟨some 3,none,.box 28 (.t 1)⟩,⟨some 4,none,.mv (.c (.lit true 0 []))⟩])
 (.seq (.ops [⟨some 5,none,.load (some 2) (.t 2)⟩,⟨some 6,none,.mkfn 63 [(.t 2),(.t 3)]⟩,⟨some 7,none,.call 49 [(.t 5),(.t 6)]⟩,⟨some 4,none,.mv (.t 7)⟩])
 (.ret))⟩
theorem c23:compF Go.Proofs.Try.prog 23=some a23:=by kernel_rfl
def a34 : AFn := ⟨19,[.t 6],.seq (.ops [⟨some 6,none,.mv (.c (.int .i64 0))⟩])
 (.seq (.seq (.ops [⟨some 7,none,.mv (.t 2)⟩,⟨some 8,none,.mv (.t 1)⟩,⟨some 9,none,.bin 0 .lss (.t 7) (.t 8)⟩])
 (.cond (.t 9) (.seq (.ops [⟨some 10,none,.mv (.t 1)⟩,⟨some 6,none,.mv (.t 10)⟩])
 (.ret)) (.skip)))
 (.seq (.ops [⟨some 11,none,.mv (.t 1)⟩,⟨some 12,none,.mv (.t 0)⟩,⟨some 13,none,.mv (.t 2)⟩,⟨some 14,none,.mv (.t 1)⟩,⟨some 15,none,.bin 0 .sub (.t 13) (.t 14)⟩,⟨some 16,none,.bin 0 .add (.t 15) (.c (.int .i64 1))⟩,⟨some 17,none,.call 35 [(.t 12),(.t 16)]⟩,⟨some 18,none,.bin 0 .add (.t 11) (.t 17)⟩,⟨some 6,none,.mv (.t 18)⟩])
 (.ret)))⟩
theorem c34:compF Go.Proofs.Try.prog 34=some a34:=by kernel_rfl
def a35 : AFn := ⟨64,[.t 4],.seq (.ops [⟨some 4,none,.mv (.c (.int .i64 0))⟩])
 (.seq (.ops [⟨some 7,none,.mv (.t 0)⟩,⟨some 8,none,.nilchk (.t 7)⟩,⟨some 9,none,.fadr 1 (.t 8)⟩,⟨some 10,none,.load none (.t 9)⟩,⟨some 11,none,.bin 0 .add (.t 10) (.c (.int .i64 1))⟩,⟨some 12,none,.nilchk (.t 7)⟩,⟨some 13,none,.fadr 1 (.t 12)⟩,⟨none,none,.store 1 (.t 13) (.t 11)⟩])
 (.seq (.seq (.ops [⟨some 14,none,.mv (.t 0)⟩,⟨some 15,none,.nilchk (.t 14)⟩,⟨some 16,none,.fadr 0 (.t 15)⟩,⟨some 17,none,.load none (.t 16)⟩,⟨some 18,none,.len false (.t 17)⟩,⟨some 19,none,.bin 0 .eql (.t 18) (.c (.int .i64 0))⟩])
 (.cond (.t 19) (.seq (.ops [⟨some 20,none,.mv (.t 0)⟩,⟨some 21,none,.nilchk (.t 20)⟩,⟨some 22,none,.fadr 1 (.t 21)⟩,⟨some 23,none,.load none (.t 22)⟩,⟨some 24,none,.bin 0 .mul (.t 23) (.c (.int .i64 7919))⟩,⟨some 25,none,.mv (.t 1)⟩,⟨some 26,none,.call 73 [(.t 24),(.t 25)]⟩,⟨some 4,none,.mv (.t 26)⟩])
 (.ret)) (.skip)))
 (.seq (.any [(⟨some 27,none,.mv (.t 0)⟩,[]),(⟨some 28,none,.nilchk (.t 27)⟩,[]),(⟨some 29,none,.fadr 1 (.t 28)⟩,[]),(⟨some 30,none,.load none (.t 29)⟩,[]),(⟨some 31,none,.bin 0 .sub (.t 30) (.c (.int .i64 1))⟩,[]),(⟨some 32,none,.mv (.t 0)⟩,[0,1,2,3,4]),(⟨some 33,none,.nilchk (.t 32)⟩,[0,1,2,3,4]),(⟨some 34,none,.fadr 0 (.t 33)⟩,[0,1,2,3,4]),(⟨some 35,none,.load none (.t 34)⟩,[0,1,2,3,4]),(⟨some 36,none,.len false (.t 35)⟩,[0,1,2,3,4]),(⟨some 37,none,.bin 0 .rem (.t 31) (.t 36)⟩,[]),(⟨some 5,none,.mv (.t 37)⟩,[])])
 (.seq (.any [(⟨some 38,none,.mv (.t 0)⟩,[]),(⟨some 39,none,.nilchk (.t 38)⟩,[]),(⟨some 40,none,.fadr 1 (.t 39)⟩,[]),(⟨some 41,none,.load none (.t 40)⟩,[]),(⟨some 42,none,.bin 0 .sub (.t 41) (.c (.int .i64 1))⟩,[]),(⟨some 43,none,.mv (.t 0)⟩,[0,1,2,3,4]),(⟨some 44,none,.nilchk (.t 43)⟩,[0,1,2,3,4]),(⟨some 45,none,.fadr 0 (.t 44)⟩,[0,1,2,3,4]),(⟨some 46,none,.load none (.t 45)⟩,[0,1,2,3,4]),(⟨some 47,none,.len false (.t 46)⟩,[0,1,2,3,4]),(⟨some 48,none,.bin 0 .quo (.t 42) (.t 47)⟩,[]),(⟨some 6,none,.mv (.t 48)⟩,[])])
 (.seq (.ops [⟨some 49,none,.mv (.t 0)⟩,⟨some 50,none,.nilchk (.t 49)⟩,⟨some 51,none,.fadr 0 (.t 50)⟩,⟨some 52,none,.load none (.t 51)⟩,⟨some 53,none,.mv (.t 5)⟩,⟨some 54,none,.iadr 1 (.t 52) (.t 53)⟩,⟨some 55,none,.load none (.t 54)⟩,⟨some 56,none,.call 73 [(.t 55),(.c (.int .i64 1073741824))]⟩,⟨some 57,none,.mv (.t 6)⟩,⟨some 58,none,.mv (.t 5)⟩,⟨some 59,none,.bin 0 .add (.c (.int .i64 7919)) (.t 58)⟩,⟨some 60,none,.bin 0 .mul (.t 57) (.t 59)⟩,⟨some 61,none,.bin 0 .add (.t 56) (.t 60)⟩,⟨some 62,none,.mv (.t 1)⟩,⟨some 63,none,.call 73 [(.t 61),(.t 62)]⟩,⟨some 4,none,.mv (.t 63)⟩])
 (.ret))))))⟩
theorem c35:compF Go.Proofs.Try.prog 35=some a35:=by kernel_rfl
def a36 : AFn := ⟨9,[.t 4],.seq (.ops [⟨some 4,none,.mv (.c (.bool false))⟩])
 (.seq (.ops [⟨some 5,none,.mv (.t 0)⟩,⟨some 6,none,.mv (.t 1)⟩,⟨some 7,none,.call 74 [(.t 5),(.t 6)]⟩,⟨some 8,none,.bin 0 .geq (.t 7) (.c (.int .i64 0))⟩,⟨some 4,none,.mv (.t 8)⟩])
 (.ret))⟩
theorem c36:compF Go.Proofs.Try.prog 36=some a36:=by kernel_rfl
def a37 : AFn := ⟨6,[.t 2],.seq (.ops [⟨some 2,none,.mv (.c (.bool false))⟩])
 (.seq (.ops [⟨some 3,none,.mv (.t 0)⟩,⟨some 4,none,.call 38 [(.t 3)]⟩,⟨some 5,none,.un .not (.t 4)⟩,⟨some 2,none,.mv (.t 5)⟩])
 (.ret))⟩
theorem c37:compF Go.Proofs.Try.prog 37=some a37:=by kernel_rfl
def a38 : AFn := ⟨18,[.t 2],.seq (.ops [⟨some 2,none,.mv (.c (.bool false))⟩])
 (.seq (.ops [⟨some 3,none,.mv (.t 0)⟩,⟨some 4,none,.call 75 [(.c (.str [48,49,50,51,52,53,54,55,56,57,97,98,99,100,101,102,103,104,105,106,107,108,109,110,111,112,113,114,115,116,117,118,119,120,121,122])),(.t 3)]⟩,⟨some 5,none,.bin 0 .geq (.t 4) (.c (.int .i64 0))⟩,⟨some 6,none,.mv (.t 5)⟩,⟨some 7,(some (6,false)),.mv (.t 0)⟩,⟨some 8,(some (6,false)),.bin 0 .eql (.t 7) (.c (.int .u8 46))⟩,⟨some 9,none,.pick (.t 6) (.c (.bool true)) (.t 8)⟩,⟨some 10,none,.mv (.t 9)⟩,⟨some 11,(some (10,false)),.mv (.t 0)⟩,⟨some 12,(some (10,false)),.bin 0 .eql (.t 11) (.c (.int .u8 63))⟩,⟨some 13,none,.pick (.t 10) (.c (.bool true)) (.t 12)⟩,⟨some 14,none,.mv (.t 13)⟩,⟨some 15,(some (14,false)),.mv (.t 0)⟩,⟨some 16,(some (14,false)),.bin 0 .eql (.t 15) (.c (.int .u8 42))⟩,⟨some 17,none,.pick (.t 14) (.c (.bool true)) (.t 16)⟩,⟨some 2,none,.mv (.t 17)⟩])
 (.ret))⟩
theorem c38:compF Go.Proofs.Try.prog 38=some a38:=by kernel_rfl
def a39 : AFn := ⟨29,[.t 2],.seq (.ops [⟨some 2,none,.mv (.c (.int .i64 0))⟩])
 (.seq (.seq (.ops [⟨some 4,none,.mv (.t 0)⟩,⟨some 5,none,.len true (.t 4)⟩,⟨some 6,none,.mv (.c (.int .i64 0))⟩])
 (.block 0 (.loop (.seq (.ops [⟨some 7,none,.bin 0 .lss (.t 6) (.t 5)⟩])
 (.seq (.cond (.t 7) (.skip) (.exit 0))
 (.seq (.block 1 (.seq (.ops [⟨some 8,none,.mv (.t 6)⟩,⟨some 3,none,.mv (.t 8)⟩])
 (.block 2 (.seq (.ops [⟨some 10,none,.mv (.t 0)⟩,⟨some 11,none,.mv (.t 3)⟩,⟨some 12,none,.idxs (.t 10) (.t 11)⟩,⟨some 13,none,.call 75 [(.c (.str [48,49,50,51,52,53,54,55,56,57,97,98,99,100,101,102,103,104,105,106,107,108,109,110,111,112,113,114,115,116,117,118,119,120,121,122])),(.t 12)]⟩,⟨some 14,none,.bin 0 .lss (.t 13) (.c (.int .i64 0))⟩,⟨some 9,none,.mv (.t 14)⟩])
 (.cond (.t 9) (.seq (.ops [⟨some 2,none,.mv (.c (.int .i64 9))⟩])
 (.ret)) (.seq (.any [(⟨some 16,none,.mv (.t 3)⟩,[]),(⟨some 17,none,.bin 0 .gtr (.t 16) (.c (.int .i64 0))⟩,[]),(⟨some 18,none,.mv (.t 17)⟩,[]),(⟨some 19,(some (18,true)),.mv (.t 0)⟩,[]),(⟨some 20,(some (18,true)),.mv (.t 3)⟩,[3]),(⟨some 21,(some (18,true)),.idxs (.t 19) (.t 20)⟩,[]),(⟨some 22,(some (18,true)),.mv (.t 0)⟩,[3,4,5]),(⟨some 23,(some (18,true)),.mv (.t 3)⟩,[3,4,5,6]),(⟨some 24,(some (18,true)),.bin 0 .sub (.t 23) (.c (.int .i64 1))⟩,[3,4,5,6]),(⟨some 25,(some (18,true)),.idxs (.t 22) (.t 24)⟩,[3,4,5]),(⟨some 26,(some (18,true)),.bin 0 .leq (.t 21) (.t 25)⟩,[]),(⟨some 27,none,.pick (.t 18) (.t 26) (.c (.bool false))⟩,[]),(⟨some 15,none,.mv (.t 27)⟩,[])])
 (.cond (.t 15) (.seq (.ops [⟨some 2,none,.mv (.c (.int .i64 7))⟩])
 (.ret)) (.skip))))))))
 (.ops [⟨some 28,none,.bin 0 .add (.t 6) (.c (.int .i64 1))⟩,⟨some 6,none,.mv (.t 28)⟩])))))))
 (.seq (.ops [⟨some 2,none,.mv (.c (.int .i64 0))⟩])
 (.ret)))⟩
theorem c39:compF Go.Proofs.Try.prog 39=some a39:=by kernel_rfl
def a40 : AFn := ⟨72,[.t 2],.seq (.ops [⟨some 1,none,.box 28 (.t 0)⟩,⟨some 2,none,.mv (.c (.int .i64 0))⟩])
 (.seq (.block 0 (.seq (.ops [⟨some 7,none,.fadr 0 (.t 1)⟩,⟨some 8,none,.load none (.t 7)⟩,⟨some 9,none,.len false (.t 8)⟩,⟨some 10,none,.bin 0 .eql (.t 9) (.c (.int .i64 0))⟩,⟨some 6,none,.mv (.t 10)⟩])
 (.cond (.t 6) (.seq (.ops [⟨some 2,none,.mv (.c (.int .i64 8))⟩])
 (.ret)) (.seq (.ops [⟨some 12,none,.fadr 0 (.t 1)⟩,⟨some 13,none,.load none (.t 12)⟩,⟨some 14,none,.len false (.t 13)⟩,⟨some 15,none,.bin 0 .gtr (.t 14) (.c (.int .i64 60))⟩,⟨some 11,none,.mv (.t 15)⟩])
 (.cond (.t 11) (.seq (.ops [⟨some 2,none,.mv (.c (.int .i64 2))⟩])
 (.ret)) (.skip))))))
 (.seq (.seq (.ops [⟨some 16,none,.fadr 0 (.t 1)⟩,⟨some 17,none,.load none (.t 16)⟩,⟨some 18,none,.len false (.t 17)⟩,⟨some 19,none,.mv (.c (.int .i64 0))⟩])
 (.block 1 (.loop (.seq (.ops [⟨some 20,none,.bin 0 .lss (.t 19) (.t 18)⟩])
 (.seq (.cond (.t 20) (.skip) (.exit 1))
 (.seq (.block 2 (.seq (.ops [⟨some 21,none,.iadr 1 (.t 17) (.t 19)⟩,⟨some 22,none,.load none (.t 21)⟩,⟨some 4,none,.mv (.t 22)⟩])
 (.block 3 (.seq (.ops [⟨some 24,none,.mv (.t 4)⟩,⟨some 25,none,.bin 1 .eql (.t 24) (.c (.str []))⟩,⟨some 23,none,.mv (.t 25)⟩])
 (.cond (.t 23) (.seq (.ops [⟨some 2,none,.mv (.c (.int .i64 8))⟩])
 (.ret)) (.seq (.ops [⟨some 27,none,.mv (.t 4)⟩,⟨some 28,none,.len true (.t 27)⟩,⟨some 29,none,.bin 0 .gtr (.t 28) (.c (.int .i64 60))⟩,⟨some 26,none,.mv (.t 29)⟩])
 (.cond (.t 26) (.seq (.ops [⟨some 2,none,.mv (.c (.int .i64 2))⟩])
 (.ret)) (.seq (.ops [⟨some 31,none,.mv (.t 4)⟩,⟨some 32,none,.len true (.t 31)⟩,⟨some 33,none,.fadr 0 (.t 1)⟩,⟨some 34,none,.load none (.t 33)⟩,⟨some 35,none,.iadr 1 (.t 34) (.c (.int .i64 0))⟩,⟨some 36,none,.load none (.t 35)⟩,⟨some 37,none,.len true (.t 36)⟩,⟨some 38,none,.bin 0 .neq (.t 32) (.t 37)⟩,⟨some 30,none,.mv (.t 38)⟩])
 (.cond (.t 30) (.seq (.ops [⟨some 2,none,.mv (.c (.int .i64 3))⟩])
 (.ret)) (.seq (.ops [⟨some 40,none,.mv (.t 4)⟩,⟨some 41,none,.call 76 [(.t 40)]⟩,⟨some 39,none,.mv (.t 41)⟩])
 (.cond (.t 39) (.seq (.ops [⟨some 2,none,.mv (.c (.int .i64 9))⟩])
 (.ret)) (.skip))))))))))))
 (.ops [⟨some 42,none,.bin 0 .add (.t 19) (.c (.int .i64 1))⟩,⟨some 19,none,.mv (.t 42)⟩])))))))
 (.seq (.seq (.ops [⟨some 43,none,.fadr 1 (.t 1)⟩,⟨some 44,none,.load none (.t 43)⟩,⟨some 45,none,.len true (.t 44)⟩,⟨some 46,none,.mv (.c (.int .i64 0))⟩])
 (.block 4 (.loop (.seq (.ops [⟨some 47,none,.bin 0 .lss (.t 46) (.t 45)⟩])
 (.seq (.cond (.t 47) (.skip) (.exit 4))
 (.seq (.block 5 (.seq (.ops [⟨some 48,none,.mv (.t 46)⟩,⟨some 5,none,.mv (.t 48)⟩])
 (.block 6 (.seq (.ops [⟨some 50,none,.fadr 1 (.t 1)⟩,⟨some 51,none,.load none (.t 50)⟩,⟨some 52,none,.mv (.t 5)⟩,⟨some 53,none,.idxs (.t 51) (.t 52)⟩,⟨some 54,none,.call 77 [(.t 53)]⟩,⟨some 55,none,.un .not (.t 54)⟩,⟨some 49,none,.mv (.t 55)⟩])
 (.cond (.t 49) (.seq (.ops [⟨some 2,none,.mv (.c (.int .i64 9))⟩])
 (.ret)) (.seq (.any [(⟨some 57,none,.mv (.t 5)⟩,[]),(⟨some 58,none,.bin 0 .gtr (.t 57) (.c (.int .i64 0))⟩,[]),(⟨some 59,none,.mv (.t 58)⟩,[]),(⟨some 60,(some (59,true)),.fadr 1 (.t 1)⟩,[]),(⟨some 61,(some (59,true)),.load none (.t 60)⟩,[]),(⟨some 62,(some (59,true)),.mv (.t 5)⟩,[3,4]),(⟨some 63,(some (59,true)),.idxs (.t 61) (.t 62)⟩,[]),(⟨some 64,(some (59,true)),.fadr 1 (.t 1)⟩,[3,4,5,6]),(⟨some 65,(some (59,true)),.load none (.t 64)⟩,[3,4,5,6]),(⟨some 66,(some (59,true)),.mv (.t 5)⟩,[3,4,5,6,7,8]),(⟨some 67,(some (59,true)),.bin 0 .sub (.t 66) (.c (.int .i64 1))⟩,[3,4,5,6,7,8]),(⟨some 68,(some (59,true)),.idxs (.t 65) (.t 67)⟩,[3,4,5,6]),(⟨some 69,(some (59,true)),.bin 0 .leq (.t 63) (.t 68)⟩,[]),(⟨some 70,none,.pick (.t 59) (.t 69) (.c (.bool false))⟩,[]),(⟨some 56,none,.mv (.t 70)⟩,[])])
 (.cond (.t 56) (.seq (.ops [⟨some 2,none,.mv (.c (.int .i64 7))⟩])
 (.ret)) (.skip))))))))
 (.ops [⟨some 71,none,.bin 0 .add (.t 46) (.c (.int .i64 1))⟩,⟨some 46,none,.mv (.t 71)⟩])))))))
 (.seq (.ops [⟨some 2,none,.mv (.c (.int .i64 0))⟩])
 (.ret)))))⟩
theorem c40:compF Go.Proofs.Try.prog 40=some a40:=by kernel_rfl
def a41 : AFn := ⟨15,[.t 6],.seq (.ops [⟨some 6,none,.mv (.c (.bool false))⟩])
 (.seq (.ops [⟨some 7,none,.mv (.t 0)⟩,⟨some 8,none,.mv (.t 1)⟩,⟨some 9,none,.bin 0 .lss (.t 7) (.t 8)⟩,⟨some 10,none,.mv (.t 9)⟩,⟨some 11,(some (10,false)),.mv (.t 0)⟩,⟨some 12,(some (10,false)),.mv (.t 2)⟩,⟨some 13,(some (10,false)),.bin 0 .gtr (.t 11) (.t 12)⟩,⟨some 14,none,.pick (.t 10) (.c (.bool true)) (.t 13)⟩,⟨some 6,none,.mv (.t 14)⟩])
 (.ret))⟩
theorem c41:compF Go.Proofs.Try.prog 41=some a41:=by kernel_rfl
def a42 : AFn := ⟨24,[.t 2],.seq (.ops [⟨some 1,none,.box 35 (.t 0)⟩,⟨some 2,none,.mv (.c (.bool false))⟩])
 (.seq (.any [(⟨some 5,none,.fadr 0 (.t 1)⟩,[]),(⟨some 6,none,.load none (.t 5)⟩,[]),(⟨some 7,none,.conv .u64 (.t 6)⟩,[]),(⟨some 8,none,.fadr 1 (.t 1)⟩,[0,1,2]),(⟨some 9,none,.load none (.t 8)⟩,[0,1,2]),(⟨some 10,none,.conv .u64 (.t 9)⟩,[0,1,2]),(⟨some 3,none,.mv (.t 7)⟩,[3,4,5]),(⟨some 4,none,.mv (.t 10)⟩,[])])
 (.seq (.seq (.ops [⟨some 11,none,.fadr 0 (.t 1)⟩,⟨some 12,none,.load none (.t 11)⟩,⟨some 13,none,.bin 0 .lss (.t 12) (.c (.int .i64 0))⟩])
 (.cond (.t 13) (.ops [⟨some 14,none,.mv (.t 3)⟩,⟨some 15,none,.un .neg (.t 14)⟩,⟨some 3,none,.mv (.t 15)⟩]) (.skip)))
 (.seq (.block 0 (.loop (.seq (.seq (.ops [⟨some 16,none,.mv (.t 4)⟩,⟨some 17,none,.bin 0 .neq (.t 16) (.c (.int .u64 0))⟩])
 (.cond (.t 17) (.skip) (.exit 0)))
 (.block 1 (.any [(⟨some 18,none,.mv (.t 4)⟩,[]),(⟨some 19,none,.mv (.t 3)⟩,[0]),(⟨some 20,none,.mv (.t 4)⟩,[0,1]),(⟨some 21,none,.bin 0 .rem (.t 19) (.t 20)⟩,[0]),(⟨some 3,none,.mv (.t 18)⟩,[2,3]),(⟨some 4,none,.mv (.t 21)⟩,[])])))))
 (.seq (.ops [⟨some 22,none,.mv (.t 3)⟩,⟨some 23,none,.bin 0 .eql (.t 22) (.c (.int .u64 1))⟩,⟨some 2,none,.mv (.t 23)⟩])
 (.ret)))))⟩
theorem c42:compF Go.Proofs.Try.prog 42=some a42:=by kernel_rfl
def a43 : AFn := ⟨29,[.t 2],.seq (.ops [⟨some 1,none,.box 28 (.t 0)⟩,⟨some 2,none,.mv (.c (.lit true 0 []))⟩])
 (.seq (.ops [⟨some 3,none,.mv (.c (.lit true 0 []))⟩])
 (.seq (.seq (.ops [⟨some 7,none,.fadr 0 (.t 1)⟩,⟨some 8,none,.load none (.t 7)⟩,⟨some 9,none,.len false (.t 8)⟩,⟨some 10,none,.mv (.c (.int .i64 0))⟩])
 (.block 0 (.loop (.seq (.ops [⟨some 11,none,.bin 0 .lss (.t 10) (.t 9)⟩])
 (.seq (.cond (.t 11) (.skip) (.exit 0))
 (.seq (.block 1 (.seq (.ops [⟨some 12,none,.mv (.t 10)⟩,⟨some 13,none,.iadr 1 (.t 8) (.t 10)⟩,⟨some 14,none,.load none (.t 13)⟩,⟨some 4,none,.mv (.t 12)⟩,⟨some 5,none,.mv (.t 14)⟩])
 (.seq (.ops [⟨some 15,none,.mv (.t 5)⟩,⟨some 16,none,.len true (.t 15)⟩,⟨some 17,none,.mv (.c (.int .i64 0))⟩])
 (.block 2 (.loop (.seq (.ops [⟨some 18,none,.bin 0 .lss (.t 17) (.t 16)⟩])
 (.seq (.cond (.t 18) (.skip) (.exit 2))
 (.seq (.block 3 (.seq (.ops [⟨some 19,none,.mv (.t 17)⟩,⟨some 6,none,.mv (.t 19)⟩])
 (.ops [⟨some 20,none,.mv (.t 3)⟩,⟨some 21,none,.mv (.t 6)⟩,⟨some 22,none,.mv (.t 4)⟩,⟨some 23,none,.build [(.int .i64 0),(.int .i64 0)] [(0,1,(.t 21)),(1,1,(.t 22))]⟩,⟨some 24,none,.bslice 46 2 1 [(.int .i64 0),(.int .i64 0)] [(0,2,(.t 23))]⟩,⟨some 25,none,.app 46 2 16 (.t 20) (.t 24)⟩,⟨some 3,none,.mv (.t 25)⟩])))
 (.ops [⟨some 26,none,.bin 0 .add (.t 17) (.c (.int .i64 1))⟩,⟨some 17,none,.mv (.t 26)⟩])))))))))
 (.ops [⟨some 27,none,.bin 0 .add (.t 10) (.c (.int .i64 1))⟩,⟨some 10,none,.mv (.t 27)⟩])))))))
 (.seq (.ops [⟨some 28,none,.mv (.t 3)⟩,⟨some 2,none,.mv (.t 28)⟩])
 (.ret))))⟩
theorem c43:compF Go.Proofs.Try.prog 43=some a43:=by kernel_rfl
def a44 : AFn := ⟨32,[.t 4],.seq (.ops [⟨some 2,none,.box 28 (.t 0)⟩,⟨some 3,none,.box 46 (.t 1)⟩,⟨some 4,none,.mv (.c (.int .u8 0))⟩])
 (.seq (.seq (.any [(⟨some 5,none,.fadr 1 (.t 3)⟩,[]),(⟨some 6,none,.load none (.t 5)⟩,[]),(⟨some 7,none,.fadr 0 (.t 2)⟩,[0,1]),(⟨some 8,none,.load none (.t 7)⟩,[0,1]),(⟨some 9,none,.len false (.t 8)⟩,[0,1]),(⟨some 10,none,.bin 0 .sub (.t 9) (.c (.int .i64 1))⟩,[0,1]),(⟨some 11,none,.call 41 [(.t 6),(.c (.int .i64 0)),(.t 10)]⟩,[]),(⟨some 12,none,.mv (.t 11)⟩,[]),(⟨some 13,(some (12,false)),.fadr 0 (.t 3)⟩,[]),(⟨some 14,(some (12,false)),.load none (.t 13)⟩,[]),(⟨some 15,(some (12,false)),.fadr 0 (.t 2)⟩,[8,9]),(⟨some 16,(some (12,false)),.load none (.t 15)⟩,[8,9]),(⟨some 17,(some (12,false)),.iadr 1 (.t 16) (.c (.int .i64 0))⟩,[8,9]),(⟨some 18,(some (12,false)),.load none (.t 17)⟩,[8,9]),(⟨some 19,(some (12,false)),.len true (.t 18)⟩,[8,9]),(⟨some 20,(some (12,false)),.bin 0 .sub (.t 19) (.c (.int .i64 1))⟩,[8,9]),(⟨some 21,(some (12,false)),.call 41 [(.t 14),(.c (.int .i64 0)),(.t 20)]⟩,[]),(⟨some 22,none,.pick (.t 12) (.c (.bool true)) (.t 21)⟩,[])])
 (.cond (.t 22) (.seq (.ops [⟨some 4,none,.mv (.c (.int .u8 46))⟩])
 (.ret)) (.skip)))
 (.seq (.any [(⟨some 23,none,.fadr 0 (.t 2)⟩,[]),(⟨some 24,none,.load none (.t 23)⟩,[]),(⟨some 25,none,.fadr 1 (.t 3)⟩,[0,1]),(⟨some 26,none,.load none (.t 25)⟩,[0,1]),(⟨some 27,none,.iadr 1 (.t 24) (.t 26)⟩,[]),(⟨some 28,none,.load none (.t 27)⟩,[]),(⟨some 29,none,.fadr 0 (.t 3)⟩,[0,1,2,3,4,5]),(⟨some 30,none,.load none (.t 29)⟩,[0,1,2,3,4,5]),(⟨some 31,none,.idxs (.t 28) (.t 30)⟩,[]),(⟨some 4,none,.mv (.t 31)⟩,[])])
 (.ret)))⟩
theorem c44:compF Go.Proofs.Try.prog 44=some a44:=by kernel_rfl
def a45 : AFn := ⟨9,[.t 2],.seq (.ops [⟨some 2,none,.mv (.c (.bool false))⟩])
 (.seq (.ops [⟨some 3,none,.mv (.t 0)⟩,⟨some 4,none,.call 77 [(.t 3)]⟩,⟨some 5,none,.mv (.t 4)⟩,⟨some 6,(some (5,false)),.mv (.t 0)⟩,⟨some 7,(some (5,false)),.bin 0 .eql (.t 6) (.c (.int .u8 42))⟩,⟨some 8,none,.pick (.t 5) (.c (.bool true)) (.t 7)⟩,⟨some 2,none,.mv (.t 8)⟩])
 (.ret))⟩
theorem c45:compF Go.Proofs.Try.prog 45=some a45:=by kernel_rfl
def a46 : AFn := ⟨13,[.t 4],.seq (.ops [⟨some 2,none,.box 28 (.t 0)⟩,⟨some 4,none,.mv (.c (.bool false))⟩])
 (.seq (.ops [⟨some 5,none,.mv (.t 1)⟩,⟨some 6,none,.call 77 [(.t 5)]⟩,⟨some 7,none,.mv (.t 6)⟩,⟨some 8,(some (7,true)),.load (some 2) (.t 2)⟩,⟨some 9,(some (7,true)),.mv (.t 1)⟩,⟨some 10,(some (7,true)),.call 65 [(.t 8),(.t 9)]⟩,⟨some 11,(some (7,true)),.un .not (.t 10)⟩,⟨some 12,none,.pick (.t 7) (.t 11) (.c (.bool false))⟩,⟨some 4,none,.mv (.t 12)⟩])
 (.ret))⟩
theorem c46:compF Go.Proofs.Try.prog 46=some a46:=by kernel_rfl
def a47 : AFn := ⟨15,[.t 6],.seq (.ops [⟨some 6,none,.mv (.c (.bool false))⟩])
 (.seq (.ops [⟨some 7,none,.mv (.t 1)⟩,⟨some 8,none,.mv (.t 0)⟩,⟨some 9,none,.bin 0 .leq (.t 7) (.t 8)⟩,⟨some 10,none,.mv (.t 9)⟩,⟨some 11,(some (10,true)),.mv (.t 0)⟩,⟨some 12,(some (10,true)),.mv (.t 2)⟩,⟨some 13,(some (10,true)),.bin 0 .leq (.t 11) (.t 12)⟩,⟨some 14,none,.pick (.t 10) (.t 13) (.c (.bool false))⟩,⟨some 6,none,.mv (.t 14)⟩])
 (.ret))⟩
theorem c47:compF Go.Proofs.Try.prog 47=some a47:=by kernel_rfl
def a48 : AFn := ⟨24,[.t 2],.seq (.ops [⟨some 1,none,.box 35 (.t 0)⟩,⟨some 2,none,.mv (.c (.bool false))⟩])
 (.seq (.any [(⟨some 5,none,.fadr 0 (.t 1)⟩,[]),(⟨some 6,none,.load none (.t 5)⟩,[]),(⟨some 7,none,.conv .u64 (.t 6)⟩,[]),(⟨some 8,none,.fadr 1 (.t 1)⟩,[0,1,2]),(⟨some 9,none,.load none (.t 8)⟩,[0,1,2]),(⟨some 10,none,.conv .u64 (.t 9)⟩,[0,1,2]),(⟨some 3,none,.mv (.t 7)⟩,[3,4,5]),(⟨some 4,none,.mv (.t 10)⟩,[])])
 (.seq (.seq (.ops [⟨some 11,none,.fadr 0 (.t 1)⟩,⟨some 12,none,.load none (.t 11)⟩,⟨some 13,none,.bin 0 .lss (.t 12) (.c (.int .i64 0))⟩])
 (.cond (.t 13) (.ops [⟨some 14,none,.mv (.t 3)⟩,⟨some 15,none,.un .neg (.t 14)⟩,⟨some 3,none,.mv (.t 15)⟩]) (.skip)))
 (.seq (.block 0 (.loop (.seq (.seq (.ops [⟨some 16,none,.mv (.t 4)⟩,⟨some 17,none,.bin 0 .neq (.t 16) (.c (.int .u64 0))⟩])
 (.cond (.t 17) (.skip) (.exit 0)))
 (.block 1 (.any [(⟨some 18,none,.mv (.t 4)⟩,[]),(⟨some 19,none,.mv (.t 3)⟩,[0]),(⟨some 20,none,.mv (.t 4)⟩,[0,1]),(⟨some 21,none,.bin 0 .rem (.t 19) (.t 20)⟩,[0]),(⟨some 3,none,.mv (.t 18)⟩,[2,3]),(⟨some 4,none,.mv (.t 21)⟩,[])])))))
 (.seq (.ops [⟨some 22,none,.mv (.t 3)⟩,⟨some 23,none,.bin 0 .eql (.t 22) (.c (.int .u64 1))⟩,⟨some 2,none,.mv (.t 23)⟩])
 (.ret)))))⟩
theorem c48:compF Go.Proofs.Try.prog 48=some a48:=by kernel_rfl
def a49 : AFn := ⟨36,[.t 4],.seq (.ops [⟨some 2,none,.box 28 (.t 0)⟩,⟨some 4,none,.mv (.c (.lit true 0 []))⟩])
 (.seq (.ops [⟨some 5,none,.mv (.c (.lit true 0 []))⟩])
 (.seq (.seq (.ops [⟨some 10,none,.fadr 0 (.t 2)⟩,⟨some 11,none,.load none (.t 10)⟩,⟨some 12,none,.len false (.t 11)⟩,⟨some 13,none,.mv (.c (.int .i64 0))⟩])
 (.block 0 (.loop (.seq (.ops [⟨some 14,none,.bin 0 .lss (.t 13) (.t 12)⟩])
 (.seq (.cond (.t 14) (.skip) (.exit 0))
 (.seq (.block 1 (.seq (.ops [⟨some 15,none,.mv (.t 13)⟩,⟨some 16,none,.iadr 1 (.t 11) (.t 13)⟩,⟨some 17,none,.load none (.t 16)⟩,⟨some 6,none,.mv (.t 15)⟩,⟨some 7,none,.mv (.t 17)⟩])
 (.seq (.ops [⟨some 18,none,.mv (.t 7)⟩,⟨some 19,none,.len true (.t 18)⟩,⟨some 20,none,.mv (.c (.int .i64 0))⟩])
 (.block 2 (.loop (.seq (.ops [⟨some 21,none,.bin 0 .lss (.t 20) (.t 19)⟩])
 (.seq (.cond (.t 21) (.skip) (.exit 2))
 (.seq (.block 3 (.seq (.ops [⟨some 22,none,.mv (.t 20)⟩,⟨some 8,none,.mv (.t 22)⟩])
 (.seq (.ops [⟨some 23,none,.mv (.t 8)⟩,⟨some 24,none,.mv (.t 6)⟩,⟨some 25,none,.build [(.int .i64 0),(.int .i64 0)] [(0,1,(.t 23)),(1,1,(.t 24))]⟩,⟨some 9,none,.alloc 46 [(.int .i64 0),(.int .i64 0)]⟩,⟨none,none,.store 2 (.t 9) (.t 25)⟩])
 (.seq (.ops [⟨some 26,none,.mv (.t 1)⟩,⟨some 27,none,.load (some 2) (.t 9)⟩,⟨some 28,none,.callv (.t 26) [(.t 27)]⟩])
 (.cond (.t 28) (.ops [⟨some 29,none,.mv (.t 5)⟩,⟨some 30,none,.load (some 2) (.t 9)⟩,⟨some 31,none,.bslice 46 2 1 [(.int .i64 0),(.int .i64 0)] [(0,2,(.t 30))]⟩,⟨some 32,none,.app 46 2 16 (.t 29) (.t 31)⟩,⟨some 5,none,.mv (.t 32)⟩]) (.skip))))))
 (.ops [⟨some 33,none,.bin 0 .add (.t 20) (.c (.int .i64 1))⟩,⟨some 20,none,.mv (.t 33)⟩])))))))))
 (.ops [⟨some 34,none,.bin 0 .add (.t 13) (.c (.int .i64 1))⟩,⟨some 13,none,.mv (.t 34)⟩])))))))
 (.seq (.ops [⟨some 35,none,.mv (.t 5)⟩,⟨some 4,none,.mv (.t 35)⟩])
 (.ret))))⟩
theorem c49:compF Go.Proofs.Try.prog 49=some a49:=by kernel_rfl
def a50 : AFn := ⟨21,[.t 6],.seq (.ops [⟨some 5,none,.box 46 (.t 0)⟩,⟨some 6,none,.mv (.c (.bool false))⟩])
 (.seq (.any [(⟨some 7,none,.fadr 0 (.t 5)⟩,[]),(⟨some 8,none,.load none (.t 7)⟩,[]),(⟨some 9,none,.load none (.t 1)⟩,[0,1]),(⟨some 10,none,.bin 0 .rem (.t 8) (.t 9)⟩,[]),(⟨some 11,none,.load none (.t 2)⟩,[0,1,2,3]),(⟨some 12,none,.bin 0 .eql (.t 10) (.t 11)⟩,[]),(⟨some 13,none,.mv (.t 12)⟩,[]),(⟨some 14,(some (13,true)),.fadr 1 (.t 5)⟩,[]),(⟨some 15,(some (13,true)),.load none (.t 14)⟩,[]),(⟨some 16,(some (13,true)),.load none (.t 3)⟩,[7,8]),(⟨some 17,(some (13,true)),.bin 0 .rem (.t 15) (.t 16)⟩,[]),(⟨some 18,(some (13,true)),.load none (.t 4)⟩,[7,8,9,10]),(⟨some 19,(some (13,true)),.bin 0 .eql (.t 17) (.t 18)⟩,[]),(⟨some 20,none,.pick (.t 13) (.t 19) (.c (.bool false))⟩,[]),(⟨some 6,none,.mv (.t 20)⟩,[])])
 (.ret))⟩
theorem c50:compF Go.Proofs.Try.prog 50=some a50:=by kernel_rfl
def a51 : AFn := ⟨4,[.t 2],.seq (.ops [⟨some 2,none,.mv (.c (.int .i64 0))⟩])
 (.seq (.seq (.ops [⟨some 3,none,.mv (.t 0)⟩])
 (.cond (.t 3) (.seq (.ops [⟨some 2,none,.mv (.c (.int .i64 1))⟩])
 (.ret)) (.skip)))
 (.seq (.ops [⟨some 2,none,.mv (.c (.int .i64 0))⟩])
 (.ret)))⟩
theorem c51:compF Go.Proofs.Try.prog 51=some a51:=by kernel_rfl
def a52 : AFn := ⟨16,[.t 4],.seq (.ops [⟨some 2,none,.box 28 (.t 0)⟩,⟨some 3,none,.box 46 (.t 1)⟩,⟨some 4,none,.mv (.c (.bool false))⟩])
 (.seq (.ops [⟨some 5,none,.load (some 2) (.t 2)⟩,⟨some 6,none,.load (some 2) (.t 3)⟩,⟨some 7,none,.call 61 [(.t 5),(.t 6)]⟩,⟨some 8,none,.call 75 [(.c (.str [48,49,50,51,52,53,54,55,56,57,97,98,99,100,101,102,103,104,105,106,107,108,109,110,111,112,113,114,115,116,117,118,119,120,121,122])),(.t 7)]⟩,⟨some 9,none,.bin 0 .geq (.t 8) (.c (.int .i64 0))⟩,⟨some 10,none,.mv (.t 9)⟩,⟨some 11,(some (10,true)),.load (some 2) (.t 2)⟩,⟨some 12,(some (10,true)),.load (some 2) (.t 3)⟩,⟨some 13,(some (10,true)),.call 78 [(.t 11),(.t 12)]⟩,⟨some 14,(some (10,true)),.un .not (.t 13)⟩,⟨some 15,none,.pick (.t 10) (.t 14) (.c (.bool false))⟩,⟨some 4,none,.mv (.t 15)⟩])
 (.ret))⟩
theorem c52:compF Go.Proofs.Try.prog 52=some a52:=by kernel_rfl
def a53 : AFn := ⟨10,[.t 4],.seq (.ops [⟨some 2,none,.box 28 (.t 0)⟩,⟨some 3,none,.box 46 (.t 1)⟩,⟨some 4,none,.mv (.c (.bool false))⟩])
 (.seq (.ops [⟨some 5,none,.load (some 2) (.t 2)⟩,⟨some 6,none,.load (some 2) (.t 3)⟩,⟨some 7,none,.call 61 [(.t 5),(.t 6)]⟩,⟨some 8,none,.call 75 [(.c (.str [48,49,50,51,52,53,54,55,56,57,97,98,99,100,101,102,103,104,105,106,107,108,109,110,111,112,113,114,115,116,117,118,119,120,121,122,42])),(.t 7)]⟩,⟨some 9,none,.bin 0 .geq (.t 8) (.c (.int .i64 0))⟩,⟨some 4,none,.mv (.t 9)⟩])
 (.ret))⟩
theorem c53:compF Go.Proofs.Try.prog 53=some a53:=by kernel_rfl
def a54 : AFn := ⟨44,[.t 4],.seq (.ops [⟨some 2,none,.box 28 (.t 0)⟩,⟨some 3,none,.box 28 (.t 1)⟩,⟨some 4,none,.mv (.c (.int .i64 0))⟩])
 (.seq (.any [(⟨some 6,none,.load (some 2) (.t 2)⟩,[]),(⟨some 7,none,.call 40 [(.t 6)]⟩,[]),(⟨some 8,none,.load (some 2) (.t 3)⟩,[0,1]),(⟨some 9,none,.call 40 [(.t 8)]⟩,[]),(⟨some 10,none,.bslice 37 1 2 [(.int .i64 0)] [(0,1,(.t 7)),(1,1,(.t 9))]⟩,[]),(⟨some 11,none,.call 79 [(.t 10)]⟩,[]),(⟨some 5,none,.mv (.t 11)⟩,[])])
 (.seq (.seq (.any [(⟨some 12,none,.mv (.t 5)⟩,[]),(⟨some 13,none,.bin 0 .eql (.t 12) (.c (.int .i64 0))⟩,[]),(⟨some 14,none,.mv (.t 13)⟩,[]),(⟨some 15,(some (14,true)),.fadr 0 (.t 2)⟩,[]),(⟨some 16,(some (14,true)),.load none (.t 15)⟩,[]),(⟨some 17,(some (14,true)),.len false (.t 16)⟩,[]),(⟨some 18,(some (14,true)),.fadr 0 (.t 3)⟩,[3,4,5]),(⟨some 19,(some (14,true)),.load none (.t 18)⟩,[3,4,5]),(⟨some 20,(some (14,true)),.len false (.t 19)⟩,[3,4,5]),(⟨some 21,(some (14,true)),.bin 0 .neq (.t 17) (.t 20)⟩,[]),(⟨some 22,(some (14,true)),.mv (.t 21)⟩,[]),(⟨some 23,(some (22,false)),.fadr 0 (.t 2)⟩,[]),(⟨some 24,(some (22,false)),.load none (.t 23)⟩,[]),(⟨some 25,(some (22,false)),.iadr 1 (.t 24) (.c (.int .i64 0))⟩,[]),(⟨some 26,(some (22,false)),.load none (.t 25)⟩,[]),(⟨some 27,(some (22,false)),.len true (.t 26)⟩,[]),(⟨some 28,(some (22,false)),.fadr 0 (.t 3)⟩,[11,12,13,14,15]),(⟨some 29,(some (22,false)),.load none (.t 28)⟩,[11,12,13,14,15]),(⟨some 30,(some (22,false)),.iadr 1 (.t 29) (.c (.int .i64 0))⟩,[11,12,13,14,15]),(⟨some 31,(some (22,false)),.load none (.t 30)⟩,[11,12,13,14,15]),(⟨some 32,(some (22,false)),.len true (.t 31)⟩,[11,12,13,14,15]),(⟨some 33,(some (22,false)),.bin 0 .neq (.t 27) (.t 32)⟩,[]),(⟨some 34,(some (14,true)),.pick (.t 22) (.c (.bool true)) (.t 33)⟩,[]),(⟨some 35,(some (14,true)),.mv (.t 34)⟩,[]),(⟨some 36,(some (35,false)),.fadr 1 (.t 2)⟩,[]),(⟨some 37,(some (35,false)),.load none (.t 36)⟩,[]),(⟨some 38,(some (35,false)),.fadr 1 (.t 3)⟩,[24,25]),(⟨some 39,(some (35,false)),.load none (.t 38)⟩,[24,25]),(⟨some 40,(some (35,false)),.bin 1 .neq (.t 37) (.t 39)⟩,[]),(⟨some 41,(some (14,true)),.pick (.t 35) (.c (.bool true)) (.t 40)⟩,[]),(⟨some 42,none,.pick (.t 14) (.t 41) (.c (.bool false))⟩,[])])
 (.cond (.t 42) (.ops [⟨some 5,none,.mv (.c (.int .i64 3))⟩]) (.skip)))
 (.seq (.ops [⟨some 43,none,.mv (.t 5)⟩,⟨some 4,none,.mv (.t 43)⟩])
 (.ret))))⟩
theorem c54:compF Go.Proofs.Try.prog 54=some a54:=by kernel_rfl
def a55 : AFn := ⟨50,[.c 4 (some 2)],.seq (.ops [⟨some 2,none,.box 28 (.t 0)⟩,⟨some 4,none,.alloc 28 [(.lit true 0 []),(.str [])]⟩])
 (.seq (.ops [⟨some 10,none,.fadr 1 (.t 2)⟩,⟨some 11,none,.load none (.t 10)⟩,⟨some 12,none,.build [(.lit true 0 []),(.str [])] [(1,1,(.t 11))]⟩,⟨some 5,none,.alloc 28 [(.lit true 0 []),(.str [])]⟩,⟨none,none,.store 2 (.t 5) (.t 12)⟩])
 (.seq (.seq (.ops [⟨some 13,none,.fadr 0 (.t 2)⟩,⟨some 14,none,.load none (.t 13)⟩,⟨some 15,none,.len false (.t 14)⟩,⟨some 16,none,.mv (.c (.int .i64 0))⟩])
 (.block 0 (.loop (.seq (.ops [⟨some 17,none,.bin 0 .lss (.t 16) (.t 15)⟩])
 (.seq (.cond (.t 17) (.skip) (.exit 0))
 (.seq (.block 1 (.seq (.ops [⟨some 18,none,.mv (.t 16)⟩,⟨some 19,none,.iadr 1 (.t 14) (.t 16)⟩,⟨some 20,none,.load none (.t 19)⟩,⟨some 6,none,.mv (.t 18)⟩,⟨some 7,none,.mv (.t 20)⟩])
 (.seq (.ops [⟨some 21,none,.mv (.t 7)⟩,⟨some 22,none,.s2bo (.t 21)⟩,⟨some 8,none,.mv (.t 22)⟩])
 (.seq (.seq (.ops [⟨some 23,none,.mv (.t 8)⟩,⟨some 24,none,.len false (.t 23)⟩,⟨some 25,none,.mv (.c (.int .i64 0))⟩])
 (.block 2 (.loop (.seq (.ops [⟨some 26,none,.bin 0 .lss (.t 25) (.t 24)⟩])
 (.seq (.cond (.t 26) (.skip) (.exit 2))
 (.seq (.block 3 (.seq (.ops [⟨some 27,none,.mv (.t 25)⟩,⟨some 9,none,.mv (.t 27)⟩])
 (.ops [⟨some 28,none,.mv (.t 8)⟩,⟨some 29,none,.mv (.t 9)⟩,⟨some 30,none,.mv (.t 1)⟩,⟨some 31,none,.mv (.t 9)⟩,⟨some 32,none,.mv (.t 6)⟩,⟨some 33,none,.build [(.int .i64 0),(.int .i64 0)] [(0,1,(.t 31)),(1,1,(.t 32))]⟩,⟨some 34,none,.mv (.t 8)⟩,⟨some 35,none,.mv (.t 9)⟩,⟨some 36,none,.iadr 1 (.t 34) (.t 35)⟩,⟨some 37,none,.load none (.t 36)⟩,⟨some 38,none,.callv (.t 30) [(.t 33),(.t 37)]⟩,⟨some 39,none,.iadr 1 (.t 28) (.t 29)⟩,⟨none,none,.store 1 (.t 39) (.t 38)⟩])))
 (.ops [⟨some 40,none,.bin 0 .add (.t 25) (.c (.int .i64 1))⟩,⟨some 25,none,.mv (.t 40)⟩])))))))
 (.ops [⟨some 41,none,.fadr 0 (.t 5)⟩,⟨some 42,none,.load none (.t 41)⟩,⟨some 43,none,.mv (.t 8)⟩,⟨some 44,none,.b2s (.t 43)⟩,⟨some 45,none,.bslice 9 1 1 [(.str [])] [(0,1,(.t 44))]⟩,⟨some 46,none,.app 9 1 16 (.t 42) (.t 45)⟩,⟨some 47,none,.fadr 0 (.t 5)⟩,⟨none,none,.store 1 (.t 47) (.t 46)⟩])))))
 (.ops [⟨some 48,none,.bin 0 .add (.t 16) (.c (.int .i64 1))⟩,⟨some 16,none,.mv (.t 48)⟩])))))))
 (.seq (.ops [⟨some 49,none,.load (some 2) (.t 5)⟩,⟨none,none,.store 2 (.t 4) (.t 49)⟩])
 (.ret))))⟩
theorem c55:compF Go.Proofs.Try.prog 55=some a55:=by kernel_rfl
def a56 : AFn := ⟨24,[.t 6],.seq (.ops [⟨some 4,none,.box 46 (.t 0)⟩,⟨some 6,none,.mv (.c (.int .u8 0))⟩])
 (.seq (.ops [⟨some 8,none,.load (some 2) (.t 2)⟩,⟨some 9,none,.load (some 2) (.t 4)⟩,⟨some 10,none,.call 44 [(.t 8),(.t 9)]⟩,⟨some 7,none,.mv (.t 10)⟩])
 (.seq (.block 0 (.seq (.ops [⟨some 12,none,.mv (.t 1)⟩,⟨some 13,none,.mv (.t 7)⟩,⟨some 14,none,.bin 0 .eql (.t 12) (.t 13)⟩,⟨some 15,none,.mv (.t 14)⟩,⟨some 16,(some (15,false)),.mv (.t 7)⟩,⟨some 17,(some (15,false)),.bin 0 .eql (.t 16) (.c (.int .u8 63))⟩,⟨some 18,none,.pick (.t 15) (.c (.bool true)) (.t 17)⟩,⟨some 11,none,.mv (.t 18)⟩])
 (.cond (.t 11) (.seq (.ops [⟨some 19,none,.mv (.t 1)⟩,⟨some 6,none,.mv (.t 19)⟩])
 (.ret)) (.seq (.ops [⟨some 21,none,.mv (.t 1)⟩,⟨some 22,none,.bin 0 .neq (.t 21) (.c (.int .u8 63))⟩,⟨some 20,none,.mv (.t 22)⟩])
 (.cond (.t 20) (.ops [⟨none,none,.store 1 (.t 3) (.c (.bool false))⟩]) (.skip))))))
 (.seq (.ops [⟨some 23,none,.mv (.t 7)⟩,⟨some 6,none,.mv (.t 23)⟩])
 (.ret))))⟩
theorem c56:compF Go.Proofs.Try.prog 56=some a56:=by kernel_rfl
def a57 : AFn := ⟨42,[.t 4],.seq (.ops [⟨some 4,none,.mv (.c (.lit true 0 []))⟩])
 (.seq (.ops [⟨some 8,none,.mv (.t 0)⟩,⟨some 9,none,.mv (.t 1)⟩,⟨some 10,none,.call 80 [(.t 8),(.t 9)]⟩,⟨some 5,none,.mv (.t 10)⟩])
 (.seq (.seq (.ops [⟨some 11,none,.mv (.t 5)⟩,⟨some 12,none,.bin 0 .eql (.t 11) (.c (.int .i64 (-1)))⟩])
 (.cond (.t 12) (.seq (.ops [⟨some 13,none,.mv (.t 0)⟩,⟨some 4,none,.mv (.t 13)⟩])
 (.ret)) (.skip)))
 (.seq (.seq (.ops [⟨some 14,none,.mv (.t 5)⟩,⟨some 15,none,.bin 0 .add (.t 14) (.c (.int .i64 1))⟩,⟨some 6,none,.mv (.t 15)⟩])
 (.block 0 (.loop (.seq (.seq (.ops [⟨some 16,none,.mv (.t 6)⟩,⟨some 17,none,.mv (.t 0)⟩,⟨some 18,none,.len false (.t 17)⟩,⟨some 19,none,.bin 0 .lss (.t 16) (.t 18)⟩])
 (.cond (.t 19) (.skip) (.exit 0)))
 (.seq (.block 1 (.seq (.ops [⟨some 22,none,.mv (.t 0)⟩,⟨some 23,none,.mv (.t 6)⟩,⟨some 24,none,.iadr 2 (.t 22) (.t 23)⟩,⟨some 25,none,.load (some 2) (.t 24)⟩,⟨some 7,none,.alloc 46 [(.int .i64 0),(.int .i64 0)]⟩,⟨none,none,.store 2 (.t 7) (.t 25)⟩])
 (.seq (.ops [⟨some 26,none,.mv (.t 1)⟩,⟨some 27,none,.load (some 2) (.t 7)⟩,⟨some 28,none,.callv (.t 26) [(.t 27)]⟩,⟨some 29,none,.un .not (.t 28)⟩])
 (.cond (.t 29) (.seq (.ops [⟨some 30,none,.mv (.t 0)⟩,⟨some 31,none,.mv (.t 5)⟩,⟨some 32,none,.load (some 2) (.t 7)⟩,⟨some 33,none,.iadr 2 (.t 30) (.t 31)⟩,⟨none,none,.store 2 (.t 33) (.t 32)⟩])
 (.ops [⟨some 34,none,.mv (.t 5)⟩,⟨some 35,none,.bin 0 .add (.t 34) (.c (.int .i64 1))⟩,⟨some 5,none,.mv (.t 35)⟩])) (.skip)))))
 (.ops [⟨some 20,none,.mv (.t 6)⟩,⟨some 21,none,.bin 0 .add (.t 20) (.c (.int .i64 1))⟩,⟨some 6,none,.mv (.t 21)⟩]))))))
 (.seq (.ops [⟨some 36,none,.mv (.t 0)⟩,⟨some 37,none,.mv (.t 5)⟩,⟨some 38,none,.slc 2 (.t 36) (some (.t 37)) none⟩,⟨none,none,.clr [(.int .i64 0),(.int .i64 0)] (.t 38)⟩])
 (.seq (.ops [⟨some 39,none,.mv (.t 0)⟩,⟨some 40,none,.mv (.t 5)⟩,⟨some 41,none,.slc 2 (.t 39) none (some (.t 40))⟩,⟨some 4,none,.mv (.t 41)⟩])
 (.ret))))))⟩
theorem c57:compF Go.Proofs.Try.prog 57=some a57:=by kernel_rfl
def a58 : AFn := ⟨12,[.t 4],.seq (.ops [⟨some 3,none,.box 46 (.t 0)⟩,⟨some 4,none,.mv (.c (.bool false))⟩])
 (.seq (.any [(⟨some 5,none,.load (some 2) (.t 1)⟩,[]),(⟨some 6,none,.load (some 2) (.t 3)⟩,[0]),(⟨some 7,none,.call 44 [(.t 5),(.t 6)]⟩,[]),(⟨some 8,none,.load (some 2) (.t 2)⟩,[0,1,2]),(⟨some 9,none,.load (some 2) (.t 3)⟩,[0,1,2,3]),(⟨some 10,none,.call 44 [(.t 8),(.t 9)]⟩,[]),(⟨some 11,none,.bin 0 .eql (.t 7) (.t 10)⟩,[]),(⟨some 4,none,.mv (.t 11)⟩,[])])
 (.ret))⟩
theorem c58:compF Go.Proofs.Try.prog 58=some a58:=by kernel_rfl
def a59 : AFn := ⟨26,[.t 4],.seq (.ops [⟨some 4,none,.mv (.c (.bool false))⟩])
 (.seq (.seq (.ops [⟨some 6,none,.mv (.t 0)⟩,⟨some 7,none,.len false (.t 6)⟩,⟨some 8,none,.mv (.t 1)⟩,⟨some 9,none,.len false (.t 8)⟩,⟨some 10,none,.bin 0 .neq (.t 7) (.t 9)⟩])
 (.cond (.t 10) (.seq (.ops [⟨some 4,none,.mv (.c (.bool false))⟩])
 (.ret)) (.skip)))
 (.seq (.seq (.ops [⟨some 11,none,.mv (.t 0)⟩,⟨some 12,none,.len false (.t 11)⟩,⟨some 13,none,.mv (.c (.int .i64 0))⟩])
 (.block 0 (.loop (.seq (.ops [⟨some 14,none,.bin 0 .lss (.t 13) (.t 12)⟩])
 (.seq (.cond (.t 14) (.skip) (.exit 0))
 (.seq (.block 1 (.seq (.ops [⟨some 15,none,.mv (.t 13)⟩,⟨some 5,none,.mv (.t 15)⟩])
 (.seq (.any [(⟨some 16,none,.mv (.t 0)⟩,[]),(⟨some 17,none,.mv (.t 5)⟩,[0]),(⟨some 18,none,.iadr 1 (.t 16) (.t 17)⟩,[]),(⟨some 19,none,.load none (.t 18)⟩,[]),(⟨some 20,none,.mv (.t 1)⟩,[0,1,2,3]),(⟨some 21,none,.mv (.t 5)⟩,[0,1,2,3,4]),(⟨some 22,none,.iadr 1 (.t 20) (.t 21)⟩,[0,1,2,3]),(⟨some 23,none,.load none (.t 22)⟩,[0,1,2,3]),(⟨some 24,none,.bin 1 .neq (.t 19) (.t 23)⟩,[])])
 (.cond (.t 24) (.seq (.ops [⟨some 4,none,.mv (.c (.bool false))⟩])
 (.ret)) (.skip)))))
 (.ops [⟨some 25,none,.bin 0 .add (.t 13) (.c (.int .i64 1))⟩,⟨some 13,none,.mv (.t 25)⟩])))))))
 (.seq (.ops [⟨some 4,none,.mv (.c (.bool true))⟩])
 (.ret))))⟩
theorem c59:compF Go.Proofs.Try.prog 59=some a59:=by kernel_rfl
def a60 : AFn := ⟨27,[.c 2 (some 2),.t 3,.t 4],.seq (.ops [⟨some 1,none,.box 28 (.t 0)⟩,⟨some 2,none,.alloc 35 [(.int .i64 0),(.int .i64 0)]⟩,⟨some 3,none,.mv (.c (.bool false))⟩,⟨some 4,none,.mv (.c (.int .i64 0))⟩])
 (.seq (.seq (.ops [⟨some 8,none,.load (some 2) (.t 1)⟩,⟨some 9,none,.call 40 [(.t 8)]⟩,⟨some 5,none,.mv (.t 9)⟩])
 (.seq (.ops [⟨some 10,none,.mv (.t 5)⟩,⟨some 11,none,.bin 0 .neq (.t 10) (.c (.int .i64 0))⟩])
 (.cond (.t 11) (.seq (.ops [⟨some 12,none,.build [(.int .i64 0),(.int .i64 0)] []⟩,⟨some 13,none,.mv (.t 5)⟩,⟨none,none,.store 2 (.t 2) (.t 12)⟩,⟨some 3,none,.mv (.c (.bool false))⟩,⟨some 4,none,.mv (.t 13)⟩])
 (.ret)) (.skip))))
 (.seq (.any [(⟨some 15,none,.load (some 2) (.t 1)⟩,[]),(⟨some 16,none,.load (some 2) (.t 1)⟩,[0]),(⟨some 17,none,.call 43 [(.t 16)]⟩,[0]),(⟨some 18,none,.call 81 [(.t 15),(.t 17)]⟩,[]),(⟨some 14,none,.mv (.t 18)⟩,[]),(⟨some 19,none,.ext (.t 14) 0⟩,[]),(⟨some 20,none,.ext (.t 14) 1⟩,[5]),(⟨some 6,none,.mv (.t 19)⟩,[6]),(⟨some 7,none,.mv (.t 20)⟩,[])])
 (.seq (.seq (.ops [⟨some 21,none,.mv (.t 7)⟩,⟨some 22,none,.bin 0 .eql (.t 21) (.c (.int .i64 0))⟩])
 (.cond (.t 22) (.seq (.ops [⟨some 23,none,.build [(.int .i64 0),(.int .i64 0)] []⟩,⟨none,none,.store 2 (.t 2) (.t 23)⟩,⟨some 3,none,.mv (.c (.bool false))⟩,⟨some 4,none,.mv (.c (.int .i64 0))⟩])
 (.ret)) (.skip)))
 (.seq (.ops [⟨some 24,none,.mv (.t 6)⟩,⟨some 25,none,.mv (.t 7)⟩,⟨some 26,none,.call 82 [(.t 24),(.t 25)]⟩,⟨none,none,.store 2 (.t 2) (.t 26)⟩,⟨some 3,none,.mv (.c (.bool true))⟩,⟨some 4,none,.mv (.c (.int .i64 0))⟩])
 (.ret)))))⟩
theorem c60:compF Go.Proofs.Try.prog 60=some a60:=by kernel_rfl
def a61 : AFn := ⟨34,[.t 4],.seq (.ops [⟨some 2,none,.box 28 (.t 0)⟩,⟨some 3,none,.box 46 (.t 1)⟩,⟨some 4,none,.mv (.c (.int .u8 0))⟩])
 (.seq (.seq (.any [(⟨some 5,none,.fadr 1 (.t 3)⟩,[]),(⟨some 6,none,.load none (.t 5)⟩,[]),(⟨some 7,none,.fadr 0 (.t 2)⟩,[0,1]),(⟨some 8,none,.load none (.t 7)⟩,[0,1]),(⟨some 9,none,.len false (.t 8)⟩,[0,1]),(⟨some 10,none,.bin 0 .sub (.t 9) (.c (.int .i64 1))⟩,[0,1]),(⟨some 11,none,.call 47 [(.t 6),(.c (.int .i64 0)),(.t 10)]⟩,[]),(⟨some 12,none,.un .not (.t 11)⟩,[]),(⟨some 13,none,.mv (.t 12)⟩,[]),(⟨some 14,(some (13,false)),.fadr 0 (.t 3)⟩,[]),(⟨some 15,(some (13,false)),.load none (.t 14)⟩,[]),(⟨some 16,(some (13,false)),.fadr 0 (.t 2)⟩,[9,10]),(⟨some 17,(some (13,false)),.load none (.t 16)⟩,[9,10]),(⟨some 18,(some (13,false)),.iadr 1 (.t 17) (.c (.int .i64 0))⟩,[9,10]),(⟨some 19,(some (13,false)),.load none (.t 18)⟩,[9,10]),(⟨some 20,(some (13,false)),.len true (.t 19)⟩,[9,10]),(⟨some 21,(some (13,false)),.bin 0 .sub (.t 20) (.c (.int .i64 1))⟩,[9,10]),(⟨some 22,(some (13,false)),.call 47 [(.t 15),(.c (.int .i64 0)),(.t 21)]⟩,[]),(⟨some 23,(some (13,false)),.un .not (.t 22)⟩,[]),(⟨some 24,none,.pick (.t 13) (.c (.bool true)) (.t 23)⟩,[])])
 (.cond (.t 24) (.seq (.ops [⟨some 4,none,.mv (.c (.int .u8 46))⟩])
 (.ret)) (.skip)))
 (.seq (.any [(⟨some 25,none,.fadr 0 (.t 2)⟩,[]),(⟨some 26,none,.load none (.t 25)⟩,[]),(⟨some 27,none,.fadr 1 (.t 3)⟩,[0,1]),(⟨some 28,none,.load none (.t 27)⟩,[0,1]),(⟨some 29,none,.iadr 1 (.t 26) (.t 28)⟩,[]),(⟨some 30,none,.load none (.t 29)⟩,[]),(⟨some 31,none,.fadr 0 (.t 3)⟩,[0,1,2,3,4,5]),(⟨some 32,none,.load none (.t 31)⟩,[0,1,2,3,4,5]),(⟨some 33,none,.idxs (.t 30) (.t 32)⟩,[]),(⟨some 4,none,.mv (.t 33)⟩,[])])
 (.ret)))⟩
theorem c61:compF Go.Proofs.Try.prog 61=some a61:=by kernel_rfl
def a62 : AFn := ⟨44,[.c 6 (some 2)],.seq (.ops [⟨some 3,none,.box 28 (.t 0)⟩,⟨some 6,none,.alloc 28 [(.lit true 0 []),(.str [])]⟩])
 (.seq (.any [(⟨some 11,none,.fadr 0 (.t 3)⟩,[]),(⟨some 12,none,.load none (.t 11)⟩,[]),(⟨some 13,none,.call 6 [(.t 12)]⟩,[]),(⟨some 14,none,.fadr 1 (.t 3)⟩,[0,1,2]),(⟨some 15,none,.load none (.t 14)⟩,[0,1,2]),(⟨some 16,none,.build [(.lit true 0 []),(.str [])] [(0,1,(.t 13)),(1,1,(.t 15))]⟩,[]),(⟨some 7,none,.alloc 28 [(.lit true 0 []),(.str [])]⟩,[0,1,2,3,4,5]),(⟨none,none,.store 2 (.t 7) (.t 16)⟩,[])])
 (.seq (.seq (.ops [⟨some 17,none,.mv (.t 1)⟩,⟨some 18,none,.len false (.t 17)⟩,⟨some 19,none,.mv (.c (.int .i64 0))⟩])
 (.block 0 (.loop (.seq (.ops [⟨some 20,none,.bin 0 .lss (.t 19) (.t 18)⟩])
 (.seq (.cond (.t 20) (.skip) (.exit 0))
 (.seq (.block 1 (.seq (.ops [⟨some 21,none,.iadr 2 (.t 17) (.t 19)⟩,⟨some 22,none,.load (some 2) (.t 21)⟩,⟨some 9,none,.alloc 46 [(.int .i64 0),(.int .i64 0)]⟩,⟨none,none,.store 2 (.t 9) (.t 22)⟩])
 (.seq (.ops [⟨some 23,none,.fadr 0 (.t 7)⟩,⟨some 24,none,.load none (.t 23)⟩,⟨some 25,none,.fadr 1 (.t 9)⟩,⟨some 26,none,.load none (.t 25)⟩,⟨some 27,none,.iadr 1 (.t 24) (.t 26)⟩,⟨some 28,none,.load none (.t 27)⟩,⟨some 29,none,.s2bo (.t 28)⟩,⟨some 10,none,.mv (.t 29)⟩])
 (.seq (.ops [⟨some 30,none,.mv (.t 10)⟩,⟨some 31,none,.fadr 0 (.t 9)⟩,⟨some 32,none,.load none (.t 31)⟩,⟨some 33,none,.mv (.t 2)⟩,⟨some 34,none,.iadr 1 (.t 30) (.t 32)⟩,⟨none,none,.store 1 (.t 34) (.t 33)⟩])
 (.ops [⟨some 35,none,.fadr 0 (.t 7)⟩,⟨some 36,none,.load none (.t 35)⟩,⟨some 37,none,.fadr 1 (.t 9)⟩,⟨some 38,none,.load none (.t 37)⟩,⟨some 39,none,.mv (.t 10)⟩,⟨some 40,none,.b2s (.t 39)⟩,⟨some 41,none,.iadr 1 (.t 36) (.t 38)⟩,⟨none,none,.store 1 (.t 41) (.t 40)⟩])))))
 (.ops [⟨some 42,none,.bin 0 .add (.t 19) (.c (.int .i64 1))⟩,⟨some 19,none,.mv (.t 42)⟩])))))))
 (.seq (.ops [⟨some 43,none,.load (some 2) (.t 7)⟩,⟨none,none,.store 2 (.t 6) (.t 43)⟩])
 (.ret))))⟩
theorem c62:compF Go.Proofs.Try.prog 62=some a62:=by kernel_rfl
def a63 : AFn := ⟨12,[.t 4],.seq (.ops [⟨some 3,none,.box 46 (.t 0)⟩,⟨some 4,none,.mv (.c (.bool false))⟩])
 (.seq (.any [(⟨some 5,none,.load (some 2) (.t 1)⟩,[]),(⟨some 6,none,.load (some 2) (.t 3)⟩,[0]),(⟨some 7,none,.call 61 [(.t 5),(.t 6)]⟩,[]),(⟨some 8,none,.load (some 2) (.t 2)⟩,[0,1,2]),(⟨some 9,none,.load (some 2) (.t 3)⟩,[0,1,2,3]),(⟨some 10,none,.call 61 [(.t 8),(.t 9)]⟩,[]),(⟨some 11,none,.bin 0 .neq (.t 7) (.t 10)⟩,[]),(⟨some 4,none,.mv (.t 11)⟩,[])])
 (.ret))⟩
theorem c63:compF Go.Proofs.Try.prog 63=some a63:=by kernel_rfl
def a65 : AFn := ⟨14,[.t 4],.seq (.ops [⟨some 2,none,.box 28 (.t 0)⟩,⟨some 4,none,.mv (.c (.bool false))⟩])
 (.seq (.ops [⟨some 5,none,.mv (.t 1)⟩,⟨some 6,none,.call 77 [(.t 5)]⟩,⟨some 7,none,.mv (.t 6)⟩,⟨some 8,(some (7,true)),.fadr 1 (.t 2)⟩,⟨some 9,(some (7,true)),.load none (.t 8)⟩,⟨some 10,(some (7,true)),.mv (.t 1)⟩,⟨some 11,(some (7,true)),.call 75 [(.t 9),(.t 10)]⟩,⟨some 12,(some (7,true)),.bin 0 .geq (.t 11) (.c (.int .i64 0))⟩,⟨some 13,none,.pick (.t 7) (.t 12) (.c (.bool false))⟩,⟨some 4,none,.mv (.t 13)⟩])
 (.ret))⟩
theorem c65:compF Go.Proofs.Try.prog 65=some a65:=by kernel_rfl
def a73 : AFn := ⟨16,[.t 4],.seq (.ops [⟨some 4,none,.mv (.c (.int .i64 0))⟩])
 (.seq (.seq (.ops [⟨some 5,none,.mv (.t 1)⟩,⟨some 6,none,.bin 0 .lss (.t 5) (.c (.int .i64 1))⟩])
 (.cond (.t 6) (.seq (.ops [⟨some 4,none,.mv (.c (.int .i64 0))⟩])
 (.ret)) (.skip)))
 (.seq (.ops [⟨some 7,none,.mv (.t 0)⟩,⟨some 8,none,.mv (.t 1)⟩,⟨some 9,none,.bin 0 .rem (.t 7) (.t 8)⟩,⟨some 0,none,.mv (.t 9)⟩])
 (.seq (.seq (.ops [⟨some 10,none,.mv (.t 0)⟩,⟨some 11,none,.bin 0 .lss (.t 10) (.c (.int .i64 0))⟩])
 (.cond (.t 11) (.ops [⟨some 12,none,.mv (.t 0)⟩,⟨some 13,none,.mv (.t 1)⟩,⟨some 14,none,.bin 0 .add (.t 12) (.t 13)⟩,⟨some 0,none,.mv (.t 14)⟩]) (.skip)))
 (.seq (.ops [⟨some 15,none,.mv (.t 0)⟩,⟨some 4,none,.mv (.t 15)⟩])
 (.ret)))))⟩
theorem c73:compF Go.Proofs.Try.prog 73=some a73:=by kernel_rfl
def a74 : AFn := ⟨19,[.t 4],.seq (.ops [⟨some 4,none,.mv (.c (.int .i64 0))⟩])
 (.seq (.seq (.ops [⟨some 6,none,.mv (.t 0)⟩,⟨some 7,none,.len false (.t 6)⟩,⟨some 8,none,.mv (.c (.int .i64 0))⟩])
 (.block 0 (.loop (.seq (.ops [⟨some 9,none,.bin 0 .lss (.t 8) (.t 7)⟩])
 (.seq (.cond (.t 9) (.skip) (.exit 0))
 (.seq (.block 1 (.seq (.ops [⟨some 10,none,.mv (.t 8)⟩,⟨some 5,none,.mv (.t 10)⟩])
 (.seq (.ops [⟨some 11,none,.mv (.t 1)⟩,⟨some 12,none,.mv (.t 0)⟩,⟨some 13,none,.mv (.t 5)⟩,⟨some 14,none,.iadr 1 (.t 12) (.t 13)⟩,⟨some 15,none,.load none (.t 14)⟩,⟨some 16,none,.callv (.t 11) [(.t 15)]⟩])
 (.cond (.t 16) (.seq (.ops [⟨some 17,none,.mv (.t 5)⟩,⟨some 4,none,.mv (.t 17)⟩])
 (.ret)) (.skip)))))
 (.ops [⟨some 18,none,.bin 0 .add (.t 8) (.c (.int .i64 1))⟩,⟨some 8,none,.mv (.t 18)⟩])))))))
 (.seq (.ops [⟨some 4,none,.mv (.c (.int .i64 (-1)))⟩])
 (.ret)))⟩
theorem c74:compF Go.Proofs.Try.prog 74=some a74:=by kernel_rfl
def a75 : AFn := ⟨8,[.t 4],.seq (.ops [⟨some 4,none,.mv (.c (.int .i64 0))⟩])
 (.seq (.ops [⟨some 5,none,.mv (.t 0)⟩,⟨some 6,none,.mv (.t 1)⟩,⟨some 7,none,.call 97 [(.t 5),(.t 6)]⟩,⟨some 4,none,.mv (.t 7)⟩])
 (.ret))⟩
theorem c75:compF Go.Proofs.Try.prog 75=some a75:=by kernel_rfl
def a76 : AFn := ⟨6,[.t 2],.seq (.ops [⟨some 2,none,.mv (.c (.bool false))⟩])
 (.seq (.ops [⟨some 3,none,.mv (.t 0)⟩,⟨some 4,none,.s2b (.t 3)⟩,⟨some 5,none,.call 36 [(.t 4),(.c (.fn 98 []))]⟩,⟨some 2,none,.mv (.t 5)⟩])
 (.ret))⟩
theorem c76:compF Go.Proofs.Try.prog 76=some a76:=by kernel_rfl
def a77 : AFn := ⟨17,[.t 2],.seq (.ops [⟨some 2,none,.mv (.c (.bool false))⟩])
 (.seq (.ops [⟨some 3,none,.mv (.t 0)⟩,⟨some 4,none,.bin 0 .geq (.t 3) (.c (.int .u8 48))⟩,⟨some 5,none,.mv (.t 4)⟩,⟨some 6,(some (5,true)),.mv (.t 0)⟩,⟨some 7,(some (5,true)),.bin 0 .leq (.t 6) (.c (.int .u8 57))⟩,⟨some 8,none,.pick (.t 5) (.t 7) (.c (.bool false))⟩,⟨some 9,none,.mv (.t 8)⟩,⟨some 10,(some (9,false)),.mv (.t 0)⟩,⟨some 11,(some (9,false)),.bin 0 .geq (.t 10) (.c (.int .u8 97))⟩,⟨some 12,(some (9,false)),.mv (.t 11)⟩,⟨some 13,(some (12,true)),.mv (.t 0)⟩,⟨some 14,(some (12,true)),.bin 0 .leq (.t 13) (.c (.int .u8 122))⟩,⟨some 15,(some (9,false)),.pick (.t 12) (.t 14) (.c (.bool false))⟩,⟨some 16,none,.pick (.t 9) (.c (.bool true)) (.t 15)⟩,⟨some 2,none,.mv (.t 16)⟩])
 (.ret))⟩
theorem c77:compF Go.Proofs.Try.prog 77=some a77:=by kernel_rfl
def a78 : AFn := ⟨12,[.t 4],.seq (.ops [⟨some 2,none,.box 28 (.t 0)⟩,⟨some 3,none,.box 46 (.t 1)⟩,⟨some 4,none,.mv (.c (.bool false))⟩])
 (.seq (.any [(⟨some 5,none,.fadr 1 (.t 2)⟩,[]),(⟨some 6,none,.load none (.t 5)⟩,[]),(⟨some 7,none,.load (some 2) (.t 2)⟩,[0,1]),(⟨some 8,none,.load (some 2) (.t 3)⟩,[0,1,2]),(⟨some 9,none,.call 61 [(.t 7),(.t 8)]⟩,[0,1]),(⟨some 10,none,.call 75 [(.t 6),(.t 9)]⟩,[]),(⟨some 11,none,.bin 0 .geq (.t 10) (.c (.int .i64 0))⟩,[]),(⟨some 4,none,.mv (.t 11)⟩,[])])
 (.ret))⟩
theorem c78:compF Go.Proofs.Try.prog 78=some a78:=by kernel_rfl
def a79 : AFn := ⟨15,[.t 2],.seq (.ops [⟨some 2,none,.mv (.c (.int .i64 0))⟩])
 (.seq (.seq (.ops [⟨some 5,none,.mv (.t 0)⟩,⟨some 6,none,.len false (.t 5)⟩,⟨some 7,none,.mv (.c (.int .i64 0))⟩])
 (.block 0 (.loop (.seq (.ops [⟨some 8,none,.bin 0 .lss (.t 7) (.t 6)⟩])
 (.seq (.cond (.t 8) (.skip) (.exit 0))
 (.seq (.block 1 (.seq (.ops [⟨some 9,none,.iadr 1 (.t 5) (.t 7)⟩,⟨some 10,none,.load none (.t 9)⟩,⟨some 4,none,.mv (.t 10)⟩])
 (.seq (.ops [⟨some 11,none,.mv (.t 4)⟩,⟨some 12,none,.bin 0 .neq (.t 11) (.c (.int .i64 0))⟩])
 (.cond (.t 12) (.seq (.ops [⟨some 13,none,.mv (.t 4)⟩,⟨some 2,none,.mv (.t 13)⟩])
 (.ret)) (.skip)))))
 (.ops [⟨some 14,none,.bin 0 .add (.t 7) (.c (.int .i64 1))⟩,⟨some 7,none,.mv (.t 14)⟩])))))))
 (.seq (.ops [⟨some 2,none,.mv (.c (.int .i64 0))⟩])
 (.ret)))⟩
theorem c79:compF Go.Proofs.Try.prog 79=some a79:=by kernel_rfl
def a80 : AFn := ⟨19,[.t 4],.seq (.ops [⟨some 4,none,.mv (.c (.int .i64 0))⟩])
 (.seq (.seq (.ops [⟨some 6,none,.mv (.t 0)⟩,⟨some 7,none,.len false (.t 6)⟩,⟨some 8,none,.mv (.c (.int .i64 0))⟩])
 (.block 0 (.loop (.seq (.ops [⟨some 9,none,.bin 0 .lss (.t 8) (.t 7)⟩])
 (.seq (.cond (.t 9) (.skip) (.exit 0))
 (.seq (.block 1 (.seq (.ops [⟨some 10,none,.mv (.t 8)⟩,⟨some 5,none,.mv (.t 10)⟩])
 (.seq (.ops [⟨some 11,none,.mv (.t 1)⟩,⟨some 12,none,.mv (.t 0)⟩,⟨some 13,none,.mv (.t 5)⟩,⟨some 14,none,.iadr 2 (.t 12) (.t 13)⟩,⟨some 15,none,.load (some 2) (.t 14)⟩,⟨some 16,none,.callv (.t 11) [(.t 15)]⟩])
 (.cond (.t 16) (.seq (.ops [⟨some 17,none,.mv (.t 5)⟩,⟨some 4,none,.mv (.t 17)⟩])
 (.ret)) (.skip)))))
 (.ops [⟨some 18,none,.bin 0 .add (.t 8) (.c (.int .i64 1))⟩,⟨some 8,none,.mv (.t 18)⟩])))))))
 (.seq (.ops [⟨some 4,none,.mv (.c (.int .i64 (-1)))⟩])
 (.ret)))⟩
theorem c80:compF Go.Proofs.Try.prog 80=some a80:=by kernel_rfl
def a81 : AFn := ⟨30,[.t 4,.t 5],.seq (.ops [⟨some 2,none,.box 28 (.t 0)⟩,⟨some 4,none,.mv (.c (.int .i64 0))⟩,⟨some 5,none,.mv (.c (.int .i64 0))⟩])
 (.seq (.seq (.ops [⟨some 9,none,.mv (.t 1)⟩,⟨some 10,none,.len false (.t 9)⟩,⟨some 11,none,.mv (.c (.int .i64 0))⟩])
 (.block 0 (.loop (.seq (.ops [⟨some 12,none,.bin 0 .lss (.t 11) (.t 10)⟩])
 (.seq (.cond (.t 12) (.skip) (.exit 0))
 (.seq (.block 1 (.seq (.ops [⟨some 13,none,.iadr 2 (.t 9) (.t 11)⟩,⟨some 14,none,.load (some 2) (.t 13)⟩,⟨some 7,none,.alloc 46 [(.int .i64 0),(.int .i64 0)]⟩,⟨none,none,.store 2 (.t 7) (.t 14)⟩])
 (.seq (.ops [⟨some 15,none,.load (some 2) (.t 2)⟩,⟨some 16,none,.load (some 2) (.t 7)⟩,⟨some 17,none,.call 44 [(.t 15),(.t 16)]⟩,⟨some 8,none,.mv (.t 17)⟩])
 (.seq (.seq (.ops [⟨some 18,none,.mv (.t 8)⟩,⟨some 19,none,.call 45 [(.t 18)]⟩])
 (.cond (.t 19) (.ops [⟨some 20,none,.mv (.t 5)⟩,⟨some 21,none,.bin 0 .add (.t 20) (.c (.int .i64 1))⟩,⟨some 5,none,.mv (.t 21)⟩]) (.skip)))
 (.seq (.ops [⟨some 22,none,.load (some 2) (.t 2)⟩,⟨some 23,none,.mv (.t 8)⟩,⟨some 24,none,.call 65 [(.t 22),(.t 23)]⟩])
 (.cond (.t 24) (.ops [⟨some 25,none,.mv (.t 4)⟩,⟨some 26,none,.bin 0 .add (.t 25) (.c (.int .i64 1))⟩,⟨some 4,none,.mv (.t 26)⟩]) (.skip)))))))
 (.ops [⟨some 27,none,.bin 0 .add (.t 11) (.c (.int .i64 1))⟩,⟨some 11,none,.mv (.t 27)⟩])))))))
 (.seq (.ops [⟨some 28,none,.mv (.t 4)⟩,⟨some 29,none,.mv (.t 5)⟩,⟨some 4,none,.mv (.t 28)⟩,⟨some 5,none,.mv (.t 29)⟩])
 (.ret)))⟩
theorem c81:compF Go.Proofs.Try.prog 81=some a81:=by kernel_rfl
def a82 : AFn := ⟨19,[.c 4 (some 2)],.seq (.ops [⟨some 4,none,.alloc 35 [(.int .i64 0),(.int .i64 0)]⟩])
 (.seq (.ops [⟨some 6,none,.mv (.t 0)⟩,⟨some 7,none,.mv (.t 0)⟩,⟨some 8,none,.un .neg (.t 7)⟩,⟨some 9,none,.mm true (.t 6) [(.t 8)]⟩,⟨some 10,none,.mv (.t 1)⟩,⟨some 11,none,.call 100 [(.t 9),(.t 10)]⟩,⟨some 5,none,.mv (.t 11)⟩])
 (.seq (.any [(⟨some 12,none,.mv (.t 0)⟩,[]),(⟨some 13,none,.mv (.t 5)⟩,[0]),(⟨some 14,none,.bin 0 .quo (.t 12) (.t 13)⟩,[]),(⟨some 15,none,.mv (.t 1)⟩,[0,1,2]),(⟨some 16,none,.mv (.t 5)⟩,[0,1,2,3]),(⟨some 17,none,.bin 0 .quo (.t 15) (.t 16)⟩,[0,1,2]),(⟨some 18,none,.build [(.int .i64 0),(.int .i64 0)] [(0,1,(.t 14)),(1,1,(.t 17))]⟩,[]),(⟨none,none,.store 2 (.t 4) (.t 18)⟩,[])])
 (.ret)))⟩
theorem c82:compF Go.Proofs.Try.prog 82=some a82:=by kernel_rfl
def a97 : AFn := ⟨8,[.t 4],.seq (.ops [⟨some 4,none,.mv (.c (.int .i64 0))⟩])
 (.seq (.ops [⟨some 5,none,.mv (.t 0)⟩,⟨some 6,none,.mv (.t 1)⟩,⟨some 7,none,.call 114 [(.t 5),(.t 6)]⟩,⟨some 4,none,.mv (.t 7)⟩])
 (.ret))⟩
theorem c97:compF Go.Proofs.Try.prog 97=some a97:=by kernel_rfl
def a98 : AFn := ⟨6,[.t 2],.seq (.ops [⟨some 2,none,.mv (.c (.bool false))⟩])
 (.seq (.ops [⟨some 3,none,.mv (.t 0)⟩,⟨some 4,none,.call 99 [(.t 3)]⟩,⟨some 5,none,.un .not (.t 4)⟩,⟨some 2,none,.mv (.t 5)⟩])
 (.ret))⟩
theorem c98:compF Go.Proofs.Try.prog 98=some a98:=by kernel_rfl
def a99 : AFn := ⟨17,[.t 2],.seq (.ops [⟨some 2,none,.mv (.c (.bool false))⟩])
 (.seq (.ops [⟨some 3,none,.mv (.t 0)⟩,⟨some 4,none,.call 77 [(.t 3)]⟩,⟨some 5,none,.mv (.t 4)⟩,⟨some 6,(some (5,false)),.mv (.t 0)⟩,⟨some 7,(some (5,false)),.bin 0 .eql (.t 6) (.c (.int .u8 46))⟩,⟨some 8,none,.pick (.t 5) (.c (.bool true)) (.t 7)⟩,⟨some 9,none,.mv (.t 8)⟩,⟨some 10,(some (9,false)),.mv (.t 0)⟩,⟨some 11,(some (9,false)),.bin 0 .eql (.t 10) (.c (.int .u8 63))⟩,⟨some 12,none,.pick (.t 9) (.c (.bool true)) (.t 11)⟩,⟨some 13,none,.mv (.t 12)⟩,⟨some 14,(some (13,false)),.mv (.t 0)⟩,⟨some 15,(some (13,false)),.bin 0 .eql (.t 14) (.c (.int .u8 42))⟩,⟨some 16,none,.pick (.t 13) (.c (.bool true)) (.t 15)⟩,⟨some 2,none,.mv (.t 16)⟩])
 (.ret))⟩
theorem c99:compF Go.Proofs.Try.prog 99=some a99:=by kernel_rfl
def a100 : AFn := ⟨12,[.t 4],.seq (.ops [⟨some 4,none,.mv (.c (.int .i64 0))⟩])
 (.seq (.block 0 (.loop (.seq (.seq (.ops [⟨some 5,none,.mv (.t 1)⟩,⟨some 6,none,.bin 0 .neq (.t 5) (.c (.int .i64 0))⟩])
 (.cond (.t 6) (.skip) (.exit 0)))
 (.block 1 (.any [(⟨some 7,none,.mv (.t 1)⟩,[]),(⟨some 8,none,.mv (.t 0)⟩,[0]),(⟨some 9,none,.mv (.t 1)⟩,[0,1]),(⟨some 10,none,.bin 0 .rem (.t 8) (.t 9)⟩,[0]),(⟨some 0,none,.mv (.t 7)⟩,[2,3]),(⟨some 1,none,.mv (.t 10)⟩,[])])))))
 (.seq (.ops [⟨some 11,none,.mv (.t 0)⟩,⟨some 4,none,.mv (.t 11)⟩])
 (.ret)))⟩
theorem c100:compF Go.Proofs.Try.prog 100=some a100:=by kernel_rfl
open Go.RowKit
theorem below_c (x n:Int) (nid:Nat) (hn:n≤9223372036854775807):ACall Try.prog 73 [.int .i64 x,.int .i64 n] [] nid (.int .i64 (below x n)) []:=by
 refine acall_run c73 (by simp [a73]) ?_
 simp -dsimp only [a73,aqA,↓seqK,↓blkK,↓loopK,step,stepBin,eqB,Nat.add_assoc nid,simprocAttr,z0]
 refine S2.dec (fun h=>?_) (fun h=>?_)
 ·simp -dsimp only [aqA,↓seqK,↓blkK,↓loopK,step,stepBin,eqB,Nat.add_assoc nid,simprocAttr,z0]
  refine RetOK.pure (.inl rfl) rfl ?_
  simp [retPV,PVCov,getS,below,h]
 simp -dsimp only [aqA,↓seqK,↓blkK,↓loopK,step,stepBin,eqB,Nat.add_assoc nid,simprocAttr,z0]
 refine ⟨by omega,S2.dec (fun h2=>?_) (fun h2=>?_)⟩
 ·simp -dsimp only [aqA,↓seqK,↓blkK,↓loopK,step,stepBin,eqB,Nat.add_assoc nid,simprocAttr,z0]
  have:=Int.lt_tmod_of_pos x (show 0<n by omega)
  refine ⟨by unfold inI64; omega,RetOK.pure (.inl rfl) rfl ?_⟩
  have h3:x.tmod n+n=x % n:=by rw [Int.tmod_eq_emod]; split <;> rw [Int.tmod_eq_emod] at h2 <;> rename_i h6 <;> simp only [h6,if_true,if_false,not_false_eq_true] at h2 <;> have:=Int.emod_nonneg x (show n≠0 by omega) <;> omega
  simp [cvT,step,res,below,h,h3]
 ·simp -dsimp only [aqA,↓seqK,↓blkK,↓loopK,step,stepBin,eqB,Nat.add_assoc nid,simprocAttr,z0]
  refine RetOK.pure (.inl rfl) rfl ?_
  have h3:x.tmod n=x % n:=by rw [Int.tmod_eq_emod]; split <;> rw [Int.tmod_eq_emod] at h2 <;> rename_i h6 <;> simp only [h6,if_true,if_false,not_false_eq_true] at h2 <;> have:=Int.emod_lt_of_pos x (show 0<n by omega) <;> omega
  simp [cvT,step,res,below,h,h3]
def strmC (nl:Bool) (A:List Int) (p:Nat):Option ABlk:=some (.box 25 [.lit nl A.length [.i .i64 fun i=>A.getD i 0],.int .i64 p])
theorem strmC_low (n:Nat) (nl:Bool) (A:List Int) (p:Nat):lowBlk n (strmC nl A p)=true:=rfl
theorem next_c (s nid : Nat) (nl : Bool) (A : List Int) (p : Nat) (n : Int) (h : s < nid) (hp : p ≤ 1099511627775) (hA : A.length ≤ 17592186044416) (hn : n ≤ 9223372036854775807) :
    ACall Try.prog 35 [.ptr s 0,.int .i64 n] [(s,strmC nl A p)] nid (.int .i64 (nextV A p n)) [(s,strmC nl A (p + 1))] := by
  obtain ⟨e1,e2,e3,e4,e5,e6,e7,e8,e9⟩ := id_all h
  refine acall_run c35 (by simp [a35]) ?_
  simp -dsimp only [a35,strmC,aqA,↓seqK,↓blkK,↓loopK,step,stepBin,eqB,Nat.add_assoc nid,simprocAttr,z0,e1,e2,e3,e4,e5,e6,e7,e8,e9]
  refine ⟨by unfold inI64; omega,S2.intro (fun h2 => ?_) (fun h2 => ?_)⟩
  · simp -dsimp only [aqA,↓seqK,↓blkK,↓loopK,step,stepBin,eqB,Nat.add_assoc nid,simprocAttr,z0,e1,e2,e3,e4,e5,e6,e7,e8,e9]
    refine ⟨by unfold inI64; omega,CallO.pure (below_c _ _ _ hn) ?_⟩
    simp -dsimp only [aqA,↓seqK,↓blkK,↓loopK,step,stepBin,eqB,Nat.add_assoc nid,simprocAttr,z0,e1,e2,e3,e4,e5,e6,e7,e8,e9]
    have h3 : A.length = 0 := by simpa using h2
    refine RetOK.same (.inl rfl) rfl (by simp [strmC,liveIds]; omega) ?_ ?_
    · simp [cvT,step,res,strmC]
    · simp [cvT,step,res,nextV,h3]
  · simp -dsimp only [aqA,↓seqK,↓blkK,↓loopK,step,stepBin,eqB,Nat.add_assoc nid,simprocAttr,z0,e1,e2,e3,e4,e5,e6,e7,e8,e9]
    have h3 : 0 < A.length := by have : ¬ A.length = 0 := by simpa using h2
                                 omega
    have h4 : ∀ z : Nat,z ≤ 1099511627776 → IntKind.i64.wrap (z : Int) = z := fun z hz => IntWalk.i64_in _ (by omega)
    have h5 : p / A.length ≤ p := Nat.div_le_self _ _
    have h6 : p % A.length < A.length := Nat.mod_lt _ h3
    have h11 := h4 _ (show p / A.length ≤ 1099511627776 by omega)
    refine ⟨by unfold inI64; omega,by omega,by unfold inI64; omega,by omega,by omega,CallO.pure (below_c _ _ _ (by omega)) ?_⟩
    simp -dsimp only [aqA,↓seqK,↓blkK,↓loopK,step,stepBin,eqB,Nat.add_assoc nid,simprocAttr,z0,h11,e1,e2,e3,e4,e5,e6,e7,e8,e9]
    have h7 := round_bd p A.length h3 (by omega)
    have h8 := below_bd (A.getD (p % A.length) 0) (n := 1073741824) (by omega)
    rw [← Int.natCast_emod,← Int.natCast_ediv] at h7
    generalize h9 : ((p / A.length : Nat) : Int) * (7919 + ((p % A.length : Nat) : Int)) = z at h7 ⊢
    refine ⟨by unfold inI64; omega,by unfold inI64; omega,by unfold inI64; omega,CallO.pure (below_c _ _ _ hn) ?_⟩
    simp -dsimp only [aqA,↓seqK,↓blkK,↓loopK,step,stepBin,eqB,Nat.add_assoc nid,simprocAttr,z0,e1,e2,e3,e4,e5,e6,e7,e8,e9]
    refine RetOK.same (.inl rfl) rfl (by simp [strmC,liveIds]; omega) ?_ ?_
    · simp [cvT,step,res,strmC]
    · have h10 : A.length ≠ 0 := by omega
      simp [cvT,step,res,nextV,h10,← h9]
theorem range_c (s nid:Nat) (nl:Bool) (A:List Int) (p:Nat) (lo hi:Int) (h:s<nid) (hp:p≤1099511627775) (hA:A.length≤17592186044416) (h1:lo≤hi) (hl : -1099511627776≤lo) (hh:hi≤1099511627776) :
  ACall Try.prog 34 [.ptr s 0,.int .i64 lo,.int .i64 hi] [(s,strmC nl A p)] nid (.int .i64 (rangeV A p lo hi)) [(s,strmC nl A (p+1))]:=by
 obtain ⟨e1,e2,e3,e4,e5,e6,e7,e8,e9⟩:=id_all h
 refine acall_run c34 (by simp [a34]) ?_
 simp -dsimp only [a34,aqA,↓seqK,↓blkK,↓loopK,step,stepBin,eqB,Nat.add_assoc nid,simprocAttr,z0,e1,e2,e3,e4,e5,e6,e7,e8,e9]
 refine S2.dec (fun h=>absurd h (by omega)) (fun h=>?_)
 simp -dsimp only [aqA,↓seqK,↓blkK,↓loopK,step,stepBin,eqB,Nat.add_assoc nid,simprocAttr,z0,e1,e2,e3,e4,e5,e6,e7,e8,e9]
 refine ⟨by unfold inI64; omega,by unfold inI64; omega,CallO.on (next_c _ _ _ _ _ _ (by omega) hp hA (by omega)) (subH_hit _ _ _) ?_⟩
 simp -dsimp only [aqA,↓seqK,↓blkK,↓loopK,step,stepBin,eqB,Nat.add_assoc nid,simprocAttr,z0,e1,e2,e3,e4,e5,e6,e7,e8,e9]
 have:=nextV_bd A p (n:=hi - lo+1) (by omega)
 refine ⟨by unfold inI64; omega,RetOK.same (.inl rfl) rfl (by simp [strmC,liveIds]; omega) ?_ ?_⟩
 ·simp [cvT,step,res,strmC]
 ·simp [cvT,step,res,rangeV]
theorem flip_c (s nid:Nat) (nl:Bool) (A:List Int) (p:Nat) (n:Int) (h:s<nid) (hp:p≤1099511627775) (hA:A.length≤17592186044416) (hn:n≤9223372036854775807) :
  ACall Try.prog 7 [.ptr s 0,.int .i64 n] [(s,strmC nl A p)] nid (.bool (flipV A p n)) [(s,strmC nl A (p+1))]:=by
 obtain ⟨e1,e2,e3,e4,e5,e6,e7,e8,e9⟩:=id_all h
 refine acall_run c7 (by simp [a7]) ?_
 simp -dsimp only [a7,aqA,↓seqK,↓blkK,↓loopK,step,stepBin,eqB,Nat.add_assoc nid,simprocAttr,z0,e1,e2,e3,e4,e5,e6,e7,e8,e9]
 refine CallO.on (next_c _ _ _ _ _ _ (by omega) hp hA hn) (subH_hit _ _ _) ?_
 simp -dsimp only [aqA,↓seqK,↓blkK,↓loopK,step,stepBin,eqB,Nat.add_assoc nid,simprocAttr,z0,e1,e2,e3,e4,e5,e6,e7,e8,e9]
 refine RetOK.same (.inl rfl) rfl (by simp [strmC,liveIds]; omega) ?_ ?_
 ·simp [cvT,step,res,strmC]
 ·simp [cvT,step,res,flipV]
theorem pick_c (s nid:Nat) (nl nl':Bool) (A:List Int) (p:Nat) (n:Nat) (g:Nat→Int) (h:s<nid) (hp:p≤1099511627775) (hA:A.length≤17592186044416) (h1:0<n) (hn:n≤1099511627776) :
  ACall Try.prog 9 [.ptr s 0,.lit nl' n [.i .i64 g]] [(s,strmC nl A p)] nid (.int .i64 (g (pickI A p n))) [(s,strmC nl A (p+1))]:=by
 obtain ⟨e1,e2,e3,e4,e5,e6,e7,e8,e9⟩:=id_all h
 refine acall_run c9 (by simp [a9]) ?_
 simp -dsimp only [a9,aqA,↓seqK,↓blkK,↓loopK,step,stepBin,eqB,Nat.add_assoc nid,simprocAttr,z0,e1,e2,e3,e4,e5,e6,e7,e8,e9]
 refine CallO.on (next_c _ _ _ _ _ _ (by omega) hp hA (by omega)) (subH_hit _ _ _) ?_
 simp -dsimp only [aqA,↓seqK,↓blkK,↓loopK,step,stepBin,eqB,Nat.add_assoc nid,simprocAttr,z0,e1,e2,e3,e4,e5,e6,e7,e8,e9]
 have:=nextV_bd A p (n:=(n:Int)) (by omega)
 refine ⟨this,RetOK.same (.inl rfl) rfl (by simp [strmC,liveIds]; omega) ?_ ?_⟩
 ·simp [cvT,step,res,strmC]
 ·simp [cvT,step,res,pickI]
theorem CallX.pick_go {s id nid:Nat} {nl:Bool} {A:List Int} {p:Nat} {n T:Nat} {g:Nat→Int} {H:Heap} {K:PV→Heap→List Nat→Prop} (hs:getH H s=strmC nl A p) (hid:getH H id=some (.arr T n [.i .i64 g])) (hne:(s==id)=false) (h:s<nid) (hp:p≤1099511627775) (hA:A.length≤17592186044416) (h1:0<n) (hn:n≤1099511627776)
  (hK:K (.int .i64 (g (pickI A p n))) [(s,strmC nl A (p+1)),(id,none)] [s,id]):CallX Try.prog 9 [.ptr s 0,.sl id 0 n] H nid K:=by
 refine CallX.given [id] (u:=[(s,strmC nl A (p+1))]) (fun nl'=>?_) (subH_get hs) (by simp [getH,hne]) hK
 have e:lends H [id] nl' [.ptr s 0,.sl id 0 n]=[.ptr s 0,.lit (nl' id) n [.i .i64 g]]:=by simp [lends,lend,hid,noOs]
 rw [e]
 exact pick_c s _ nl _ A p n _ h hp hA h1 hn
theorem CallO.pick_go {s id nid:Nat} {nl:Bool} {A:List Int} {p:Nat} {n T:Nat} {g:Nat→Int} {H:Heap} {K:PV→Heap→Prop} (hs:getH H s=strmC nl A p) (hid:getH H id=some (.arr T n [.i .i64 g])) (hne:(s==id)=false) (h:s<nid) (hp:p≤1099511627775) (hA:A.length≤17592186044416) (h1:0<n) (hn:n≤1099511627776)
  (hK:K (.int .i64 (g (pickI A p n))) [(s,strmC nl A (p+1)),(id,none)]):CallOK Try.prog 9 [.ptr s 0,.sl id 0 n] H nid K :=
 CallO.x (CallX.pick_go hs hid hne h hp hA h1 hn hK)
open Go.RowKit
def litI (nl:Bool) (l:List Int):PV:=.lit nl l.length [.i .i64 fun i=>l.getD i 0]
theorem out_c (x lo hi:Int) (nid:Nat):ACall Try.prog 41 [.int .i64 x,.int .i64 lo,.int .i64 hi] [] nid (.bool (outB x lo hi)) []:=by
 refine acall_run c41 (by simp [a41]) ?_
 simp -dsimp only [a41,aqA,↓seqK,↓blkK,↓loopK,step,stepBin,eqB,Nat.add_assoc nid,simprocAttr,z0]
 refine S2.dec (fun h=>?_) (fun h=>?_) <;> simp -dsimp only [aqA,↓seqK,↓blkK,↓loopK,step,stepBin,eqB,Nat.add_assoc nid,simprocAttr,z0] <;> refine RetOK.pure (.inl rfl) rfl ?_ <;> simp [cvT,step,res,outB] <;> omega
theorem in_c (x lo hi:Int) (nid:Nat):ACall Try.prog 47 [.int .i64 x,.int .i64 lo,.int .i64 hi] [] nid (.bool (!outB x lo hi)) []:=by
 refine acall_run c47 (by simp [a47]) ?_
 simp -dsimp only [a47,aqA,↓seqK,↓blkK,↓loopK,step,stepBin,eqB,Nat.add_assoc nid,simprocAttr,z0]
 refine S2.dec (fun h=>?_) (fun h=>?_) <;> simp -dsimp only [aqA,↓seqK,↓blkK,↓loopK,step,stepBin,eqB,Nat.add_assoc nid,simprocAttr,z0] <;> refine RetOK.pure (.inl rfl) rfl ?_ <;> simp [cvT,step,res,outB] <;> first | omega | (rw [Bool.eq_iff_iff]; simp; omega)
open Go.RowKit
def isBinV (c:Int):Bool:=(decide (48≤c) && decide (c≤57)) || (decide (97≤c) && decide (c≤122))
theorem isBin_c (c:Int) (nid:Nat):ACall Try.prog 77 [.int .u8 c] [] nid (.bool (isBinV c)) []:=by
 refine acall_run c77 (by simp [a77]) ?_
 unfold isBinV
 simp -dsimp only [a77,aqT,aqU,aqN,aqP,aqM,↓seqK,↓blkK,↓loopK,step,stepBin,eqB,Nat.reduceBEq,Nat.reduceBeqDiff,Nat.add_assoc nid,Nat.reduceAdd,reduceCtorEq,↓reduceIte,Nat.reduceLeDiff,Nat.reduceBneDiff,Option.toList,← Int.ofNat_tmod,← Int.ofNat_tdiv,Nat.reduceLT,z0]
 cases h1:decide (48≤c) <;> simp -dsimp only [aqT,aqU,aqN,aqP,aqM,↓seqK,↓blkK,↓loopK,step,stepBin,eqB,Nat.reduceBEq,Nat.reduceBeqDiff,Nat.add_assoc nid,Nat.reduceAdd,reduceCtorEq,↓reduceIte,Nat.reduceLeDiff,Nat.reduceBneDiff,Option.toList,← Int.ofNat_tmod,← Int.ofNat_tdiv,Nat.reduceLT,z0]
 ·cases h3:decide (97≤c) <;> simp -dsimp only [aqT,aqU,aqN,aqP,aqM,↓seqK,↓blkK,↓loopK,step,stepBin,eqB,Nat.reduceBEq,Nat.reduceBeqDiff,Nat.add_assoc nid,Nat.reduceAdd,reduceCtorEq,↓reduceIte,Nat.reduceLeDiff,Nat.reduceBneDiff,Option.toList,← Int.ofNat_tmod,← Int.ofNat_tdiv,Nat.reduceLT,z0]
  ·refine RetOK.pure (.inl rfl) rfl ?_
   simp [cvT,step,res,h1,h3]
  ·refine RetOK.pure (.inl rfl) rfl ?_
   simp [cvT,step,res,h1,h3]
 ·cases h2:decide (c≤57) <;> simp -dsimp only [aqT,aqU,aqN,aqP,aqM,↓seqK,↓blkK,↓loopK,step,stepBin,eqB,Nat.reduceBEq,Nat.reduceBeqDiff,Nat.add_assoc nid,Nat.reduceAdd,reduceCtorEq,↓reduceIte,Nat.reduceLeDiff,Nat.reduceBneDiff,Option.toList,← Int.ofNat_tmod,← Int.ofNat_tdiv,Nat.reduceLT,z0]
  ·cases h3:decide (97≤c) <;> simp -dsimp only [aqT,aqU,aqN,aqP,aqM,↓seqK,↓blkK,↓loopK,step,stepBin,eqB,Nat.reduceBEq,Nat.reduceBeqDiff,Nat.add_assoc nid,Nat.reduceAdd,reduceCtorEq,↓reduceIte,Nat.reduceLeDiff,Nat.reduceBneDiff,Option.toList,← Int.ofNat_tmod,← Int.ofNat_tdiv,Nat.reduceLT,z0] <;> refine RetOK.pure (.inl rfl) rfl ?_ <;> simp [cvT,step,res,h1,h2,h3]
  ·refine RetOK.pure (.inl rfl) rfl ?_
   simp [cvT,step,res,h1,h2]
theorem isPlace_c (c:Int) (nid:Nat):ACall Try.prog 99 [.int .u8 c] [] nid (.bool (isBinV c || c==46 || c==63 || c==42)) []:=by
 refine acall_run c99 (by simp [a99]) ?_
 simp -dsimp only [a99,aqT,aqU,aqN,aqP,aqM,↓seqK,↓blkK,↓loopK,step,stepBin,eqB,Nat.reduceBEq,Nat.reduceBeqDiff,Nat.add_assoc nid,Nat.reduceAdd,reduceCtorEq,↓reduceIte,Nat.reduceLeDiff,Nat.reduceBneDiff,Option.toList,← Int.ofNat_tmod,← Int.ofNat_tdiv,Nat.reduceLT,z0]
 refine CallO.pure (isBin_c _ _) ?_
 simp -dsimp only [aqT,aqU,aqN,aqP,aqM,↓seqK,↓blkK,↓loopK,step,stepBin,eqB,Nat.reduceBEq,Nat.reduceBeqDiff,Nat.add_assoc nid,Nat.reduceAdd,reduceCtorEq,↓reduceIte,Nat.reduceLeDiff,Nat.reduceBneDiff,Option.toList,← Int.ofNat_tmod,← Int.ofNat_tdiv,Nat.reduceLT,z0]
 cases h0:isBinV c <;> simp -dsimp only [aqT,aqU,aqN,aqP,aqM,↓seqK,↓blkK,↓loopK,step,stepBin,eqB,Nat.reduceBEq,Nat.reduceBeqDiff,Nat.add_assoc nid,Nat.reduceAdd,reduceCtorEq,↓reduceIte,Nat.reduceLeDiff,Nat.reduceBneDiff,Option.toList,← Int.ofNat_tmod,← Int.ofNat_tdiv,Nat.reduceLT,z0]
 ·cases h1:(c==46) <;> simp -dsimp only [aqT,aqU,aqN,aqP,aqM,↓seqK,↓blkK,↓loopK,step,stepBin,eqB,Nat.reduceBEq,Nat.reduceBeqDiff,Nat.add_assoc nid,Nat.reduceAdd,reduceCtorEq,↓reduceIte,Nat.reduceLeDiff,Nat.reduceBneDiff,Option.toList,← Int.ofNat_tmod,← Int.ofNat_tdiv,Nat.reduceLT,z0,h1]
  ·cases h2:(c==63) <;> simp -dsimp only [aqT,aqU,aqN,aqP,aqM,↓seqK,↓blkK,↓loopK,step,stepBin,eqB,Nat.reduceBEq,Nat.reduceBeqDiff,Nat.add_assoc nid,Nat.reduceAdd,reduceCtorEq,↓reduceIte,Nat.reduceLeDiff,Nat.reduceBneDiff,Option.toList,← Int.ofNat_tmod,← Int.ofNat_tdiv,Nat.reduceLT,z0,h2] <;> refine RetOK.pure (.inl rfl) rfl ?_ <;> simp [cvT,step,res,h1,h2]
  ·refine RetOK.pure (.inl rfl) rfl ?_
   simp [cvT,step,res]
 ·refine RetOK.pure (.inl rfl) rfl ?_
  simp [cvT,step,res]
theorem oddF_c (c:Int) (nid:Nat):ACall Try.prog 98 [.int .u8 c] [] nid (.bool (!(isBinV c || c==46 || c==63 || c==42))) []:=by
 refine acall_run c98 (by simp [a98]) ?_
 simp -dsimp only [a98,aqT,aqU,aqN,aqP,aqM,↓seqK,↓blkK,↓loopK,step,stepBin,eqB,Nat.reduceBEq,Nat.reduceBeqDiff,Nat.add_assoc nid,Nat.reduceAdd,reduceCtorEq,↓reduceIte,Nat.reduceLeDiff,Nat.reduceBneDiff,Option.toList,← Int.ofNat_tmod,← Int.ofNat_tdiv,Nat.reduceLT,z0]
 refine CallO.pure (isPlace_c _ _) ?_
 simp -dsimp only [aqT,aqU,aqN,aqP,aqM,↓seqK,↓blkK,↓loopK,step,stepBin,eqB,Nat.reduceBEq,Nat.reduceBeqDiff,Nat.add_assoc nid,Nat.reduceAdd,reduceCtorEq,↓reduceIte,Nat.reduceLeDiff,Nat.reduceBneDiff,Option.toList,← Int.ofNat_tmod,← Int.ofNat_tdiv,Nat.reduceLT,z0]
 refine RetOK.pure (.inl rfl) rfl ?_
 simp [cvT,step,res]
def placeB (c:Int):Bool:=isBinV c || c==46 || c==63 || c==42
theorem indexF_c (nl:Bool) (n:Nat) (g:Nat→Int) (nid:Nat) (hn:n≤1000000000) (h:∀ i,i<n→placeB (g i)=true):ACall Try.prog 74 [.lit nl n [.i .u8 g],.fn 98 []] [] nid (.int .i64 (-1)) []:=by
 refine acall_run c74 (by simp [a74]) ?_
 simp -dsimp only [a74,aqT,aqU,aqN,aqP,aqM,↓seqK,↓blkK,↓loopK,step,stepBin,eqB,Nat.reduceBEq,Nat.reduceBeqDiff,Nat.add_assoc nid,Nat.reduceAdd,reduceCtorEq,↓reduceIte,Nat.reduceLeDiff,Nat.reduceBneDiff,Option.toList,← Int.ofNat_tmod,← Int.ofNat_tdiv,Nat.reduceLT,z0]
 refine LP.mkP (fun k:Nat=>k≤n) (fun k:Nat=>⟨[(8,.int .i64 k),(7,.int .i64 n),(0,.lit nl n [.i .u8 g]),(1,.fn 98 [])],[],nid+100,nid⟩) (fun k=>n+1 - k) 0 (by omega) (Cov.go [] [] ?_) (fun k hk=>?_)
 ·simp [cvT,step,res]
 simp -dsimp only [aqT,aqU,aqN,aqP,aqM,↓seqK,↓blkK,↓loopK,step,stepBin,eqB,Nat.reduceBEq,Nat.reduceBeqDiff,Nat.add_assoc nid,Nat.reduceAdd,reduceCtorEq,↓reduceIte,Nat.reduceLeDiff,Nat.reduceBneDiff,Option.toList,← Int.ofNat_tmod,← Int.ofNat_tdiv,Nat.reduceLT,z0]
 refine S2.dec (fun h3=>?_) (fun h3=>?_) <;> simp -dsimp only [aqT,aqU,aqN,aqP,aqM,↓seqK,↓blkK,↓loopK,step,stepBin,eqB,Nat.reduceBEq,Nat.reduceBeqDiff,Nat.add_assoc nid,Nat.reduceAdd,reduceCtorEq,↓reduceIte,Nat.reduceLeDiff,Nat.reduceBneDiff,Option.toList,← Int.ofNat_tmod,← Int.ofNat_tdiv,Nat.reduceLT,z0]
 ·refine ⟨by omega,CallO.pure (oddF_c _ _) ?_⟩
  have hp:=h k (by omega)
  unfold placeB at hp
  rw [hp]
  simp -dsimp only [aqT,aqU,aqN,aqP,aqM,↓seqK,↓blkK,↓loopK,step,stepBin,eqB,Nat.reduceBEq,Nat.reduceBeqDiff,Nat.add_assoc nid,Nat.reduceAdd,reduceCtorEq,↓reduceIte,Nat.reduceLeDiff,Nat.reduceBneDiff,Option.toList,← Int.ofNat_tmod,← Int.ofNat_tdiv,Nat.reduceLT,z0]
  refine ⟨by unfold inI64; omega,k+1,⟨by omega,by omega⟩,Cov.go [] [] ?_⟩
  simp [cvT,step,res]
 ·refine RetOK.pure (.inl rfl) rfl ?_
  simp [cvT,step,res]
theorem odd_c' (s:List UInt8) (nid:Nat) (hn:s.length≤1000000000) (h:∀ i,i<s.length→placeB ((s.getD i 0).toNat:Nat)=true):ACall Try.prog 76 [.str s] [] nid (.bool false) []:=by
 have hcf:∀ nid,ACall Try.prog 36 [.lit false s.length [.i .u8 fun i=>((s.getD i 0).toNat:Nat)],.fn 98 []] [] nid (.bool false) []:=fun nid=>by
  refine acall_run c36 (by simp [a36]) ?_
  simp -dsimp only [a36,aqT,aqU,aqN,aqP,aqM,↓seqK,↓blkK,↓loopK,step,stepBin,eqB,Nat.reduceBEq,Nat.reduceBeqDiff,Nat.add_assoc nid,Nat.reduceAdd,reduceCtorEq,↓reduceIte,Nat.reduceLeDiff,Nat.reduceBneDiff,Option.toList,← Int.ofNat_tmod,← Int.ofNat_tdiv,Nat.reduceLT,z0]
  refine CallO.pure (indexF_c _ _ _ _ hn h) ?_
  simp -dsimp only [aqT,aqU,aqN,aqP,aqM,↓seqK,↓blkK,↓loopK,step,stepBin,eqB,Nat.reduceBEq,Nat.reduceBeqDiff,Nat.add_assoc nid,Nat.reduceAdd,reduceCtorEq,↓reduceIte,Nat.reduceLeDiff,Nat.reduceBneDiff,Option.toList,← Int.ofNat_tmod,← Int.ofNat_tdiv,Nat.reduceLT,z0,Int.cast_ofNat_Int,Int.reduceBEq,Int.reduceBNe,Int.reduceLT,Int.reduceLE,Int.reduceAdd,Int.reduceSub,Int.reduceMul,Int.reduceToNat,Int.reduceNeg,Int.reduceTMod,Int.reduceEq,not_false_eq_true,Int.reducePow,Int.reduceFDiv,Nat.reducePow,Nat.reduceSub,Nat.reduceMul,Nat.min_eq_left,Nat.reduceEqDiff,BEq.rfl,Int.tdiv_one,LN_succ]
  refine RetOK.pure (.inl rfl) rfl ?_
  simp [cvT,step,res]
 refine acall_run c76 (by simp [a76]) ?_
 simp -dsimp only [a76,aqT,aqU,aqN,aqP,aqM,↓seqK,↓blkK,↓loopK,step,stepBin,eqB,Nat.reduceBEq,Nat.reduceBeqDiff,Nat.add_assoc nid,Nat.reduceAdd,reduceCtorEq,↓reduceIte,Nat.reduceLeDiff,Nat.reduceBneDiff,Option.toList,← Int.ofNat_tmod,← Int.ofNat_tdiv,Nat.reduceLT,z0]
 refine CallO.pure (hcf _) ?_
 simp -dsimp only [aqT,aqU,aqN,aqP,aqM,↓seqK,↓blkK,↓loopK,step,stepBin,eqB,Nat.reduceBEq,Nat.reduceBeqDiff,Nat.add_assoc nid,Nat.reduceAdd,reduceCtorEq,↓reduceIte,Nat.reduceLeDiff,Nat.reduceBneDiff,Option.toList,← Int.ofNat_tmod,← Int.ofNat_tdiv,Nat.reduceLT,z0]
 refine RetOK.pure (.inl rfl) rfl ?_
 simp [cvT,step,res]
theorem tested_c (c:Int) (nid:Nat):ACall Try.prog 45 [.int .u8 c] [] nid (.bool (isBinV c || c==42)) []:=by
 refine acall_run c45 (by simp [a45]) ?_
 simp -dsimp only [a45,aqT,aqU,aqN,aqP,aqM,↓seqK,↓blkK,↓loopK,step,stepBin,eqB,Nat.reduceBEq,Nat.reduceBeqDiff,Nat.add_assoc nid,Nat.reduceAdd,reduceCtorEq,↓reduceIte,Nat.reduceLeDiff,Nat.reduceBneDiff,Option.toList,← Int.ofNat_tmod,← Int.ofNat_tdiv,Nat.reduceLT,z0]
 refine CallO.pure (isBin_c _ _) ?_
 cases h0:isBinV c <;> cases h1:(c==42) <;>
  simp -dsimp only [aqT,aqU,aqN,aqP,aqM,↓seqK,↓blkK,↓loopK,step,stepBin,eqB,Nat.reduceBEq,Nat.reduceBeqDiff,Nat.add_assoc nid,Nat.reduceAdd,reduceCtorEq,↓reduceIte,Nat.reduceLeDiff,Nat.reduceBneDiff,Option.toList,← Int.ofNat_tmod,← Int.ofNat_tdiv,Nat.reduceLT,z0,h0,h1] <;> refine RetOK.pure (.inl rfl) rfl ?_ <;> simp [cvT,step,res]
theorem gcd12_c (nid:Nat):ACall Try.prog 100 [.int .i64 1,.int .i64 2] [] nid (.int .i64 1) []:=by
 refine acall_run c100 (by simp [a100]) ?_
 simp -dsimp only [a100,aqT,aqU,aqN,aqP,aqM,↓seqK,↓blkK,↓loopK,step,stepBin,eqB,Nat.reduceBEq,Nat.reduceBeqDiff,Nat.add_assoc nid,Nat.reduceAdd,reduceCtorEq,↓reduceIte,Nat.reduceLeDiff,Nat.reduceBneDiff,Option.toList,← Int.ofNat_tmod,← Int.ofNat_tdiv,Nat.reduceLT,z0]
 refine LP.rounds 5 ?_
 simp -dsimp only [aqT,aqU,aqN,aqP,aqM,↓seqK,↓blkK,↓loopK,step,stepBin,eqB,Nat.reduceBEq,Nat.reduceBeqDiff,Nat.add_assoc nid,Nat.reduceAdd,reduceCtorEq,↓reduceIte,Nat.reduceLeDiff,Nat.reduceBneDiff,Option.toList,← Int.ofNat_tmod,← Int.ofNat_tdiv,Nat.reduceLT,z0,Int.cast_ofNat_Int,Int.reduceBEq,Int.reduceBNe,Int.reduceLT,Int.reduceLE,Int.reduceAdd,Int.reduceSub,Int.reduceMul,Int.reduceToNat,Int.reduceNeg,Int.reduceTMod,Int.reduceEq,not_false_eq_true,Int.reducePow,Int.reduceFDiv,Nat.reducePow,Nat.reduceSub,Nat.reduceMul,Nat.min_eq_left,Nat.reduceEqDiff,BEq.rfl,Int.tdiv_one,LN_succ]
 refine RetOK.pure (.inl rfl) rfl ?_
 simp [cvT,step,res]
theorem frac12_c (nid:Nat):ACall Try.prog 82 [.int .i64 1,.int .i64 2] [] nid (.agg [.int .i64 1,.int .i64 2]) []:=by
 refine acall_run c82 (by simp [a82]) ?_
 simp -dsimp only [a82,aqT,aqU,aqN,aqP,aqM,↓seqK,↓blkK,↓loopK,step,stepBin,eqB,Nat.reduceBEq,Nat.reduceBeqDiff,Nat.add_assoc nid,Nat.reduceAdd,reduceCtorEq,↓reduceIte,Nat.reduceLeDiff,Nat.reduceBneDiff,Option.toList,← Int.ofNat_tmod,← Int.ofNat_tdiv,Nat.reduceLT,z0,Int.cast_ofNat_Int,Int.reduceBEq,Int.reduceBNe,Int.reduceLT,Int.reduceLE,Int.reduceAdd,Int.reduceSub,Int.reduceMul,Int.reduceToNat,Int.reduceNeg,Int.reduceTMod,Int.reduceEq,not_false_eq_true,Int.reducePow,Int.reduceFDiv,Nat.reducePow,Nat.reduceSub,Nat.reduceMul,Nat.min_eq_left,Nat.reduceEqDiff,BEq.rfl,Int.tdiv_one,LN_succ]
 have hm:max (1:Int) (-1)=1:=by decide
 rw [hm]
 refine ⟨by unfold inI64; omega,CallO.pure (gcd12_c _) ?_⟩
 simp -dsimp only [aqT,aqU,aqN,aqP,aqM,↓seqK,↓blkK,↓loopK,step,stepBin,eqB,Nat.reduceBEq,Nat.reduceBeqDiff,Nat.add_assoc nid,Nat.reduceAdd,reduceCtorEq,↓reduceIte,Nat.reduceLeDiff,Nat.reduceBneDiff,Option.toList,← Int.ofNat_tmod,← Int.ofNat_tdiv,Nat.reduceLT,z0,Int.cast_ofNat_Int,Int.reduceBEq,Int.reduceBNe,Int.reduceLT,Int.reduceLE,Int.reduceAdd,Int.reduceSub,Int.reduceMul,Int.reduceToNat,Int.reduceNeg,Int.reduceTMod,Int.reduceEq,not_false_eq_true,Int.reducePow,Int.reduceFDiv,Nat.reducePow,Nat.reduceSub,Nat.reduceMul,Nat.min_eq_left,Nat.reduceEqDiff,BEq.rfl,Int.tdiv_one,LN_succ]
 have h1:IntKind.i64.wrap 1=1:=by decide
 have h2:IntKind.i64.wrap 2=2:=by decide
 rw [h1,h2]
 refine RetOK.go [] [] (.inl rfl) ?_
 simp [a82,cvT,step,res]
theorem indexBS_c (s:List UInt8) (c:Int) (nid:Nat):ACall Try.prog 114 [.str s,.int .u8 c] [] nid (.int .i64 (Lib.indexByte s c.toNat.toUInt8)) []:=by
 intro C vs hb hl hr hs
 obtain ⟨v0,v1,rfl⟩:∃ a b,vs=[a,b]:=by
  rcases vs with _ | ⟨a,_ | ⟨b,_ | ⟨c,r⟩⟩⟩
  ·simp at hl
  ·simp at hl
  ·exact ⟨a,b,rfl⟩
  ·simp at hl
 have r0:=(hr 0 _ v0 rfl rfl).str_inv
 have r1:=(hr 1 _ v1 rfl rfl).int_inv
 subst r0; subst r1
 refine .inr ⟨.int .i64 (Lib.indexByte s c.toNat.toUInt8),C.w0,?_,C.Y0,C.m0,.int,by simpa using hs.next (show nid≤nid+4 by omega),Ev.refl _ _ _⟩
 rw [run_callFunc_extern (P:=Try.prog) (f:=114) (fn:=Try.f114) (e:=Extern.BytealgIndexByte.indexByte) Try.func114 (by kernel_rfl) (by kernel_rfl) (by kernel_rfl) (by kernel_rfl)]
 have h:=Lib.run_indexByteString (P:=Try.prog) ⟨s.toArray⟩ c C.w0
 show ((Extern.BytealgIndexByte.indexByte #[.string ⟨s.toArray⟩,.int .u8 c]).run Try.prog C.w0).andThen _=_
 rw [h]
 rfl
theorem indexB_c (s:List UInt8) (c:Int) (nid:Nat):ACall Try.prog 75 [.str s,.int .u8 c] [] nid (.int .i64 (Lib.indexByte s c.toNat.toUInt8)) []:=by
 have h1:∀ nid,ACall Try.prog 97 [.str s,.int .u8 c] [] nid (.int .i64 (Lib.indexByte s c.toNat.toUInt8)) []:=fun nid=>by
  refine acall_run c97 (by simp [a97]) ?_
  simp -dsimp only [a97,aqT,aqU,aqN,aqP,aqM,↓seqK,↓blkK,↓loopK,step,stepBin,eqB,Nat.reduceBEq,Nat.reduceBeqDiff,Nat.add_assoc nid,Nat.reduceAdd,reduceCtorEq,↓reduceIte,Nat.reduceLeDiff,Nat.reduceBneDiff,Option.toList,← Int.ofNat_tmod,← Int.ofNat_tdiv,Nat.reduceLT,z0]
  refine CallO.pure (indexBS_c s c _) ?_
  simp -dsimp only [aqT,aqU,aqN,aqP,aqM,↓seqK,↓blkK,↓loopK,step,stepBin,eqB,Nat.reduceBEq,Nat.reduceBeqDiff,Nat.add_assoc nid,Nat.reduceAdd,reduceCtorEq,↓reduceIte,Nat.reduceLeDiff,Nat.reduceBneDiff,Option.toList,← Int.ofNat_tmod,← Int.ofNat_tdiv,Nat.reduceLT,z0]
  refine RetOK.pure (.inl rfl) rfl ?_
  simp [cvT,step,res]
 refine acall_run c75 (by simp [a75]) ?_
 simp -dsimp only [a75,aqT,aqU,aqN,aqP,aqM,↓seqK,↓blkK,↓loopK,step,stepBin,eqB,Nat.reduceBEq,Nat.reduceBeqDiff,Nat.add_assoc nid,Nat.reduceAdd,reduceCtorEq,↓reduceIte,Nat.reduceLeDiff,Nat.reduceBneDiff,Option.toList,← Int.ofNat_tmod,← Int.ofNat_tdiv,Nat.reduceLT,z0]
 refine CallO.pure (h1 _) ?_
 simp -dsimp only [aqT,aqU,aqN,aqP,aqM,↓seqK,↓blkK,↓loopK,step,stepBin,eqB,Nat.reduceBEq,Nat.reduceBeqDiff,Nat.add_assoc nid,Nat.reduceAdd,reduceCtorEq,↓reduceIte,Nat.reduceLeDiff,Nat.reduceBneDiff,Option.toList,← Int.ofNat_tmod,← Int.ofNat_tdiv,Nat.reduceLT,z0]
 refine RetOK.pure (.inl rfl) rfl ?_
 simp [cvT,step,res]
def passedV (pass:List UInt8) (c:Int):Bool:=isBinV c && decide (0≤Lib.indexByte pass c.toNat.toUInt8)
theorem passed_c (rows:PV) (pass:List UInt8) (c:Int) (nid:Nat) (nl:Bool) (n:Nat) (cols:List Col) (hr:rows=.lit nl n cols):ACall Try.prog 65 [.agg [rows,.str pass],.int .u8 c] [] nid (.bool (passedV pass c)) []:=by
 subst hr
 refine acall_run c65 (by simp [a65]) ?_
 simp -dsimp only [a65,aqT,aqU,aqN,aqP,aqM,↓seqK,↓blkK,↓loopK,step,stepBin,eqB,Nat.reduceBEq,Nat.reduceBeqDiff,Nat.add_assoc nid,Nat.reduceAdd,reduceCtorEq,↓reduceIte,Nat.reduceLeDiff,Nat.reduceBneDiff,Option.toList,← Int.ofNat_tmod,← Int.ofNat_tdiv,Nat.reduceLT,z0]
 refine CallO.pure (isBin_c _ _) ?_
 unfold passedV
 simp -dsimp only [aqT,aqU,aqN,aqP,aqM,↓seqK,↓blkK,↓loopK,step,stepBin,eqB,Nat.reduceBEq,Nat.reduceBeqDiff,Nat.add_assoc nid,Nat.reduceAdd,reduceCtorEq,↓reduceIte,Nat.reduceLeDiff,Nat.reduceBneDiff,Option.toList,← Int.ofNat_tmod,← Int.ofNat_tdiv,Nat.reduceLT,z0]
 cases h0:isBinV c <;> simp -dsimp only [aqT,aqU,aqN,aqP,aqM,↓seqK,↓blkK,↓loopK,step,stepBin,eqB,Nat.reduceBEq,Nat.reduceBeqDiff,Nat.add_assoc nid,Nat.reduceAdd,reduceCtorEq,↓reduceIte,Nat.reduceLeDiff,Nat.reduceBneDiff,Option.toList,← Int.ofNat_tmod,← Int.ofNat_tdiv,Nat.reduceLT,z0]
 ·refine RetOK.pure (.inl rfl) rfl ?_
  simp [cvT,step,res]
 ·refine CallO.pure (indexB_c _ _ _) ?_
  simp -dsimp only [aqT,aqU,aqN,aqP,aqM,↓seqK,↓blkK,↓loopK,step,stepBin,eqB,Nat.reduceBEq,Nat.reduceBeqDiff,Nat.add_assoc nid,Nat.reduceAdd,reduceCtorEq,↓reduceIte,Nat.reduceLeDiff,Nat.reduceBneDiff,Option.toList,← Int.ofNat_tmod,← Int.ofNat_tdiv,Nat.reduceLT,z0]
  refine RetOK.pure (.inl rfl) rfl ?_
  simp [cvT,step,res]
structure Waf where
 rows:List (List UInt8)
 pass:List UInt8
deriving DecidableEq
def byteI (b:UInt8):Int:=(b.toNat:Nat)
def wideOf (W:Waf):Nat:=(W.rows.getD 0 []).length
def dieV (W:Waf) (x y:Int):Int:=if outB y 0 ((W.rows.length:Int) - 1)=true then 46 else if outB x 0 ((wideOf W:Int) - 1)=true then 46 else byteI ((W.rows.getD y.toNat []).getD x.toNat 0)
def oddB (r:List UInt8):Bool:=r.any fun c=>!placeB (byteI c)
def rowBad (wide:Nat) (r:List UInt8):Int:=if r=[] then 8 else if 60<r.length then 2 else if r.length≠wide then 3 else if oddB r=true then 9 else 0
def passBad (p:List UInt8) (i:Nat):Int:=if isBinV (byteI (p.getD i 0))=false then 9 else if 0<i∧byteI (p.getD i 0)≤byteI (p.getD (i - 1) 0) then 7 else 0
def passV (p:List UInt8):Int:=firstBad (passBad p) (List.range p.length)
def waferV (W:Waf):Int:=if W.rows.length=0 then 8 else if 60<W.rows.length then 2 else if firstBad (rowBad (wideOf W)) W.rows≠0 then firstBad (rowBad (wideOf W)) W.rows else passV W.pass
structure WafOk (W:Waf):Prop where
 pos:0<W.rows.length
 len:W.rows.length≤60
 row:∀ r∈W.rows,r≠[]∧r.length≤60∧r.length=wideOf W∧oddB r=false
 bins:∀ b∈W.pass,isBinV (byteI b)=true
theorem waferV_ok {W:Waf} (h:waferV W=0):WafOk W:=by
 unfold waferV at h
 split at h; · cases h
 split at h; · cases h
 split at h; · contradiction
 rename_i h1 h2 h3
 have h3':firstBad (rowBad (wideOf W)) W.rows=0:=by simpa using h3
 refine ⟨by omega,by omega,fun r hr=>?_,fun b hb=>?_⟩
 ·have:=firstBad_all h3' r hr
  unfold rowBad at this
  split at this; · cases this
  split at this; · cases this
  split at this; · cases this
  split at this; · cases this
  rename_i a1 a2 a3 a4
  exact ⟨a1,by omega,by omega,by simpa using a4⟩
 ·obtain ⟨i,hi,rfl⟩:=List.getElem_of_mem hb
  have:=firstBad_all (f:=passBad W.pass) h i (List.mem_range.2 hi)
  unfold passBad at this
  split at this; · cases this
  rename_i a1
  rw [List.getD_eq_getElem?_getD,List.getElem?_eq_getElem hi] at a1
  simpa using a1
theorem WafOk.wide {W:Waf} (h:WafOk W):0<wideOf W∧wideOf W≤60:=by
 have hm:W.rows.getD 0 []∈W.rows:=by
  rw [List.getD_eq_getElem?_getD,List.getElem?_eq_getElem h.pos]; exact List.getElem_mem _
 obtain ⟨h1,h2,h3,_⟩:=h.row _ hm
 have:0<(W.rows.getD 0 []).length:=List.length_pos_iff.2 h1
 exact ⟨this,h2⟩
theorem WafOk.at {W:Waf} (h:WafOk W) {y:Nat} (hy:y<W.rows.length):(W.rows.getD y []).length=wideOf W∧oddB (W.rows.getD y [])=false:=by
 have hm:W.rows.getD y []∈W.rows:=by
  rw [List.getD_eq_getElem?_getD,List.getElem?_eq_getElem hy]; exact List.getElem_mem _
 exact (h.row _ hm).2.2
def rowPl (y n:Nat):List Pt:=(List.range n).map fun x=>(((x:Nat):Int),((y:Nat):Int))
def plTo (W:Waf) (y:Nat):List Pt:=(List.range y).flatMap fun y=>rowPl y (W.rows.getD y []).length
def plV (W:Waf):List Pt:=plTo W W.rows.length
theorem rowPl_len (y n:Nat):(rowPl y n).length=n:=by simp [rowPl]
theorem rowPl_succ (y n:Nat):rowPl y (n+1)=rowPl y n++[((n:Int),(y:Int))]:=by simp [rowPl,List.range_succ]
theorem plTo_succ (W:Waf) (y:Nat):plTo W (y+1)=plTo W y++rowPl y (W.rows.getD y []).length:=by simp [plTo,List.range_succ]
theorem plTo_len {W:Waf} (h:∀ r∈W.rows,r.length≤1000):∀ y,y≤W.rows.length→(plTo W y).length≤1000 * y
 | 0,_=>by simp [plTo]
 | y+1,hy=>by
  have:=plTo_len h y (by omega)
  have hm:W.rows.getD y []∈W.rows:=by
   rw [List.getD_eq_getElem?_getD,List.getElem?_eq_getElem (by omega:y<W.rows.length)]; exact List.getElem_mem _
  have:=h _ hm
  rw [plTo_succ,List.length_append,rowPl_len]
  omega
theorem plV_mem {W:Waf} {p:Pt} (h:p∈plV W):∃ x y:Nat,p=((x:Int),(y:Int))∧y<W.rows.length∧x<(W.rows.getD y []).length:=by
 unfold plV plTo rowPl at h
 rw [List.mem_flatMap] at h
 obtain ⟨y,hy,h⟩:=h
 rw [List.mem_map] at h
 obtain ⟨x,hx,rfl⟩:=h
 exact ⟨x,y,rfl,List.mem_range.1 hy,List.mem_range.1 hx⟩
theorem dieV_in {W:Waf} {x y:Nat} (hy:y<W.rows.length) (hx:x<wideOf W):dieV W (x:Int) (y:Int)=byteI ((W.rows.getD y []).getD x 0):=by
 unfold dieV outB
 rw [if_neg (by simp; omega),if_neg (by simp; omega),Int.toNat_natCast,Int.toNat_natCast]
def binsL:List UInt8:=[48,49,50,51,52,53,54,55,56,57,97,98,99,100,101,102,103,104,105,106,107,108,109,110,111,112,113,114,115,116,117,118,119,120,121,122]
theorem bins_all:((List.range 256).all fun n=>decide (0≤Lib.indexByte binsL n.toUInt8)==isBinV (n:Int))=true:=by kernel_rfl
theorem bins_ok (n:Nat) (hn:n<256):decide (0≤Lib.indexByte binsL n.toUInt8)=isBinV (n:Int):=by
 have:=List.all_eq_true.1 bins_all n (List.mem_range.2 hn)
 exact beq_iff_eq.1 this
theorem binsS_all:((List.range 256).all fun n=>decide (0≤Lib.indexByte (binsL++[42]) n.toUInt8)==(isBinV (n:Int) || (n:Int)==42))=true:=by kernel_rfl
theorem binsS_ok (n:Nat) (hn:n<256):decide (0≤Lib.indexByte (binsL++[42]) n.toUInt8)=(isBinV (n:Int) || (n:Int)==42):=by
 have:=List.all_eq_true.1 binsS_all n (List.mem_range.2 hn)
 exact beq_iff_eq.1 this
def testedV (c:Int):Bool:=isBinV c || c==42
def failedV (pass:List UInt8) (c:Int):Bool:=isBinV c && !passedV pass c
theorem indexByte_pos {l:List UInt8} {c:UInt8}:0≤Lib.indexByte l c↔c∈l:=by
 induction l with
 | nil=>simp [Lib.indexByte]
 | cons b l ih =>
  have hg:=Lib.indexByte_ge l c
  simp only [Lib.indexByte,List.mem_cons]
  by_cases h:b=c
  ·simp [h]
  ·have h1:(b==c)=false:=by simpa using h
   have h2:¬ c=b:=fun e=>h e.symm
   simp only [h1,Bool.false_eq_true,if_false,h2,false_or]
   split
   ·rename_i h3
    have:Lib.indexByte l c = -1:=by simpa using h3
    rw [← ih]
    omega
   ·rename_i h3
    have:Lib.indexByte l c ≠ -1:=by simpa using h3
    rw [← ih]
    omega
theorem WafOk.passed {W:Waf} (h:WafOk W) {n:Nat} (hn:n<256):decide (0≤Lib.indexByte W.pass n.toUInt8)=passedV W.pass (n:Int):=by
 unfold passedV
 rw [Int.toNat_natCast]
 cases hb:isBinV (n:Int)
 ·simp only [Bool.false_and,decide_eq_false_iff_not]
  intro hp
  have hm:=h.bins _ (indexByte_pos.1 hp)
  unfold byteI at hm
  rw [show (n.toUInt8).toNat=n by simp [Nat.toUInt8]; omega] at hm
  rw [hb] at hm
  cases hm
 ·simp
def cellOf (w h:Nat) (p:Pt):Pt:=((p.1.toNat % w:Nat),(p.2.toNat % h:Nat))
def cntC (F:Pt→Bool) (w h:Nat) (L:List Pt) (c:Pt):Nat:=L.countP fun p=>F p && decide (cellOf w h p=c)
theorem cntC_nil (F:Pt→Bool) (w h:Nat) (c:Pt):cntC F w h [] c=0:=rfl
theorem cntC_snoc (F:Pt→Bool) (w h:Nat) (L:List Pt) (p c:Pt):cntC F w h (L++[p]) c=cntC F w h L c+(if F p=true∧cellOf w h p=c then 1 else 0):=by
 unfold cntC
 rw [List.countP_append,List.countP_singleton]
 by_cases h1:F p=true
 ·by_cases h2:cellOf w h p=c <;> simp [h1,h2]
 ·simp [h1]
theorem cntC_le (F:Pt→Bool) (w h:Nat) (L:List Pt) (c:Pt):cntC F w h L c≤L.length:=List.countP_le_length
theorem cntC_of (F:Pt→Bool) (w h:Nat) (L:List Pt) (c:Pt):(L.filter fun p=>decide (cellOf w h p=c)).countP F=cntC F w h L c:=by
 unfold cntC
 rw [List.countP_filter]
def gC (t f:Pt→Nat) (a b:Int) (c:Pt):Bool:=decide (0<t c∧a * (t c:Int)≤(f c:Int) * b)
def repTo (G:Pt→Bool) (w Y:Nat):List Pt:=((List.range Y).flatMap fun y=>rowPl y w).filter G
theorem repTo_zero (G:Pt→Bool) (w:Nat):repTo G w 0=[]:=rfl
theorem repTo_succ (G:Pt→Bool) (w Y:Nat):repTo G w (Y+1)=repTo G w Y++(rowPl Y w).filter G:=by
 unfold repTo
 rw [List.range_succ,List.flatMap_append,List.filter_append]
 simp
theorem rowG_zero (G:Pt→Bool) (Y:Nat):(rowPl Y 0).filter G=[]:=rfl
theorem rowG_succ (G:Pt→Bool) (Y X:Nat):(rowPl Y (X+1)).filter G=(rowPl Y X).filter G++(if G ((X:Int),(Y:Int))=true then [((X:Int),(Y:Int))] else []):=by
 rw [rowPl_succ,List.filter_append]
 congr 1
 cases h:G ((X:Int),(Y:Int)) <;> simp [h]
theorem repTo_len (G:Pt→Bool) (w:Nat):∀ Y,(repTo G w Y).length≤Y * w
 | 0=>by simp [repTo_zero]
 | Y+1=>by
  rw [repTo_succ,List.length_append]
  have h1:=repTo_len G w Y
  have h2:((rowPl Y w).filter G).length≤w:=by
   have:=List.length_filter_le G (rowPl Y w)
   rw [rowPl_len] at this
   exact this
  rw [Nat.succ_mul]
  omega
theorem rowG_len (G:Pt→Bool) (Y X:Nat):((rowPl Y X).filter G).length≤X:=by
 have:=List.length_filter_le G (rowPl Y X)
 rw [rowPl_len] at this
 exact this
def lowV (a b:Int):Bool:=decide (Nat.gcd a.natAbs b.toNat=1)
def repF (w h a b:Int):Int:=if outB w 1 60=true∨outB h 1 60=true then 1 else if b<1∨lowV a b=false then 3 else if outB a 0 b=true∨1000000<b then 1 else 0
theorem repF_ok {w h a b:Int} (h0:repF w h a b=0):(1≤w∧w≤60)∧(1≤h∧h≤60)∧(1≤b∧b≤1000000)∧0≤a∧a≤b:=by
 unfold repF at h0
 split at h0
 ·cases h0
 ·rename_i h1
  split at h0
  ·cases h0
  ·rename_i h2
   split at h0
   ·cases h0
   ·rename_i h3
    unfold outB at h1 h3
    simp only [decide_eq_true_eq,not_or] at h1 h2 h3
    omega
def cDom (F:Pt→Bool) (w h:Nat) (L:List Pt):MK→Bool
 | .p a b=>decide (0<cntC F w h L (a,b))
 | _=>false
def cVal (F:Pt→Bool) (w h:Nat) (L:List Pt):MK→Int
 | .p a b=>(cntC F w h L (a,b):Nat)
 | _=>0
theorem cGet (F:Pt→Bool) (w h:Nat) (L:List Pt) (a b:Int):(bif cDom F w h L (.p a b) then cVal F w h L (.p a b) else 0)=(cntC F w h L (a,b):Nat):=by
 simp only [cDom,cVal]
 by_cases e:0<cntC F w h L (a,b)
 ·rw [decide_eq_true e]; rfl
 ·have e':cntC F w h L (a,b)=0:=by omega
  rw [decide_eq_false e,e']; rfl
theorem cellOf_nat (w h x y:Nat):cellOf w h ((x:Int),(y:Int))=(((x % w:Nat):Int),((y % h:Nat):Int)):=by
 unfold cellOf
 simp
theorem cDom_hit {F:Pt→Bool} {w h:Nat} {L:List Pt} {x y:Nat} (hF:F ((x:Int),(y:Int))=true) :
  (fun m=>if m=MK.p ((x % w:Nat):Int) ((y % h:Nat):Int) then true else cDom F w h L m)=cDom F w h (L++[((x:Int),(y:Int))]):=by
 funext m
 cases m with
 | p a b =>
  simp only [cDom,cntC_snoc,cellOf_nat,hF,true_and,MK.p.injEq,Prod.mk.injEq]
  by_cases e:a=((x % w:Nat):Int)∧b=((y % h:Nat):Int)
  ·rw [if_pos e,if_pos ⟨e.1.symm,e.2.symm⟩]
   exact (decide_eq_true (by omega)).symm
  ·rw [if_neg e,if_neg (fun e'=>e ⟨e'.1.symm,e'.2.symm⟩),Nat.add_zero]
 | _=>rfl
theorem cVal_hit {F:Pt→Bool} {w h:Nat} {L:List Pt} {x y:Nat} (hF:F ((x:Int),(y:Int))=true) :
  (fun m=>if m=MK.p ((x % w:Nat):Int) ((y % h:Nat):Int) then ((cntC F w h L (((x % w:Nat):Int),((y % h:Nat):Int)):Nat):Int)+1 else cVal F w h L m)=cVal F w h (L++[((x:Int),(y:Int))]):=by
 funext m
 cases m with
 | p a b =>
  simp only [cVal,cntC_snoc,cellOf_nat,hF,true_and,MK.p.injEq,Prod.mk.injEq]
  by_cases e:a=((x % w:Nat):Int)∧b=((y % h:Nat):Int)
  ·rw [if_pos e,if_pos ⟨e.1.symm,e.2.symm⟩,e.1,e.2]
   omega
  ·rw [if_neg e,if_neg (fun e'=>e ⟨e'.1.symm,e'.2.symm⟩),Nat.add_zero]
 | _=>rfl
theorem cnt_miss {F:Pt→Bool} {w h:Nat} {L:List Pt} {p:Pt} (hF:F p=false) (c:Pt):cntC F w h (L++[p]) c=cntC F w h L c:=by
 rw [cntC_snoc,if_neg (by rw [hF]; simp),Nat.add_zero]
theorem cDom_miss {F:Pt→Bool} {w h:Nat} {L:List Pt} {p:Pt} (hF:F p=false):cDom F w h (L++[p])=cDom F w h L:=by
 funext m
 cases m <;> simp [cDom,cnt_miss hF]
theorem cVal_miss {F:Pt→Bool} {w h:Nat} {L:List Pt} {p:Pt} (hF:F p=false):cVal F w h (L++[p])=cVal F w h L:=by
 funext m
 cases m <;> simp [cVal,cnt_miss hF]
open Go.RowKit
theorem some_c (s nid:Nat) (nl nl':Bool) (A:List Int) (p:Nat) (n:Nat) (g:Nat→List UInt8) (h:s<nid) (hp:p≤1099511627775) (hA:A.length≤17592186044416) (h1:0<n) (hn:n≤1099511627776) :
  ACall Try.prog 8 [.ptr s 0,.lit nl' n [.s g]] [(s,strmC nl A p)] nid (.str (g (pickI A p n))) [(s,strmC nl A (p+1))]:=by
 obtain ⟨e1,e2,e3,e4,e5,e6,e7,e8,e9⟩:=id_all h
 refine acall_run c8 (by simp [a8]) ?_
 simp -dsimp only [aqA,↓seqK,↓blkK,↓loopK,step,stepBin,eqB,Nat.add_assoc nid,simprocAttr,z0,e1,e2,e3,e4,e5,e6,e7,e8,e9,a8]
 refine CallO.on (next_c _ _ _ _ _ _ (by omega) hp hA (by omega)) (subH_hit _ _ _) ?_
 simp -dsimp only [aqA,↓seqK,↓blkK,↓loopK,step,stepBin,eqB,Nat.add_assoc nid,simprocAttr,z0,e1,e2,e3,e4,e5,e6,e7,e8,e9]
 have:=nextV_bd A p (n:=(n:Int)) (by omega)
 refine ⟨this,RetOK.same (.inl rfl) rfl (by simp [strmC,liveIds]; omega) ?_ ?_⟩
 ·simp [cvT,step,res,strmC]
 ·simp [cvT,step,res,pickI]
theorem CallX.some_go {s id nid:Nat} {nl:Bool} {A:List Int} {p:Nat} {n T:Nat} {g:Nat→List UInt8} {H:Heap} {K:PV→Heap→List Nat→Prop} (hs:getH H s=strmC nl A p) (hid:getH H id=some (.arr T n [.s g])) (hne:(s==id)=false) (h:s<nid) (hp:p≤1099511627775) (hA:A.length≤17592186044416) (h1:0<n) (hn:n≤1099511627776)
  (hK:K (.str (g (pickI A p n))) [(s,strmC nl A (p+1)),(id,none)] [s,id]):CallX Try.prog 8 [.ptr s 0,.sl id 0 n] H nid K:=by
 refine CallX.given [id] (u:=[(s,strmC nl A (p+1))]) (fun nl'=>?_) (subH_get hs) (by simp [getH,hne]) hK
 have e:lends H [id] nl' [.ptr s 0,.sl id 0 n]=[.ptr s 0,.lit (nl' id) n [.s g]]:=by simp [lends,lend,hid,noOs]
 rw [e]
 exact some_c s _ nl _ A p n _ h hp hA h1 hn
theorem CallO.some_go {s id nid:Nat} {nl:Bool} {A:List Int} {p:Nat} {n T:Nat} {g:Nat→List UInt8} {H:Heap} {K:PV→Heap→Prop} (hs:getH H s=strmC nl A p) (hid:getH H id=some (.arr T n [.s g])) (hne:(s==id)=false) (h:s<nid) (hp:p≤1099511627775) (hA:A.length≤17592186044416) (h1:0<n) (hn:n≤1099511627776)
  (hK:K (.str (g (pickI A p n))) [(s,strmC nl A (p+1)),(id,none)]):CallOK Try.prog 8 [.ptr s 0,.sl id 0 n] H nid K :=
 CallO.x (CallX.some_go hs hid hne h hp hA h1 hn hK)
theorem getD_all {α:Type} {P:α→Prop} {l:List α} {d:α} (h:∀ x∈l,P x) {i:Nat} (hi:i<l.length):P (l.getD i d):=by
 rw [List.getD_eq_getElem?_getD,List.getElem?_eq_getElem hi]
 exact h _ (List.getElem_mem _)
open Go.RowKit
theorem any_range {s:List UInt8} {F:UInt8→Bool}:(List.range s.length).any (fun i=>F (s.getD i 0))=s.any F:=by
 rw [Bool.eq_iff_iff,List.any_eq_true,List.any_eq_true]
 constructor
 ·rintro ⟨i,hi,h⟩
  have hi':=List.mem_range.1 hi
  refine ⟨s[i],List.getElem_mem _,?_⟩
  rwa [List.getD_eq_getElem?_getD,List.getElem?_eq_getElem hi'] at h
 ·rintro ⟨x,hx,h⟩
  obtain ⟨i,hi,rfl⟩:=List.getElem_of_mem hx
  refine ⟨i,List.mem_range.2 hi,?_⟩
  rw [List.getD_eq_getElem?_getD,List.getElem?_eq_getElem hi]
  exact h
theorem indexFB (f:Nat) (F:UInt8→Bool) (hf:∀ (b:UInt8) nid,ACall Try.prog f [.int .u8 ((b.toNat:Nat))] [] nid (.bool (F b)) []) (nl:Bool) (n:Nat) (g:Nat→UInt8) (nid:Nat) (hn:n≤1000000000) :
  ∃ r:Int,(-1≤r∧(0≤r↔(List.range n).any (fun i=>F (g i))=true))∧ACall Try.prog 74 [.lit nl n [.i .u8 fun i=>((g i).toNat:Nat)],.fn f []] [] nid (.int .i64 r) []:=by
 refine acall_ex c74 (by simp [a74]) ?_
 simp -dsimp only [aqT0,ROp0,aqA,↓seqK,↓blkK,↓loopK,step,stepBin,eqB,Nat.add_assoc nid,simprocAttr,z0,Int.cast_ofNat_Int,Int.reduceBEq,Int.reduceBNe,Int.reduceLT,Int.reduceLE,Int.reduceAdd,Int.reduceSub,Int.reduceMul,Int.reduceToNat,Int.reduceNeg,Int.reduceTMod,Int.reduceEq,not_false_eq_true,Int.reducePow,Int.reduceFDiv,Nat.reducePow,Nat.reduceSub,Nat.reduceMul,Nat.min_eq_left,Nat.reduceEqDiff,BEq.rfl,Int.tdiv_one,LN_succ,a74]
 refine LP0.mkP (fun k:Nat=>k≤n∧∀ j,j<k→F (g j)=false) (fun k:Nat=>⟨[(8,.int .i64 k),(7,.int .i64 n),(0,.lit nl n [.i .u8 fun i=>((g i).toNat:Nat)]),(1,.fn f [])],[],nid+100,nid⟩) (fun k=>n+1 - k) 0 ⟨by omega,fun j hj=>by omega⟩ (Cov.go [] [] ?_) (fun k hk=>?_)
 ·simp [cvT,step,res]
 obtain ⟨hk,hall⟩:=hk
 simp -dsimp only [aqT0,ROp0,aqA,↓seqK,↓blkK,↓loopK,step,stepBin,eqB,Nat.add_assoc nid,simprocAttr,z0,Int.cast_ofNat_Int,Int.reduceBEq,Int.reduceBNe,Int.reduceLT,Int.reduceLE,Int.reduceAdd,Int.reduceSub,Int.reduceMul,Int.reduceToNat,Int.reduceNeg,Int.reduceTMod,Int.reduceEq,not_false_eq_true,Int.reducePow,Int.reduceFDiv,Nat.reducePow,Nat.reduceSub,Nat.reduceMul,Nat.min_eq_left,Nat.reduceEqDiff,BEq.rfl,Int.tdiv_one,LN_succ]
 refine S2.dec (fun h3=>?_) (fun h3=>?_) <;> simp -dsimp only [aqT0,ROp0,aqA,↓seqK,↓blkK,↓loopK,step,stepBin,eqB,Nat.add_assoc nid,simprocAttr,z0,Int.cast_ofNat_Int,Int.reduceBEq,Int.reduceBNe,Int.reduceLT,Int.reduceLE,Int.reduceAdd,Int.reduceSub,Int.reduceMul,Int.reduceToNat,Int.reduceNeg,Int.reduceTMod,Int.reduceEq,not_false_eq_true,Int.reducePow,Int.reduceFDiv,Nat.reducePow,Nat.reduceSub,Nat.reduceMul,Nat.min_eq_left,Nat.reduceEqDiff,BEq.rfl,Int.tdiv_one,LN_succ]
 ·have hkl:k<n:=by omega
  refine ⟨by omega,CallX.pure (hf _ _) ?_⟩
  simp -dsimp only [aqT0,ROp0,aqA,↓seqK,↓blkK,↓loopK,step,stepBin,eqB,Nat.add_assoc nid,simprocAttr,z0,Int.cast_ofNat_Int,Int.reduceBEq,Int.reduceBNe,Int.reduceLT,Int.reduceLE,Int.reduceAdd,Int.reduceSub,Int.reduceMul,Int.reduceToNat,Int.reduceNeg,Int.reduceTMod,Int.reduceEq,not_false_eq_true,Int.reducePow,Int.reduceFDiv,Nat.reducePow,Nat.reduceSub,Nat.reduceMul,Nat.min_eq_left,Nat.reduceEqDiff,BEq.rfl,Int.tdiv_one,LN_succ]
  refine S2.intro (fun h4=>?_) (fun h4=>?_) <;> simp -dsimp only [aqT0,ROp0,aqA,↓seqK,↓blkK,↓loopK,step,stepBin,eqB,Nat.add_assoc nid,simprocAttr,z0,Int.cast_ofNat_Int,Int.reduceBEq,Int.reduceBNe,Int.reduceLT,Int.reduceLE,Int.reduceAdd,Int.reduceSub,Int.reduceMul,Int.reduceToNat,Int.reduceNeg,Int.reduceTMod,Int.reduceEq,not_false_eq_true,Int.reducePow,Int.reduceFDiv,Nat.reducePow,Nat.reduceSub,Nat.reduceMul,Nat.min_eq_left,Nat.reduceEqDiff,BEq.rfl,Int.tdiv_one,LN_succ]
  ·refine EndOK.mk (k:Int) ⟨by omega,⟨fun _=>List.any_eq_true.2 ⟨k,List.mem_range.2 hkl,h4⟩,fun _=>by omega⟩⟩ ?_
   refine RetOK.pure (.inl rfl) rfl ?_
   simp [cvT,step,res]
  ·refine ⟨by unfold inI64; omega,k+1,⟨⟨by omega,fun j hj=>?_⟩,by omega⟩,Cov.go [] [] ?_⟩
   ·rcases (by omega:j<k∨j=k) with hj | hj
    ·exact hall j hj
    ·rw [hj]; exact h4
   ·simp [cvT,step,res]
 ·have hkn:k=n:=by omega
  subst hkn
  refine EndOK.mk (-1:Int) ⟨by omega,⟨fun h=>by omega,fun h=>?_⟩⟩ ?_
  ·obtain ⟨i,hi,h⟩:=List.any_eq_true.1 h
   rw [hall i (List.mem_range.1 hi)] at h
   cases h
  ·refine RetOK.pure (.inl rfl) rfl ?_
   simp [cvT,step,res]
theorem containsFB (f:Nat) (F:UInt8→Bool) (hf:∀ (b:UInt8) nid,ACall Try.prog f [.int .u8 ((b.toNat:Nat))] [] nid (.bool (F b)) []) (nl:Bool) (n:Nat) (g:Nat→UInt8) (nid:Nat) (hn:n≤1000000000) :
  ACall Try.prog 36 [.lit nl n [.i .u8 fun i=>((g i).toNat:Nat)],.fn f []] [] nid (.bool ((List.range n).any (fun i=>F (g i)))) []:=by
 refine acall_run c36 (by simp [a36]) ?_
 simp -dsimp only [aqA,↓seqK,↓blkK,↓loopK,step,stepBin,eqB,Nat.add_assoc nid,simprocAttr,z0,a36]
 refine CallO.onE (Hs:=[]) (indexFB f F hf nl n g _ hn) (subH_nil _) (fun r hr=>?_)
 simp -dsimp only [aqA,↓seqK,↓blkK,↓loopK,step,stepBin,eqB,Nat.add_assoc nid,simprocAttr,z0,Int.cast_ofNat_Int,Int.reduceBEq,Int.reduceBNe,Int.reduceLT,Int.reduceLE,Int.reduceAdd,Int.reduceSub,Int.reduceMul,Int.reduceToNat,Int.reduceNeg,Int.reduceTMod,Int.reduceEq,not_false_eq_true,Int.reducePow,Int.reduceFDiv,Nat.reducePow,Nat.reduceSub,Nat.reduceMul,Nat.min_eq_left,Nat.reduceEqDiff,BEq.rfl,Int.tdiv_one,LN_succ]
 have e:decide (0≤r)=(List.range n).any (fun i=>F (g i)):=by
  rw [Bool.eq_iff_iff,decide_eq_true_eq]; exact hr.2
 rw [e]
 refine RetOK.pure (.inl rfl) rfl ?_
 simp [cvT,step,res]
theorem isDie_c (n:Nat) (hn:n<256) (nid:Nat):ACall Try.prog 38 [.int .u8 (n:Nat)] [] nid (.bool (placeB (n:Nat))) []:=by
 refine acall_run c38 (by simp [a38]) ?_
 simp -dsimp only [aqA,↓seqK,↓blkK,↓loopK,step,stepBin,eqB,Nat.add_assoc nid,simprocAttr,z0,a38]
 refine CallO.pure (indexB_c binsL (n:Nat) _) ?_
 have hb:=bins_ok n hn
 rw [Int.toNat_natCast]
 simp -dsimp only [aqA,↓seqK,↓blkK,↓loopK,step,stepBin,eqB,Nat.add_assoc nid,simprocAttr,z0,hb]
 unfold placeB
 cases h0:isBinV (n:Nat) <;> simp -dsimp only [aqA,↓seqK,↓blkK,↓loopK,step,stepBin,eqB,Nat.add_assoc nid,simprocAttr,z0]
 ·cases h1:(((n:Nat):Int)==46) <;> simp -dsimp only [aqA,↓seqK,↓blkK,↓loopK,step,stepBin,eqB,Nat.add_assoc nid,simprocAttr,z0,h1]
  ·cases h2:(((n:Nat):Int)==63) <;> simp -dsimp only [aqA,↓seqK,↓blkK,↓loopK,step,stepBin,eqB,Nat.add_assoc nid,simprocAttr,z0,h2] <;> refine RetOK.pure (.inl rfl) rfl ?_ <;> simp [cvT,step,res,h1,h2]
  ·refine RetOK.pure (.inl rfl) rfl ?_
   simp [cvT,step,res]
 ·refine RetOK.pure (.inl rfl) rfl ?_
  simp [cvT,step,res]
def wafP (nl:Bool) (W:Waf):PV:=.agg [.lit nl W.rows.length [.s fun i=>W.rows.getD i []],.str W.pass]
theorem odd_c2 (s:List UInt8) (nid:Nat) (hs:s.length≤1000000000):ACall Try.prog 76 [.str s] [] nid (.bool (oddB s)) []:=by
 refine acall_run c76 (by simp [a76]) ?_
 simp -dsimp only [aqA,↓seqK,↓blkK,↓loopK,step,stepBin,eqB,Nat.add_assoc nid,simprocAttr,z0,a76]
 refine CallO.pure (containsFB 98 (fun c=>!placeB (byteI c)) (fun c nid=>oddF_c _ nid) false s.length (fun i=>s.getD i 0) _ hs) ?_
 have e:(List.range s.length).any (fun i=>!placeB (byteI (s.getD i 0)))=oddB s:=any_range (F:=fun c=>!placeB (byteI c))
 rw [e]
 simp -dsimp only [aqA,↓seqK,↓blkK,↓loopK,step,stepBin,eqB,Nat.add_assoc nid,simprocAttr,z0,Int.cast_ofNat_Int,Int.reduceBEq,Int.reduceBNe,Int.reduceLT,Int.reduceLE,Int.reduceAdd,Int.reduceSub,Int.reduceMul,Int.reduceToNat,Int.reduceNeg,Int.reduceTMod,Int.reduceEq,not_false_eq_true,Int.reducePow,Int.reduceFDiv,Nat.reducePow,Nat.reduceSub,Nat.reduceMul,Nat.min_eq_left,Nat.reduceEqDiff,BEq.rfl,Int.tdiv_one,LN_succ]
 refine RetOK.pure (.inl rfl) rfl ?_
 simp [cvT,step,res]
structure WafBd (W:Waf):Prop where
 rows:W.rows.length≤1000000
 row:∀ r∈W.rows,r.length≤1000000
 pass:W.pass.length≤1000000
theorem WafBd.at {W:Waf} (h:WafBd W) (k:Nat):(W.rows.getD k []).length≤1000000:=by
 rw [List.getD_eq_getElem?_getD]
 cases hg:W.rows[k]? with
 | none=>simp
 | some x=>exact h.row x (List.mem_of_getElem? hg)
theorem waferV_row {W:Waf} (h0:W.rows.length≠0) (h1:W.rows.length≤60) {e:Int} (h:firstBad (rowBad (wideOf W)) W.rows=e) (he:e≠0):waferV W=e:=by
 unfold waferV; rw [if_neg h0,if_neg (by omega),h,if_pos he]
theorem waferV_pass {W:Waf} (h0:W.rows.length≠0) (h1:W.rows.length≤60) (h:firstBad (rowBad (wideOf W)) W.rows=0):waferV W=passV W.pass:=by
 unfold waferV; rw [if_neg h0,if_neg (by omega),h,if_neg (by simp)]
set_option maxHeartbeats 4000000 in
theorem checkWafer_all (nl:Bool) (W:Waf) (nid:Nat) (hW:WafBd W):ACall Try.prog 40 [wafP nl W] [] nid (.int .i64 (waferV W)) []:=by
 have hR:=hW.rows
 have hP:=hW.pass
 refine acall_run c40 (by simp [a40]) ?_
 unfold wafP
 simp -dsimp only [a40,aqA,↓seqK,↓blkK,↓loopK,step,stepBin,eqB,Nat.add_assoc nid,simprocAttr,z0,Int.cast_ofNat_Int,Int.reduceBEq,Int.reduceBNe,Int.reduceLT,Int.reduceLE,Int.reduceAdd,Int.reduceSub,Int.reduceMul,Int.reduceToNat,Int.reduceNeg,Int.reduceTMod,Int.reduceEq,not_false_eq_true,Int.reducePow,Int.reduceFDiv,Nat.reducePow,Nat.reduceSub,Nat.reduceMul,Nat.min_eq_left,Nat.reduceEqDiff,BEq.rfl,Int.tdiv_one,LN_succ]
 refine S2.intro (fun h0=>?_) (fun h0=>?_) <;> simp -dsimp only [aqA,↓seqK,↓blkK,↓loopK,step,stepBin,eqB,Nat.add_assoc nid,simprocAttr,z0,Int.cast_ofNat_Int,Int.reduceBEq,Int.reduceBNe,Int.reduceLT,Int.reduceLE,Int.reduceAdd,Int.reduceSub,Int.reduceMul,Int.reduceToNat,Int.reduceNeg,Int.reduceTMod,Int.reduceEq,not_false_eq_true,Int.reducePow,Int.reduceFDiv,Nat.reducePow,Nat.reduceSub,Nat.reduceMul,Nat.min_eq_left,Nat.reduceEqDiff,BEq.rfl,Int.tdiv_one,LN_succ]
 ·have e:waferV W=8:=by unfold waferV; rw [if_pos (by simpa using h0)]
  rw [e]
  refine RetOK.pure (.inl rfl) rfl ?_
  simp [cvT,step,res]
 have h0':W.rows.length≠0:=by simpa using h0
 refine S2.dec (fun h1=>?_) (fun h1=>?_) <;> simp -dsimp only [aqA,↓seqK,↓blkK,↓loopK,step,stepBin,eqB,Nat.add_assoc nid,simprocAttr,z0,Int.cast_ofNat_Int,Int.reduceBEq,Int.reduceBNe,Int.reduceLT,Int.reduceLE,Int.reduceAdd,Int.reduceSub,Int.reduceMul,Int.reduceToNat,Int.reduceNeg,Int.reduceTMod,Int.reduceEq,not_false_eq_true,Int.reducePow,Int.reduceFDiv,Nat.reducePow,Nat.reduceSub,Nat.reduceMul,Nat.min_eq_left,Nat.reduceEqDiff,BEq.rfl,Int.tdiv_one,LN_succ]
 ·have e:waferV W=2:=by unfold waferV; rw [if_neg h0',if_pos (by omega)]
  rw [e]
  refine RetOK.pure (.inl rfl) rfl ?_
  simp [cvT,step,res]
 have h1':W.rows.length≤60:=by omega
 refine LP.mkP (fun k:Nat=>k≤W.rows.length∧firstBad (rowBad (wideOf W)) (W.rows.take k)=0) (fun k:Nat=>⟨[(19,.int .i64 k),(18,.int .i64 W.rows.length),(17,.lit nl W.rows.length [.s fun i=>W.rows.getD i []]),(1,.ptr nid 0)],[(nid,some (.box 28 [.lit nl W.rows.length [.s fun i=>W.rows.getD i []],.str W.pass]))],nid+100,nid⟩) (fun k=>W.rows.length+1 - k) 0 ⟨by omega,rfl⟩ (Cov.go [] [] ?_) (fun k hk=>?_)
 ·simp [cvT,step,res]
 obtain ⟨hk,hb⟩:=hk
 simp -dsimp only [aqA,↓seqK,↓blkK,↓loopK,step,stepBin,eqB,Nat.add_assoc nid,simprocAttr,z0,Int.cast_ofNat_Int,Int.reduceBEq,Int.reduceBNe,Int.reduceLT,Int.reduceLE,Int.reduceAdd,Int.reduceSub,Int.reduceMul,Int.reduceToNat,Int.reduceNeg,Int.reduceTMod,Int.reduceEq,not_false_eq_true,Int.reducePow,Int.reduceFDiv,Nat.reducePow,Nat.reduceSub,Nat.reduceMul,Nat.min_eq_left,Nat.reduceEqDiff,BEq.rfl,Int.tdiv_one,LN_succ]
 refine S2.dec (fun h2=>?_) (fun h2=>?_) <;> simp -dsimp only [aqA,↓seqK,↓blkK,↓loopK,step,stepBin,eqB,Nat.add_assoc nid,simprocAttr,z0,Int.cast_ofNat_Int,Int.reduceBEq,Int.reduceBNe,Int.reduceLT,Int.reduceLE,Int.reduceAdd,Int.reduceSub,Int.reduceMul,Int.reduceToNat,Int.reduceNeg,Int.reduceTMod,Int.reduceEq,not_false_eq_true,Int.reducePow,Int.reduceFDiv,Nat.reducePow,Nat.reduceSub,Nat.reduceMul,Nat.min_eq_left,Nat.reduceEqDiff,BEq.rfl,Int.tdiv_one,LN_succ]
 ·have hkl:k<W.rows.length:=by omega
  obtain ⟨bad,good⟩:=rowsFB (d:=[]) hkl hb
  have hrl:=hW.at k
  have hw0:wideOf W=(W.rows.getD 0 []).length:=rfl
  generalize hr:W.rows.getD k []=r at *
  rw [beq_nil]
  have bad':∀ e:Int,rowBad (wideOf W) r=e→e≠0→waferV W=e:=fun e h3 he=>waferV_row h0' h1' (by rw [bad (by rw [h3]; exact he),h3]) he
  refine ⟨by omega,S2.dec (fun h3=>?_) (fun h3=>?_)⟩ <;> simp -dsimp only [aqA,↓seqK,↓blkK,↓loopK,step,stepBin,eqB,Nat.add_assoc nid,simprocAttr,z0,Int.cast_ofNat_Int,Int.reduceBEq,Int.reduceBNe,Int.reduceLT,Int.reduceLE,Int.reduceAdd,Int.reduceSub,Int.reduceMul,Int.reduceToNat,Int.reduceNeg,Int.reduceTMod,Int.reduceEq,not_false_eq_true,Int.reducePow,Int.reduceFDiv,Nat.reducePow,Nat.reduceSub,Nat.reduceMul,Nat.min_eq_left,Nat.reduceEqDiff,BEq.rfl,Int.tdiv_one,LN_succ]
  ·rw [bad' 8 (by unfold rowBad; rw [if_pos h3]) (by decide)]
   refine RetOK.pure (.inl rfl) rfl ?_
   simp [cvT,step,res]
  refine S2.dec (fun h4=>?_) (fun h4=>?_) <;> simp -dsimp only [aqA,↓seqK,↓blkK,↓loopK,step,stepBin,eqB,Nat.add_assoc nid,simprocAttr,z0,Int.cast_ofNat_Int,Int.reduceBEq,Int.reduceBNe,Int.reduceLT,Int.reduceLE,Int.reduceAdd,Int.reduceSub,Int.reduceMul,Int.reduceToNat,Int.reduceNeg,Int.reduceTMod,Int.reduceEq,not_false_eq_true,Int.reducePow,Int.reduceFDiv,Nat.reducePow,Nat.reduceSub,Nat.reduceMul,Nat.min_eq_left,Nat.reduceEqDiff,BEq.rfl,Int.tdiv_one,LN_succ]
  ·rw [bad' 2 (by unfold rowBad; rw [if_neg h3,if_pos (by omega)]) (by decide)]
   refine RetOK.pure (.inl rfl) rfl ?_
   simp [cvT,step,res]
  refine ⟨by omega,S2.intro (fun h5=>?_) (fun h5=>?_)⟩ <;> simp -dsimp only [aqA,↓seqK,↓blkK,↓loopK,step,stepBin,eqB,Nat.add_assoc nid,simprocAttr,z0,Int.cast_ofNat_Int,Int.reduceBEq,Int.reduceBNe,Int.reduceLT,Int.reduceLE,Int.reduceAdd,Int.reduceSub,Int.reduceMul,Int.reduceToNat,Int.reduceNeg,Int.reduceTMod,Int.reduceEq,not_false_eq_true,Int.reducePow,Int.reduceFDiv,Nat.reducePow,Nat.reduceSub,Nat.reduceMul,Nat.min_eq_left,Nat.reduceEqDiff,BEq.rfl,Int.tdiv_one,LN_succ]
  ·have h5':r.length≠wideOf W:=by rw [hw0]; intro e; rw [e] at h5; simp at h5
   rw [bad' 3 (by unfold rowBad; rw [if_neg h3,if_neg (by omega),if_pos h5']) (by decide)]
   refine RetOK.pure (.inl rfl) rfl ?_
   simp [cvT,step,res]
  have h5':r.length=wideOf W:=by
   have h5a:((r.length:Nat):Int)=((W.rows.getD 0 []).length:Nat):=by simpa only [bne_eq_false_iff_eq] using h5
   rw [hw0]; omega
  refine CallO.pure (odd_c2 r _ (by omega)) ?_
  simp -dsimp only [aqA,↓seqK,↓blkK,↓loopK,step,stepBin,eqB,Nat.add_assoc nid,simprocAttr,z0,Int.cast_ofNat_Int,Int.reduceBEq,Int.reduceBNe,Int.reduceLT,Int.reduceLE,Int.reduceAdd,Int.reduceSub,Int.reduceMul,Int.reduceToNat,Int.reduceNeg,Int.reduceTMod,Int.reduceEq,not_false_eq_true,Int.reducePow,Int.reduceFDiv,Nat.reducePow,Nat.reduceSub,Nat.reduceMul,Nat.min_eq_left,Nat.reduceEqDiff,BEq.rfl,Int.tdiv_one,LN_succ]
  refine S2.intro (fun h6=>?_) (fun h6=>?_) <;> simp -dsimp only [aqA,↓seqK,↓blkK,↓loopK,step,stepBin,eqB,Nat.add_assoc nid,simprocAttr,z0,Int.cast_ofNat_Int,Int.reduceBEq,Int.reduceBNe,Int.reduceLT,Int.reduceLE,Int.reduceAdd,Int.reduceSub,Int.reduceMul,Int.reduceToNat,Int.reduceNeg,Int.reduceTMod,Int.reduceEq,not_false_eq_true,Int.reducePow,Int.reduceFDiv,Nat.reducePow,Nat.reduceSub,Nat.reduceMul,Nat.min_eq_left,Nat.reduceEqDiff,BEq.rfl,Int.tdiv_one,LN_succ]
  ·rw [bad' 9 (by unfold rowBad; rw [if_neg h3,if_neg (by omega),if_neg (by omega),if_pos h6]) (by decide)]
   refine RetOK.pure (.inl rfl) rfl ?_
   simp [cvT,step,res]
  ·refine ⟨by unfold inI64; omega,k+1,⟨⟨by omega,good (by unfold rowBad; rw [if_neg h3,if_neg (by omega),if_neg (by omega),if_neg (by simp [h6])])⟩,by omega⟩,Cov.go [] [] ?_⟩
   simp [cvT,step,res]
 have hkn:k=W.rows.length:=by omega
 subst hkn
 rw [List.take_length] at hb
 rw [waferV_pass h0' h1' hb]
 refine LP.mkP (fun k:Nat=>k≤W.pass.length∧firstBad (passBad W.pass) ((List.range W.pass.length).take k)=0) (fun k:Nat=>⟨[(46,.int .i64 k),(45,.int .i64 W.pass.length),(1,.ptr nid 0)],[(nid,some (.box 28 [.lit nl W.rows.length [.s fun i=>W.rows.getD i []],.str W.pass]))],nid+300,nid⟩) (fun k=>W.pass.length+1 - k) 0 ⟨by omega,rfl⟩ (Cov.go [] [] ?_) (fun k hk=>?_)
 ·simp [cvT,step,res]
 obtain ⟨hk,hb⟩:=hk
 simp -dsimp only [aqA,↓seqK,↓blkK,↓loopK,step,stepBin,eqB,Nat.add_assoc nid,simprocAttr,z0,Int.cast_ofNat_Int,Int.reduceBEq,Int.reduceBNe,Int.reduceLT,Int.reduceLE,Int.reduceAdd,Int.reduceSub,Int.reduceMul,Int.reduceToNat,Int.reduceNeg,Int.reduceTMod,Int.reduceEq,not_false_eq_true,Int.reducePow,Int.reduceFDiv,Nat.reducePow,Nat.reduceSub,Nat.reduceMul,Nat.min_eq_left,Nat.reduceEqDiff,BEq.rfl,Int.tdiv_one,LN_succ]
 refine S2.dec (fun h2=>?_) (fun h2=>?_) <;> simp -dsimp only [aqA,↓seqK,↓blkK,↓loopK,step,stepBin,eqB,Nat.add_assoc nid,simprocAttr,z0,Int.cast_ofNat_Int,Int.reduceBEq,Int.reduceBNe,Int.reduceLT,Int.reduceLE,Int.reduceAdd,Int.reduceSub,Int.reduceMul,Int.reduceToNat,Int.reduceNeg,Int.reduceTMod,Int.reduceEq,not_false_eq_true,Int.reducePow,Int.reduceFDiv,Nat.reducePow,Nat.reduceSub,Nat.reduceMul,Nat.min_eq_left,Nat.reduceEqDiff,BEq.rfl,Int.tdiv_one,LN_succ]
 ·have hkl:k<W.pass.length:=by omega
  obtain ⟨bad,good⟩:=rangeFB hkl hb
  refine ⟨by omega,CallO.pure (isBin_c _ _) ?_⟩
  simp -dsimp only [aqA,↓seqK,↓blkK,↓loopK,step,stepBin,eqB,Nat.add_assoc nid,simprocAttr,z0,Int.cast_ofNat_Int,Int.reduceBEq,Int.reduceBNe,Int.reduceLT,Int.reduceLE,Int.reduceAdd,Int.reduceSub,Int.reduceMul,Int.reduceToNat,Int.reduceNeg,Int.reduceTMod,Int.reduceEq,not_false_eq_true,Int.reducePow,Int.reduceFDiv,Nat.reducePow,Nat.reduceSub,Nat.reduceMul,Nat.min_eq_left,Nat.reduceEqDiff,BEq.rfl,Int.tdiv_one,LN_succ]
  have hdef:passBad W.pass k=if isBinV (byteI (W.pass.getD k 0))=false then 9 else if 0<k∧byteI (W.pass.getD k 0)≤byteI (W.pass.getD (k - 1) 0) then 7 else 0:=rfl
  unfold byteI at hdef
  cases h3:isBinV (((W.pass.getD k 0).toNat:Nat):Int) <;> simp -dsimp only [aqA,↓seqK,↓blkK,↓loopK,step,stepBin,eqB,Nat.add_assoc nid,simprocAttr,z0,Int.cast_ofNat_Int,Int.reduceBEq,Int.reduceBNe,Int.reduceLT,Int.reduceLE,Int.reduceAdd,Int.reduceSub,Int.reduceMul,Int.reduceToNat,Int.reduceNeg,Int.reduceTMod,Int.reduceEq,not_false_eq_true,Int.reducePow,Int.reduceFDiv,Nat.reducePow,Nat.reduceSub,Nat.reduceMul,Nat.min_eq_left,Nat.reduceEqDiff,BEq.rfl,Int.tdiv_one,LN_succ]
  ·rw [h3,if_pos rfl] at hdef
   have:passV W.pass=9:=by unfold passV; rw [bad (by rw [hdef]; decide),hdef]
   rw [this]
   refine RetOK.pure (.inl rfl) rfl ?_
   simp [cvT,step,res]
  rw [h3,if_neg (by simp)] at hdef
  refine S2.dec (fun h4=>?_) (fun h4=>?_) <;> simp -dsimp only [aqA,↓seqK,↓blkK,↓loopK,step,stepBin,eqB,Nat.add_assoc nid,simprocAttr,z0,Int.cast_ofNat_Int,Int.reduceBEq,Int.reduceBNe,Int.reduceLT,Int.reduceLE,Int.reduceAdd,Int.reduceSub,Int.reduceMul,Int.reduceToNat,Int.reduceNeg,Int.reduceTMod,Int.reduceEq,not_false_eq_true,Int.reducePow,Int.reduceFDiv,Nat.reducePow,Nat.reduceSub,Nat.reduceMul,Nat.min_eq_left,Nat.reduceEqDiff,BEq.rfl,Int.tdiv_one,LN_succ]
  ·have hk1:((k:Int) - 1).toNat=k - 1:=by omega
   rw [hk1]
   refine ⟨by omega,by unfold inI64; omega,by omega,S2.dec (fun h5=>?_) (fun h5=>?_)⟩ <;> simp -dsimp only [aqA,↓seqK,↓blkK,↓loopK,step,stepBin,eqB,Nat.add_assoc nid,simprocAttr,z0,Int.cast_ofNat_Int,Int.reduceBEq,Int.reduceBNe,Int.reduceLT,Int.reduceLE,Int.reduceAdd,Int.reduceSub,Int.reduceMul,Int.reduceToNat,Int.reduceNeg,Int.reduceTMod,Int.reduceEq,not_false_eq_true,Int.reducePow,Int.reduceFDiv,Nat.reducePow,Nat.reduceSub,Nat.reduceMul,Nat.min_eq_left,Nat.reduceEqDiff,BEq.rfl,Int.tdiv_one,LN_succ]
   ·rw [if_pos ⟨by omega,h5⟩] at hdef
    have:passV W.pass=7:=by unfold passV; rw [bad (by rw [hdef]; decide),hdef]
    rw [this]
    refine RetOK.pure (.inl rfl) rfl ?_
    simp [cvT,step,res]
   ·rw [if_neg (fun h=>h5 h.2)] at hdef
    refine ⟨by unfold inI64; omega,k+1,⟨⟨by omega,good hdef⟩,by omega⟩,Cov.go [] [] ?_⟩
    simp [cvT,step,res]
  ·rw [if_neg (fun h=>h4 (by omega))] at hdef
   refine ⟨by unfold inI64; omega,k+1,⟨⟨by omega,good hdef⟩,by omega⟩,Cov.go [] [] ?_⟩
   simp [cvT,step,res]
 ·have hkn:k=W.pass.length:=by omega
  subst hkn
  have:passV W.pass=0:=by unfold passV; rwa [List.take_of_length_le (by simp)] at hb
  rw [this]
  refine RetOK.pure (.inl rfl) rfl ?_
  simp [cvT,step,res]
theorem dieF_c (b:UInt8) (nid:Nat):ACall Try.prog 37 [.int .u8 ((b.toNat:Nat))] [] nid (.bool (!placeB (byteI b))) []:=by
 refine acall_run c37 (by simp [a37]) ?_
 simp -dsimp only [aqA,↓seqK,↓blkK,↓loopK,step,stepBin,eqB,Nat.add_assoc nid,simprocAttr,z0,a37]
 refine CallO.pure (isDie_c b.toNat (UInt8.toNat_lt b) _) ?_
 simp -dsimp only [aqA,↓seqK,↓blkK,↓loopK,step,stepBin,eqB,Nat.add_assoc nid,simprocAttr,z0]
 refine RetOK.pure (.inl rfl) rfl ?_
 simp [cvT,step,res,byteI]
theorem bins_byte (b:UInt8):decide (Lib.indexByte binsL b<0)=!isBinV (byteI b):=by
 have h:=bins_ok b.toNat (UInt8.toNat_lt b)
 have e:b.toNat.toUInt8=b:=by simp
 rw [e] at h
 unfold byteI
 rw [← h]
 by_cases h2:0≤Lib.indexByte binsL b
 ·simp [h2]
 ·simp [h2]; omega
theorem passFault_c (P:List UInt8) (nid:Nat) (hP:P.length≤1000000):ACall Try.prog 39 [.str P] [] nid (.int .i64 (passV P)) []:=by
 refine acall_run c39 (by simp [a39]) ?_
 simp -dsimp only [a39,aqA,↓seqK,↓blkK,↓loopK,step,stepBin,eqB,Nat.add_assoc nid,simprocAttr,z0,Int.cast_ofNat_Int,Int.reduceBEq,Int.reduceBNe,Int.reduceLT,Int.reduceLE,Int.reduceAdd,Int.reduceSub,Int.reduceMul,Int.reduceToNat,Int.reduceNeg,Int.reduceTMod,Int.reduceEq,not_false_eq_true,Int.reducePow,Int.reduceFDiv,Nat.reducePow,Nat.reduceSub,Nat.reduceMul,Nat.min_eq_left,Nat.reduceEqDiff,BEq.rfl,Int.tdiv_one,LN_succ]
 refine LP.mkP (fun k:Nat=>k≤P.length∧firstBad (passBad P) ((List.range P.length).take k)=0) (fun k:Nat=>⟨[(6,.int .i64 k),(5,.int .i64 P.length),(0,.str P)],[],nid+300,nid⟩) (fun k=>P.length+1 - k) 0 ⟨by omega,rfl⟩ (Cov.go [] [] ?_) (fun k hk=>?_)
 ·simp [cvT,step,res]
 obtain ⟨hk,hb⟩:=hk
 simp -dsimp only [aqA,↓seqK,↓blkK,↓loopK,step,stepBin,eqB,Nat.add_assoc nid,simprocAttr,z0,Int.cast_ofNat_Int,Int.reduceBEq,Int.reduceBNe,Int.reduceLT,Int.reduceLE,Int.reduceAdd,Int.reduceSub,Int.reduceMul,Int.reduceToNat,Int.reduceNeg,Int.reduceTMod,Int.reduceEq,not_false_eq_true,Int.reducePow,Int.reduceFDiv,Nat.reducePow,Nat.reduceSub,Nat.reduceMul,Nat.min_eq_left,Nat.reduceEqDiff,BEq.rfl,Int.tdiv_one,LN_succ]
 refine S2.dec (fun h2=>?_) (fun h2=>?_) <;> simp -dsimp only [aqA,↓seqK,↓blkK,↓loopK,step,stepBin,eqB,Nat.add_assoc nid,simprocAttr,z0,Int.cast_ofNat_Int,Int.reduceBEq,Int.reduceBNe,Int.reduceLT,Int.reduceLE,Int.reduceAdd,Int.reduceSub,Int.reduceMul,Int.reduceToNat,Int.reduceNeg,Int.reduceTMod,Int.reduceEq,not_false_eq_true,Int.reducePow,Int.reduceFDiv,Nat.reducePow,Nat.reduceSub,Nat.reduceMul,Nat.min_eq_left,Nat.reduceEqDiff,BEq.rfl,Int.tdiv_one,LN_succ]
 ·have hkl:k<P.length:=by omega
  obtain ⟨bad,good⟩:=rangeFB hkl hb
  refine ⟨by omega,CallO.pure (indexB_c binsL _ _) ?_⟩
  have hbb:=bins_byte (P.getD k 0)
  have e:((((P.getD k 0).toNat:Nat):Int).toNat).toUInt8=P.getD k 0:=by rw [Int.toNat_natCast]; simp
  rw [e]
  simp -dsimp only [aqA,↓seqK,↓blkK,↓loopK,step,stepBin,eqB,Nat.add_assoc nid,simprocAttr,z0,Int.cast_ofNat_Int,Int.reduceBEq,Int.reduceBNe,Int.reduceLT,Int.reduceLE,Int.reduceAdd,Int.reduceSub,Int.reduceMul,Int.reduceToNat,Int.reduceNeg,Int.reduceTMod,Int.reduceEq,not_false_eq_true,Int.reducePow,Int.reduceFDiv,Nat.reducePow,Nat.reduceSub,Nat.reduceMul,Nat.min_eq_left,Nat.reduceEqDiff,BEq.rfl,Int.tdiv_one,LN_succ,hbb]
  have hdef:passBad P k=if isBinV (byteI (P.getD k 0))=false then 9 else if 0<k∧byteI (P.getD k 0)≤byteI (P.getD (k - 1) 0) then 7 else 0:=rfl
  unfold byteI at hdef ⊢
  cases h3:isBinV (((P.getD k 0).toNat:Nat):Int) <;> simp -dsimp only [aqA,↓seqK,↓blkK,↓loopK,step,stepBin,eqB,Nat.add_assoc nid,simprocAttr,z0,Int.cast_ofNat_Int,Int.reduceBEq,Int.reduceBNe,Int.reduceLT,Int.reduceLE,Int.reduceAdd,Int.reduceSub,Int.reduceMul,Int.reduceToNat,Int.reduceNeg,Int.reduceTMod,Int.reduceEq,not_false_eq_true,Int.reducePow,Int.reduceFDiv,Nat.reducePow,Nat.reduceSub,Nat.reduceMul,Nat.min_eq_left,Nat.reduceEqDiff,BEq.rfl,Int.tdiv_one,LN_succ]
  ·rw [h3,if_pos rfl] at hdef
   have:passV P=9:=by unfold passV; rw [bad (by rw [hdef]; decide),hdef]
   rw [this]
   refine RetOK.pure (.inl rfl) rfl ?_
   simp [cvT,step,res]
  rw [h3,if_neg (by simp)] at hdef
  refine S2.dec (fun h4=>?_) (fun h4=>?_) <;> simp -dsimp only [aqA,↓seqK,↓blkK,↓loopK,step,stepBin,eqB,Nat.add_assoc nid,simprocAttr,z0,Int.cast_ofNat_Int,Int.reduceBEq,Int.reduceBNe,Int.reduceLT,Int.reduceLE,Int.reduceAdd,Int.reduceSub,Int.reduceMul,Int.reduceToNat,Int.reduceNeg,Int.reduceTMod,Int.reduceEq,not_false_eq_true,Int.reducePow,Int.reduceFDiv,Nat.reducePow,Nat.reduceSub,Nat.reduceMul,Nat.min_eq_left,Nat.reduceEqDiff,BEq.rfl,Int.tdiv_one,LN_succ]
  ·have hk1:((k:Int) - 1).toNat=k - 1:=by omega
   rw [hk1]
   refine ⟨by omega,by unfold inI64; omega,by omega,S2.dec (fun h5=>?_) (fun h5=>?_)⟩ <;> simp -dsimp only [aqA,↓seqK,↓blkK,↓loopK,step,stepBin,eqB,Nat.add_assoc nid,simprocAttr,z0,Int.cast_ofNat_Int,Int.reduceBEq,Int.reduceBNe,Int.reduceLT,Int.reduceLE,Int.reduceAdd,Int.reduceSub,Int.reduceMul,Int.reduceToNat,Int.reduceNeg,Int.reduceTMod,Int.reduceEq,not_false_eq_true,Int.reducePow,Int.reduceFDiv,Nat.reducePow,Nat.reduceSub,Nat.reduceMul,Nat.min_eq_left,Nat.reduceEqDiff,BEq.rfl,Int.tdiv_one,LN_succ]
   ·rw [if_pos ⟨by omega,h5⟩] at hdef
    have:passV P=7:=by unfold passV; rw [bad (by rw [hdef]; decide),hdef]
    rw [this]
    refine RetOK.pure (.inl rfl) rfl ?_
    simp [cvT,step,res]
   ·rw [if_neg (fun h=>h5 h.2)] at hdef
    refine ⟨by unfold inI64; omega,k+1,⟨⟨by omega,good hdef⟩,by omega⟩,Cov.go [] [] ?_⟩
    simp [cvT,step,res]
  ·rw [if_neg (fun h=>h4 (by omega))] at hdef
   refine ⟨by unfold inI64; omega,k+1,⟨⟨by omega,good hdef⟩,by omega⟩,Cov.go [] [] ?_⟩
   simp [cvT,step,res]
 ·have hkn:k=P.length:=by omega
  subst hkn
  have:passV P=0:=by unfold passV; rwa [List.take_of_length_le (by simp)] at hb
  rw [this]
  refine RetOK.pure (.inl rfl) rfl ?_
  simp [cvT,step,res]
set_option maxHeartbeats 4000000 in
theorem waferFault_all (nl:Bool) (W:Waf) (nid:Nat) (hW:WafBd W):ACall Try.prog 11 [wafP nl W] [] nid (.int .i64 (waferV W)) []:=by
 have hR:=hW.rows
 have hP:=hW.pass
 refine acall_run c11 (by simp [a11]) ?_
 unfold wafP
 simp -dsimp only [a11,aqA,↓seqK,↓blkK,↓loopK,step,stepBin,eqB,Nat.add_assoc nid,simprocAttr,z0,Int.cast_ofNat_Int,Int.reduceBEq,Int.reduceBNe,Int.reduceLT,Int.reduceLE,Int.reduceAdd,Int.reduceSub,Int.reduceMul,Int.reduceToNat,Int.reduceNeg,Int.reduceTMod,Int.reduceEq,not_false_eq_true,Int.reducePow,Int.reduceFDiv,Nat.reducePow,Nat.reduceSub,Nat.reduceMul,Nat.min_eq_left,Nat.reduceEqDiff,BEq.rfl,Int.tdiv_one,LN_succ]
 refine S2.intro (fun h0=>?_) (fun h0=>?_) <;> simp -dsimp only [aqA,↓seqK,↓blkK,↓loopK,step,stepBin,eqB,Nat.add_assoc nid,simprocAttr,z0,Int.cast_ofNat_Int,Int.reduceBEq,Int.reduceBNe,Int.reduceLT,Int.reduceLE,Int.reduceAdd,Int.reduceSub,Int.reduceMul,Int.reduceToNat,Int.reduceNeg,Int.reduceTMod,Int.reduceEq,not_false_eq_true,Int.reducePow,Int.reduceFDiv,Nat.reducePow,Nat.reduceSub,Nat.reduceMul,Nat.min_eq_left,Nat.reduceEqDiff,BEq.rfl,Int.tdiv_one,LN_succ]
 ·have e:waferV W=8:=by unfold waferV; rw [if_pos (by simpa using h0)]
  rw [e]
  refine RetOK.pure (.inl rfl) rfl ?_
  simp [cvT,step,res]
 have h0':W.rows.length≠0:=by simpa using h0
 refine S2.dec (fun h1=>?_) (fun h1=>?_) <;> simp -dsimp only [aqA,↓seqK,↓blkK,↓loopK,step,stepBin,eqB,Nat.add_assoc nid,simprocAttr,z0,Int.cast_ofNat_Int,Int.reduceBEq,Int.reduceBNe,Int.reduceLT,Int.reduceLE,Int.reduceAdd,Int.reduceSub,Int.reduceMul,Int.reduceToNat,Int.reduceNeg,Int.reduceTMod,Int.reduceEq,not_false_eq_true,Int.reducePow,Int.reduceFDiv,Nat.reducePow,Nat.reduceSub,Nat.reduceMul,Nat.min_eq_left,Nat.reduceEqDiff,BEq.rfl,Int.tdiv_one,LN_succ]
 ·have e:waferV W=2:=by unfold waferV; rw [if_neg h0',if_pos (by omega)]
  rw [e]
  refine RetOK.pure (.inl rfl) rfl ?_
  simp [cvT,step,res]
 have h1':W.rows.length≤60:=by omega
 refine LP.mkP (fun k:Nat=>k≤W.rows.length∧firstBad (rowBad (wideOf W)) (W.rows.take k)=0) (fun k:Nat=>⟨[(18,.int .i64 k),(17,.int .i64 W.rows.length),(16,.lit nl W.rows.length [.s fun i=>W.rows.getD i []]),(1,.ptr nid 0)],[(nid,some (.box 28 [.lit nl W.rows.length [.s fun i=>W.rows.getD i []],.str W.pass]))],nid+100,nid⟩) (fun k=>W.rows.length+1 - k) 0 ⟨by omega,rfl⟩ (Cov.go [] [] ?_) (fun k hk=>?_)
 ·simp [cvT,step,res]
 obtain ⟨hk,hb⟩:=hk
 simp -dsimp only [aqA,↓seqK,↓blkK,↓loopK,step,stepBin,eqB,Nat.add_assoc nid,simprocAttr,z0,Int.cast_ofNat_Int,Int.reduceBEq,Int.reduceBNe,Int.reduceLT,Int.reduceLE,Int.reduceAdd,Int.reduceSub,Int.reduceMul,Int.reduceToNat,Int.reduceNeg,Int.reduceTMod,Int.reduceEq,not_false_eq_true,Int.reducePow,Int.reduceFDiv,Nat.reducePow,Nat.reduceSub,Nat.reduceMul,Nat.min_eq_left,Nat.reduceEqDiff,BEq.rfl,Int.tdiv_one,LN_succ]
 refine S2.dec (fun h2=>?_) (fun h2=>?_) <;> simp -dsimp only [aqA,↓seqK,↓blkK,↓loopK,step,stepBin,eqB,Nat.add_assoc nid,simprocAttr,z0,Int.cast_ofNat_Int,Int.reduceBEq,Int.reduceBNe,Int.reduceLT,Int.reduceLE,Int.reduceAdd,Int.reduceSub,Int.reduceMul,Int.reduceToNat,Int.reduceNeg,Int.reduceTMod,Int.reduceEq,not_false_eq_true,Int.reducePow,Int.reduceFDiv,Nat.reducePow,Nat.reduceSub,Nat.reduceMul,Nat.min_eq_left,Nat.reduceEqDiff,BEq.rfl,Int.tdiv_one,LN_succ]
 ·have hkl:k<W.rows.length:=by omega
  obtain ⟨bad,good⟩:=rowsFB (d:=[]) hkl hb
  have hrl:=hW.at k
  have hw0:wideOf W=(W.rows.getD 0 []).length:=rfl
  generalize hr:W.rows.getD k []=r at *
  rw [beq_nil]
  have bad':∀ e:Int,rowBad (wideOf W) r=e→e≠0→waferV W=e:=fun e h3 he=>waferV_row h0' h1' (by rw [bad (by rw [h3]; exact he),h3]) he
  refine ⟨by omega,S2.dec (fun h3=>?_) (fun h3=>?_)⟩ <;> simp -dsimp only [aqA,↓seqK,↓blkK,↓loopK,step,stepBin,eqB,Nat.add_assoc nid,simprocAttr,z0,Int.cast_ofNat_Int,Int.reduceBEq,Int.reduceBNe,Int.reduceLT,Int.reduceLE,Int.reduceAdd,Int.reduceSub,Int.reduceMul,Int.reduceToNat,Int.reduceNeg,Int.reduceTMod,Int.reduceEq,not_false_eq_true,Int.reducePow,Int.reduceFDiv,Nat.reducePow,Nat.reduceSub,Nat.reduceMul,Nat.min_eq_left,Nat.reduceEqDiff,BEq.rfl,Int.tdiv_one,LN_succ]
  ·rw [bad' 8 (by unfold rowBad; rw [if_pos h3]) (by decide)]
   refine RetOK.pure (.inl rfl) rfl ?_
   simp [cvT,step,res]
  refine S2.dec (fun h4=>?_) (fun h4=>?_) <;> simp -dsimp only [aqA,↓seqK,↓blkK,↓loopK,step,stepBin,eqB,Nat.add_assoc nid,simprocAttr,z0,Int.cast_ofNat_Int,Int.reduceBEq,Int.reduceBNe,Int.reduceLT,Int.reduceLE,Int.reduceAdd,Int.reduceSub,Int.reduceMul,Int.reduceToNat,Int.reduceNeg,Int.reduceTMod,Int.reduceEq,not_false_eq_true,Int.reducePow,Int.reduceFDiv,Nat.reducePow,Nat.reduceSub,Nat.reduceMul,Nat.min_eq_left,Nat.reduceEqDiff,BEq.rfl,Int.tdiv_one,LN_succ]
  ·rw [bad' 2 (by unfold rowBad; rw [if_neg h3,if_pos (by omega)]) (by decide)]
   refine RetOK.pure (.inl rfl) rfl ?_
   simp [cvT,step,res]
  refine ⟨by omega,S2.intro (fun h5=>?_) (fun h5=>?_)⟩ <;> simp -dsimp only [aqA,↓seqK,↓blkK,↓loopK,step,stepBin,eqB,Nat.add_assoc nid,simprocAttr,z0,Int.cast_ofNat_Int,Int.reduceBEq,Int.reduceBNe,Int.reduceLT,Int.reduceLE,Int.reduceAdd,Int.reduceSub,Int.reduceMul,Int.reduceToNat,Int.reduceNeg,Int.reduceTMod,Int.reduceEq,not_false_eq_true,Int.reducePow,Int.reduceFDiv,Nat.reducePow,Nat.reduceSub,Nat.reduceMul,Nat.min_eq_left,Nat.reduceEqDiff,BEq.rfl,Int.tdiv_one,LN_succ]
  ·have h5':r.length≠wideOf W:=by rw [hw0]; intro e; rw [e] at h5; simp at h5
   rw [bad' 3 (by unfold rowBad; rw [if_neg h3,if_neg (by omega),if_pos h5']) (by decide)]
   refine RetOK.pure (.inl rfl) rfl ?_
   simp [cvT,step,res]
  have h5':r.length=wideOf W:=by
   have h5a:((r.length:Nat):Int)=((W.rows.getD 0 []).length:Nat):=by simpa only [bne_eq_false_iff_eq] using h5
   rw [hw0]; omega
  refine CallO.pure (containsFB 37 (fun c=>!placeB (byteI c)) dieF_c false r.length (fun i=>r.getD i 0) _ (by omega)) ?_
  rw [show (List.range r.length).any (fun i=>!placeB (byteI (r.getD i 0)))=oddB r from any_range (F:=fun c=>!placeB (byteI c))]
  simp -dsimp only [aqA,↓seqK,↓blkK,↓loopK,step,stepBin,eqB,Nat.add_assoc nid,simprocAttr,z0,Int.cast_ofNat_Int,Int.reduceBEq,Int.reduceBNe,Int.reduceLT,Int.reduceLE,Int.reduceAdd,Int.reduceSub,Int.reduceMul,Int.reduceToNat,Int.reduceNeg,Int.reduceTMod,Int.reduceEq,not_false_eq_true,Int.reducePow,Int.reduceFDiv,Nat.reducePow,Nat.reduceSub,Nat.reduceMul,Nat.min_eq_left,Nat.reduceEqDiff,BEq.rfl,Int.tdiv_one,LN_succ]
  refine S2.intro (fun h6=>?_) (fun h6=>?_) <;> simp -dsimp only [aqA,↓seqK,↓blkK,↓loopK,step,stepBin,eqB,Nat.add_assoc nid,simprocAttr,z0,Int.cast_ofNat_Int,Int.reduceBEq,Int.reduceBNe,Int.reduceLT,Int.reduceLE,Int.reduceAdd,Int.reduceSub,Int.reduceMul,Int.reduceToNat,Int.reduceNeg,Int.reduceTMod,Int.reduceEq,not_false_eq_true,Int.reducePow,Int.reduceFDiv,Nat.reducePow,Nat.reduceSub,Nat.reduceMul,Nat.min_eq_left,Nat.reduceEqDiff,BEq.rfl,Int.tdiv_one,LN_succ]
  ·rw [bad' 9 (by unfold rowBad; rw [if_neg h3,if_neg (by omega),if_neg (by omega),if_pos h6]) (by decide)]
   refine RetOK.pure (.inl rfl) rfl ?_
   simp [cvT,step,res]
  ·refine ⟨by unfold inI64; omega,k+1,⟨⟨by omega,good (by unfold rowBad; rw [if_neg h3,if_neg (by omega),if_neg (by omega),if_neg (by simp [h6])])⟩,by omega⟩,Cov.go [] [] ?_⟩
   simp [cvT,step,res]
 have hkn:k=W.rows.length:=by omega
 subst hkn
 rw [List.take_length] at hb
 rw [waferV_pass h0' h1' hb]
 refine CallO.pure (passFault_c W.pass _ hP) ?_
 simp -dsimp only [aqA,↓seqK,↓blkK,↓loopK,step,stepBin,eqB,Nat.add_assoc nid,simprocAttr,z0,Int.cast_ofNat_Int,Int.reduceBEq,Int.reduceBNe,Int.reduceLT,Int.reduceLE,Int.reduceAdd,Int.reduceSub,Int.reduceMul,Int.reduceToNat,Int.reduceNeg,Int.reduceTMod,Int.reduceEq,not_false_eq_true,Int.reducePow,Int.reduceFDiv,Nat.reducePow,Nat.reduceSub,Nat.reduceMul,Nat.min_eq_left,Nat.reduceEqDiff,BEq.rfl,Int.tdiv_one,LN_succ]
 refine RetOK.pure (.inl rfl) rfl ?_
 simp [cvT,step,res]
open Go.RowKit
def arrS (l:List (List UInt8)):Option ABlk:=some (.arr 9 l.length [.s fun i=>l.getD i []])
theorem getD_app1 (l:List (List UInt8)) (x:List UInt8) {n:Nat} (hn:l.length=n):(fun i=>if i<n then l.getD i [] else [x].getD (i - n) [])=fun i=>(l++[x]).getD i []:=by
 subst hn
 funext i
 simp only [List.getD_eq_getElem?_getD,List.getElem?_append]
 split <;> rfl
theorem getD_setS (l:List (List UInt8)) (x:List UInt8) {I:Nat} (hI:I<l.length):(fun j=>if j=I then x else l.getD j [])=fun j=>(l.set I x).getD j []:=by
 funext j
 simp only [List.getD_eq_getElem?_getD,List.getElem?_set]
 by_cases h:j=I
 ·subst h; simp [hI]
 ·rw [if_neg h,if_neg (fun e=>h e.symm)]
def ShortRows (m:Nat) (l:List (List UInt8)):Prop:=∀ r∈l,r.length≤m
theorem ShortRows.at {m:Nat} {l:List (List UInt8)} (h:ShortRows m l) (i:Nat):(l.getD i []).length≤m:=by
 rw [List.getD_eq_getElem?_getD]
 cases hg:l[i]? with
 | none=>simp
 | some x=>exact h x (List.mem_of_getElem? hg)
theorem ShortRows.set {m:Nat} {l:List (List UInt8)} (h:ShortRows m l) (i:Nat) {x:List UInt8} (hx:x.length≤m):ShortRows m (l.set i x):=fun r hr=>by
 rcases List.mem_or_eq_of_mem_set hr with h1 | h1
 ·exact h r h1
 ·rw [h1]; exact hx
theorem ShortRows.snoc {m:Nat} {l:List (List UInt8)} (h:ShortRows m l) {x:List UInt8} (hx:x.length≤m):ShortRows m (l++[x]):=fun r hr=>by
 rcases List.mem_append.1 hr with h1 | h1
 ·exact h r h1
 ·rw [List.mem_singleton.1 h1]; exact hx
theorem ShortRows.mono {m n:Nat} {l:List (List UInt8)} (h:ShortRows m l) (hn:m≤n):ShortRows n l:=fun r hr=>Nat.le_trans (h r hr) hn
def litS (nl:Bool) (l:List (List UInt8)):PV:=.lit nl l.length [.s fun i=>l.getD i []]
theorem take_eqL {l m:List (List UInt8)} {k:Nat} (hl:k<l.length) (hm:k<m.length) (h:l.take k=m.take k) (hx:l.getD k []=m.getD k []):l.take (k+1)=m.take (k+1):=by
 rw [take_snoc (x:=l.getD k []) (by rw [List.getD_eq_getElem?_getD,List.getElem?_eq_getElem hl]; rfl),take_snoc (x:=m.getD k []) (by rw [List.getD_eq_getElem?_getD,List.getElem?_eq_getElem hm]; rfl),h,hx]
theorem equalS_c (nl nl' : Bool) (l m : List (List UInt8)) (nid : Nat) (hl : l.length ≤ 1000000000000) (hm : m.length ≤ 1000000000000) : ACall Try.prog 59 [litS nl l,litS nl' m] [] nid (.bool (l == m)) [] := by
  refine acall_run c59 (by simp [a59]) ?_
  unfold litS
  simp -dsimp only [aqA,↓seqK,↓blkK,↓loopK,step,stepBin,eqB,Nat.add_assoc nid,simprocAttr,z0,a59]
  refine S2.intro (fun h => ?_) (fun h => ?_) <;> simp -dsimp only [aqA,↓seqK,↓blkK,↓loopK,step,stepBin,eqB,Nat.add_assoc nid,simprocAttr,z0]
  · refine RetOK.pure (.inl rfl) rfl ?_
    have h1 : l ≠ m := fun e => by subst e; simp at h
    have h2 : (l == m) = false := by simpa using h1
    simp [cvT,step,res,h1]
  have hlm : l.length = m.length := by have : (l.length : Int) = m.length := by simpa using h
                                       omega
  refine LP.mkP (fun k : Nat => k ≤ l.length ∧ l.take k = m.take k) (fun k : Nat => ⟨[(13,.int .i64 k),(12,.int .i64 l.length),(0,litS nl l),(1,litS nl' m)],[],nid + 36,nid⟩) (fun k => l.length + 1 - k) 0 ⟨by omega,rfl⟩ (Cov.go [] [] ?_) (fun k hk => ?_)
  · simp [cvT,step,res,litS]
  unfold litS
  obtain ⟨hk,ht⟩ := hk
  simp -dsimp only [aqA,↓seqK,↓blkK,↓loopK,step,stepBin,eqB,Nat.add_assoc nid,simprocAttr,z0]
  refine S2.dec (fun h3 => ?_) (fun h3 => ?_) <;> simp -dsimp only [aqA,↓seqK,↓blkK,↓loopK,step,stepBin,eqB,Nat.add_assoc nid,simprocAttr,z0]
  · refine ⟨by omega,by omega,S2.intro (fun h4 => ?_) (fun h4 => ?_)⟩ <;> simp -dsimp only [aqA,↓seqK,↓blkK,↓loopK,step,stepBin,eqB,Nat.add_assoc nid,simprocAttr,z0]
    · refine RetOK.pure (.inl rfl) rfl ?_
      have h1 : l ≠ m := fun e => by subst e; simp at h4
      simp [cvT,step,res,h1]
    · have h5 : l.getD k [] = m.getD k [] := by simpa only [Bool.not_eq_false',beq_iff_eq] using h4
      refine ⟨by unfold inI64; omega,k + 1,⟨⟨by omega,take_eqL (by omega) (by omega) ht h5⟩,by omega⟩,Cov.go [] [] ?_⟩
      simp [cvT,step,res,litS]
  · have hkl : k = l.length := by omega
    have h1 : l = m := by rw [hkl] at ht; rw [List.take_length,hlm,List.take_length] at ht; exact ht
    refine RetOK.pure (.inl rfl) rfl ?_
    simp [cvT,step,res,h1]
open Go.RowKit
structure WafSmall (W:Waf):Prop where
 len:W.rows.length≤6
 row:ShortRows 7 W.rows
 pass:W.pass.length≤2
theorem WafSmall.bd {W:Waf} (h:WafSmall W):WafBd W:=⟨by have:=h.len; omega,fun r hr=>by have:=h.row r hr; omega,by have:=h.pass; omega⟩
open Go.RowKit
theorem cloneS_c (nl:Bool) (l:List (List UInt8)) (nid:Nat) (hl:l.length≤1000000000) (hnl:nl=true→l=[]):ACall Try.prog 6 [litS nl l] [] nid (.sl nid 0 l.length) [(nid,arrS l)]:=by
 refine acall_run c6 (by simp [a6]) ?_
 unfold litS
 simp -dsimp only [aqA,↓seqK,↓blkK,↓loopK,step,stepBin,eqB,Nat.add_assoc nid,simprocAttr,z0,a6]
 refine S2.intro (fun h=>?_) (fun h=>?_) <;> simp -dsimp only [aqA,↓seqK,↓blkK,↓loopK,step,stepBin,eqB,Nat.add_assoc nid,simprocAttr,z0]
 ·refine RetOK.go [] [(nid,1)] (.inl rfl) ?_
  have:=hnl h
  subst this
  simp [a6,cvT,step,res,arrS]
 ·refine ⟨⟨by omega,by omega⟩,RetOK.go [(nid,nid+20)] [] (.inl rfl) ?_⟩
  simp [a6,cvT,step,res,arrS]
theorem sameWafer_c (nl nl':Bool) (V W:Waf) (nid:Nat) (hV:V.rows.length≤1000000) (hW:W.rows.length≤1000000):ACall Try.prog 20 [wafP nl V,wafP nl' W] [] nid (.bool (V.rows==W.rows && V.pass==W.pass)) []:=by
 refine acall_run c20 (by simp [a20]) ?_
 unfold wafP
 simp -dsimp only [a20,aqA,↓seqK,↓blkK,↓loopK,step,stepBin,eqB,Nat.add_assoc nid,simprocAttr,z0,Int.cast_ofNat_Int,Int.reduceBEq,Int.reduceBNe,Int.reduceLT,Int.reduceLE,Int.reduceAdd,Int.reduceSub,Int.reduceMul,Int.reduceToNat,Int.reduceNeg,Int.reduceTMod,Int.reduceEq,not_false_eq_true,Int.reducePow,Int.reduceFDiv,Nat.reducePow,Nat.reduceSub,Nat.reduceMul,Nat.min_eq_left,Nat.reduceEqDiff,BEq.rfl,Int.tdiv_one,LN_succ]
 refine CallO.pure (equalS_c nl nl' _ _ _ (by omega) (by omega)) ?_
 simp -dsimp only [aqA,↓seqK,↓blkK,↓loopK,step,stepBin,eqB,Nat.add_assoc nid,simprocAttr,z0,Int.cast_ofNat_Int,Int.reduceBEq,Int.reduceBNe,Int.reduceLT,Int.reduceLE,Int.reduceAdd,Int.reduceSub,Int.reduceMul,Int.reduceToNat,Int.reduceNeg,Int.reduceTMod,Int.reduceEq,not_false_eq_true,Int.reducePow,Int.reduceFDiv,Nat.reducePow,Nat.reduceSub,Nat.reduceMul,Nat.min_eq_left,Nat.reduceEqDiff,BEq.rfl,Int.tdiv_one,LN_succ]
 refine S2.intro (fun h=>?_) (fun h=>?_) <;> simp -dsimp only [aqA,↓seqK,↓blkK,↓loopK,step,stepBin,eqB,Nat.add_assoc nid,simprocAttr,z0,Int.cast_ofNat_Int,Int.reduceBEq,Int.reduceBNe,Int.reduceLT,Int.reduceLE,Int.reduceAdd,Int.reduceSub,Int.reduceMul,Int.reduceToNat,Int.reduceNeg,Int.reduceTMod,Int.reduceEq,not_false_eq_true,Int.reducePow,Int.reduceFDiv,Nat.reducePow,Nat.reduceSub,Nat.reduceMul,Nat.min_eq_left,Nat.reduceEqDiff,BEq.rfl,Int.tdiv_one,LN_succ]
 ·refine RetOK.pure (.inl rfl) rfl ?_
  simp [cvT,step,res,h]
 ·refine RetOK.pure (.inl rfl) rfl ?_
  simp [cvT,step,res,h]
theorem first_c (nl:Bool) (l:List Int) (nid:Nat) (hl:l.length≤1000000000):ACall Try.prog 79 [litI nl l] [] nid (.int .i64 (firstBad (fun x:Int=>x) l)) []:=by
 refine acall_run c79 (by simp [a79]) ?_
 unfold litI
 simp -dsimp only [aqA,↓seqK,↓blkK,↓loopK,step,stepBin,eqB,Nat.add_assoc nid,simprocAttr,z0,a79]
 refine LP.mkP (fun k:Nat=>k≤l.length∧firstBad (fun x:Int=>x) (l.take k)=0) (fun k:Nat=>⟨[(7,.int .i64 k),(6,.int .i64 l.length),(5,litI nl l)],[],nid+100,nid⟩) (fun k=>l.length+1 - k) 0 ⟨by omega,rfl⟩ (Cov.go [] [] ?_) (fun k hk=>?_)
 ·simp [cvT,step,res,litI]
 unfold litI
 obtain ⟨hk,hb⟩:=hk
 simp -dsimp only [aqA,↓seqK,↓blkK,↓loopK,step,stepBin,eqB,Nat.add_assoc nid,simprocAttr,z0,Int.cast_ofNat_Int,Int.reduceBEq,Int.reduceBNe,Int.reduceLT,Int.reduceLE,Int.reduceAdd,Int.reduceSub,Int.reduceMul,Int.reduceToNat,Int.reduceNeg,Int.reduceTMod,Int.reduceEq,not_false_eq_true,Int.reducePow,Int.reduceFDiv,Nat.reducePow,Nat.reduceSub,Nat.reduceMul,Nat.min_eq_left,Nat.reduceEqDiff,BEq.rfl,Int.tdiv_one,LN_succ]
 refine S2.dec (fun h3=>?_) (fun h3=>?_) <;> simp -dsimp only [aqA,↓seqK,↓blkK,↓loopK,step,stepBin,eqB,Nat.add_assoc nid,simprocAttr,z0,Int.cast_ofNat_Int,Int.reduceBEq,Int.reduceBNe,Int.reduceLT,Int.reduceLE,Int.reduceAdd,Int.reduceSub,Int.reduceMul,Int.reduceToNat,Int.reduceNeg,Int.reduceTMod,Int.reduceEq,not_false_eq_true,Int.reducePow,Int.reduceFDiv,Nat.reducePow,Nat.reduceSub,Nat.reduceMul,Nat.min_eq_left,Nat.reduceEqDiff,BEq.rfl,Int.tdiv_one,LN_succ]
 ·have hkl:k<l.length:=by omega
  obtain ⟨bad,good⟩:=rowsFB (d:=0) (f:=fun x:Int=>x) hkl hb
  refine ⟨by omega,S2.intro (fun h4=>?_) (fun h4=>?_)⟩ <;> simp -dsimp only [aqA,↓seqK,↓blkK,↓loopK,step,stepBin,eqB,Nat.add_assoc nid,simprocAttr,z0,Int.cast_ofNat_Int,Int.reduceBEq,Int.reduceBNe,Int.reduceLT,Int.reduceLE,Int.reduceAdd,Int.reduceSub,Int.reduceMul,Int.reduceToNat,Int.reduceNeg,Int.reduceTMod,Int.reduceEq,not_false_eq_true,Int.reducePow,Int.reduceFDiv,Nat.reducePow,Nat.reduceSub,Nat.reduceMul,Nat.min_eq_left,Nat.reduceEqDiff,BEq.rfl,Int.tdiv_one,LN_succ]
  ·rw [bad (by simpa using h4)]
   refine RetOK.pure (.inl rfl) rfl ?_
   simp [cvT,step,res]
  ·refine ⟨by unfold inI64; omega,k+1,⟨⟨by omega,good (by simpa using h4)⟩,by omega⟩,Cov.go [] [] ?_⟩
   simp [cvT,step,res,litI]
 ·have hkn:k=l.length:=by omega
  subst hkn
  rw [List.take_length] at hb
  rw [hb]
  refine RetOK.pure (.inl rfl) rfl ?_
  simp [cvT,step,res]
theorem at_all (nl:Bool) (W:Waf) (x y:Int) (nid:Nat) (hW:WafOk W) (hx:inI64 x) (hy:inI64 y):ACall Try.prog 44 [wafP nl W,.agg [.int .i64 x,.int .i64 y]] [] nid (.int .u8 (dieV W x y)) []:=by
 have hp:=hW.pos
 have hl:=hW.len
 obtain ⟨hw1,hw2⟩:=hW.wide
 have hw0:wideOf W=(W.rows.getD 0 []).length:=rfl
 refine acall_run c44 (by simp [a44]) ?_
 unfold wafP
 simp -dsimp only [a44,aqA,↓seqK,↓blkK,↓loopK,step,stepBin,eqB,Nat.add_assoc nid,simprocAttr,z0,Int.cast_ofNat_Int,Int.reduceBEq,Int.reduceBNe,Int.reduceLT,Int.reduceLE,Int.reduceAdd,Int.reduceSub,Int.reduceMul,Int.reduceToNat,Int.reduceNeg,Int.reduceTMod,Int.reduceEq,not_false_eq_true,Int.reducePow,Int.reduceFDiv,Nat.reducePow,Nat.reduceSub,Nat.reduceMul,Nat.min_eq_left,Nat.reduceEqDiff,BEq.rfl,Int.tdiv_one,LN_succ]
 refine ⟨by unfold inI64; omega,CallX.pure (out_c _ _ _ _) ?_⟩
 simp -dsimp only [aqA,↓seqK,↓blkK,↓loopK,step,stepBin,eqB,Nat.add_assoc nid,simprocAttr,z0,Int.cast_ofNat_Int,Int.reduceBEq,Int.reduceBNe,Int.reduceLT,Int.reduceLE,Int.reduceAdd,Int.reduceSub,Int.reduceMul,Int.reduceToNat,Int.reduceNeg,Int.reduceTMod,Int.reduceEq,not_false_eq_true,Int.reducePow,Int.reduceFDiv,Nat.reducePow,Nat.reduceSub,Nat.reduceMul,Nat.min_eq_left,Nat.reduceEqDiff,BEq.rfl,Int.tdiv_one,LN_succ]
 cases h1:outB y 0 ((W.rows.length:Int) - 1) <;> simp -dsimp only [aqA,↓seqK,↓blkK,↓loopK,step,stepBin,eqB,Nat.add_assoc nid,simprocAttr,z0,Int.cast_ofNat_Int,Int.reduceBEq,Int.reduceBNe,Int.reduceLT,Int.reduceLE,Int.reduceAdd,Int.reduceSub,Int.reduceMul,Int.reduceToNat,Int.reduceNeg,Int.reduceTMod,Int.reduceEq,not_false_eq_true,Int.reducePow,Int.reduceFDiv,Nat.reducePow,Nat.reduceSub,Nat.reduceMul,Nat.min_eq_left,Nat.reduceEqDiff,BEq.rfl,Int.tdiv_one,LN_succ]
 ·refine ⟨by omega,by unfold inI64; omega,CallX.pure (out_c _ _ _ _) ?_⟩
  simp -dsimp only [aqA,↓seqK,↓blkK,↓loopK,step,stepBin,eqB,Nat.add_assoc nid,simprocAttr,z0,Int.cast_ofNat_Int,Int.reduceBEq,Int.reduceBNe,Int.reduceLT,Int.reduceLE,Int.reduceAdd,Int.reduceSub,Int.reduceMul,Int.reduceToNat,Int.reduceNeg,Int.reduceTMod,Int.reduceEq,not_false_eq_true,Int.reducePow,Int.reduceFDiv,Nat.reducePow,Nat.reduceSub,Nat.reduceMul,Nat.min_eq_left,Nat.reduceEqDiff,BEq.rfl,Int.tdiv_one,LN_succ]
  rw [← hw0]
  cases h2:outB x 0 ((wideOf W:Int) - 1) <;> simp -dsimp only [aqA,↓seqK,↓blkK,↓loopK,step,stepBin,eqB,Nat.add_assoc nid,simprocAttr,z0,Int.cast_ofNat_Int,Int.reduceBEq,Int.reduceBNe,Int.reduceLT,Int.reduceLE,Int.reduceAdd,Int.reduceSub,Int.reduceMul,Int.reduceToNat,Int.reduceNeg,Int.reduceTMod,Int.reduceEq,not_false_eq_true,Int.reducePow,Int.reduceFDiv,Nat.reducePow,Nat.reduceSub,Nat.reduceMul,Nat.min_eq_left,Nat.reduceEqDiff,BEq.rfl,Int.tdiv_one,LN_succ]
  ·have hy1:0≤y∧y<W.rows.length:=by unfold outB at h1; simp at h1; omega
   have hx1:0≤x∧x<wideOf W:=by unfold outB at h2; simp at h2; omega
   have hr:=(hW.at (y:=y.toNat) (by omega)).1
   have e:dieV W x y=byteI ((W.rows.getD y.toNat []).getD x.toNat 0):=by unfold dieV; rw [h1,h2,if_neg (by simp),if_neg (by simp)]
   rw [e]
   refine ⟨by omega,by omega,?_⟩
   refine RetOK.pure (.inl rfl) rfl ?_
   simp [cvT,step,res,byteI]
  ·have e:dieV W x y=46:=by unfold dieV; rw [h1,h2,if_neg (by simp),if_pos rfl]
   rw [e]
   refine RetOK.pure (.inl rfl) rfl ?_
   simp [cvT,step,res]
 ·have e:dieV W x y=46:=by unfold dieV; rw [h1,if_pos rfl]
  rw [e]
  refine RetOK.pure (.inl rfl) rfl ?_
  simp [cvT,step,res]
def arrPl (l:List Pt):Option ABlk:=some (.arr 46 l.length [.i .i64 fun i=>(l.getD i p0).1,.i .i64 fun i=>(l.getD i p0).2])
def litPl (nl:Bool) (l:List Pt):PV:=.lit nl l.length [.i .i64 fun i=>(l.getD i p0).1,.i .i64 fun i=>(l.getD i p0).2]
theorem getD_appP (l:List Pt) (x:Pt) {n:Nat} (hn:l.length=n) (f:Pt→Int) (h0:f p0=0) {v:Int} (hv:v=f x):(fun i=>if i<n then f (l.getD i p0) else [v].getD (i - n) 0)=fun i=>f ((l++[x]).getD i p0):=by
 subst hn
 subst hv
 funext i
 simp only [List.getD_eq_getElem?_getD,List.getElem?_append]
 split
 ·rfl
 ·cases h:i - l.length with
  | zero=>rfl
  | succ k=>simp [h0]
open Go.RowKit
theorem plTo_bd {W:Waf} (hW:WafOk W) {y:Nat} (hy:y≤W.rows.length):(plTo W y).length≤60000:=by
 have h:=plTo_len (W:=W) (fun r hr=>by have:=(hW.row r hr).2.1; omega) y hy
 have:=hW.len
 omega
set_option maxHeartbeats 4000000 in
theorem places_all (nl:Bool) (W:Waf) (nid:Nat) (hW:WafOk W):ACall Try.prog 43 [wafP nl W] [] nid (.sl nid 0 (plV W).length) [(nid,arrPl (plV W))]:=by
 have hl:=hW.len
 refine acall_run c43 (by simp [a43]) ?_
 unfold wafP
 simp -dsimp only [a43,aqA,↓seqK,↓blkK,↓loopK,step,stepBin,eqB,Nat.add_assoc nid,simprocAttr,z0,Int.cast_ofNat_Int,Int.reduceBEq,Int.reduceBNe,Int.reduceLT,Int.reduceLE,Int.reduceAdd,Int.reduceSub,Int.reduceMul,Int.reduceToNat,Int.reduceNeg,Int.reduceTMod,Int.reduceEq,not_false_eq_true,Int.reducePow,Int.reduceFDiv,Nat.reducePow,Nat.reduceSub,Nat.reduceMul,Nat.min_eq_left,Nat.reduceEqDiff,BEq.rfl,Int.tdiv_one,LN_succ]
 refine LP.mkP (fun y:Nat=>y≤W.rows.length) (fun y:Nat=>⟨[(10,.int .i64 y),(9,.int .i64 W.rows.length),(8,.lit nl W.rows.length [.s fun i=>W.rows.getD i []]),(3,.sl (nid+8) 0 (plTo W y).length)],[(nid+8,arrPl (plTo W y))],nid+100,nid⟩) (fun y=>W.rows.length+1 - y) 0 (by omega) (Cov.go [] [(nid+8,2)] ?_) (fun y hy=>?_)
 ·simp [cvT,step,res,arrPl,plTo]
 unfold arrPl
 simp -dsimp only [aqA,↓seqK,↓blkK,↓loopK,step,stepBin,eqB,Nat.add_assoc nid,simprocAttr,z0,Int.cast_ofNat_Int,Int.reduceBEq,Int.reduceBNe,Int.reduceLT,Int.reduceLE,Int.reduceAdd,Int.reduceSub,Int.reduceMul,Int.reduceToNat,Int.reduceNeg,Int.reduceTMod,Int.reduceEq,not_false_eq_true,Int.reducePow,Int.reduceFDiv,Nat.reducePow,Nat.reduceSub,Nat.reduceMul,Nat.min_eq_left,Nat.reduceEqDiff,BEq.rfl,Int.tdiv_one,LN_succ]
 refine S2.dec (fun h1=>?_) (fun h1=>?_) <;> simp -dsimp only [aqA,↓seqK,↓blkK,↓loopK,step,stepBin,eqB,Nat.add_assoc nid,simprocAttr,z0,Int.cast_ofNat_Int,Int.reduceBEq,Int.reduceBNe,Int.reduceLT,Int.reduceLE,Int.reduceAdd,Int.reduceSub,Int.reduceMul,Int.reduceToNat,Int.reduceNeg,Int.reduceTMod,Int.reduceEq,not_false_eq_true,Int.reducePow,Int.reduceFDiv,Nat.reducePow,Nat.reduceSub,Nat.reduceMul,Nat.min_eq_left,Nat.reduceEqDiff,BEq.rfl,Int.tdiv_one,LN_succ]
 ·have hyl:y<W.rows.length:=by omega
  have hrl:=(hW.at hyl).1
  have hw2:=hW.wide.2
  have hts:=plTo_succ W y
  have htb:=plTo_bd hW (y:=y) (by omega)
  generalize hr:W.rows.getD y []=r at *
  generalize plTo W y=T at *
  refine ⟨by omega,LP.mkP (fun x:Nat=>x≤r.length) (fun x:Nat=>⟨[(17,.int .i64 x),(16,.int .i64 r.length),(4,.int .i64 y),(10,.int .i64 y),(9,.int .i64 W.rows.length),(8,.lit nl W.rows.length [.s fun i=>W.rows.getD i []]),(3,.sl (nid+8) 0 (T++rowPl y x).length)],[(nid+8,arrPl (T++rowPl y x))],nid+300,nid⟩) (fun x=>r.length+1 - x) 0 (by omega) (Cov.go [] [] ?_) (fun x hx=>?_)⟩
  ·simp [cvT,step,res,arrPl,rowPl]
  have hrs:=rowPl_succ y x
  have hrx:=rowPl_len y x
  have hTl:(T++rowPl y x).length=T.length+x:=by rw [List.length_append,hrx]
  have hTs:T++rowPl y (x+1)=(T++rowPl y x)++[((x:Int),(y:Int))]:=by rw [hrs,List.append_assoc]
  generalize hLd:T++rowPl y x=L at *
  unfold arrPl
  simp -dsimp only [aqA,↓seqK,↓blkK,↓loopK,step,stepBin,eqB,Nat.add_assoc nid,simprocAttr,z0,Int.cast_ofNat_Int,Int.reduceBEq,Int.reduceBNe,Int.reduceLT,Int.reduceLE,Int.reduceAdd,Int.reduceSub,Int.reduceMul,Int.reduceToNat,Int.reduceNeg,Int.reduceTMod,Int.reduceEq,not_false_eq_true,Int.reducePow,Int.reduceFDiv,Nat.reducePow,Nat.reduceSub,Nat.reduceMul,Nat.min_eq_left,Nat.reduceEqDiff,BEq.rfl,Int.tdiv_one,LN_succ]
  refine S2.dec (fun h2=>?_) (fun h2=>?_) <;> simp -dsimp only [aqA,↓seqK,↓blkK,↓loopK,step,stepBin,eqB,Nat.add_assoc nid,simprocAttr,z0,Int.cast_ofNat_Int,Int.reduceBEq,Int.reduceBNe,Int.reduceLT,Int.reduceLE,Int.reduceAdd,Int.reduceSub,Int.reduceMul,Int.reduceToNat,Int.reduceNeg,Int.reduceTMod,Int.reduceEq,not_false_eq_true,Int.reducePow,Int.reduceFDiv,Nat.reducePow,Nat.reduceSub,Nat.reduceMul,Nat.min_eq_left,Nat.reduceEqDiff,BEq.rfl,Int.tdiv_one,LN_succ]
  ·rw [getD_appP L ((x:Int),(y:Int)) rfl (fun q=>q.1) rfl rfl,getD_appP L ((x:Int),(y:Int)) rfl (fun q=>q.2) rfl rfl,← hTs]
   have hl3:(T++rowPl y (x+1)).length=L.length+1:=by rw [hTs]; simp
   refine ⟨⟨by omega,by omega⟩,by unfold inI64; omega,x+1,⟨by omega,by omega⟩,Cov.go [(nid+8,nid+332)] [] ?_⟩
   simp [cvT,step,res,hl3,-List.getD_eq_getElem?_getD,-List.length_append]
  ·have hxr:x=r.length:=by omega
   subst hxr
   have e:plTo W (y+1)=L:=by rw [hts,hLd]
   refine ⟨by unfold inI64; omega,y+1,⟨by omega,by omega⟩,Cov.go [] [] ?_⟩
   rw [e]
   simp [cvT,step,res,-List.getD_eq_getElem?_getD]
 ·have hyn:y=W.rows.length:=by omega
  subst hyn
  refine RetOK.go [(nid,nid+8)] [] (.inl rfl) ?_
  simp [cvT,step,res,a43,arrPl,plV,-List.getD_eq_getElem?_getD]
def mergeB (a d:UInt8):UInt8:=if a=d∨d=63 then a else d
def mergeO (a d:UInt8):Bool:=decide (a=d∨d=63∨a=63)
def boxW (nl:Bool) (W:Waf):Option ABlk:=some (.box 28 [.lit nl W.rows.length [.s fun i=>W.rows.getD i []],.str W.pass])
def boxB (b:Bool):Option ABlk:=some (.box 4 [.bool b])
def dieB (W:Waf) (x y:Nat):UInt8:=(W.rows.getD y []).getD x 0
theorem byteI_inj {a b:UInt8}:byteI a=byteI b↔a=b:=by
 unfold byteI
 constructor
 ·intro h
  have:a.toNat=b.toNat:=by omega
  exact UInt8.toNat_inj.1 this
 ·rintro rfl; rfl
set_option maxHeartbeats 4000000 in
theorem mergeF_c (ib io:Nat) (nl:Bool) (W:Waf) (x y:Nat) (a:UInt8) (o:Bool) (nid:Nat) (hib:ib<nid) (hio:io<nid) (hne:ib≠io) (hW:WafOk W) (hy:y<W.rows.length) (hx:x<wideOf W) :
  ACall Try.prog 56 [.agg [.int .i64 (x:Nat),.int .i64 (y:Nat)],.int .u8 ((a.toNat:Nat)),.ptr ib 0,.ptr io 0] [(ib,boxW nl W),(io,boxB o)] nid (.int .u8 (((mergeB a (dieB W x y)).toNat:Nat))) [(ib,boxW nl W),(io,boxB (o && mergeO a (dieB W x y)))]:=by
 have hl:=hW.len
 have hw:=hW.wide.2
 obtain ⟨a1,a2,a3,a4,a5,a6,a7,a8,a9⟩:=id_all hib
 obtain ⟨b1,b2,b3,b4,b5,b6,b7,b8,b9⟩:=id_all hio
 have c1:(ib==io)=false:=by simpa using hne
 have c2:(io==ib)=false:=by simpa using fun h=>hne h.symm
 have c3:¬ io=ib:=fun h=>hne h.symm
 refine acall_run c56 (by simp [a56]) ?_
 unfold boxW boxB
 simp -dsimp only [a56,aqA,↓seqK,↓blkK,↓loopK,step,stepBin,eqB,Nat.add_assoc nid,simprocAttr,z0,Int.cast_ofNat_Int,Int.reduceBEq,Int.reduceBNe,Int.reduceLT,Int.reduceLE,Int.reduceAdd,Int.reduceSub,Int.reduceMul,Int.reduceToNat,Int.reduceNeg,Int.reduceTMod,Int.reduceEq,not_false_eq_true,Int.reducePow,Int.reduceFDiv,Nat.reducePow,Nat.reduceSub,Nat.reduceMul,Nat.min_eq_left,Nat.reduceEqDiff,BEq.rfl,Int.tdiv_one,LN_succ,a1,a2,a3,a4,a5,a6,a7,a8,a9,b1,b2,b3,b4,b5,b6,b7,b8,b9,c1,c2]
 refine CallO.pure (at_all nl W (x:Nat) (y:Nat) _ hW (by unfold inI64; omega) (by unfold inI64; omega)) ?_
 rw [dieV_in hy hx]
 have hd:(W.rows.getD y []).getD x 0=dieB W x y:=rfl
 rw [hd]
 generalize dieB W x y=d
 simp -dsimp only [aqA,↓seqK,↓blkK,↓loopK,step,stepBin,eqB,Nat.add_assoc nid,simprocAttr,z0,Int.cast_ofNat_Int,Int.reduceBEq,Int.reduceBNe,Int.reduceLT,Int.reduceLE,Int.reduceAdd,Int.reduceSub,Int.reduceMul,Int.reduceToNat,Int.reduceNeg,Int.reduceTMod,Int.reduceEq,not_false_eq_true,Int.reducePow,Int.reduceFDiv,Nat.reducePow,Nat.reduceSub,Nat.reduceMul,Nat.min_eq_left,Nat.reduceEqDiff,BEq.rfl,Int.tdiv_one,LN_succ,a1,a2,a3,a4,a5,a6,a7,a8,a9,b1,b2,b3,b4,b5,b6,b7,b8,b9,c1,c2]
 unfold byteI
 have fin:∀ (r:UInt8) (o':Bool),r=mergeB a d→o'=(o && mergeO a d)→∀ st:ST,getS st.slots 6=.int .u8 ((r.toNat:Nat))→getH st.heap ib=boxW nl W→getH st.heap io=boxB o'→RetOK (a56).res [(ib,boxW nl W),(io,boxB o)] nid (.int .u8 (((mergeB a d).toNat:Nat))) [(ib,boxW nl W),(io,boxB (o && mergeO a d))] .ret st:=fun r o' hr ho st h1 h2 h3=>by
  subst hr; subst ho
  refine RetOK.go [] [] (.inl rfl) ?_
  unfold boxW boxB at *
  simp [a56,cvT,step,res,a1,a2,a3,a4,a5,a6,a7,a8,a9,b1,b2,b3,b4,b5,b6,b7,b8,b9,c1,c2,c3,hne,h1,h2,h3]
 unfold boxW boxB at fin
 have hinj:∀ x z:UInt8,(((x.toNat:Nat):Int)==((z.toNat:Nat):Int))=decide (x=z):=fun x z=>by
  rw [Bool.eq_iff_iff,beq_iff_eq,decide_eq_true_eq]
  exact byteI_inj
 rw [hinj a d]
 refine S2.dec (fun h1=>?_) (fun h1=>?_) <;> simp -dsimp only [aqA,↓seqK,↓blkK,↓loopK,step,stepBin,eqB,Nat.add_assoc nid,simprocAttr,z0,Int.cast_ofNat_Int,Int.reduceBEq,Int.reduceBNe,Int.reduceLT,Int.reduceLE,Int.reduceAdd,Int.reduceSub,Int.reduceMul,Int.reduceToNat,Int.reduceNeg,Int.reduceTMod,Int.reduceEq,not_false_eq_true,Int.reducePow,Int.reduceFDiv,Nat.reducePow,Nat.reduceSub,Nat.reduceMul,Nat.min_eq_left,Nat.reduceEqDiff,BEq.rfl,Int.tdiv_one,LN_succ,a1,a2,a3,a4,a5,a6,a7,a8,a9,b1,b2,b3,b4,b5,b6,b7,b8,b9,c1,c2]
 ·exact fin a o (by unfold mergeB; rw [if_pos (.inl h1)]) (by unfold mergeO; simp [h1]) _ (by simp only [aqA,↓seqK,↓blkK,↓loopK,step,stepBin,eqB,Nat.add_assoc nid,simprocAttr,z0]) (by simp only [aqA,↓seqK,↓blkK,↓loopK,step,stepBin,eqB,Nat.add_assoc nid,simprocAttr,z0,a1,a2,a3,a4,a5,a6,a7,a8,a9,b1,b2,b3,b4,b5,b6,b7,b8,b9,c1,c2]) (by simp only [aqA,↓seqK,↓blkK,↓loopK,step,stepBin,eqB,Nat.add_assoc nid,simprocAttr,z0,a1,a2,a3,a4,a5,a6,a7,a8,a9,b1,b2,b3,b4,b5,b6,b7,b8,b9,c1,c2])
 ·have h63:(((d.toNat:Nat):Int)==63)=decide (d=63):=hinj d 63
  rw [h63]
  refine S2.dec (fun h2=>?_) (fun h2=>?_) <;> simp -dsimp only [aqA,↓seqK,↓blkK,↓loopK,step,stepBin,eqB,Nat.add_assoc nid,simprocAttr,z0,Int.cast_ofNat_Int,Int.reduceBEq,Int.reduceBNe,Int.reduceLT,Int.reduceLE,Int.reduceAdd,Int.reduceSub,Int.reduceMul,Int.reduceToNat,Int.reduceNeg,Int.reduceTMod,Int.reduceEq,not_false_eq_true,Int.reducePow,Int.reduceFDiv,Nat.reducePow,Nat.reduceSub,Nat.reduceMul,Nat.min_eq_left,Nat.reduceEqDiff,BEq.rfl,Int.tdiv_one,LN_succ,a1,a2,a3,a4,a5,a6,a7,a8,a9,b1,b2,b3,b4,b5,b6,b7,b8,b9,c1,c2]
  ·exact fin a o (by unfold mergeB; rw [if_pos (.inr h2)]) (by unfold mergeO; simp [h2]) _ (by simp only [aqA,↓seqK,↓blkK,↓loopK,step,stepBin,eqB,Nat.add_assoc nid,simprocAttr,z0]) (by simp only [aqA,↓seqK,↓blkK,↓loopK,step,stepBin,eqB,Nat.add_assoc nid,simprocAttr,z0,a1,a2,a3,a4,a5,a6,a7,a8,a9,b1,b2,b3,b4,b5,b6,b7,b8,b9,c1,c2]) (by simp only [aqA,↓seqK,↓blkK,↓loopK,step,stepBin,eqB,Nat.add_assoc nid,simprocAttr,z0,a1,a2,a3,a4,a5,a6,a7,a8,a9,b1,b2,b3,b4,b5,b6,b7,b8,b9,c1,c2])
  ·have h64:(((a.toNat:Nat):Int) != 63)=decide (¬ a=63):=by
    have:(((a.toNat:Nat):Int)==63)=decide (a=63):=hinj a 63
    unfold bne
    rw [this]
    by_cases h:a=63 <;> simp [h]
   rw [h64]
   have hb:mergeB a d=d:=by unfold mergeB; rw [if_neg (by simp [h1,h2])]
   refine S2.dec (fun h3=>?_) (fun h3=>?_) <;> simp -dsimp only [aqA,↓seqK,↓blkK,↓loopK,step,stepBin,eqB,Nat.add_assoc nid,simprocAttr,z0,Int.cast_ofNat_Int,Int.reduceBEq,Int.reduceBNe,Int.reduceLT,Int.reduceLE,Int.reduceAdd,Int.reduceSub,Int.reduceMul,Int.reduceToNat,Int.reduceNeg,Int.reduceTMod,Int.reduceEq,not_false_eq_true,Int.reducePow,Int.reduceFDiv,Nat.reducePow,Nat.reduceSub,Nat.reduceMul,Nat.min_eq_left,Nat.reduceEqDiff,BEq.rfl,Int.tdiv_one,LN_succ,a1,a2,a3,a4,a5,a6,a7,a8,a9,b1,b2,b3,b4,b5,b6,b7,b8,b9,c1,c2]
   ·exact fin d false hb.symm (by unfold mergeO; simp [h1,h2,h3]) _ (by simp only [aqA,↓seqK,↓blkK,↓loopK,step,stepBin,eqB,Nat.add_assoc nid,simprocAttr,z0]) (by simp only [aqA,↓seqK,↓blkK,↓loopK,step,stepBin,eqB,Nat.add_assoc nid,simprocAttr,z0,a1,a2,a3,a4,a5,a6,a7,a8,a9,b1,b2,b3,b4,b5,b6,b7,b8,b9,c1,c2]) (by simp only [aqA,↓seqK,↓blkK,↓loopK,step,stepBin,eqB,Nat.add_assoc nid,simprocAttr,z0,a1,a2,a3,a4,a5,a6,a7,a8,a9,b1,b2,b3,b4,b5,b6,b7,b8,b9,c1,c2])
   ·have h3':a=63:=Classical.not_not.1 h3
    exact fin d o hb.symm (by unfold mergeO; simp [h3']) _ (by simp only [aqA,↓seqK,↓blkK,↓loopK,step,stepBin,eqB,Nat.add_assoc nid,simprocAttr,z0]) (by simp only [aqA,↓seqK,↓blkK,↓loopK,step,stepBin,eqB,Nat.add_assoc nid,simprocAttr,z0,a1,a2,a3,a4,a5,a6,a7,a8,a9,b1,b2,b3,b4,b5,b6,b7,b8,b9,c1,c2]) (by simp only [aqA,↓seqK,↓blkK,↓loopK,step,stepBin,eqB,Nat.add_assoc nid,simprocAttr,z0,a1,a2,a3,a4,a5,a6,a7,a8,a9,b1,b2,b3,b4,b5,b6,b7,b8,b9,c1,c2])
def mergeR (r t:List UInt8):List UInt8:=List.zipWith mergeB r t
def okR (r t:List UInt8):Bool:=(List.zipWith mergeO r t).all id
def mergeRs (R T:List (List UInt8)):List (List UInt8):=List.zipWith mergeR R T
def okRs (R T:List (List UInt8)):Bool:=(List.zipWith okR R T).all id
theorem zip_len {α β γ:Type} (f:α→β→γ) {l:List α} {m:List β} (h:l.length=m.length):(List.zipWith f l m).length=l.length:=by rw [List.length_zipWith]; omega
theorem zip_take {α β γ:Type} (f:α→β→γ) (da:α) (db:β) {l:List α} {m:List β} {k:Nat} (hl:k<l.length) (hm:k<m.length):(List.zipWith f l m).take (k+1)=(List.zipWith f l m).take k++[f (l.getD k da) (m.getD k db)]:=by
 rw [List.take_add_one]
 congr 1
 rw [List.getElem?_zipWith,List.getElem?_eq_getElem hl,List.getElem?_eq_getElem hm,List.getD_eq_getElem?_getD,List.getD_eq_getElem?_getD,List.getElem?_eq_getElem hl,List.getElem?_eq_getElem hm]
 rfl
def rowTo (r t:List UInt8) (k:Nat):List UInt8:=(List.zipWith mergeB r t).take k++r.drop k
theorem rowTo_len {r t:List UInt8} (h:r.length=t.length) (k:Nat):(rowTo r t k).length=r.length:=by
 unfold rowTo; rw [List.length_append,List.length_take,List.length_drop,zip_len _ h]; omega
theorem rowTo_at {r t:List UInt8} (h:r.length=t.length) {k:Nat} (hk:k<r.length):(rowTo r t k).getD k 0=r.getD k 0:=by
 unfold rowTo
 rw [List.getD_eq_getElem?_getD,List.getElem?_append_right (by rw [List.length_take]; omega),List.getElem?_drop,List.length_take,zip_len _ h,List.getD_eq_getElem?_getD]
 congr 2
 omega
theorem rowTo_set {r t:List UInt8} (h:r.length=t.length) {k:Nat} (hk:k<r.length):(rowTo r t k).set k (mergeB (r.getD k 0) (t.getD k 0))=rowTo r t (k+1):=by
 unfold rowTo
 rw [zip_take mergeB 0 0 hk (by omega),List.set_append_right _ _ (by rw [List.length_take]; omega),List.length_take,zip_len _ h,Nat.min_eq_left (by omega),Nat.sub_self,List.append_assoc,List.drop_eq_getElem_cons hk]
 rfl
theorem rowTo_all {r t:List UInt8} (h:r.length=t.length):rowTo r t r.length=mergeR r t:=by
 unfold rowTo mergeR
 rw [List.drop_length,List.append_nil,List.take_of_length_le (by rw [zip_len _ h]; omega)]
open Go.RowKit
theorem ptMem {l:List Pt} {k:Nat} (h:k<l.length):l.getD k p0∈l:=by
 rw [List.getD_eq_getElem?_getD,List.getElem?_eq_getElem h]; exact List.getElem_mem _
def idxP (F:Pt→Bool) (l:List Pt):Int:=match l.findIdx? F with
 | some i=>(i:Int)
 | none => -1
theorem idxP_hit {F:Pt→Bool}:∀ {l:List Pt} {k:Nat},k<l.length→(∀ j,j<k→F (l.getD j p0)=false)→F (l.getD k p0)=true→l.findIdx? F=some k
 | [],k,hk,_,_=>by simp at hk
 | a::l,0,_,_,h=>by
  have h':F a=true:=by simpa using h
  simp [List.findIdx?_cons,h']
 | a::l,k+1,hk,hall,h=>by
  have h0:F a=false:=by simpa using hall 0 (by omega)
  have:=idxP_hit (F:=F) (l:=l) (k:=k) (by simpa using hk) (fun j hj=>by simpa using hall (j+1) (by omega)) (by simpa using h)
  simp [List.findIdx?_cons,h0,this]
theorem idxP_none {F:Pt→Bool}:∀ {l:List Pt},(∀ j,j<l.length→F (l.getD j p0)=false)→l.findIdx? F=none
 | [],_=>rfl
 | a::l,hall=>by
  have h0:F a=false:=by simpa using hall 0 (by simp)
  have:=idxP_none (F:=F) (l:=l) (fun j hj=>by simpa using hall (j+1) (by simpa using hj))
  simp [List.findIdx?_cons,h0,this]
set_option maxHeartbeats 4000000 in
theorem indexP_c (f id ia ib:Nat) (nla nlb:Bool) (A B:Waf) (F:Pt→Bool) (l:List Pt) (nid:Nat) (hid:id<nid) (hia:ia<nid) (hib:ib<nid) (n1:id≠ia) (n2:id≠ib) (n3:ia≠ib) (hl:l.length≤1000000)
  (hf:∀ p∈l,∀ nid',ia<nid'→ib<nid'→ACall Try.prog f [.agg [.int .i64 p.1,.int .i64 p.2],.ptr ia 0,.ptr ib 0] [(ia,boxW nla A),(ib,boxW nlb B)] nid' (.bool (F p)) []) :
  ACall Try.prog 80 [.sl id 0 l.length,.fn f [.ptr ia 0,.ptr ib 0]] [(id,arrPl l),(ia,boxW nla A),(ib,boxW nlb B)] nid (.int .i64 (idxP F l)) []:=by
 obtain ⟨a1,a2,a3,a4,a5,a6,a7,a8,a9⟩:=id_all hid
 obtain ⟨b1,b2,b3,b4,b5,b6,b7,b8,b9⟩:=id_all hia
 obtain ⟨d1,d2,d3,d4,d5,d6,d7,d8,d9⟩:=id_all hib
 have g1:(id==ia)=false:=by simpa using n1
 have g2:(ia==id)=false:=by simpa using fun h=>n1 h.symm
 have g3:(id==ib)=false:=by simpa using n2
 have g4:(ib==id)=false:=by simpa using fun h=>n2 h.symm
 have g5:(ia==ib)=false:=by simpa using n3
 have g6:(ib==ia)=false:=by simpa using fun h=>n3 h.symm
 have m1:¬ ia=id:=fun h=>n1 h.symm
 have m2:¬ ib=id:=fun h=>n2 h.symm
 have m3:¬ ib=ia:=fun h=>n3 h.symm
 refine acall_run c80 (by simp [a80]) ?_
 unfold arrPl boxW
 simp -dsimp only [a80,aqA,↓seqK,↓blkK,↓loopK,step,stepBin,eqB,Nat.add_assoc nid,simprocAttr,z0,Int.cast_ofNat_Int,Int.reduceBEq,Int.reduceBNe,Int.reduceLT,Int.reduceLE,Int.reduceAdd,Int.reduceSub,Int.reduceMul,Int.reduceToNat,Int.reduceNeg,Int.reduceTMod,Int.reduceEq,not_false_eq_true,Int.reducePow,Int.reduceFDiv,Nat.reducePow,Nat.reduceSub,Nat.reduceMul,Nat.min_eq_left,Nat.reduceEqDiff,BEq.rfl,Int.tdiv_one,LN_succ,a1,a2,a3,a4,a5,a6,a7,a8,a9,b1,b2,b3,b4,b5,b6,b7,b8,b9,d1,d2,d3,d4,d5,d6,d7,d8,d9,g1,g2,g3,g4,g5,g6,n1,n2,n3,m1,m2,m3]
 refine LP.mkP (fun k:Nat=>k≤l.length∧∀ j,j<k→F (l.getD j p0)=false) (fun k:Nat=>⟨[(8,.int .i64 k),(7,.int .i64 l.length),(0,.sl id 0 l.length),(1,.fn f [.ptr ia 0,.ptr ib 0])],[(id,arrPl l),(ia,boxW nla A),(ib,boxW nlb B)],nid+100,nid⟩) (fun k=>l.length+1 - k) 0 ⟨by omega,fun j hj=>by omega⟩ (Cov.go [] [] ?_) (fun k hk=>?_)
 ·simp [cvT,step,res,a1,a2,a3,a4,a5,a6,a7,a8,a9,b1,b2,b3,b4,b5,b6,b7,b8,b9,d1,d2,d3,d4,d5,d6,d7,d8,d9,g1,g2,g3,g4,g5,g6,n1,n2,n3,m1,m2,m3,arrPl,boxW]
 obtain ⟨hk,hall⟩:=hk
 unfold arrPl boxW
 simp -dsimp only [aqA,↓seqK,↓blkK,↓loopK,step,stepBin,eqB,Nat.add_assoc nid,simprocAttr,z0,Int.cast_ofNat_Int,Int.reduceBEq,Int.reduceBNe,Int.reduceLT,Int.reduceLE,Int.reduceAdd,Int.reduceSub,Int.reduceMul,Int.reduceToNat,Int.reduceNeg,Int.reduceTMod,Int.reduceEq,not_false_eq_true,Int.reducePow,Int.reduceFDiv,Nat.reducePow,Nat.reduceSub,Nat.reduceMul,Nat.min_eq_left,Nat.reduceEqDiff,BEq.rfl,Int.tdiv_one,LN_succ,a1,a2,a3,a4,a5,a6,a7,a8,a9,b1,b2,b3,b4,b5,b6,b7,b8,b9,d1,d2,d3,d4,d5,d6,d7,d8,d9,g1,g2,g3,g4,g5,g6,n1,n2,n3,m1,m2,m3]
 refine S2.dec (fun h1=>?_) (fun h1=>?_) <;> simp -dsimp only [aqA,↓seqK,↓blkK,↓loopK,step,stepBin,eqB,Nat.add_assoc nid,simprocAttr,z0,Int.cast_ofNat_Int,Int.reduceBEq,Int.reduceBNe,Int.reduceLT,Int.reduceLE,Int.reduceAdd,Int.reduceSub,Int.reduceMul,Int.reduceToNat,Int.reduceNeg,Int.reduceTMod,Int.reduceEq,not_false_eq_true,Int.reducePow,Int.reduceFDiv,Nat.reducePow,Nat.reduceSub,Nat.reduceMul,Nat.min_eq_left,Nat.reduceEqDiff,BEq.rfl,Int.tdiv_one,LN_succ,a1,a2,a3,a4,a5,a6,a7,a8,a9,b1,b2,b3,b4,b5,b6,b7,b8,b9,d1,d2,d3,d4,d5,d6,d7,d8,d9,g1,g2,g3,g4,g5,g6,n1,n2,n3,m1,m2,m3]
 ·have hkl:k<l.length:=by omega
  refine ⟨by omega,CallO.on (hf (l.getD k p0) (ptMem hkl) _ (by omega) (by omega)) (subH_cons (by simp only [aqA,↓seqK,↓blkK,↓loopK,step,stepBin,eqB,Nat.add_assoc nid,simprocAttr,z0,Int.cast_ofNat_Int,Int.reduceBEq,Int.reduceBNe,Int.reduceLT,Int.reduceLE,Int.reduceAdd,Int.reduceSub,Int.reduceMul,Int.reduceToNat,Int.reduceNeg,Int.reduceTMod,Int.reduceEq,not_false_eq_true,Int.reducePow,Int.reduceFDiv,Nat.reducePow,Nat.reduceSub,Nat.reduceMul,Nat.min_eq_left,Nat.reduceEqDiff,BEq.rfl,Int.tdiv_one,LN_succ,a1,a2,a3,a4,a5,a6,a7,a8,a9,b1,b2,b3,b4,b5,b6,b7,b8,b9,d1,d2,d3,d4,d5,d6,d7,d8,d9,g1,g2,g3,g4,g5,g6,n1,n2,n3,m1,m2,m3,boxW]) (subH_get (by simp only [aqA,↓seqK,↓blkK,↓loopK,step,stepBin,eqB,Nat.add_assoc nid,simprocAttr,z0,Int.cast_ofNat_Int,Int.reduceBEq,Int.reduceBNe,Int.reduceLT,Int.reduceLE,Int.reduceAdd,Int.reduceSub,Int.reduceMul,Int.reduceToNat,Int.reduceNeg,Int.reduceTMod,Int.reduceEq,not_false_eq_true,Int.reducePow,Int.reduceFDiv,Nat.reducePow,Nat.reduceSub,Nat.reduceMul,Nat.min_eq_left,Nat.reduceEqDiff,BEq.rfl,Int.tdiv_one,LN_succ,a1,a2,a3,a4,a5,a6,a7,a8,a9,b1,b2,b3,b4,b5,b6,b7,b8,b9,d1,d2,d3,d4,d5,d6,d7,d8,d9,g1,g2,g3,g4,g5,g6,n1,n2,n3,m1,m2,m3,boxW]))) ?_⟩
  simp -dsimp only [aqA,↓seqK,↓blkK,↓loopK,step,stepBin,eqB,Nat.add_assoc nid,simprocAttr,z0,Int.cast_ofNat_Int,Int.reduceBEq,Int.reduceBNe,Int.reduceLT,Int.reduceLE,Int.reduceAdd,Int.reduceSub,Int.reduceMul,Int.reduceToNat,Int.reduceNeg,Int.reduceTMod,Int.reduceEq,not_false_eq_true,Int.reducePow,Int.reduceFDiv,Nat.reducePow,Nat.reduceSub,Nat.reduceMul,Nat.min_eq_left,Nat.reduceEqDiff,BEq.rfl,Int.tdiv_one,LN_succ,a1,a2,a3,a4,a5,a6,a7,a8,a9,b1,b2,b3,b4,b5,b6,b7,b8,b9,d1,d2,d3,d4,d5,d6,d7,d8,d9,g1,g2,g3,g4,g5,g6,n1,n2,n3,m1,m2,m3]
  refine S2.intro (fun h2=>?_) (fun h2=>?_) <;> simp -dsimp only [aqA,↓seqK,↓blkK,↓loopK,step,stepBin,eqB,Nat.add_assoc nid,simprocAttr,z0,Int.cast_ofNat_Int,Int.reduceBEq,Int.reduceBNe,Int.reduceLT,Int.reduceLE,Int.reduceAdd,Int.reduceSub,Int.reduceMul,Int.reduceToNat,Int.reduceNeg,Int.reduceTMod,Int.reduceEq,not_false_eq_true,Int.reducePow,Int.reduceFDiv,Nat.reducePow,Nat.reduceSub,Nat.reduceMul,Nat.min_eq_left,Nat.reduceEqDiff,BEq.rfl,Int.tdiv_one,LN_succ,a1,a2,a3,a4,a5,a6,a7,a8,a9,b1,b2,b3,b4,b5,b6,b7,b8,b9,d1,d2,d3,d4,d5,d6,d7,d8,d9,g1,g2,g3,g4,g5,g6,n1,n2,n3,m1,m2,m3]
  ·have e:idxP F l=(k:Int):=by unfold idxP; rw [idxP_hit hkl hall h2]
   rw [e]
   refine RetOK.go [] [] (.inl rfl) ?_
   simp [a80,cvT,step,res,a1,a2,a3,a4,a5,a6,a7,a8,a9,b1,b2,b3,b4,b5,b6,b7,b8,b9,d1,d2,d3,d4,d5,d6,d7,d8,d9,g1,g2,g3,g4,g5,g6,n1,n2,n3,m1,m2,m3,arrPl,boxW]
  ·refine ⟨by unfold inI64; omega,k+1,⟨⟨by omega,fun j hj=>?_⟩,by omega⟩,Cov.go [] [] ?_⟩
   ·rcases (by omega:j<k∨j=k) with hj | hj
    ·exact hall j hj
    ·rw [hj]; exact h2
   ·simp [cvT,step,res,a1,a2,a3,a4,a5,a6,a7,a8,a9,b1,b2,b3,b4,b5,b6,b7,b8,b9,d1,d2,d3,d4,d5,d6,d7,d8,d9,g1,g2,g3,g4,g5,g6,n1,n2,n3,m1,m2,m3,arrPl,boxW]
 ·have hkn:k=l.length:=by omega
  subst hkn
  have e:idxP F l = -1:=by unfold idxP; rw [idxP_none hall]
  rw [e]
  refine RetOK.go [] [] (.inl rfl) ?_
  simp [a80,cvT,step,res,a1,a2,a3,a4,a5,a6,a7,a8,a9,b1,b2,b3,b4,b5,b6,b7,b8,b9,d1,d2,d3,d4,d5,d6,d7,d8,d9,g1,g2,g3,g4,g5,g6,n1,n2,n3,m1,m2,m3,arrPl,boxW]
def keepP (F:Pt→Bool) (l:List Pt):List Pt:=l.filter fun p=>!F p
theorem keepP_len (F:Pt→Bool) (l:List Pt):(keepP F l).length≤l.length:=List.length_filter_le _ _
theorem keepP_succ {F:Pt→Bool} {l:List Pt} {k:Nat} (h:k<l.length):keepP F (l.take (k+1))=keepP F (l.take k)++(if F (l.getD k p0)=true then [] else [l.getD k p0]):=by
 unfold keepP
 rw [List.take_add_one,List.getElem?_eq_getElem h,List.filter_append]
 congr 1
 have e:l.getD k p0=l[k]:=by rw [List.getD_eq_getElem?_getD,List.getElem?_eq_getElem h]; rfl
 rw [e]
 cases hf:F l[k] <;> simp [hf]
theorem keepP_all {F:Pt→Bool} {l:List Pt} {k:Nat} (hk:k≤l.length) (h:∀ j,j<k→F (l.getD j p0)=false):keepP F (l.take k)=l.take k:=by
 unfold keepP
 rw [List.filter_eq_self]
 intro a ha
 obtain ⟨j,hj,rfl⟩:=List.getElem_of_mem ha
 have hj':j<k:=by rw [List.length_take] at hj; omega
 have:=h j hj'
 rw [List.getD_eq_getElem?_getD,List.getElem?_eq_getElem (by omega)] at this
 simp only [List.getElem_take]
 simpa using this
def partP (F:Pt→Bool) (l:List Pt) (k:Nat):List Pt:=keepP F (l.take k)++l.drop (keepP F (l.take k)).length
theorem partP_len {F:Pt→Bool} {l:List Pt} {k:Nat} (hk:k≤l.length):(partP F l k).length=l.length:=by
 have:=keepP_len F (l.take k)
 rw [List.length_take] at this
 unfold partP; rw [List.length_append,List.length_drop]; omega
theorem partP_at {F:Pt→Bool} {l:List Pt} {k:Nat} (hk:k<l.length):(partP F l k).getD k p0=l.getD k p0:=by
 have:=keepP_len F (l.take k)
 rw [List.length_take] at this
 unfold partP
 rw [List.getD_eq_getElem?_getD,List.getElem?_append_right (by omega),List.getElem?_drop,List.getD_eq_getElem?_getD]
 congr 2
 omega
theorem partP_set {F:Pt→Bool} {l:List Pt} {k:Nat} (hk:k<l.length) (h:F (l.getD k p0)=false):(partP F l k).set (keepP F (l.take k)).length (l.getD k p0)=partP F l (k+1)∧(keepP F (l.take (k+1))).length=(keepP F (l.take k)).length+1:=by
 have:=keepP_len F (l.take k)
 rw [List.length_take] at this
 have e:=keepP_succ (F:=F) hk
 rw [if_neg (by rw [h]; simp)] at e
 refine ⟨?_,by rw [e]; simp⟩
 unfold partP
 rw [e,List.set_append_right _ _ (Nat.le_refl _),Nat.sub_self,List.length_append,List.append_assoc]
 congr 1
 rw [List.drop_eq_getElem_cons (by omega:(keepP F (l.take k)).length<l.length)]
 rfl
theorem partP_skip {F:Pt→Bool} {l:List Pt} {k:Nat} (hk:k<l.length) (h:F (l.getD k p0)=true):partP F l (k+1)=partP F l k∧keepP F (l.take (k+1))=keepP F (l.take k):=by
 have e:=keepP_succ (F:=F) hk
 rw [if_pos h,List.append_nil] at e
 exact ⟨by unfold partP; rw [e],e⟩
def doneP (F:Pt→Bool) (l:List Pt):List Pt:=keepP F l++List.replicate (l.length - (keepP F l).length) p0
theorem doneP_len (F:Pt→Bool) (l:List Pt):(doneP F l).length=l.length:=by
 have:=keepP_len F l
 unfold doneP; rw [List.length_append,List.length_replicate]; omega
theorem getD_setP (q:List Pt) (x:Pt) {i:Nat} (hi:i<q.length) (f:Pt→Int) {v:Int} (hv:v=f x):(fun j=>if j=i then v else f (q.getD j p0))=fun j=>f ((q.set i x).getD j p0):=by
 subst hv
 funext j
 simp only [List.getD_eq_getElem?_getD,List.getElem?_set]
 by_cases h:j=i
 ·subst h; simp [hi]
 ·rw [if_neg h,if_neg (fun e=>h e.symm)]
theorem doneP_at {F:Pt→Bool} {l:List Pt} (g:Pt→Int) (h0:g p0=0):∀ j,j<l.length→(if (keepP F l).length≤j∧j<(keepP F l).length+(l.length - (keepP F l).length) then (0:Int) else g ((partP F l l.length).getD j p0))=g ((doneP F l).getD j p0):=fun j hj=>by
 have hk:=keepP_len F l
 unfold partP doneP
 rw [List.take_length]
 simp only [List.getD_eq_getElem?_getD,List.getElem?_append]
 by_cases h:j<(keepP F l).length
 ·rw [if_neg (by omega),if_pos h,if_pos h]
 ·rw [if_pos ⟨by omega,by omega⟩,if_neg h,List.getElem?_replicate,if_pos (by omega)]
  simp [h0]
set_option maxHeartbeats 8000000 in
theorem deleteP_c (f id ia ib:Nat) (nla nlb:Bool) (A B:Waf) (F:Pt→Bool) (l:List Pt) (nid:Nat) (hid:id<nid) (hia:ia<nid) (hib:ib<nid) (n1:id≠ia) (n2:id≠ib) (n3:ia≠ib) (hl:l.length≤1000000)
  (hf:∀ p∈l,∀ nid',ia<nid'→ib<nid'→ACall Try.prog f [.agg [.int .i64 p.1,.int .i64 p.2],.ptr ia 0,.ptr ib 0] [(ia,boxW nla A),(ib,boxW nlb B)] nid' (.bool (F p)) []) :
  ACall Try.prog 57 [.sl id 0 l.length,.fn f [.ptr ia 0,.ptr ib 0]] [(id,arrPl l),(ia,boxW nla A),(ib,boxW nlb B)] nid (.sl id 0 (keepP F l).length) [(id,arrPl (doneP F l))]:=by
 obtain ⟨a1,a2,a3,a4,a5,a6,a7,a8,a9⟩:=id_all hid
 obtain ⟨b1,b2,b3,b4,b5,b6,b7,b8,b9⟩:=id_all hia
 obtain ⟨d1,d2,d3,d4,d5,d6,d7,d8,d9⟩:=id_all hib
 have g1:(id==ia)=false:=by simpa using n1
 have g2:(ia==id)=false:=by simpa using fun h=>n1 h.symm
 have g3:(id==ib)=false:=by simpa using n2
 have g4:(ib==id)=false:=by simpa using fun h=>n2 h.symm
 have g5:(ia==ib)=false:=by simpa using n3
 have g6:(ib==ia)=false:=by simpa using fun h=>n3 h.symm
 have m1:¬ ia=id:=fun h=>n1 h.symm
 have m2:¬ ib=id:=fun h=>n2 h.symm
 have m3:¬ ib=ia:=fun h=>n3 h.symm
 refine acall_sr c57 (by simp [a57]) ?_
 unfold a57
 refine SR.seq ?_
 simp -dsimp only [aqA,↓seqK,↓blkK,↓loopK,step,stepBin,eqB,Nat.add_assoc nid,simprocAttr,z0,Int.cast_ofNat_Int,Int.reduceBEq,Int.reduceBNe,Int.reduceLT,Int.reduceLE,Int.reduceAdd,Int.reduceSub,Int.reduceMul,Int.reduceToNat,Int.reduceNeg,Int.reduceTMod,Int.reduceEq,not_false_eq_true,Int.reducePow,Int.reduceFDiv,Nat.reducePow,Nat.reduceSub,Nat.reduceMul,Nat.min_eq_left,Nat.reduceEqDiff,BEq.rfl,Int.tdiv_one,LN_succ,a1,a2,a3,a4,a5,a6,a7,a8,a9,b1,b2,b3,b4,b5,b6,b7,b8,b9,d1,d2,d3,d4,d5,d6,d7,d8,d9,g1,g2,g3,g4,g5,g6,n1,n2,n3,m1,m2,m3]
 refine SR.seqTo ⟨[(5,.int .i64 (idxP F l)),(0,.sl id 0 l.length),(1,.fn f [.ptr ia 0,.ptr ib 0])],[(id,arrPl l),(ia,boxW nla A),(ib,boxW nlb B)],nid+100,nid⟩ ?_ ?_
 ·simp -dsimp only [aqA,↓seqK,↓blkK,↓loopK,step,stepBin,eqB,Nat.add_assoc nid,simprocAttr,z0,Int.cast_ofNat_Int,Int.reduceBEq,Int.reduceBNe,Int.reduceLT,Int.reduceLE,Int.reduceAdd,Int.reduceSub,Int.reduceMul,Int.reduceToNat,Int.reduceNeg,Int.reduceTMod,Int.reduceEq,not_false_eq_true,Int.reducePow,Int.reduceFDiv,Nat.reducePow,Nat.reduceSub,Nat.reduceMul,Nat.min_eq_left,Nat.reduceEqDiff,BEq.rfl,Int.tdiv_one,LN_succ,a1,a2,a3,a4,a5,a6,a7,a8,a9,b1,b2,b3,b4,b5,b6,b7,b8,b9,d1,d2,d3,d4,d5,d6,d7,d8,d9,g1,g2,g3,g4,g5,g6,n1,n2,n3,m1,m2,m3]
  refine CallO.on (indexP_c f id ia ib nla nlb A B F l _ (by omega) (by omega) (by omega) n1 n2 n3 hl hf) (fun _ _ h=>h) ?_
  simp -dsimp only [aqA,↓seqK,↓blkK,↓loopK,step,stepBin,eqB,Nat.add_assoc nid,simprocAttr,z0,Int.cast_ofNat_Int,Int.reduceBEq,Int.reduceBNe,Int.reduceLT,Int.reduceLE,Int.reduceAdd,Int.reduceSub,Int.reduceMul,Int.reduceToNat,Int.reduceNeg,Int.reduceTMod,Int.reduceEq,not_false_eq_true,Int.reducePow,Int.reduceFDiv,Nat.reducePow,Nat.reduceSub,Nat.reduceMul,Nat.min_eq_left,Nat.reduceEqDiff,BEq.rfl,Int.tdiv_one,LN_succ,a1,a2,a3,a4,a5,a6,a7,a8,a9,b1,b2,b3,b4,b5,b6,b7,b8,b9,d1,d2,d3,d4,d5,d6,d7,d8,d9,g1,g2,g3,g4,g5,g6,n1,n2,n3,m1,m2,m3]
  refine Cov.go [] [] ?_
  simp [cvT,step,res,a1,a2,a3,a4,a5,a6,a7,a8,a9,b1,b2,b3,b4,b5,b6,b7,b8,b9,d1,d2,d3,d4,d5,d6,d7,d8,d9,g1,g2,g3,g4,g5,g6,n1,n2,n3,m1,m2,m3,arrPl,boxW]
 by_cases hnone:∀ j,j<l.length→F (l.getD j p0)=false
 ·have e:idxP F l = -1:=by unfold idxP; rw [idxP_none hnone]
  have hk:keepP F l=l:=by
   have:=keepP_all (F:=F) (l:=l) (Nat.le_refl _) hnone
   rwa [List.take_length] at this
  have hd:doneP F l=l:=by unfold doneP; rw [hk]; simp
  rw [e,hk,hd]
  refine SR.run (t:=.mk) ?_
  unfold arrPl boxW
  simp -dsimp only [aqA,↓seqK,↓blkK,↓loopK,step,stepBin,eqB,Nat.add_assoc nid,simprocAttr,z0,Int.cast_ofNat_Int,Int.reduceBEq,Int.reduceBNe,Int.reduceLT,Int.reduceLE,Int.reduceAdd,Int.reduceSub,Int.reduceMul,Int.reduceToNat,Int.reduceNeg,Int.reduceTMod,Int.reduceEq,not_false_eq_true,Int.reducePow,Int.reduceFDiv,Nat.reducePow,Nat.reduceSub,Nat.reduceMul,Nat.min_eq_left,Nat.reduceEqDiff,BEq.rfl,Int.tdiv_one,LN_succ,a1,a2,a3,a4,a5,a6,a7,a8,a9,b1,b2,b3,b4,b5,b6,b7,b8,b9,d1,d2,d3,d4,d5,d6,d7,d8,d9,g1,g2,g3,g4,g5,g6,n1,n2,n3,m1,m2,m3]
  refine RetOK.go [] [] (.inl rfl) ?_
  simp [a57,cvT,step,res,a1,a2,a3,a4,a5,a6,a7,a8,a9,b1,b2,b3,b4,b5,b6,b7,b8,b9,d1,d2,d3,d4,d5,d6,d7,d8,d9,g1,g2,g3,g4,g5,g6,n1,n2,n3,m1,m2,m3,arrPl,boxW]
 obtain ⟨i0,hi0,hi1,hi2⟩:∃ i,i<l.length∧F (l.getD i p0)=true∧∀ j,j<i→F (l.getD j p0)=false:=by
  cases hfi:l.findIdx? F with
  | none =>
   exfalso
   refine hnone fun j hj=>?_
   have:=List.findIdx?_eq_none_iff.1 hfi (l.getD j p0) (ptMem hj)
   simpa using this
  | some i =>
   obtain ⟨h1,h2,h3⟩:=List.findIdx?_eq_some_iff_getElem.1 hfi
   refine ⟨i,h1,?_,fun j hj=>?_⟩
   ·rw [List.getD_eq_getElem?_getD,List.getElem?_eq_getElem h1]; exact h2
   ·rw [List.getD_eq_getElem?_getD,List.getElem?_eq_getElem (by omega)]; simpa using h3 j hj
 have e:idxP F l=(i0:Int):=by unfold idxP; rw [idxP_hit hi0 hi2 hi1]
 rw [e]
 have hne1:((i0:Int) == -1)=false:=by rw [beq_eq_false_iff_ne]; omega
 have hk0:keepP F (l.take (i0+1))=l.take i0:=by rw [(partP_skip hi0 hi1).2,keepP_all (by omega) hi2]
 have hkl0:(keepP F (l.take (i0+1))).length=i0:=by rw [hk0,List.length_take]; omega
 have hp0:partP F l (i0+1)=l:=by unfold partP; rw [hkl0,hk0,List.take_append_drop]
 refine SR.seq ?_
 unfold arrPl boxW
 simp -dsimp only [aqA,↓seqK,↓blkK,↓loopK,step,stepBin,eqB,Nat.add_assoc nid,simprocAttr,z0,Int.cast_ofNat_Int,Int.reduceBEq,Int.reduceBNe,Int.reduceLT,Int.reduceLE,Int.reduceAdd,Int.reduceSub,Int.reduceMul,Int.reduceToNat,Int.reduceNeg,Int.reduceTMod,Int.reduceEq,not_false_eq_true,Int.reducePow,Int.reduceFDiv,Nat.reducePow,Nat.reduceSub,Nat.reduceMul,Nat.min_eq_left,Nat.reduceEqDiff,BEq.rfl,Int.tdiv_one,LN_succ,a1,a2,a3,a4,a5,a6,a7,a8,a9,b1,b2,b3,b4,b5,b6,b7,b8,b9,d1,d2,d3,d4,d5,d6,d7,d8,d9,g1,g2,g3,g4,g5,g6,n1,n2,n3,m1,m2,m3,hne1]
 refine SR.seqTo ⟨[(5,.int .i64 ((keepP F l).length:Nat)),(0,.sl id 0 l.length)],[(id,arrPl (partP F l l.length)),(ia,boxW nla A),(ib,boxW nlb B)],nid+1000,nid⟩ ?_ ?_
 ·simp -dsimp only [aqA,↓seqK,↓blkK,↓loopK,step,stepBin,eqB,Nat.add_assoc nid,simprocAttr,z0,Int.cast_ofNat_Int,Int.reduceBEq,Int.reduceBNe,Int.reduceLT,Int.reduceLE,Int.reduceAdd,Int.reduceSub,Int.reduceMul,Int.reduceToNat,Int.reduceNeg,Int.reduceTMod,Int.reduceEq,not_false_eq_true,Int.reducePow,Int.reduceFDiv,Nat.reducePow,Nat.reduceSub,Nat.reduceMul,Nat.min_eq_left,Nat.reduceEqDiff,BEq.rfl,Int.tdiv_one,LN_succ,a1,a2,a3,a4,a5,a6,a7,a8,a9,b1,b2,b3,b4,b5,b6,b7,b8,b9,d1,d2,d3,d4,d5,d6,d7,d8,d9,g1,g2,g3,g4,g5,g6,n1,n2,n3,m1,m2,m3]
  refine ⟨by unfold inI64; omega,?_⟩
  refine LP.mkP (fun k:Nat=>i0+1≤k∧k≤l.length) (fun k:Nat=>⟨[(6,.int .i64 k),(5,.int .i64 ((keepP F (l.take k)).length:Nat)),(0,.sl id 0 l.length),(1,.fn f [.ptr ia 0,.ptr ib 0])],[(id,arrPl (partP F l k)),(ia,boxW nla A),(ib,boxW nlb B)],nid+300,nid⟩) (fun k=>l.length+1 - k) (i0+1) ⟨Nat.le_refl _,by omega⟩ (Cov.go [] [] ?_) (fun k hk=>?_)
  ·rw [hkl0,hp0]
   simp [cvT,step,res,a1,a2,a3,a4,a5,a6,a7,a8,a9,b1,b2,b3,b4,b5,b6,b7,b8,b9,d1,d2,d3,d4,d5,d6,d7,d8,d9,g1,g2,g3,g4,g5,g6,n1,n2,n3,m1,m2,m3,arrPl,boxW]
  obtain ⟨hk1,hk2⟩:=hk
  have hpl:=partP_len (F:=F) hk2
  have hkl:=keepP_len F (l.take k)
  rw [List.length_take] at hkl
  unfold arrPl boxW
  rw [hpl]
  simp -dsimp only [aqA,↓seqK,↓blkK,↓loopK,step,stepBin,eqB,Nat.add_assoc nid,simprocAttr,z0,Int.cast_ofNat_Int,Int.reduceBEq,Int.reduceBNe,Int.reduceLT,Int.reduceLE,Int.reduceAdd,Int.reduceSub,Int.reduceMul,Int.reduceToNat,Int.reduceNeg,Int.reduceTMod,Int.reduceEq,not_false_eq_true,Int.reducePow,Int.reduceFDiv,Nat.reducePow,Nat.reduceSub,Nat.reduceMul,Nat.min_eq_left,Nat.reduceEqDiff,BEq.rfl,Int.tdiv_one,LN_succ,a1,a2,a3,a4,a5,a6,a7,a8,a9,b1,b2,b3,b4,b5,b6,b7,b8,b9,d1,d2,d3,d4,d5,d6,d7,d8,d9,g1,g2,g3,g4,g5,g6,n1,n2,n3,m1,m2,m3]
  refine S2.dec (fun h1=>?_) (fun h1=>?_) <;> simp -dsimp only [aqA,↓seqK,↓blkK,↓loopK,step,stepBin,eqB,Nat.add_assoc nid,simprocAttr,z0,Int.cast_ofNat_Int,Int.reduceBEq,Int.reduceBNe,Int.reduceLT,Int.reduceLE,Int.reduceAdd,Int.reduceSub,Int.reduceMul,Int.reduceToNat,Int.reduceNeg,Int.reduceTMod,Int.reduceEq,not_false_eq_true,Int.reducePow,Int.reduceFDiv,Nat.reducePow,Nat.reduceSub,Nat.reduceMul,Nat.min_eq_left,Nat.reduceEqDiff,BEq.rfl,Int.tdiv_one,LN_succ,a1,a2,a3,a4,a5,a6,a7,a8,a9,b1,b2,b3,b4,b5,b6,b7,b8,b9,d1,d2,d3,d4,d5,d6,d7,d8,d9,g1,g2,g3,g4,g5,g6,n1,n2,n3,m1,m2,m3]
  ·have hkn:k<l.length:=by omega
   rw [partP_at hkn]
   refine ⟨by omega,CallO.on (hf (l.getD k p0) (ptMem hkn) _ (by omega) (by omega)) (subH_cons (by simp only [aqA,↓seqK,↓blkK,↓loopK,step,stepBin,eqB,Nat.add_assoc nid,simprocAttr,z0,Int.cast_ofNat_Int,Int.reduceBEq,Int.reduceBNe,Int.reduceLT,Int.reduceLE,Int.reduceAdd,Int.reduceSub,Int.reduceMul,Int.reduceToNat,Int.reduceNeg,Int.reduceTMod,Int.reduceEq,not_false_eq_true,Int.reducePow,Int.reduceFDiv,Nat.reducePow,Nat.reduceSub,Nat.reduceMul,Nat.min_eq_left,Nat.reduceEqDiff,BEq.rfl,Int.tdiv_one,LN_succ,a1,a2,a3,a4,a5,a6,a7,a8,a9,b1,b2,b3,b4,b5,b6,b7,b8,b9,d1,d2,d3,d4,d5,d6,d7,d8,d9,g1,g2,g3,g4,g5,g6,n1,n2,n3,m1,m2,m3,boxW]) (subH_get (by simp only [aqA,↓seqK,↓blkK,↓loopK,step,stepBin,eqB,Nat.add_assoc nid,simprocAttr,z0,Int.cast_ofNat_Int,Int.reduceBEq,Int.reduceBNe,Int.reduceLT,Int.reduceLE,Int.reduceAdd,Int.reduceSub,Int.reduceMul,Int.reduceToNat,Int.reduceNeg,Int.reduceTMod,Int.reduceEq,not_false_eq_true,Int.reducePow,Int.reduceFDiv,Nat.reducePow,Nat.reduceSub,Nat.reduceMul,Nat.min_eq_left,Nat.reduceEqDiff,BEq.rfl,Int.tdiv_one,LN_succ,a1,a2,a3,a4,a5,a6,a7,a8,a9,b1,b2,b3,b4,b5,b6,b7,b8,b9,d1,d2,d3,d4,d5,d6,d7,d8,d9,g1,g2,g3,g4,g5,g6,n1,n2,n3,m1,m2,m3,boxW]))) ?_⟩
   simp -dsimp only [aqA,↓seqK,↓blkK,↓loopK,step,stepBin,eqB,Nat.add_assoc nid,simprocAttr,z0,Int.cast_ofNat_Int,Int.reduceBEq,Int.reduceBNe,Int.reduceLT,Int.reduceLE,Int.reduceAdd,Int.reduceSub,Int.reduceMul,Int.reduceToNat,Int.reduceNeg,Int.reduceTMod,Int.reduceEq,not_false_eq_true,Int.reducePow,Int.reduceFDiv,Nat.reducePow,Nat.reduceSub,Nat.reduceMul,Nat.min_eq_left,Nat.reduceEqDiff,BEq.rfl,Int.tdiv_one,LN_succ,a1,a2,a3,a4,a5,a6,a7,a8,a9,b1,b2,b3,b4,b5,b6,b7,b8,b9,d1,d2,d3,d4,d5,d6,d7,d8,d9,g1,g2,g3,g4,g5,g6,n1,n2,n3,m1,m2,m3]
   cases hF:F (l.getD k p0) <;> simp -dsimp only [aqA,↓seqK,↓blkK,↓loopK,step,stepBin,eqB,Nat.add_assoc nid,simprocAttr,z0,Int.cast_ofNat_Int,Int.reduceBEq,Int.reduceBNe,Int.reduceLT,Int.reduceLE,Int.reduceAdd,Int.reduceSub,Int.reduceMul,Int.reduceToNat,Int.reduceNeg,Int.reduceTMod,Int.reduceEq,not_false_eq_true,Int.reducePow,Int.reduceFDiv,Nat.reducePow,Nat.reduceSub,Nat.reduceMul,Nat.min_eq_left,Nat.reduceEqDiff,BEq.rfl,Int.tdiv_one,LN_succ,a1,a2,a3,a4,a5,a6,a7,a8,a9,b1,b2,b3,b4,b5,b6,b7,b8,b9,d1,d2,d3,d4,d5,d6,d7,d8,d9,g1,g2,g3,g4,g5,g6,n1,n2,n3,m1,m2,m3]
   ·obtain ⟨q1,q2⟩:=partP_set hkn hF
    rw [getD_setP (partP F l k) (l.getD k p0) (by omega) (fun p=>p.1) rfl,getD_setP (partP F l k) (l.getD k p0) (by omega) (fun p=>p.2) rfl,q1]
    refine ⟨by omega,by unfold inI64; omega,by unfold inI64; omega,k+1,⟨⟨by omega,by omega⟩,by omega⟩,Cov.go [] [] ?_⟩
    rw [q2]
    simp [cvT,step,res,a1,a2,a3,a4,a5,a6,a7,a8,a9,b1,b2,b3,b4,b5,b6,b7,b8,b9,d1,d2,d3,d4,d5,d6,d7,d8,d9,g1,g2,g3,g4,g5,g6,n1,n2,n3,m1,m2,m3,arrPl,boxW,partP_len (F:=F) (l:=l) (k:=k+1) (by omega),-List.getD_eq_getElem?_getD]
   ·obtain ⟨q1,q2⟩:=partP_skip hkn hF
    refine ⟨by unfold inI64; omega,k+1,⟨⟨by omega,by omega⟩,by omega⟩,Cov.go [] [] ?_⟩
    rw [q1,q2]
    simp [cvT,step,res,a1,a2,a3,a4,a5,a6,a7,a8,a9,b1,b2,b3,b4,b5,b6,b7,b8,b9,d1,d2,d3,d4,d5,d6,d7,d8,d9,g1,g2,g3,g4,g5,g6,n1,n2,n3,m1,m2,m3,arrPl,boxW,hpl,-List.getD_eq_getElem?_getD]
  ·have hkn:k=l.length:=by omega
   subst hkn
   rw [List.take_length]
   refine Cov.go [] [] ?_
   simp [cvT,step,res,a1,a2,a3,a4,a5,a6,a7,a8,a9,b1,b2,b3,b4,b5,b6,b7,b8,b9,d1,d2,d3,d4,d5,d6,d7,d8,d9,g1,g2,g3,g4,g5,g6,n1,n2,n3,m1,m2,m3,arrPl,boxW,hpl,-List.getD_eq_getElem?_getD]
 have hpl:=partP_len (F:=F) (l:=l) (Nat.le_refl _)
 have hkl:=keepP_len F l
 unfold arrPl boxW
 rw [hpl]
 refine SR.run (t:=.mk) ?_
 simp -dsimp only [aqA,↓seqK,↓blkK,↓loopK,step,stepBin,eqB,Nat.add_assoc nid,simprocAttr,z0,Int.cast_ofNat_Int,Int.reduceBEq,Int.reduceBNe,Int.reduceLT,Int.reduceLE,Int.reduceAdd,Int.reduceSub,Int.reduceMul,Int.reduceToNat,Int.reduceNeg,Int.reduceTMod,Int.reduceEq,not_false_eq_true,Int.reducePow,Int.reduceFDiv,Nat.reducePow,Nat.reduceSub,Nat.reduceMul,Nat.min_eq_left,Nat.reduceEqDiff,BEq.rfl,Int.tdiv_one,LN_succ,a1,a2,a3,a4,a5,a6,a7,a8,a9,b1,b2,b3,b4,b5,b6,b7,b8,b9,d1,d2,d3,d4,d5,d6,d7,d8,d9,g1,g2,g3,g4,g5,g6,n1,n2,n3,m1,m2,m3,Col.const]
 have hlt:(keepP F l).length<l.length:=by
  have e1:keepP F l=keepP F (l.take (i0+1))++keepP F (l.drop (i0+1)):=by
   unfold keepP
   rw [← List.filter_append,List.take_append_drop]
  have e2:=keepP_len F (l.drop (i0+1))
  rw [List.length_drop] at e2
  rw [e1,List.length_append,hkl0]
  omega
 refine ⟨⟨by omega,by omega⟩,by omega,⟨by omega,by omega⟩,?_⟩
 refine RetOK.go [] [] (.inl rfl) ?_
 simp [a57,cvT,step,res,a1,a2,a3,a4,a5,a6,a7,a8,a9,b1,b2,b3,b4,b5,b6,b7,b8,b9,d1,d2,d3,d4,d5,d6,d7,d8,d9,g1,g2,g3,g4,g5,g6,n1,n2,n3,m1,m2,m3,arrPl,boxW,doneP_len,-List.getD_eq_getElem?_getD]
 exact ⟨ColEq.i (doneP_at (fun p=>p.1) rfl),ColEq.i (doneP_at (fun p=>p.2) rfl)⟩
end Go.Proofs.Yteepabfepfehgaa
